/- Plain numbers: products of 128 bits, how many bits a number has, and the long division by two digits of 32 bits. No program is named here. -/
import Derived.Lib.Mul64
import Derived.Test.YtfekoippjmojgaaKxB
namespace Go.Kx
set_option linter.unusedVariables false
set_option linter.unusedSimpArgs false
set_option linter.constructorNameAsVariable false

theorem wu64_bd (x : Int) : 0 ≤ wu64 x ∧ wu64 x < 18446744073709551616 := by unfold wu64; omega
theorem wu64_id {x : Int} (h : 0 ≤ x ∧ x < 18446744073709551616) : wu64 x = x := by unfold wu64; omega
theorem u64_wrap {x : Int} : IntKind.u64.wrap x = wu64 x := by rw [IntKind.wrap_u64]; rfl
theorem u64_in {x : Int} (h : 0 ≤ x ∧ x < 18446744073709551616) : IntKind.u64.wrap x = x := by rw [u64_wrap, wu64_id h]
theorem i64_in' {x : Int} (h : in64 x) : IntKind.i64.wrap x = x := by rw [IntKind.wrap_i64]; unfold in64 at h; omega

/-! ### the upper half of a product, as it is reckoned -/
def mulHi (x y : Int) : Int :=
  let w0 := wu64 (x % 4294967296 * (y % 4294967296))
  let t := wu64 (wu64 (x / 4294967296 * (y % 4294967296)) + w0 / 4294967296)
  let w1 := wu64 (t % 4294967296 + wu64 (x % 4294967296 * (y / 4294967296)))
  wu64 (wu64 (wu64 (x / 4294967296 * (y / 4294967296)) + t / 4294967296) + w1 / 4294967296)
theorem mulHi_eq (x y : Int) (hx : 0 ≤ x ∧ x < 18446744073709551616) (hy : 0 ≤ y ∧ y < 18446744073709551616) : mulHi x y = x * y / 18446744073709551616 := by
  obtain ⟨a, rfl⟩ := Int.eq_ofNat_of_zero_le hx.1
  obtain ⟨b, rfl⟩ := Int.eq_ofNat_of_zero_le hy.1
  have ha : a < 18446744073709551616 := by omega
  have hb : b < 18446744073709551616 := by omega
  obtain ⟨h1, h2, h3, h4⟩ := Lib.mul64_hi a b ha hb
  have e1 : ((a : Int) % 4294967296 * ((b : Int) % 4294967296)) = ((a % 4294967296 * (b % 4294967296) : Nat) : Int) := by simp
  have e2 : ((a : Int) / 4294967296 * ((b : Int) % 4294967296)) = ((a / 4294967296 * (b % 4294967296) : Nat) : Int) := by simp
  have e3 : ((a : Int) % 4294967296 * ((b : Int) / 4294967296)) = ((a % 4294967296 * (b / 4294967296) : Nat) : Int) := by simp
  have e4 : ((a : Int) / 4294967296 * ((b : Int) / 4294967296)) = ((a / 4294967296 * (b / 4294967296) : Nat) : Int) := by simp
  have e5 : ((a : Int) * (b : Int)) / 18446744073709551616 = ((a * b / 18446744073709551616 : Nat) : Int) := by simp
  have k1 := Nat.mul_le_mul (show a / 4294967296 ≤ 4294967295 by omega) (show b / 4294967296 ≤ 4294967295 by omega)
  have k2 := Nat.mul_le_mul (show a / 4294967296 ≤ 4294967295 by omega) (show b % 4294967296 ≤ 4294967295 by omega)
  have k3 := Nat.mul_le_mul (show a % 4294967296 ≤ 4294967295 by omega) (show b / 4294967296 ≤ 4294967295 by omega)
  unfold mulHi
  rw [e1, e2, e3, e4, e5]
  simp only
  generalize a % 4294967296 * (b % 4294967296) = p00 at *
  generalize a / 4294967296 * (b % 4294967296) = p10 at *
  generalize a % 4294967296 * (b / 4294967296) = p01 at *
  generalize a / 4294967296 * (b / 4294967296) = p11 at *
  generalize a * b / 18446744073709551616 = q at *
  unfold wu64
  omega

/-! ### how many bits -/
def len8 (i : Nat) : Nat := if i = 0 then 0 else Nat.log2 i + 1
def tab8ok (s : ByteArray) : Bool := (List.range 256).all fun i => match s[i]? with | some b => Nat.beq b.toNat (len8 i) | none => false
theorem tab8 {s : ByteArray} (h : tab8ok s = true) {i : Nat} (hi : i < 256) : ∃ b, s[i]? = some b ∧ b.toNat = len8 i := by
  have := List.all_eq_true.1 h i (List.mem_range.2 hi)
  split at this
  · rename_i b hb; exact ⟨b, hb, by simpa using this⟩
  · cases this
section
variable {P : Program} {W : World} {n : Cx} {T : List (Nat × Value)} {B : List (Nat × Res)}
variable {dst : Option Tmp} {ty : TypeId} {pos : String} {aft : Array Edge} {g : Option (Nat × Bool)}
theorem Val.tab8 {t : TypeId} {x y : Operand} {s : ByteArray} {i : Int} (hu : P.underlying t = some .string) (hx : opv T x = some (.string s)) (hy : opv T y = some (.int .u8 i)) (hs : tab8ok s = true) (h : 0 ≤ i ∧ i < 256) : Val P W n ⟨dst, .index t x y, ty, pos, aft, g⟩ T B (.int .u8 (len8 i.toNat : Nat)) :=
  Val.index hx hy fun w => by
    obtain ⟨b, hb, hl⟩ := Kx.tab8 hs (i := i.toNat) (by omega)
    simp only [Instr.index, asIntOf, Sem.run_bind, Sem.run_pure, run_underlying_of hu, Result.andThen_ok, h.1, if_true, hb, hl]
end
def len64 (x : Int) : Nat := if x = 0 then 0 else Nat.log2 x.toNat + 1
theorem log2_shift {x : Nat} (k : Nat) (h : 2 ^ k ≤ x) : Nat.log2 x = Nat.log2 (x / 2 ^ k) + k := by
  induction k generalizing x with
  | zero => simp
  | succ k ih =>
    have hp : 2 ^ k * 2 ≤ x := by rw [← Nat.pow_succ]; exact h
    have hpos : 0 < 2 ^ k := Nat.two_pow_pos k
    have h2 : 2 ≤ x := by omega
    rw [Nat.log2_def x, if_pos h2]
    have h3 : 2 ^ k ≤ x / 2 := by rw [Nat.le_div_iff_mul_le (by decide)]; exact hp
    rw [ih h3, Nat.div_div_eq_div_mul, Nat.mul_comm 2, ← Nat.pow_succ]
    show Nat.log2 (x / 2 ^ (k + 1)) + k + 1 = _
    omega
theorem len64_small {x : Int} (h : 0 ≤ x) : (len8 x.toNat : Nat) = len64 x := by
  unfold len8 len64
  by_cases e : x = 0
  · subst e; rfl
  · rw [if_neg (by omega), if_neg e]
theorem len64_shift {x : Int} (k : Nat) (h : (2 : Int) ^ k ≤ x) : len64 x = len64 (x / 2 ^ k) + k := by
  have hx : 0 ≤ x := Int.le_trans (Int.pow_nonneg (by decide)) h
  obtain ⟨m, rfl⟩ := Int.eq_ofNat_of_zero_le hx
  have hp : (0 : Int) < 2 ^ k := Int.pow_pos (by decide)
  have hm : 2 ^ k ≤ m := by
    have : ((2 ^ k : Nat) : Int) ≤ (m : Int) := by simpa using h
    omega
  have hpn : 0 < 2 ^ k := Nat.two_pow_pos k
  have h1 : 1 ≤ m / 2 ^ k := (Nat.le_div_iff_mul_le hpn).2 (by omega)
  have e : (m : Int) / 2 ^ k = ((m / 2 ^ k : Nat) : Int) := by simp
  unfold len64
  rw [e, if_neg (by omega), if_neg (by omega), Int.toNat_natCast, Int.toNat_natCast, log2_shift k hm]
  omega
theorem len64_le {x : Int} (h : 0 < x ∧ x < 18446744073709551616) : 1 ≤ len64 x ∧ len64 x ≤ 64 ∧ (2 : Int) ^ (len64 x - 1) ≤ x ∧ x < 2 ^ len64 x := by
  obtain ⟨m, rfl⟩ := Int.eq_ofNat_of_zero_le (show 0 ≤ x by omega)
  have hm : m ≠ 0 := by omega
  unfold len64
  rw [if_neg (by omega), Int.toNat_natCast]
  have h1 := Nat.log2_self_le hm
  have h2 := @Nat.lt_log2_self m
  have h3 : m.log2 < 64 := (Nat.log2_lt hm).2 (by omega)
  refine ⟨by omega, by omega, ?_, ?_⟩
  · rw [Nat.add_sub_cancel]
    have : ((2 ^ m.log2 : Nat) : Int) ≤ (m : Int) := by omega
    simpa using this
  · have : (m : Int) < ((2 ^ (m.log2 + 1) : Nat) : Int) := by omega
    simpa using this

/-! ### one digit of the division -/
/-- A rest R below v, one digit d more: v's upper half a, lower half b; q is at most one or two too large. -/
structure Digit (R d v a b q r : Int) : Prop where
  hv : v = a * 4294967296 + b
  ha : 2147483648 ≤ a ∧ a < 4294967296
  hb : 0 ≤ b ∧ b < 4294967296
  hd : 0 ≤ d ∧ d < 4294967296
  hR : 0 ≤ R ∧ R < v
  hq : 0 ≤ q ∧ q ≤ 4294967297
  hr : 0 ≤ r
  he : q * a + r = R
  hge : (R * 4294967296 + d) / v ≤ q
theorem Digit.start {R d v a b : Int} (hv : v = a * 4294967296 + b) (ha : 2147483648 ≤ a ∧ a < 4294967296) (hb : 0 ≤ b ∧ b < 4294967296) (hd : 0 ≤ d ∧ d < 4294967296) (hR : 0 ≤ R ∧ R < v) : Digit R d v a b (R / a) (R - R / a * a) ∧ R - R / a * a < a := by
  have h1 := Int.emod_add_mul_ediv R a
  have h2 := Int.emod_nonneg R (show a ≠ 0 by omega)
  have h3 := Int.emod_lt_of_pos R (show 0 < a by omega)
  have h0 : 0 ≤ R / a := Int.ediv_nonneg hR.1 (by omega)
  have hc : a * (R / a) = R / a * a := Int.mul_comm _ _
  have hup : R / a ≤ 4294967297 := by
    have : R / a < 4294967298 := Int.ediv_lt_of_lt_mul (by omega) (by omega)
    omega
  refine ⟨⟨hv, ha, hb, hd, hR, ⟨h0, hup⟩, by omega, by omega, ?_⟩, by omega⟩
  have hlt : (R * 4294967296 + d) / v < R / a + 1 := by
    apply Int.ediv_lt_of_lt_mul (by omega)
    have e1 : (R / a + 1) * v = (R / a * a + a) * 4294967296 + (R / a + 1) * b := by
      rw [hv, Int.mul_add, Int.add_mul, Int.add_mul]
      rw [Int.add_mul]
      have : R / a * (a * 4294967296) = R / a * a * 4294967296 := by rw [Int.mul_assoc]
      omega
    have e2 : 0 ≤ (R / a + 1) * b := Int.mul_nonneg (by omega) hb.1
    rw [e1]
    omega
  omega
theorem Digit.big {R d v a b q r : Int} (h : Digit R d v a b q r) : (R * 4294967296 + d) / v < 4294967296 := by
  apply Int.ediv_lt_of_lt_mul
  · have := h.hR; omega
  · have := h.hR; have := h.hd; omega
/-- The estimate is too large: one less. -/
theorem Digit.less {R d v a b q r : Int} (h : Digit R d v a b q r) (hc : 4294967296 ≤ q ∨ 4294967296 * r + d < q * b) : Digit R d v a b (q - 1) (r + a) := by
  have hv0 : 0 < v := by have := h.hR; omega
  have hlt : (R * 4294967296 + d) / v < q := by
    rcases hc with hc | hc
    · exact Int.lt_of_lt_of_le h.big hc
    · apply Int.ediv_lt_of_lt_mul hv0
      have e1 : q * v = q * a * 4294967296 + q * b := by
        rw [h.hv, Int.mul_add]
        have : q * (a * 4294967296) = q * a * 4294967296 := by rw [Int.mul_assoc]
        omega
      have := h.he
      rw [e1]
      omega
  have e2 : (q - 1) * a = q * a - a := by rw [Int.sub_mul]; omega
  have hq0 : 1 ≤ q := by
    have : 0 ≤ (R * 4294967296 + d) / v := Int.ediv_nonneg (by have := h.hR; have := h.hd; omega) (by omega)
    omega
  refine ⟨h.hv, h.ha, h.hb, h.hd, h.hR, by have := h.hq; omega, by have := h.hr; have := h.ha; omega, by have := h.he; omega, by omega⟩
/-- It is not too large any more. -/
theorem Digit.right {R d v a b q r : Int} (h : Digit R d v a b q r) (hc : q * b ≤ 4294967296 * r + d) : q = (R * 4294967296 + d) / v := by
  have hv0 : 0 < v := by have := h.hR; omega
  have e1 : q * v = q * a * 4294967296 + q * b := by
    rw [h.hv, Int.mul_add]
    have : q * (a * 4294967296) = q * a * 4294967296 := by rw [Int.mul_assoc]
    omega
  have : q ≤ (R * 4294967296 + d) / v := by
    apply Int.le_ediv_of_mul_le hv0
    have := h.he
    rw [e1]; omega
  have := h.hge
  omega
theorem Digit.right' {R d v a b q r : Int} (h : Digit R d v a b q r) (hq : q ≤ 4294967296) (hr : 4294967296 ≤ r) : q = (R * 4294967296 + d) / v := by
  refine h.right ?_
  have h1 : q * b ≤ 4294967296 * b := Int.mul_le_mul_of_nonneg_right hq h.hb.1
  have := h.hb; have := h.hd
  omega

/-! ### the whole division -/
theorem lo_part {lo : Int} {s : Nat} (hs : s ≤ 64) : (lo / 2 ^ (64 - s)) * 2 ^ 64 + (lo * 2 ^ s) % 18446744073709551616 = lo * 2 ^ s := by
  have e : (2 : Int) ^ (64 - s) * 2 ^ s = 18446744073709551616 := by
    rw [← Int.pow_add, show 64 - s + s = 64 from by omega]; decide
  have hp : (0 : Int) < 2 ^ s := Int.pow_pos (by decide)
  have h1 : lo * 2 ^ s / 18446744073709551616 = lo / 2 ^ (64 - s) := by
    rw [← e]
    exact Int.mul_ediv_mul_of_pos_left lo (2 ^ (64 - s)) hp
  have h2 := Int.emod_add_mul_ediv (lo * 2 ^ s) 18446744073709551616
  rw [h1] at h2
  have e64 : (2 : Int) ^ 64 = 18446744073709551616 := by decide
  rw [e64]
  have := Int.mul_comm (lo / 2 ^ (64 - s)) 18446744073709551616
  omega
theorem div_unit {R d v q : Int} (hv : 0 < v) (hq : q = (R * 4294967296 + d) / v) : 0 ≤ R * 4294967296 + d - q * v ∧ R * 4294967296 + d - q * v < v := by
  have h2 := Int.emod_add_mul_ediv (R * 4294967296 + d) v
  have h3 := Int.emod_nonneg (R * 4294967296 + d) (show v ≠ 0 by omega)
  have h4 := Int.emod_lt_of_pos (R * 4294967296 + d) hv
  rw [← hq] at h2
  have := Int.mul_comm v q
  omega
/-- Two digits, one behind the other. -/
theorem div_two {R L v q1 q0 R1 : Int} (hv : 0 < v) (h1 : q1 = (R * 4294967296 + L / 4294967296) / v) (hR1 : R1 = R * 4294967296 + L / 4294967296 - q1 * v) (h0 : q0 = (R1 * 4294967296 + L % 4294967296) / v) :
    q1 * 4294967296 + q0 = (R * 18446744073709551616 + L) / v ∧ R1 * 4294967296 + L % 4294967296 - q0 * v = (R * 18446744073709551616 + L) % v := by
  have k0 := div_unit hv h0
  have e : (R * 18446744073709551616 + L) = (q1 * 4294967296 + q0) * v + (R1 * 4294967296 + L % 4294967296 - q0 * v) := by
    rw [hR1, Int.add_mul]
    have := Int.mul_assoc q1 4294967296 v
    have := Int.mul_comm (4294967296 : Int) v
    have := Int.mul_assoc q1 v 4294967296
    have h5 : q1 * (v * 4294967296) = q1 * 4294967296 * v := by rw [Int.mul_comm v, Int.mul_assoc]
    omega
  generalize R1 * 4294967296 + L % 4294967296 - q0 * v = z at *
  generalize q1 * 4294967296 + q0 = q at *
  have e' : R * 18446744073709551616 + L = z + q * v := by omega
  constructor
  · rw [e', Int.add_mul_ediv_right _ _ (by omega), Int.ediv_eq_zero_of_lt k0.1 k0.2]; omega
  · rw [e', Int.add_mul_emod_self_right, Int.emod_eq_of_lt k0.1 k0.2]
theorem shift_div {u y m : Int} (hm : 0 < m) : u * m / (y * m) = u / y ∧ u * m % (y * m) / m = u % y := by
  refine ⟨Int.mul_ediv_mul_of_pos_left u y hm, ?_⟩
  have h1 : u * m % (y * m) = u % y * m := by
    have h2 := Int.emod_add_mul_ediv (u * m) (y * m)
    have h3 := Int.emod_add_mul_ediv u y
    rw [Int.mul_ediv_mul_of_pos_left u y hm] at h2
    have h4 : u * m = u % y * m + y * m * (u / y) := by
      have h5 : (u % y + y * (u / y)) * m = u * m := by rw [h3]
      rw [Int.add_mul] at h5
      have h6 : y * (u / y) * m = y * m * (u / y) := by rw [Int.mul_assoc, Int.mul_comm (u / y) m, ← Int.mul_assoc]
      omega
    omega
  rw [h1, Int.mul_ediv_cancel _ (by omega)]
/-- The upper and the lower part of a word put together. -/
theorem or_parts {s : Nat} {x z : Nat} (hs : s < 64) (hx : x * 2 ^ s < 18446744073709551616) (hz : z < 2 ^ s) : (((BitVec.ofInt 64 ((x : Int) * 2 ^ s) ||| BitVec.ofInt 64 (z : Int)).toNat : Nat) : Int) = (x : Int) * 2 ^ s + z := by
  have hp : 2 ^ s < 18446744073709551616 := by
    have : 2 ^ s < 2 ^ 64 := Nat.pow_lt_pow_right (by decide) hs
    simpa using this
  have e1 : (BitVec.ofInt 64 ((x : Int) * 2 ^ s)).toNat = 2 ^ s * x := by
    have : ((x : Int) * 2 ^ s) = ((2 ^ s * x : Nat) : Int) := by push_cast; rw [Int.mul_comm]
    rw [this, BitVec.ofInt_natCast, BitVec.toNat_ofNat]
    exact Nat.mod_eq_of_lt (by rw [Nat.mul_comm]; omega)
  have e2 : (BitVec.ofInt 64 (z : Int)).toNat = z := by
    rw [BitVec.ofInt_natCast, BitVec.toNat_ofNat]
    exact Nat.mod_eq_of_lt (by omega)
  rw [BitVec.toNat_or, e1, e2, ← Nat.two_pow_add_eq_or_of_lt hz]
  push_cast
  rw [Int.mul_comm]

/-- The shift that brings a number's first bit to the top. -/
theorem norm_spec {y : Int} (h : 0 < y ∧ y < 18446744073709551616) : ∃ (s : Nat) (m m2 : Int), 64 - (len64 y : Int) = s ∧ s < 64 ∧ (2 : Int) ^ s = m ∧ (2 : Int) ^ (64 - s) = m2 ∧ 0 < m ∧ 0 < m2 ∧ m * m2 = 18446744073709551616 ∧ 9223372036854775808 ≤ y * m ∧ y * m < 18446744073709551616 := by
  obtain ⟨h1, h2, h3, h4⟩ := len64_le h
  refine ⟨64 - len64 y, 2 ^ (64 - len64 y), 2 ^ (64 - (64 - len64 y)), by omega, by omega, rfl, rfl, Int.pow_pos (by decide), Int.pow_pos (by decide), ?_, ?_, ?_⟩
  · rw [← Int.pow_add, show 64 - len64 y + (64 - (64 - len64 y)) = 64 from by omega]; decide
  · have e : (2 : Int) ^ (len64 y - 1) * 2 ^ (64 - len64 y) = 9223372036854775808 := by
      rw [← Int.pow_add, show len64 y - 1 + (64 - len64 y) = 63 from by omega]; decide
    rw [← e]
    exact Int.mul_le_mul_of_nonneg_right h3 (Int.le_of_lt (Int.pow_pos (by decide)))
  · have e : (2 : Int) ^ len64 y * 2 ^ (64 - len64 y) = 18446744073709551616 := by
      rw [← Int.pow_add, show len64 y + (64 - len64 y) = 64 from by omega]; decide
    rw [← e]
    exact Int.mul_lt_mul_of_pos_right h4 (Int.pow_pos (by decide))
theorem or_word {s : Nat} {hi z m : Int} (hs : s < 64) (hm : (2 : Int) ^ s = m) (hhi : 0 ≤ hi) (hx : hi * m < 18446744073709551616) (hz : 0 ≤ z ∧ z < m) : (((BitVec.ofInt 64 (hi * m) ||| BitVec.ofInt 64 z).toNat : Nat) : Int) = hi * m + z := by
  obtain ⟨x, rfl⟩ := Int.eq_ofNat_of_zero_le hhi
  obtain ⟨c, rfl⟩ := Int.eq_ofNat_of_zero_le hz.1
  subst hm
  have e : ((2 : Int) ^ s) = ((2 ^ s : Nat) : Int) := by push_cast; rfl
  refine or_parts hs ?_ ?_
  · have : ((x * 2 ^ s : Nat) : Int) < 18446744073709551616 := by push_cast; exact hx
    omega
  · have := hz.2; rw [e] at this; omega
end Go.Kx
