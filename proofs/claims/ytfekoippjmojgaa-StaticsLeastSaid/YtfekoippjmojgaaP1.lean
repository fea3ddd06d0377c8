/- Plain numbers about platforms: sums that fit, determinants that fit, parts that are in balance. No program is walked here. -/
import Derived.Test.YtfekoippjmojgaaS6
namespace Go.Proofs.Ytfekoippjmojgaa
set_option linter.unusedVariables false
set_option linter.unusedSimpArgs false
set_option linter.constructorNameAsVariable false
open Go.Kx Go.RowKit
theorem mul_abs {a b A B : Int} (ha : -A ≤ a ∧ a ≤ A) (hb : -B ≤ b ∧ b ≤ B) : -(A*B) ≤ a*b ∧ a*b ≤ A*B := by
  have h1 := Int.mul_nonneg (show 0 ≤ A - a by omega) (show 0 ≤ B + b by omega)
  have h2 := Int.mul_nonneg (show 0 ≤ A + a by omega) (show 0 ≤ B - b by omega)
  have h3 := Int.mul_nonneg (show 0 ≤ A - a by omega) (show 0 ≤ B - b by omega)
  have h4 := Int.mul_nonneg (show 0 ≤ A + a by omega) (show 0 ≤ B + b by omega)
  grind
/-- A group's row keeps within what its supports allow. -/
structure Rowb (r : R3) : Prop where
  n : 0 ≤ r.n ∧ r.n ≤ 48
  x : -(131072 * r.n) ≤ r.x ∧ r.x ≤ 131072 * r.n
  y : -(131072 * r.n) ≤ r.y ∧ r.y ≤ 131072 * r.n
structure Mb (i : Int) (m : M9) : Prop where
  h0 : Rowb m.r0
  h1 : Rowb m.r1
  h2 : Rowb m.r2
  tot : m.r0.n + m.r1.n + m.r2.n = i
theorem validSup_b {s : Sup} (h : validSup s = true) : (-131072 ≤ s.x ∧ s.x ≤ 131072) ∧ (-131072 ≤ s.y ∧ s.y ≤ 131072) ∧ (0 ≤ s.g ∧ s.g ≤ 2) ∧ (1 ≤ s.lim ∧ s.lim ≤ 1048576) ∧ 0 ≤ s.least ∧ s.least ≤ s.most ∧ s.most ≤ 4096 := by
  simp only [validSup, between, Bool.and_eq_true, decide_eq_true_eq, Bool.not_eq_true', decide_eq_false_iff_not] at h
  omega
theorem add3_ok {r : R3} {s : Sup} (h : Rowb r) (hs : validSup s = true) (hn : r.n ≤ 47) : add3 r s = ⟨r.n + 1, r.x + s.x, r.y + s.y⟩ ∧ Rowb ⟨r.n + 1, r.x + s.x, r.y + s.y⟩ := by
  obtain ⟨hx, hy, -⟩ := validSup_b hs
  have h1 := h.n; have h2 := h.x; have h3 := h.y
  refine ⟨?_, ⟨by show 0 ≤ r.n + 1 ∧ r.n + 1 ≤ 48; omega, by show -(131072 * (r.n + 1)) ≤ r.x + s.x ∧ r.x + s.x ≤ 131072 * (r.n + 1); omega, by show -(131072 * (r.n + 1)) ≤ r.y + s.y ∧ r.y + s.y ≤ 131072 * (r.n + 1); omega⟩⟩
  unfold add3
  rw [wrap_of (by unfold in64; omega), wrap_of (by unfold in64; omega), wrap_of (by unfold in64; omega)]
theorem addW_ok {m : M9} {i : Int} {s : Sup} (h : Mb i m) (hi : i < 48) (hs : validSup s = true) : Mb (i + 1) (addW m s) := by
  have n0 := h.h0.n; have n1 := h.h1.n; have n2 := h.h2.n; have ht := h.tot
  unfold addW
  split
  · obtain ⟨e, hb⟩ := add3_ok h.h0 hs (by omega)
    exact ⟨by rw [e]; exact hb, h.h1, h.h2, by rw [e]; show m.r0.n + 1 + m.r1.n + m.r2.n = i + 1; omega⟩
  · split
    · obtain ⟨e, hb⟩ := add3_ok h.h1 hs (by omega)
      exact ⟨h.h0, by rw [e]; exact hb, h.h2, by rw [e]; show m.r0.n + (m.r1.n + 1) + m.r2.n = i + 1; omega⟩
    · obtain ⟨e, hb⟩ := add3_ok h.h2 hs (by omega)
      exact ⟨h.h0, h.h1, by rw [e]; exact hb, by rw [e]; show m.r0.n + m.r1.n + (m.r2.n + 1) = i + 1; omega⟩
theorem foldW_ok : ∀ (xs : List Sup) {m : M9} {i : Int}, Mb i m → i + xs.length ≤ 48 → xs.all validSup = true → Mb (i + xs.length) (xs.foldl addW m)
  | [], m, i, h, _, _ => by simpa using h
  | s :: r, m, i, h, hl, hv => by
    simp only [List.all_cons, Bool.and_eq_true] at hv
    simp only [List.length_cons] at hl ⊢
    have := foldW_ok r (addW_ok h (by omega) hv.1) (by omega) hv.2
    rw [List.foldl_cons, show i + ((r.length + 1 : Nat) : Int) = i + 1 + r.length from by omega]
    exact this
theorem sums_ok {xs : List Sup} (hv : xs.all validSup = true) (hl : xs.length ≤ 48) : Mb xs.length (sumsW xs) := by
  have := foldW_ok xs (m := zero9) (i := 0) ⟨⟨by decide, by decide, by decide⟩, ⟨by decide, by decide, by decide⟩, ⟨by decide, by decide, by decide⟩, rfl⟩ (by omega) hv
  rw [Int.zero_add] at this
  exact this
theorem deck_all {xs : List Sup} (h : deckErr xs = 0) : 3 ≤ xs.length ∧ xs.length ≤ 48 ∧ xs.all validSup = true ∧ wdet (sumsW xs) ≠ 0 := by
  unfold deckErr at h
  split at h
  · cases h
  · split at h
    · split at h
      · cases h
      · exact ⟨by omega, by omega, ‹_›, ‹_›⟩
    · cases h
/-- Rows of limited amounts have a determinant of limited amount. -/
theorem det_bd {a b c : R3} {N X : Int} (an : -N ≤ a.n ∧ a.n ≤ N) (ax : -X ≤ a.x ∧ a.x ≤ X) (ay : -X ≤ a.y ∧ a.y ≤ X) (hb : Rowb b) (hc : Rowb c) :
    -(N * 79164837199872 + 2 * (X * 603979776)) ≤ det a b c ∧ det a b c ≤ N * 79164837199872 + 2 * (X * 603979776) := by
  have bn := hb.n; have bx := hb.x; have by_ := hb.y; have cn := hc.n; have cx := hc.x; have cy := hc.y
  have m1 := mul_abs (a := b.x) (b := c.y) (A := 6291456) (B := 6291456) (by omega) (by omega)
  have m2 := mul_abs (a := c.x) (b := b.y) (A := 6291456) (B := 6291456) (by omega) (by omega)
  have m3 := mul_abs (a := b.n) (b := c.y) (A := 48) (B := 6291456) (by omega) (by omega)
  have m4 := mul_abs (a := c.n) (b := b.y) (A := 48) (B := 6291456) (by omega) (by omega)
  have m5 := mul_abs (a := b.n) (b := c.x) (A := 48) (B := 6291456) (by omega) (by omega)
  have m6 := mul_abs (a := c.n) (b := b.x) (A := 48) (B := 6291456) (by omega) (by omega)
  have k1 := mul_abs an (show -79164837199872 ≤ b.x * c.y - c.x * b.y ∧ b.x * c.y - c.x * b.y ≤ 79164837199872 by omega)
  have k2 := mul_abs ax (show -603979776 ≤ b.n * c.y - c.n * b.y ∧ b.n * c.y - c.n * b.y ≤ 603979776 by omega)
  have k3 := mul_abs ay (show -603979776 ≤ b.n * c.x - c.n * b.x ∧ b.n * c.x - c.n * b.x ≤ 603979776 by omega)
  unfold det
  omega
theorem det_rot (a b c : R3) : det b c a = det a b c := by unfold det; grind
theorem det_bal (p a b c : R3) : det p b c * a.n + det a p c * b.n + det a b p * c.n = det a b c * p.n := by unfold det; grind
theorem det_balx (p a b c : R3) : det p b c * a.x + det a p c * b.x + det a b p * c.x = det a b c * p.x := by unfold det; grind
theorem det_baly (p a b c : R3) : det p b c * a.y + det a p c * b.y + det a b p * c.y = det a b c * p.y := by unfold det; grind
theorem det_row0 {a b c : R3} (h : a.n = 0 ∧ a.x = 0 ∧ a.y = 0) : det a b c = 0 := by unfold det; rw [h.1, h.2.1, h.2.2]; simp
theorem sgn_cases (d : Int) : (d < 0 ∧ sgn d = -1) ∨ (0 ≤ d ∧ sgn d = 1) := by unfold sgn; split <;> omega
def P3 (x y : Int) : R3 := ⟨1, x, y⟩
/-- The parts, exactly. -/
def q0 (m : M9) (x y : Int) : Int := sgn (det m.r0 m.r1 m.r2) * det (P3 x y) m.r1 m.r2
def q1 (m : M9) (x y : Int) : Int := sgn (det m.r0 m.r1 m.r2) * det m.r0 (P3 x y) m.r2
def q2 (m : M9) (x y : Int) : Int := sgn (det m.r0 m.r1 m.r2) * det m.r0 m.r1 (P3 x y)
def qd (m : M9) : Int := sgn (det m.r0 m.r1 m.r2) * det m.r0 m.r1 m.r2
theorem sgn_bd {d t K : Int} (h : -K ≤ t ∧ t ≤ K) : -K ≤ sgn d * t ∧ sgn d * t ≤ K := by
  rcases sgn_cases d with ⟨_, e⟩ | ⟨_, e⟩ <;> rw [e] <;> omega
/-- What holds of a platform that can stand. -/
structure Good (xs : List Sup) (m : M9) : Prop where
  b : Mb xs.length m
  len : 3 ≤ xs.length ∧ xs.length ≤ 48
  all : xs.all validSup = true
  wd : wdet m = det m.r0 m.r1 m.r2
  nz : det m.r0 m.r1 m.r2 ≠ 0
  bd : -20000000000000000 ≤ det m.r0 m.r1 m.r2 ∧ det m.r0 m.r1 m.r2 ≤ 20000000000000000
theorem good {xs : List Sup} (h : deckErr xs = 0) : Good xs (sumsW xs) := by
  obtain ⟨h3, h48, ha, hz⟩ := deck_all h
  have hb := sums_ok ha h48
  have h0 := hb.h0
  have n0 := h0.n; have x0 := h0.x; have y0 := h0.y
  have bd := det_bd (N := 48) (X := 6291456) (a := (sumsW xs).r0) (b := (sumsW xs).r1) (c := (sumsW xs).r2) (by omega) (by omega) (by omega) hb.h1 hb.h2
  have e : wdet (sumsW xs) = det (sumsW xs).r0 (sumsW xs).r1 (sumsW xs).r2 := wrap_of (by unfold in64; omega)
  exact ⟨hb, ⟨h3, h48⟩, ha, e, by rw [← e]; exact hz, by omega⟩
section
variable {xs : List Sup} {m : M9}
theorem Good.one (g : Good xs m) : 1 ≤ m.r0.n ∧ 1 ≤ m.r1.n ∧ 1 ≤ m.r2.n := by
  have hz := g.nz
  have n0 := g.b.h0.n; have x0 := g.b.h0.x; have y0 := g.b.h0.y
  have n1 := g.b.h1.n; have x1 := g.b.h1.x; have y1 := g.b.h1.y
  have n2 := g.b.h2.n; have x2 := g.b.h2.x; have y2 := g.b.h2.y
  refine ⟨?_, ?_, ?_⟩
  · by_cases e : m.r0.n = 0
    · exact absurd (det_row0 ⟨e, by omega, by omega⟩) hz
    · omega
  · by_cases e : m.r1.n = 0
    · exact absurd ((det_rot _ _ _).symm.trans (det_row0 ⟨e, by omega, by omega⟩)) hz
    · omega
  · by_cases e : m.r2.n = 0
    · exact absurd ((det_rot _ _ _).symm.trans ((det_rot _ _ _).symm.trans (det_row0 ⟨e, by omega, by omega⟩))) hz
    · omega
theorem Good.wh (g : Good xs m) : whole (wdet m) = qd m ∧ 0 < qd m ∧ qd m ≤ 20000000000000000 := by
  have hz := g.nz; have bd := g.bd
  unfold whole qd
  rw [g.wd]
  rcases sgn_cases (det m.r0 m.r1 m.r2) with ⟨h, e⟩ | ⟨h, e⟩ <;> rw [e] <;> exact ⟨wrap_of (by unfold in64; omega), by omega, by omega⟩
theorem Good.q0b (g : Good xs m) {x y : Int} {K : Int} (hx : -K ≤ x ∧ x ≤ K) (hy : -K ≤ y ∧ y ≤ K) : -(79164837199872 + 2 * (K * 603979776)) ≤ q0 m x y ∧ q0 m x y ≤ 79164837199872 + 2 * (K * 603979776) := by
  have := det_bd (N := 1) (X := K) (a := P3 x y) (by show -1 ≤ (1 : Int) ∧ (1 : Int) ≤ 1; omega) hx hy g.b.h1 g.b.h2
  exact sgn_bd (by omega)
theorem Good.q1b (g : Good xs m) {x y : Int} {K : Int} (hx : -K ≤ x ∧ x ≤ K) (hy : -K ≤ y ∧ y ≤ K) : -(79164837199872 + 2 * (K * 603979776)) ≤ q1 m x y ∧ q1 m x y ≤ 79164837199872 + 2 * (K * 603979776) := by
  have := det_bd (N := 1) (X := K) (a := P3 x y) (by show -1 ≤ (1 : Int) ∧ (1 : Int) ≤ 1; omega) hx hy g.b.h2 g.b.h0
  unfold q1
  rw [← det_rot m.r0 (P3 x y) m.r2]
  exact sgn_bd (by omega)
theorem Good.q2b (g : Good xs m) {x y : Int} {K : Int} (hx : -K ≤ x ∧ x ≤ K) (hy : -K ≤ y ∧ y ≤ K) : -(79164837199872 + 2 * (K * 603979776)) ≤ q2 m x y ∧ q2 m x y ≤ 79164837199872 + 2 * (K * 603979776) := by
  have := det_bd (N := 1) (X := K) (a := P3 x y) (by show -1 ≤ (1 : Int) ∧ (1 : Int) ≤ 1; omega) hx hy g.b.h0 g.b.h1
  unfold q2
  rw [← det_rot m.r0 m.r1 (P3 x y), ← det_rot m.r1 (P3 x y) m.r0]
  exact sgn_bd (by omega)
theorem Good.pt (g : Good xs m) {x y K : Int} (hK : K ≤ 1000000000) (hx : -K ≤ x ∧ x ≤ K) (hy : -K ≤ y ∧ y ≤ K) : part0 m (wdet m) x y = q0 m x y ∧ part1 m (wdet m) x y = q1 m x y ∧ part2 m (wdet m) x y = q2 m x y := by
  have h0 := g.q0b hx hy; have h1 := g.q1b hx hy; have h2 := g.q2b hx hy
  have hk : K * 603979776 ≤ 603979776000000000 := by omega
  unfold part0 part1 part2
  rw [g.wd]
  exact ⟨wrap_of (by unfold q0 at h0; unfold in64; show -9223372036854775808 ≤ _ * det (P3 x y) _ _ ∧ _ * det (P3 x y) _ _ ≤ _; omega), wrap_of (by unfold q1 at h1; unfold in64; show -9223372036854775808 ≤ _ * det _ (P3 x y) _ ∧ _ * det _ (P3 x y) _ ≤ _; omega), wrap_of (by unfold q2 at h2; unfold in64; show -9223372036854775808 ≤ _ * det _ _ (P3 x y) ∧ _ * det _ _ (P3 x y) ≤ _; omega)⟩
theorem Good.bal (_g : Good xs m) (x y : Int) : q0 m x y * m.r0.n + q1 m x y * m.r1.n + q2 m x y * m.r2.n = qd m := by
  have h := det_bal (P3 x y) m.r0 m.r1 m.r2
  have e : (P3 x y).n = 1 := rfl
  rw [e] at h
  unfold q0 q1 q2 qd; grind
theorem Good.balx (_g : Good xs m) (x y : Int) : q0 m x y * m.r0.x + q1 m x y * m.r1.x + q2 m x y * m.r2.x = qd m * x := by
  have h := det_balx (P3 x y) m.r0 m.r1 m.r2
  have e : (P3 x y).x = x := rfl
  rw [e] at h
  unfold q0 q1 q2 qd; grind
theorem Good.baly (_g : Good xs m) (x y : Int) : q0 m x y * m.r0.y + q1 m x y * m.r1.y + q2 m x y * m.r2.y = qd m * y := by
  have h := det_baly (P3 x y) m.r0 m.r1 m.r2
  have e : (P3 x y).y = y := rfl
  rw [e] at h
  unfold q0 q1 q2 qd; grind
/-- No part below 0: none above the whole. -/
theorem Good.le (g : Good xs m) {x y : Int} (h0 : 0 ≤ q0 m x y) (h1 : 0 ≤ q1 m x y) (h2 : 0 ≤ q2 m x y) : q0 m x y ≤ qd m ∧ q1 m x y ≤ qd m ∧ q2 m x y ≤ qd m := by
  have hb := g.bal x y
  obtain ⟨n0, n1, n2⟩ := g.one
  have k0 := Int.mul_nonneg h0 (show 0 ≤ m.r0.n - 1 by omega)
  have k1 := Int.mul_nonneg h1 (show 0 ≤ m.r1.n - 1 by omega)
  have k2 := Int.mul_nonneg h2 (show 0 ≤ m.r2.n - 1 by omega)
  rw [Int.mul_sub, Int.mul_one] at k0 k1 k2
  omega
end
theorem frac_share {a b d : Int} (ha : 1 ≤ a ∧ a ≤ 16777216) (hb : 0 ≤ b ∧ b ≤ d) (hd : 0 < d ∧ d ≤ 20000000000000000) : Frac a b d := by
  refine ⟨by omega, by omega, by omega, ?_⟩
  have h1 : a * b ≤ 16777216 * b := Int.mul_le_mul_of_nonneg_right ha.2 hb.1
  rw [show am a = a from by unfold am; omega, show am b = b from by unfold am; omega]
  omega
theorem tipsW_none {p0 p1 p2 : Int} (h : ¬ 0 ≤ tipsW p0 p1 p2) : 0 ≤ p0 ∧ 0 ≤ p1 ∧ 0 ≤ p2 := by
  unfold tipsW at h
  repeat' split at h
  all_goals omega
theorem validPt_b {x y : Int} (h : validPt x y = true) : (-262144 ≤ x ∧ x ≤ 262144) ∧ (-262144 ≤ y ∧ y ≤ 262144) := by
  simp only [validPt, between, Bool.and_eq_true, decide_eq_true_eq] at h
  omega
theorem upDiv_bd {a b d : Int} (h : Frac a b d) : -4611686018427387905 ≤ upDiv a b d ∧ upDiv a b d ≤ 4611686018427387905 := by
  have := floor_bd h.neg
  unfold upDiv; omega
end Go.Proofs.Ytfekoippjmojgaa
