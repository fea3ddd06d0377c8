/- Walks of functions of the program: what each returns, told by plain functions; nothing that lay there is turned. -/
import Derived.Test.YtfekoippjmojgaaS2
namespace Go.Proofs.Ytfekoippjmojgaa
open Go.Kx Go.RowKit
set_option maxRecDepth 100000
set_option linter.unusedVariables false
set_option linter.unusedSimpArgs false
set_option linter.constructorNameAsVariable false
def am (x : Int) : Int := Max.max x (-x)
theorem am_nonneg (x : Int) : 0 ≤ am x := by unfold am; omega
theorem am_neg (x : Int) : am (-x) = am x := by unfold am; omega
/-- Numbers whose amount fits, with a product that fits behind the division. -/
structure Frac (a b d : Int) : Prop where
  ha : -9223372036854775808 < a ∧ a < 9223372036854775808
  hb : -9223372036854775808 < b ∧ b < 9223372036854775808
  hd : 0 < d ∧ d < 9223372036854775808
  hp : am a * am b ≤ d * 4611686018427387904
theorem Frac.neg {a b d : Int} (h : Frac a b d) : Frac (-a) b d := ⟨by have := h.ha; omega, h.hb, h.hd, by rw [am_neg]; exact h.hp⟩
theorem Frac.pos {a b d : Int} (_h : Frac a b d) : 0 ≤ am a * am b := Int.mul_nonneg (am_nonneg a) (am_nonneg b)
theorem Frac.quo {a b d : Int} (h : Frac a b d) : 0 ≤ am a * am b / d ∧ am a * am b / d ≤ 4611686018427387904 :=
  ⟨Int.ediv_nonneg h.pos (by have := h.hd; omega), by
    have h1 : am a * am b / d < 4611686018427387905 := Int.ediv_lt_of_lt_mul h.hd.1 (by have := h.hp; have := h.hd; omega)
    omega⟩
theorem Frac.hi {a b d : Int} (h : Frac a b d) : 0 ≤ am a * am b / 18446744073709551616 ∧ am a * am b / 18446744073709551616 < d :=
  ⟨Int.ediv_nonneg h.pos (by decide), Int.ediv_lt_of_lt_mul (by decide) (by have := h.hp; have := h.hd; omega)⟩
theorem am_mul (a b : Int) : (decide (a < 0) = decide (b < 0) → am a * am b = a * b) ∧ (decide (a < 0) ≠ decide (b < 0) → am a * am b = -(a * b)) := by
  unfold am
  by_cases ha : a < 0 <;> by_cases hb : b < 0
  · refine ⟨fun _ => ?_, fun h => absurd (by simp [ha, hb]) h⟩
    rw [show max a (-a) = -a from by omega, show max b (-b) = -b from by omega, Int.neg_mul_neg]
  · refine ⟨fun h => absurd h (by simp [ha, hb]), fun _ => ?_⟩
    rw [show max a (-a) = -a from by omega, show max b (-b) = b from by omega, Int.neg_mul]
  · refine ⟨fun h => absurd h (by simp [ha, hb]), fun _ => ?_⟩
    rw [show max a (-a) = a from by omega, show max b (-b) = -b from by omega, Int.mul_neg]
  · refine ⟨fun _ => ?_, fun h => absurd (by simp [ha, hb]) h⟩
    rw [show max a (-a) = a from by omega, show max b (-b) = b from by omega]
theorem neg_floor {p d : Int} (hd : 0 < d) : (0 < p % d → -p / d = -(p / d + 1)) ∧ (¬ 0 < p % d → -p / d = -(p / d)) := by
  have h1 := Int.emod_add_mul_ediv p d
  have h2 := Int.emod_nonneg p (show d ≠ 0 by omega)
  have h3 := Int.emod_lt_of_pos p hd
  constructor
  · intro h
    have e : -p = (d - p % d) + -(p / d + 1) * d := by
      rw [Int.neg_mul, Int.add_mul, Int.mul_comm (p / d)]; omega
    rw [e, Int.add_mul_ediv_right _ _ (by omega), Int.ediv_eq_zero_of_lt (by omega) (by omega)]; omega
  · intro h
    have e : -p = 0 + -(p / d) * d := by
      rw [Int.neg_mul, Int.mul_comm (p / d)]; omega
    rw [e, Int.add_mul_ediv_right _ _ (by omega)]; simp
theorem split_gives (a b d : Int) (w : World) (h : Frac a b d) : Gives Try.prog 105 #[.agg #[.int .i64 a, .int .i64 b, .int .i64 d]] w (.tuple #[.int .i64 (am a * am b / d), .bool (decide (0 < am a * am b % d)), .bool (!(decide (a < 0) == decide (b < 0)))]) := by
  have hdiv : ∀ w, Gives Try.prog 121 #[.int .u64 (am a * am b / 18446744073709551616), .int .u64 (am a * am b % 18446744073709551616), .int .u64 d] w (.tuple #[.int .u64 (am a * am b / d), .int .u64 (am a * am b % d)]) := fun w => by
    have h1 := div64_gives (am a * am b / 18446744073709551616) (am a * am b % 18446744073709551616) d w h.hi (by omega) (by have := h.hd; omega)
    have h2 : am a * am b / 18446744073709551616 * 18446744073709551616 + am a * am b % 18446744073709551616 = am a * am b := by omega
    rwa [h2] at h1
  refine calls_of (vs := [.agg #[.int .i64 a, .int .i64 b, .int .i64 d]]) Try.func105 rfl rfl rfl ?_
  show Cd _ _ _ _ _ [(0, .agg #[.int .i64 a, .int .i64 b, .int .i64 d])] []
  refine Cd.seq (Cd.region (Rg.eff (Eff.box 1 rfl rfl) rfl fun b1 _ => (Rg.val (Val.assign rfl) rfl (Rg.val (Val.assign rfl) rfl (Rg.val (Val.assign rfl) rfl (Rg.nil (Rx.seq (Cd.seq (Cd.region (Rg.val (Val.fa rfl (fa83_0 _ _)) rfl (Rg.val (Val.load (l := 1) rfl rfl sc2 rfl) rfl (Rg.val (Val.lss rfl rfl) rfl (Rg.val (Val.fa rfl (fa83_1 _ _)) rfl (Rg.val (Val.load (l := 1) rfl rfl sc2 rfl) rfl (Rg.val (Val.lss rfl rfl) rfl (Rg.val (Val.neqB Try.underlying4 rfl rfl) rfl (Rg.val (Val.assign rfl) rfl (Rg.nil (Rx.seq (Cd.seq (Cd.region (Rg.val (Val.fa rfl (fa83_0 _ _)) rfl (Rg.val (Val.load (l := 1) rfl rfl sc2 rfl) rfl (Rg.val (Val.fa rfl (fa83_0 _ _)) rfl (Rg.val (Val.load (l := 1) rfl rfl sc2 rfl) rfl (Rg.val (Val.negN rfl (by have := h.ha; have := h.hb; unfold in64; omega)) rfl (Rg.val (Val.as (Val.max rfl rfl) (congrArg (Value.int IntKind.i64) (show Max.max a (-a) = am a from rfl))) rfl (Rg.val (Val.as (Val.conv Try.underlying2 Try.underlying150 rfl) (congrArg (Value.int IntKind.u64) (u64_in (by have := h.ha; have := h.hb; have := h.hd; first | omega | (unfold am; omega))))) rfl (Rg.val (Val.fa rfl (fa83_1 _ _)) rfl (Rg.val (Val.load (l := 1) rfl rfl sc2 rfl) rfl (Rg.val (Val.fa rfl (fa83_1 _ _)) rfl (Rg.val (Val.load (l := 1) rfl rfl sc2 rfl) rfl (Rg.val (Val.negN rfl (by have := h.ha; have := h.hb; unfold in64; omega)) rfl (Rg.val (Val.as (Val.max rfl rfl) (congrArg (Value.int IntKind.i64) (show Max.max b (-b) = am b from rfl))) rfl (Rg.val (Val.as (Val.conv Try.underlying2 Try.underlying150 rfl) (congrArg (Value.int IntKind.u64) (u64_in (by have := h.ha; have := h.hb; have := h.hd; first | omega | (unfold am; omega))))) rfl (Rg.eff (Eff.give rfl rfl en120 rfl (fun w hm => mul64_gives _ _ w (by have := h.ha; unfold am; omega) (by have := h.hb; unfold am; omega))) rfl fun _ _ => (Rg.val (Val.move rfl) rfl (Rg.val (Val.extract rfl rfl) rfl (Rg.val (Val.extract rfl rfl) rfl ?_)))))))))))))))))))))))))))))))))))))))
  refine Rg.val (Val.assign rfl) rfl (Rg.val (Val.assign rfl) rfl (Rg.nil (Rx.seq (Cd.seq (Cd.region (Rg.val (Val.move rfl) rfl (Rg.val (Val.move rfl) rfl (Rg.val (Val.fa rfl (fa83_2 _ _)) rfl (Rg.val (Val.load (l := 1) rfl rfl sc2 rfl) rfl (Rg.val (Val.as (Val.conv Try.underlying2 Try.underlying150 rfl) (congrArg (Value.int IntKind.u64) (u64_in (by have := h.ha; have := h.hb; have := h.hd; first | omega | (unfold am; omega))))) rfl (Rg.eff (Eff.give rfl rfl en121 rfl (fun w hm => hdiv w)) rfl fun _ _ => (Rg.val (Val.move rfl) rfl (Rg.val (Val.extract rfl rfl) rfl (Rg.val (Val.extract rfl rfl) rfl (Rg.val (Val.assign rfl) rfl (Rg.val (Val.assign rfl) rfl (Rg.nil (Rx.seq (Cd.seq (Cd.region (Rg.val (Val.move rfl) rfl (Rg.val (Val.as (Val.conv Try.underlying150 Try.underlying2 rfl) (congrArg (Value.int IntKind.i64) (i64_in' (by have := h.quo; unfold in64; omega)))) rfl (Rg.val (Val.move rfl) rfl (Rg.val (Val.gtr rfl rfl) rfl (Rg.val (Val.move rfl) rfl (Rg.val (Val.assign rfl) rfl (Rg.val (Val.assign rfl) rfl (Rg.val (Val.assign rfl) rfl (Rg.nil (Rx.seq (Cd.ret (Rx.ret3 rfl rfl rfl rfl fun w hm_ => (⟨rfl, hm_.below⟩)))))))))))))))))))))))))))))))))

theorem minus_no {a b : Int} (h : (!(decide (a < 0) == decide (b < 0))) = false) : decide (a < 0) = decide (b < 0) := by simpa using h
theorem minus_yes {a b : Int} (h : (!(decide (a < 0) == decide (b < 0))) = true) : decide (a < 0) ≠ decide (b < 0) := by simpa using h
theorem minus_no' {a b : Int} (h : (!(!(decide (a < 0) == decide (b < 0)))) = true) : decide (a < 0) = decide (b < 0) := by simpa using h
theorem minus_yes' {a b : Int} (h : (!(!(decide (a < 0) == decide (b < 0)))) = false) : decide (a < 0) ≠ decide (b < 0) := by simpa using h
theorem down_gives (a b d : Int) (w : World) (h : Frac a b d) : Gives Try.prog 84 #[.agg #[.int .i64 a, .int .i64 b, .int .i64 d]] w (.int .i64 (a * b / d)) := by
  refine calls_of (vs := [.agg #[.int .i64 a, .int .i64 b, .int .i64 d]]) Try.func84 rfl rfl rfl ?_
  show Cd _ _ _ _ _ [(0, .agg #[.int .i64 a, .int .i64 b, .int .i64 d])] []
  refine Cd.seq (Cd.region (Rg.eff (Eff.box 1 rfl rfl) rfl fun b1 _ => (Rg.val (Val.assign rfl) rfl (Rg.nil (Rx.seq (Cd.seq (Cd.region (Rg.val (Val.loadAll (l := 1) rfl rfl ag83 rfl) rfl (Rg.eff (Eff.give rfl rfl en105 rfl (fun w hm => split_gives _ _ _ w h)) rfl fun _ _ => (Rg.val (Val.move rfl) rfl (Rg.val (Val.extract rfl rfl) rfl (Rg.val (Val.extract rfl rfl) rfl (Rg.val (Val.extract rfl rfl) rfl (Rg.val (Val.assign rfl) rfl (Rg.val (Val.assign rfl) rfl (Rg.val (Val.assign rfl) rfl (Rg.nil (Rx.seq (Cd.seq (Cd.seq (Cd.region (Rg.val (Val.move rfl) rfl (Rg.val (Val.not rfl) rfl (Rg.nil (Rx.seq (Cd.cond rfl (fun c1 => ?_) (fun c1 => ?_)))))))))))))))))))))))))))
  · replace c1 := bnot_t c1
    replace c1 := bnot_f c1
    refine Cd.seq (Cd.region (Rg.val (Val.move rfl) rfl (Rg.val (Val.assign rfl) rfl (Rg.nil (Rx.seq (Cd.ret (Rx.pastR (Rx.ret1 rfl rfl fun w hm_ => (⟨by rw [← (am_mul a b).1 (by simpa using c1)], hm_.below⟩)))))))))
  · replace c1 := bnot_f c1
    replace c1 := bnot_t c1
    refine Cd.skip (Rx.seq (Cd.seq (Cd.seq (Cd.region (Rg.val (Val.move rfl) rfl (Rg.nil (Rx.seq (Cd.cond rfl (fun c2 => ?_) (fun c2 => ?_)))))))))
    · replace c2 := of_decide_eq_true c2
      refine Cd.region (Rg.val (Val.move rfl) rfl (Rg.val (Val.addN rfl rfl (by have := h.quo; unfold in64; omega)) rfl (Rg.val (Val.assign rfl) rfl (Rg.nil (Rx.seq (Cd.seq (Cd.region (Rg.val (Val.move rfl) rfl (Rg.val (Val.negN rfl (by have := h.quo; unfold in64; omega)) rfl (Rg.val (Val.assign rfl) rfl (Rg.nil (Rx.seq (Cd.ret (Rx.ret1 rfl rfl fun w hm_ => (⟨by rw [show a * b = -(am a * am b) from by rw [(am_mul a b).2 (by simpa using c1)]; omega, (neg_floor h.hd.1).1 c2], hm_.below⟩)))))))))))))))
    · replace c2 := of_decide_eq_false c2
      refine Cd.skip (Rx.seq (Cd.seq (Cd.region (Rg.val (Val.move rfl) rfl (Rg.val (Val.negN rfl (by have := h.quo; unfold in64; omega)) rfl (Rg.val (Val.assign rfl) rfl (Rg.nil (Rx.seq (Cd.ret (Rx.ret1 rfl rfl fun w hm_ => (⟨by rw [show a * b = -(am a * am b) from by rw [(am_mul a b).2 (by simpa using c1)]; omega, (neg_floor h.hd.1).2 c2], hm_.below⟩)))))))))))

theorem floor_bd {a b d : Int} (h : Frac a b d) : -4611686018427387905 ≤ a * b / d ∧ a * b / d ≤ 4611686018427387905 := by
  have hq := h.quo
  have hd := h.hd
  by_cases e : decide (a < 0) = decide (b < 0)
  · rw [← (am_mul a b).1 e]; omega
  · rw [show a * b = -(am a * am b) from by rw [(am_mul a b).2 e]; omega]
    by_cases r : 0 < am a * am b % d
    · rw [(neg_floor hd.1).1 r]; omega
    · rw [(neg_floor hd.1).2 r]; omega
/-- a b / d, rounded up. -/
def upDiv (a b d : Int) : Int := -(-a * b / d)
theorem up_gives.bld_0 (y0 : Int) (y1 : Int) (y2 : Int) (w : World) : (Instr.build 83 #[(0, .int .i64 y0), (1, .int .i64 y1), (2, .int .i64 y2)]).run Try.prog w = .ok (.agg #[.int .i64 y0, .int .i64 y1, .int .i64 y2]) w := by kernel_rfl
open up_gives in
theorem up_gives (a b d : Int) (w : World) (h : Frac a b d) : Gives Try.prog 50 #[.agg #[.int .i64 a, .int .i64 b, .int .i64 d]] w (.int .i64 (upDiv a b d)) := by
  refine calls_of (vs := [.agg #[.int .i64 a, .int .i64 b, .int .i64 d]]) Try.func50 rfl rfl rfl ?_
  show Cd _ _ _ _ _ [(0, .agg #[.int .i64 a, .int .i64 b, .int .i64 d])] []
  refine Cd.seq (Cd.region (Rg.eff (Eff.box 1 rfl rfl) rfl fun b1 _ => (Rg.val (Val.assign rfl) rfl (Rg.nil (Rx.seq (Cd.seq (Cd.region (Rg.val (Val.fa rfl (fa83_0 _ _)) rfl (Rg.val (Val.load (l := 1) rfl rfl sc2 rfl) rfl (Rg.val (Val.negN rfl (by have := h.ha; have := floor_bd h.neg; unfold in64; omega)) rfl (Rg.val (Val.fa rfl (fa83_1 _ _)) rfl (Rg.val (Val.load (l := 1) rfl rfl sc2 rfl) rfl (Rg.val (Val.fa rfl (fa83_2 _ _)) rfl (Rg.val (Val.load (l := 1) rfl rfl sc2 rfl) rfl (Rg.val (Val.build rfl (bld_0 _ _ _)) rfl (Rg.eff (Eff.give rfl rfl en84 rfl (fun w hm => down_gives _ _ _ w h.neg)) rfl fun _ _ => (Rg.val (Val.negN rfl (by have := h.ha; have := floor_bd h.neg; unfold in64; omega)) rfl (Rg.val (Val.assign rfl) rfl (Rg.nil (Rx.seq (Cd.ret (Rx.ret1 rfl rfl fun w hm_ => (⟨rfl, hm_.below⟩)))))))))))))))))))))))

end Go.Proofs.Ytfekoippjmojgaa
