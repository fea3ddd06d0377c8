/- Walks of functions of the program: what each returns, told by plain functions; nothing that lay there is turned. -/
import Derived.Test.YtfekoippjmojgaaS8
namespace Go.Proofs.Ytfekoippjmojgaa
open Go.Kx Go.RowKit
set_option maxRecDepth 100000
set_option linter.unusedVariables false
set_option linter.unusedSimpArgs false
set_option linter.constructorNameAsVariable false
theorem up_half {m y z d : Int} (hd : 0 < d) (hyz : y + z = d) : m ≤ upDiv m y d + upDiv m z d ∧ upDiv m y d + upDiv m z d ≤ m + 1 := by
  unfold upDiv
  have h1 := Int.emod_add_mul_ediv (-m * y) d
  have h2 := Int.emod_add_mul_ediv (-m * z) d
  have e1 := Int.emod_nonneg (-m * y) (show d ≠ 0 by omega)
  have e2 := Int.emod_lt_of_pos (-m * y) hd
  have e3 := Int.emod_nonneg (-m * z) (show d ≠ 0 by omega)
  have e4 := Int.emod_lt_of_pos (-m * z) hd
  have h3 : -m * y + -m * z = -m * d := by rw [← Int.mul_add, hyz]
  generalize -m * y / d = p at *
  generalize -m * z / d = q at *
  have h4 : d * (p + q + m) = -(-m * y % d) - (-m * z % d) := by
    rw [Int.mul_add, Int.mul_add]
    have : d * m = -(-m * d) := by rw [Int.neg_mul, Int.neg_neg, Int.mul_comm]
    omega
  constructor
  · by_cases h : p + q + m ≤ 0
    · omega
    · have : d * 1 ≤ d * (p + q + m) := Int.mul_le_mul_of_nonneg_left (by omega) (by omega)
      omega
  · by_cases h : -1 ≤ p + q + m
    · omega
    · have : d * (p + q + m) ≤ d * -2 := Int.mul_le_mul_of_nonneg_left (by omega) (by omega)
      omega
theorem up_mono {m y z d : Int} (hm : 0 ≤ m) (hd : 0 < d) (h : y ≤ z) : upDiv m y d ≤ upDiv m z d := by
  unfold upDiv
  have : -m * z ≤ -m * y := by
    rw [Int.neg_mul, Int.neg_mul]
    have := Int.mul_le_mul_of_nonneg_left h hm
    omega
  have := Int.ediv_le_ediv hd this
  omega
theorem up_zero {m d : Int} : upDiv m 0 d = 0 := by unfold upDiv; simp
theorem up_whole {m d : Int} (hd : 0 < d) : upDiv m d d = m := by
  unfold upDiv
  rw [Int.mul_ediv_cancel _ (by omega)]; omega
structure LeverLaw (mass a b x p q : Int) : Prop where
  hm : 1 ≤ mass ∧ mass ≤ 16777216
  ha : -16777216 ≤ a ∧ a ≤ 16777216
  hb : -16777216 ≤ b ∧ b ≤ 16777216
  hx : -16777216 ≤ x ∧ x ≤ 16777216
  hp : 0 ≤ p ∧ p ≤ mass
  hq : 0 ≤ q ∧ q ≤ mass
  sum : mass ≤ p + q ∧ p + q ≤ mass + 1
  near : x - a ≤ b - x → q ≤ p
  far : b - x ≤ x - a → p ≤ q
theorem lever_law {mass a b x p q e : Int} (h : lever mass a b x = (p, q, e)) : (e ≠ 0 → p = 0 ∧ q = 0) ∧ (e = 0 → LeverLaw mass a b x p q) := by
  unfold lever at h
  split at h
  · rename_i hv
    simp only [Bool.and_eq_true, between_iff] at hv
    split at h
    · injection h with h1 h2; injection h2 with h2 h3; omega
    · split at h
      · rename_i hx
        rw [between_iff] at hx
        injection h with h1 h2; injection h2 with h2 h3
        subst h1; subst h2
        refine ⟨fun he => by omega, fun _ => ?_⟩
        have hs := up_half (m := mass) (y := b - x) (z := x - a) (d := b - a) (by omega) (by omega)
        have m1 := up_mono (m := mass) (y := 0) (z := b - x) (d := b - a) (by omega) (by omega) (by omega)
        have m2 := up_mono (m := mass) (y := b - x) (z := b - a) (d := b - a) (by omega) (by omega) (by omega)
        have m3 := up_mono (m := mass) (y := 0) (z := x - a) (d := b - a) (by omega) (by omega) (by omega)
        have m4 := up_mono (m := mass) (y := x - a) (z := b - a) (d := b - a) (by omega) (by omega) (by omega)
        rw [up_zero] at m1 m3
        rw [up_whole (by omega)] at m2 m4
        exact ⟨hv.1.1.1, hv.1.1.2, hv.1.2, hv.2, ⟨m1, m2⟩, ⟨m3, m4⟩, hs, fun h => up_mono (by omega) (by omega) (by omega), fun h => up_mono (by omega) (by omega) (by omega)⟩
      · injection h with h1 h2; injection h2 with h2 h3; omega
  · injection h with h1 h2; injection h2 with h2 h3; omega
theorem Lever_gives' {mass a b x p q e : Int} (h : lever mass a b x = (p, q, e)) (w : World) : Gives Try.prog 15 #[.int .i64 mass, .int .i64 a, .int .i64 b, .int .i64 x] w (.tuple #[.int .i64 p, .int .i64 q, .int .i64 e]) := by
  have := Lever_gives mass a b x w
  rw [h] at this
  exact this
theorem StaticsLevers_gives (mass a b x : Int) (w : World) : Gives Try.prog 3 #[.int .i64 mass, .int .i64 a, .int .i64 b, .int .i64 x] w (.bool true) := by
  obtain ⟨p, q, e, he⟩ : ∃ p q e, lever mass a b x = (p, q, e) := ⟨_, _, _, rfl⟩
  have hlaw := lever_law he
  refine calls_of (vs := [.int .i64 mass, .int .i64 a, .int .i64 b, .int .i64 x]) Try.func3 rfl rfl rfl ?_
  show Cd _ _ _ _ _ [(0, .int .i64 mass), (1, .int .i64 a), (2, .int .i64 b), (3, .int .i64 x)] []
  refine Cd.seq (Cd.region (Rg.val (Val.assign rfl) rfl (Rg.nil (Rx.seq (Cd.seq (Cd.region (Rg.val (Val.move rfl) rfl (Rg.val (Val.move rfl) rfl (Rg.val (Val.move rfl) rfl (Rg.val (Val.move rfl) rfl (Rg.eff (Eff.give rfl rfl en15 rfl (fun w hm => Lever_gives' he w)) rfl fun _ _ => (Rg.val (Val.move rfl) rfl (Rg.val (Val.extract rfl rfl) rfl (Rg.val (Val.extract rfl rfl) rfl (Rg.val (Val.extract rfl rfl) rfl (Rg.val (Val.assign rfl) rfl (Rg.val (Val.assign rfl) rfl (Rg.val (Val.assign rfl) rfl (Rg.nil (Rx.seq (Cd.seq (Cd.seq (Cd.region (Rg.val (Val.move rfl) rfl (Rg.val (Val.neq rfl rfl) rfl (Rg.nil (Rx.seq (Cd.cond rfl (fun c1 => ?_) (fun c1 => ?_)))))))))))))))))))))))))))))
  · replace c1 := bnot_t c1
    replace c1 := of_decide_eq_false c1
    obtain ⟨lp, lq⟩ := hlaw.1 c1
    refine Cd.seq (Cd.region (Rg.val (Val.move rfl) rfl (Rg.val (Val.eql rfl rfl) rfl (Rg.val (Val.move rfl) rfl (Rg.know (t := 25) rfl (decide_eq_true (by omega)) (Rg.on rfl rfl rfl (Rg.val (Val.move rfl) rfl (Rg.on rfl rfl rfl (Rg.val (Val.eql rfl rfl) rfl (Rg.val (Val.pickT rfl rfl) rfl (Rg.val (Val.move rfl) rfl (Rg.know (t := 29) rfl (decide_eq_true (by omega)) (Rg.on rfl rfl rfl (Rg.eff (Eff.give rfl rfl en16 rfl (fun w hm => known_gives w)) rfl fun _ _ => (Rg.val (Val.pickT rfl rfl) rfl (Rg.val (Val.assign rfl) rfl (Rg.nil (Rx.seq (Cd.ret (Rx.pastR (Rx.ret1 rfl rfl fun w hm_ => (⟨rfl, hm_.below⟩))))))))))))))))))))))
  · replace c1 := bnot_f c1
    replace c1 := of_decide_eq_true c1
    obtain ⟨lm, la, lb, lx, lp, lq, ls, ln, lf⟩ := hlaw.2 c1
    refine Cd.skip (Rx.seq (Cd.seq (Cd.seq (Cd.region (Rg.val (Val.move rfl) rfl (Rg.val (Val.lss rfl rfl) rfl (Rg.val (Val.move rfl) rfl (Rg.know (t := 34) rfl (decide_eq_false (by omega)) (Rg.on rfl rfl rfl (Rg.val (Val.move rfl) rfl (Rg.on rfl rfl rfl (Rg.val (Val.lss rfl rfl) rfl (Rg.val (Val.pickF rfl rfl) rfl (Rg.val (Val.move rfl) rfl (Rg.know (t := 38) rfl (decide_eq_false (by omega)) (Rg.on rfl rfl rfl (Rg.val (Val.move rfl) rfl (Rg.on rfl rfl rfl (Rg.val (Val.move rfl) rfl (Rg.on rfl rfl rfl (Rg.val (Val.addN rfl rfl (by unfold in64; omega)) rfl (Rg.on rfl rfl rfl (Rg.val (Val.move rfl) rfl (Rg.on rfl rfl rfl (Rg.val (Val.lss rfl rfl) rfl (Rg.val (Val.pickF rfl rfl) rfl (Rg.val (Val.move rfl) rfl (Rg.know (t := 45) rfl (decide_eq_false (by omega)) (Rg.on rfl rfl rfl (Rg.val (Val.move rfl) rfl (Rg.on rfl rfl rfl (Rg.val (Val.move rfl) rfl (Rg.on rfl rfl rfl (Rg.val (Val.addN rfl rfl (by unfold in64; omega)) rfl (Rg.on rfl rfl rfl (Rg.val (Val.move rfl) rfl (Rg.on rfl rfl rfl (Rg.val (Val.addN rfl rfl (by unfold in64; omega)) rfl (Rg.on rfl rfl rfl ?_)))))))))))))))))))))))))))))))))))))))
    refine Rg.val (Val.gtr rfl rfl) rfl (Rg.val (Val.pickF rfl rfl) rfl (Rg.nil (Rx.seq (Cd.know (t := 52) rfl (decide_eq_false (by omega)) (Cd.no rfl (Cd.skip (Rx.seq (Cd.seq (Cd.region (Rg.val (Val.move rfl) rfl (Rg.val (Val.move rfl) rfl (Rg.val (Val.subN rfl rfl (by unfold in64; omega)) rfl (Rg.val (Val.move rfl) rfl (Rg.val (Val.move rfl) rfl (Rg.val (Val.subN rfl rfl (by unfold in64; omega)) rfl (Rg.val (Val.gtr rfl rfl) rfl (Rg.val (Val.move rfl) rfl (Rg.split 60 rfl (fun c7 => ?_) (fun c7 => ?_)))))))))))))))))))
    · replace c7 := of_decide_eq_true c7
      refine Rg.off rfl rfl rfl rfl (Rg.off rfl rfl rfl rfl (Rg.off rfl rfl rfl rfl (Rg.val (Val.pickT rfl rfl) rfl (Rg.val (Val.move rfl) rfl (Rg.on rfl rfl rfl (Rg.val (Val.move rfl) rfl (Rg.on rfl rfl rfl (Rg.val (Val.move rfl) rfl (Rg.on rfl rfl rfl (Rg.val (Val.subN rfl rfl (by unfold in64; omega)) rfl (Rg.on rfl rfl rfl (Rg.val (Val.move rfl) rfl (Rg.on rfl rfl rfl (Rg.val (Val.move rfl) rfl (Rg.on rfl rfl rfl (Rg.val (Val.subN rfl rfl (by unfold in64; omega)) rfl (Rg.on rfl rfl rfl (Rg.val (Val.lss rfl rfl) rfl (Rg.on rfl rfl rfl (Rg.val (Val.move rfl) rfl (Rg.split 73 rfl (fun c8 => ?_) (fun c8 => ?_))))))))))))))))))))))
      · replace c8 := of_decide_eq_true c8
        refine Rg.off rfl rfl rfl rfl (Rg.off rfl rfl rfl rfl (Rg.off rfl rfl rfl rfl (Rg.on rfl rfl rfl (Rg.val (Val.pickT rfl rfl) rfl (Rg.val (Val.pickT rfl rfl) rfl (Rg.val (Val.move rfl) rfl (Rg.on rfl rfl rfl (Rg.val (Val.move rfl) rfl (Rg.on rfl rfl rfl (Rg.val (Val.move rfl) rfl (Rg.on rfl rfl rfl (Rg.val (Val.subN rfl rfl (by unfold in64; omega)) rfl (Rg.on rfl rfl rfl (Rg.val (Val.move rfl) rfl (Rg.on rfl rfl rfl (Rg.val (Val.move rfl) rfl (Rg.on rfl rfl rfl (Rg.val (Val.subN rfl rfl (by unfold in64; omega)) rfl (Rg.on rfl rfl rfl (Rg.val (Val.neq rfl rfl) rfl (Rg.on rfl rfl rfl (Rg.val (Val.move rfl) rfl (Rg.split 87 rfl (fun c9 => ?_) (fun c9 => ?_))))))))))))))))))))))))
        · replace c9 := bnot_t c9
          replace c9 := of_decide_eq_false c9
          refine Rg.off rfl rfl rfl rfl (Rg.off rfl rfl rfl rfl (Rg.off rfl rfl rfl rfl (Rg.on rfl rfl rfl (Rg.val (Val.pickT rfl rfl) rfl (Rg.val (Val.pickT rfl rfl) rfl (Rg.val (Val.move rfl) rfl (Rg.on rfl rfl rfl (Rg.eff (Eff.give rfl rfl en16 rfl (fun w hm => known_gives w)) rfl fun _ _ => (Rg.val (Val.pickT rfl rfl) rfl (Rg.val (Val.assign rfl) rfl (Rg.nil (Rx.seq (Cd.ret (Rx.ret1 rfl rfl fun w hm_ => (⟨rfl, hm_.below⟩)))))))))))))))
        · replace c9 := bnot_f c9
          replace c9 := of_decide_eq_true c9
          refine Rg.on rfl rfl rfl (Rg.val (Val.move rfl) rfl (Rg.on rfl rfl rfl (Rg.val (Val.move rfl) rfl (Rg.on rfl rfl rfl (Rg.val (Val.eql rfl rfl) rfl (Rg.on rfl rfl rfl (Rg.val (Val.pickF rfl rfl) rfl (Rg.val (Val.pickT rfl rfl) rfl (Rg.val (Val.move rfl) rfl (Rg.know (t := 93) rfl (decide_eq_true (by omega)) (Rg.on rfl rfl rfl (Rg.eff (Eff.give rfl rfl en16 rfl (fun w hm => known_gives w)) rfl fun _ _ => (Rg.val (Val.pickT rfl rfl) rfl (Rg.val (Val.assign rfl) rfl (Rg.nil (Rx.seq (Cd.ret (Rx.ret1 rfl rfl fun w hm_ => (⟨rfl, hm_.below⟩)))))))))))))))))))
      · replace c8 := of_decide_eq_false c8
        refine Rg.on rfl rfl rfl (Rg.val (Val.move rfl) rfl (Rg.on rfl rfl rfl (Rg.val (Val.move rfl) rfl (Rg.on rfl rfl rfl (Rg.val (Val.geq rfl rfl) rfl (Rg.on rfl rfl rfl (Rg.val (Val.pickF rfl rfl) rfl (Rg.val (Val.pickT rfl rfl) rfl (Rg.val (Val.move rfl) rfl (Rg.know (t := 79) rfl (decide_eq_true (by omega)) (Rg.on rfl rfl rfl (Rg.val (Val.move rfl) rfl (Rg.on rfl rfl rfl (Rg.val (Val.move rfl) rfl (Rg.on rfl rfl rfl (Rg.val (Val.subN rfl rfl (by unfold in64; omega)) rfl (Rg.on rfl rfl rfl (Rg.val (Val.move rfl) rfl (Rg.on rfl rfl rfl (Rg.val (Val.move rfl) rfl (Rg.on rfl rfl rfl (Rg.val (Val.subN rfl rfl (by unfold in64; omega)) rfl (Rg.on rfl rfl rfl (Rg.val (Val.neq rfl rfl) rfl (Rg.on rfl rfl rfl (Rg.val (Val.move rfl) rfl (Rg.split 87 rfl (fun c12 => ?_) (fun c12 => ?_))))))))))))))))))))))))))))
        · replace c12 := bnot_t c12
          replace c12 := of_decide_eq_false c12
          refine Rg.off rfl rfl rfl rfl (Rg.off rfl rfl rfl rfl (Rg.off rfl rfl rfl rfl (Rg.on rfl rfl rfl (Rg.val (Val.pickT rfl rfl) rfl (Rg.val (Val.pickT rfl rfl) rfl (Rg.val (Val.move rfl) rfl (Rg.on rfl rfl rfl (Rg.eff (Eff.give rfl rfl en16 rfl (fun w hm => known_gives w)) rfl fun _ _ => (Rg.val (Val.pickT rfl rfl) rfl (Rg.val (Val.assign rfl) rfl (Rg.nil (Rx.seq (Cd.ret (Rx.ret1 rfl rfl fun w hm_ => (⟨rfl, hm_.below⟩)))))))))))))))
        · replace c12 := bnot_f c12
          replace c12 := of_decide_eq_true c12
          refine Rg.on rfl rfl rfl (Rg.val (Val.move rfl) rfl (Rg.on rfl rfl rfl (Rg.val (Val.move rfl) rfl (Rg.on rfl rfl rfl (Rg.val (Val.eql rfl rfl) rfl (Rg.on rfl rfl rfl (Rg.val (Val.pickF rfl rfl) rfl (Rg.val (Val.pickT rfl rfl) rfl (Rg.val (Val.move rfl) rfl (Rg.know (t := 93) rfl (decide_eq_true (by omega)) (Rg.on rfl rfl rfl (Rg.eff (Eff.give rfl rfl en16 rfl (fun w hm => known_gives w)) rfl fun _ _ => (Rg.val (Val.pickT rfl rfl) rfl (Rg.val (Val.assign rfl) rfl (Rg.nil (Rx.seq (Cd.ret (Rx.ret1 rfl rfl fun w hm_ => (⟨rfl, hm_.below⟩)))))))))))))))))))
    · replace c7 := of_decide_eq_false c7
      refine Rg.on rfl rfl rfl (Rg.val (Val.move rfl) rfl (Rg.on rfl rfl rfl (Rg.val (Val.move rfl) rfl (Rg.on rfl rfl rfl (Rg.val (Val.geq rfl rfl) rfl (Rg.val (Val.pickF rfl rfl) rfl (Rg.val (Val.move rfl) rfl (Rg.know (t := 65) rfl (decide_eq_true (by omega)) (Rg.on rfl rfl rfl (Rg.val (Val.move rfl) rfl (Rg.on rfl rfl rfl (Rg.val (Val.move rfl) rfl (Rg.on rfl rfl rfl (Rg.val (Val.subN rfl rfl (by unfold in64; omega)) rfl (Rg.on rfl rfl rfl (Rg.val (Val.move rfl) rfl (Rg.on rfl rfl rfl (Rg.val (Val.move rfl) rfl (Rg.on rfl rfl rfl (Rg.val (Val.subN rfl rfl (by unfold in64; omega)) rfl (Rg.on rfl rfl rfl (Rg.val (Val.lss rfl rfl) rfl (Rg.on rfl rfl rfl (Rg.val (Val.move rfl) rfl (Rg.split 73 rfl (fun c15 => ?_) (fun c15 => ?_))))))))))))))))))))))))))
      · replace c15 := of_decide_eq_true c15
        refine Rg.off rfl rfl rfl rfl (Rg.off rfl rfl rfl rfl (Rg.off rfl rfl rfl rfl (Rg.on rfl rfl rfl (Rg.val (Val.pickT rfl rfl) rfl (Rg.val (Val.pickT rfl rfl) rfl (Rg.val (Val.move rfl) rfl (Rg.on rfl rfl rfl (Rg.val (Val.move rfl) rfl (Rg.on rfl rfl rfl (Rg.val (Val.move rfl) rfl (Rg.on rfl rfl rfl (Rg.val (Val.subN rfl rfl (by unfold in64; omega)) rfl (Rg.on rfl rfl rfl (Rg.val (Val.move rfl) rfl (Rg.on rfl rfl rfl (Rg.val (Val.move rfl) rfl (Rg.on rfl rfl rfl (Rg.val (Val.subN rfl rfl (by unfold in64; omega)) rfl (Rg.on rfl rfl rfl (Rg.val (Val.neq rfl rfl) rfl (Rg.on rfl rfl rfl (Rg.val (Val.move rfl) rfl (Rg.split 87 rfl (fun c16 => ?_) (fun c16 => ?_))))))))))))))))))))))))
        · replace c16 := bnot_t c16
          replace c16 := of_decide_eq_false c16
          refine Rg.off rfl rfl rfl rfl (Rg.off rfl rfl rfl rfl (Rg.off rfl rfl rfl rfl (Rg.on rfl rfl rfl (Rg.val (Val.pickT rfl rfl) rfl (Rg.val (Val.pickT rfl rfl) rfl (Rg.val (Val.move rfl) rfl (Rg.on rfl rfl rfl (Rg.eff (Eff.give rfl rfl en16 rfl (fun w hm => known_gives w)) rfl fun _ _ => (Rg.val (Val.pickT rfl rfl) rfl (Rg.val (Val.assign rfl) rfl (Rg.nil (Rx.seq (Cd.ret (Rx.ret1 rfl rfl fun w hm_ => (⟨rfl, hm_.below⟩)))))))))))))))
        · replace c16 := bnot_f c16
          replace c16 := of_decide_eq_true c16
          refine Rg.on rfl rfl rfl (Rg.val (Val.move rfl) rfl (Rg.on rfl rfl rfl (Rg.val (Val.move rfl) rfl (Rg.on rfl rfl rfl (Rg.val (Val.eql rfl rfl) rfl (Rg.on rfl rfl rfl (Rg.val (Val.pickF rfl rfl) rfl (Rg.val (Val.pickT rfl rfl) rfl (Rg.val (Val.move rfl) rfl (Rg.know (t := 93) rfl (decide_eq_true (by omega)) (Rg.on rfl rfl rfl (Rg.eff (Eff.give rfl rfl en16 rfl (fun w hm => known_gives w)) rfl fun _ _ => (Rg.val (Val.pickT rfl rfl) rfl (Rg.val (Val.assign rfl) rfl (Rg.nil (Rx.seq (Cd.ret (Rx.ret1 rfl rfl fun w hm_ => (⟨rfl, hm_.below⟩)))))))))))))))))))
      · replace c15 := of_decide_eq_false c15
        refine Rg.on rfl rfl rfl (Rg.val (Val.move rfl) rfl (Rg.on rfl rfl rfl (Rg.val (Val.move rfl) rfl (Rg.on rfl rfl rfl (Rg.val (Val.geq rfl rfl) rfl (Rg.on rfl rfl rfl (Rg.val (Val.pickF rfl rfl) rfl (Rg.val (Val.pickT rfl rfl) rfl (Rg.val (Val.move rfl) rfl (Rg.know (t := 79) rfl (decide_eq_true (by omega)) (Rg.on rfl rfl rfl (Rg.val (Val.move rfl) rfl (Rg.on rfl rfl rfl (Rg.val (Val.move rfl) rfl (Rg.on rfl rfl rfl (Rg.val (Val.subN rfl rfl (by unfold in64; omega)) rfl (Rg.on rfl rfl rfl (Rg.val (Val.move rfl) rfl (Rg.on rfl rfl rfl (Rg.val (Val.move rfl) rfl (Rg.on rfl rfl rfl (Rg.val (Val.subN rfl rfl (by unfold in64; omega)) rfl (Rg.on rfl rfl rfl (Rg.val (Val.neq rfl rfl) rfl (Rg.on rfl rfl rfl (Rg.val (Val.move rfl) rfl (Rg.split 87 rfl (fun c19 => ?_) (fun c19 => ?_))))))))))))))))))))))))))))
        · replace c19 := bnot_t c19
          replace c19 := of_decide_eq_false c19
          refine Rg.off rfl rfl rfl rfl (Rg.off rfl rfl rfl rfl (Rg.off rfl rfl rfl rfl (Rg.on rfl rfl rfl (Rg.val (Val.pickT rfl rfl) rfl (Rg.val (Val.pickT rfl rfl) rfl (Rg.val (Val.move rfl) rfl (Rg.on rfl rfl rfl (Rg.eff (Eff.give rfl rfl en16 rfl (fun w hm => known_gives w)) rfl fun _ _ => (Rg.val (Val.pickT rfl rfl) rfl (Rg.val (Val.assign rfl) rfl (Rg.nil (Rx.seq (Cd.ret (Rx.ret1 rfl rfl fun w hm_ => (⟨rfl, hm_.below⟩)))))))))))))))
        · replace c19 := bnot_f c19
          replace c19 := of_decide_eq_true c19
          refine Rg.on rfl rfl rfl (Rg.val (Val.move rfl) rfl (Rg.on rfl rfl rfl (Rg.val (Val.move rfl) rfl (Rg.on rfl rfl rfl (Rg.val (Val.eql rfl rfl) rfl (Rg.on rfl rfl rfl (Rg.val (Val.pickF rfl rfl) rfl (Rg.val (Val.pickT rfl rfl) rfl (Rg.val (Val.move rfl) rfl (Rg.know (t := 93) rfl (decide_eq_true (by omega)) (Rg.on rfl rfl rfl (Rg.eff (Eff.give rfl rfl en16 rfl (fun w hm => known_gives w)) rfl fun _ _ => (Rg.val (Val.pickT rfl rfl) rfl (Rg.val (Val.assign rfl) rfl (Rg.nil (Rx.seq (Cd.ret (Rx.ret1 rfl rfl fun w hm_ => (⟨rfl, hm_.below⟩)))))))))))))))))))

end Go.Proofs.Ytfekoippjmojgaa
