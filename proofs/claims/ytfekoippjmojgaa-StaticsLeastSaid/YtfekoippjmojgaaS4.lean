/- Walks of functions of the program: what each returns, told by plain functions; nothing that lay there is turned. -/
import Derived.Test.YtfekoippjmojgaaS3
namespace Go.Proofs.Ytfekoippjmojgaa
open Go.Kx Go.RowKit
set_option maxRecDepth 100000
set_option linter.unusedVariables false
set_option linter.unusedSimpArgs false
set_option linter.constructorNameAsVariable false
theorem place_gives (x : Int) (w : World) : Gives Try.prog 47 #[.int .i64 x] w (.bool (between x (-16777216) 16777216)) := by
  refine calls_of (vs := [.int .i64 x]) Try.func47 rfl rfl rfl ?_
  show Cd _ _ _ _ _ [(0, .int .i64 x)] []
  refine Cd.seq (Cd.region (Rg.val (Val.assign rfl) rfl (Rg.nil (Rx.seq (Cd.seq (Cd.region (Rg.val (Val.move rfl) rfl (Rg.eff (Eff.give rfl rfl en48 rfl (fun w hm => between_gives _ _ _ w)) rfl fun _ _ => (Rg.val (Val.assign rfl) rfl (Rg.nil (Rx.seq (Cd.ret (Rx.ret1 rfl rfl fun w hm_ => (⟨by first | rfl | simp [*], hm_.below⟩))))))))))))))

/-- What both ends of a line carry, and the error. -/
def lever (m a b x : Int) : Int × Int × Int :=
  if between m 1 16777216 && between a (-16777216) 16777216 && between b (-16777216) 16777216 && between x (-16777216) 16777216 then
    if b ≤ a then (0, 0, 9) else if between x a b then (upDiv m (b - x) (b - a), upDiv m (x - a) (b - a), 0) else (0, 0, 19)
  else (0, 0, 3)
theorem lever_frac {m y d : Int} (hm : 1 ≤ m ∧ m ≤ 16777216) (hd : 0 < d ∧ d ≤ 67108864) (hy : 0 ≤ y ∧ y ≤ d) : Frac m y d := by
  refine ⟨by omega, by omega, by omega, ?_⟩
  have h1 : m * y ≤ 16777216 * y := Int.mul_le_mul_of_nonneg_right hm.2 hy.1
  rw [show am m = m from by unfold am; omega, show am y = y from by unfold am; omega]
  omega
theorem Lever_gives.bld_0 (y0 : Int) (y1 : Int) (y2 : Int) (w : World) : (Instr.build 83 #[(0, .int .i64 y0), (1, .int .i64 y1), (2, .int .i64 y2)]).run Try.prog w = .ok (.agg #[.int .i64 y0, .int .i64 y1, .int .i64 y2]) w := by kernel_rfl
open Lever_gives in
theorem Lever_gives (m a b x : Int) (w : World) : Gives Try.prog 15 #[.int .i64 m, .int .i64 a, .int .i64 b, .int .i64 x] w (.tuple #[.int .i64 (lever m a b x).1, .int .i64 (lever m a b x).2.1, .int .i64 (lever m a b x).2.2]) := by
  refine calls_of (vs := [.int .i64 m, .int .i64 a, .int .i64 b, .int .i64 x]) Try.func15 rfl rfl rfl ?_
  show Cd _ _ _ _ _ [(0, .int .i64 m), (1, .int .i64 a), (2, .int .i64 b), (3, .int .i64 x)] []
  refine Cd.seq (Cd.region (Rg.val (Val.assign rfl) rfl (Rg.val (Val.assign rfl) rfl (Rg.val (Val.assign rfl) rfl (Rg.nil (Rx.seq (Cd.seq (Cd.region (Rg.val (Val.assign rfl) rfl (Rg.nil (Rx.seq (Cd.seq (Cd.block (Cd.seq (Cd.region (Rg.val (Val.move rfl) rfl (Rg.eff (Eff.give rfl rfl en49 rfl (fun w hm => validMass_gives _ w)) rfl fun _ _ => (Rg.val (Val.not rfl) rfl (Rg.val (Val.move rfl) rfl (Rg.split 16 rfl (fun c1 => ?_) (fun c1 => ?_)))))))))))))))))))))
  · replace c1 := bnot_t c1
    refine Rg.off rfl rfl rfl rfl (Rg.off rfl rfl rfl rfl (Rg.off rfl rfl rfl rfl (Rg.off rfl rfl rfl rfl (Rg.val (Val.pickT rfl rfl) rfl (Rg.val (Val.move rfl) rfl (Rg.off rfl rfl rfl rfl (Rg.off rfl rfl rfl rfl (Rg.off rfl rfl rfl rfl (Rg.off rfl rfl rfl rfl (Rg.val (Val.pickT rfl rfl) rfl (Rg.val (Val.move rfl) rfl (Rg.off rfl rfl rfl rfl (Rg.off rfl rfl rfl rfl (Rg.off rfl rfl rfl rfl (Rg.off rfl rfl rfl rfl (Rg.val (Val.pickT rfl rfl) rfl (Rg.val (Val.assign rfl) rfl (Rg.nil (Rx.seq (Cd.yes rfl (Cd.seq (Cd.region (Rg.val (Val.assign rfl) rfl (Rg.val (Val.assign rfl) rfl (Rg.val (Val.assign rfl) rfl (Rg.nil (Rx.seq (Cd.ret (Rx.inr (Rx.pastR (Rx.ret3 rfl rfl rfl rfl fun w hm_ => (⟨by first | rfl | simp [lever, *], hm_.below⟩))))))))))))))))))))))))))))))))
  · replace c1 := bnot_f c1
    have kc1 := between_iff.1 c1
    refine Rg.on rfl rfl rfl (Rg.val (Val.move rfl) rfl (Rg.on rfl rfl rfl (Rg.val (Val.move rfl) rfl (Rg.on rfl rfl rfl (Rg.eff (Eff.give rfl rfl en47 rfl (fun w hm => place_gives _ w)) rfl fun _ _ => (Rg.on rfl rfl rfl (Rg.val (Val.not rfl) rfl (Rg.val (Val.pickF rfl rfl) rfl (Rg.val (Val.move rfl) rfl (Rg.split 22 rfl (fun c2 => ?_) (fun c2 => ?_)))))))))))
    · replace c2 := bnot_t c2
      refine Rg.off rfl rfl rfl rfl (Rg.off rfl rfl rfl rfl (Rg.off rfl rfl rfl rfl (Rg.off rfl rfl rfl rfl (Rg.val (Val.pickT rfl rfl) rfl (Rg.val (Val.move rfl) rfl (Rg.off rfl rfl rfl rfl (Rg.off rfl rfl rfl rfl (Rg.off rfl rfl rfl rfl (Rg.off rfl rfl rfl rfl (Rg.val (Val.pickT rfl rfl) rfl (Rg.val (Val.assign rfl) rfl (Rg.nil (Rx.seq (Cd.yes rfl (Cd.seq (Cd.region (Rg.val (Val.assign rfl) rfl (Rg.val (Val.assign rfl) rfl (Rg.val (Val.assign rfl) rfl (Rg.nil (Rx.seq (Cd.ret (Rx.inr (Rx.pastR (Rx.ret3 rfl rfl rfl rfl fun w hm_ => (⟨by first | rfl | simp [lever, *], hm_.below⟩))))))))))))))))))))))))))
    · replace c2 := bnot_f c2
      have kc2 := between_iff.1 c2
      refine Rg.on rfl rfl rfl (Rg.val (Val.move rfl) rfl (Rg.on rfl rfl rfl (Rg.val (Val.move rfl) rfl (Rg.on rfl rfl rfl (Rg.eff (Eff.give rfl rfl en47 rfl (fun w hm => place_gives _ w)) rfl fun _ _ => (Rg.on rfl rfl rfl (Rg.val (Val.not rfl) rfl (Rg.val (Val.pickF rfl rfl) rfl (Rg.val (Val.move rfl) rfl (Rg.split 28 rfl (fun c3 => ?_) (fun c3 => ?_)))))))))))
      · replace c3 := bnot_t c3
        refine Rg.off rfl rfl rfl rfl (Rg.off rfl rfl rfl rfl (Rg.off rfl rfl rfl rfl (Rg.off rfl rfl rfl rfl (Rg.val (Val.pickT rfl rfl) rfl (Rg.val (Val.assign rfl) rfl (Rg.nil (Rx.seq (Cd.yes rfl (Cd.seq (Cd.region (Rg.val (Val.assign rfl) rfl (Rg.val (Val.assign rfl) rfl (Rg.val (Val.assign rfl) rfl (Rg.nil (Rx.seq (Cd.ret (Rx.inr (Rx.pastR (Rx.ret3 rfl rfl rfl rfl fun w hm_ => (⟨by first | rfl | simp [lever, *], hm_.below⟩))))))))))))))))))))
      · replace c3 := bnot_f c3
        have kc3 := between_iff.1 c3
        refine Rg.on rfl rfl rfl (Rg.val (Val.move rfl) rfl (Rg.on rfl rfl rfl (Rg.val (Val.move rfl) rfl (Rg.on rfl rfl rfl (Rg.eff (Eff.give rfl rfl en47 rfl (fun w hm => place_gives _ w)) rfl fun _ _ => (Rg.on rfl rfl rfl (Rg.val (Val.not rfl) rfl (Rg.val (Val.pickF rfl rfl) rfl (Rg.val (Val.assign rfl) rfl (Rg.nil (Rx.seq (Cd.cond rfl (fun c4 => ?_) (fun c4 => ?_)))))))))))))
        · replace c4 := bnot_t c4
          refine Cd.seq (Cd.region (Rg.val (Val.assign rfl) rfl (Rg.val (Val.assign rfl) rfl (Rg.val (Val.assign rfl) rfl (Rg.nil (Rx.seq (Cd.ret (Rx.inr (Rx.pastR (Rx.ret3 rfl rfl rfl rfl fun w hm_ => (⟨by first | rfl | simp [lever, *], hm_.below⟩)))))))))))
        · replace c4 := bnot_f c4
          have kc4 := between_iff.1 c4
          refine Cd.seq (Cd.region (Rg.val (Val.move rfl) rfl (Rg.val (Val.move rfl) rfl (Rg.val (Val.geq rfl rfl) rfl (Rg.val (Val.assign rfl) rfl (Rg.nil (Rx.seq (Cd.cond rfl (fun c5 => ?_) (fun c5 => ?_)))))))))
          · replace c5 := of_decide_eq_true c5
            refine Cd.seq (Cd.region (Rg.val (Val.assign rfl) rfl (Rg.val (Val.assign rfl) rfl (Rg.val (Val.assign rfl) rfl (Rg.nil (Rx.seq (Cd.ret (Rx.inr (Rx.pastR (Rx.ret3 rfl rfl rfl rfl fun w hm_ => (⟨by first | rfl | simp [lever, *], hm_.below⟩)))))))))))
          · replace c5 := of_decide_eq_false c5
            refine Cd.seq (Cd.region (Rg.val (Val.move rfl) rfl (Rg.val (Val.move rfl) rfl (Rg.val (Val.move rfl) rfl (Rg.eff (Eff.give rfl rfl en48 rfl (fun w hm => between_gives _ _ _ w)) rfl fun _ _ => (Rg.val (Val.not rfl) rfl (Rg.val (Val.assign rfl) rfl (Rg.nil (Rx.seq (Cd.cond rfl (fun c6 => ?_) (fun c6 => ?_)))))))))))
            · replace c6 := bnot_t c6
              refine Cd.seq (Cd.region (Rg.val (Val.assign rfl) rfl (Rg.val (Val.assign rfl) rfl (Rg.val (Val.assign rfl) rfl (Rg.nil (Rx.seq (Cd.ret (Rx.inr (Rx.pastR (Rx.ret3 rfl rfl rfl rfl fun w hm_ => (⟨by first | rfl | simp [lever, *], hm_.below⟩)))))))))))
            · replace c6 := bnot_f c6
              have kc6 := between_iff.1 c6
              refine Cd.skip (Rx.inb (Rx.seq (Cd.seq (Cd.region (Rg.val (Val.move rfl) rfl (Rg.val (Val.move rfl) rfl (Rg.val (Val.move rfl) rfl (Rg.val (Val.subN rfl rfl (by unfold in64; omega)) rfl (Rg.val (Val.move rfl) rfl (Rg.val (Val.move rfl) rfl (Rg.val (Val.subN rfl rfl (by unfold in64; omega)) rfl (Rg.val (Val.build rfl (bld_0 _ _ _)) rfl (Rg.eff (Eff.give rfl rfl en50 rfl (fun w hm => up_gives _ _ _ w (lever_frac (by omega) (by omega) (by omega)))) rfl fun _ _ => (Rg.val (Val.move rfl) rfl (Rg.val (Val.move rfl) rfl (Rg.val (Val.move rfl) rfl (Rg.val (Val.subN rfl rfl (by unfold in64; omega)) rfl (Rg.val (Val.move rfl) rfl (Rg.val (Val.move rfl) rfl (Rg.val (Val.subN rfl rfl (by unfold in64; omega)) rfl (Rg.val (Val.build rfl (bld_0 _ _ _)) rfl (Rg.eff (Eff.give rfl rfl en50 rfl (fun w hm => up_gives _ _ _ w (lever_frac (by omega) (by omega) (by omega)))) rfl fun _ _ => (Rg.val (Val.assign rfl) rfl (Rg.val (Val.assign rfl) rfl (Rg.val (Val.assign rfl) rfl (Rg.nil (Rx.seq (Cd.ret (Rx.ret3 rfl rfl rfl rfl fun w hm_ => (⟨by first | rfl | simp [lever, *], hm_.below⟩))))))))))))))))))))))))))))))

end Go.Proofs.Ytfekoippjmojgaa
