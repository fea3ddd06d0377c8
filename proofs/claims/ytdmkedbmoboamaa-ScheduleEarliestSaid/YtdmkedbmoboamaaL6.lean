/- Walks of functions of the program: what each returns, told by plain functions. -/
import Derived.Test.YtdmkedbmoboamaaA12
namespace Go.Proofs.Ytdmkedbmoboamaa
open Go.Kx Go.RowKit
set_option maxRecDepth 100000
set_option linter.unusedVariables false
set_option linter.unusedSimpArgs false
set_option linter.unnecessarySimpa false
set_option linter.constructorNameAsVariable false
theorem ScheduleEarliest_gives (J : Jb) (ao : Option Addr) (co : Nat) (os : List Rw) (sa : Option Addr) (sc : Nat) (ss : List Int) (w : World) (hJ : JobAt w J) (hO : OrdAt w ao os) (hSs : Rdb w sa 1 encI ss) (hsl : ss.length ≤ 9223372036854775807) : Gives Try.prog 6 #[.agg #[.slice J.ta J.ts.length J.tc, .slice J.aa J.ls.length J.ac, .slice J.ga J.gs.length J.gc], .slice ao os.length co, .slice sa ss.length sc] w (.bool true) := by
  refine calls_of (vs := [.agg #[.slice J.ta J.ts.length J.tc, .slice J.aa J.ls.length J.ac, .slice J.ga J.gs.length J.gc], .slice ao os.length co, .slice sa ss.length sc]) Try.func6 rfl rfl rfl ?_
  show Cd _ _ _ _ _ [(0, .agg #[.slice J.ta J.ts.length J.tc, .slice J.aa J.ls.length J.ac, .slice J.ga J.gs.length J.gc]), (1, .slice ao os.length co), (2, .slice sa ss.length sc)] []
  refine Cd.seq (Cd.region (Rg.eff (Eff.box 1 rfl rfl) rfl fun b1 _ => (Rg.val (Val.assign rfl) rfl (Rg.nil (Rx.seq (Cd.seq (Cd.seq (Cd.region (Rg.val (Val.loadAll (l := 1) rfl rfl ag26 rfl) rfl (Rg.val (Val.move rfl) rfl (Rg.eff (Eff.give rfl rfl en31 rfl (fun w hm => valid_gives J _ _ os w (Mem.job hm hJ) (Mem.ord hm hO))) rfl fun _ _ => (Rg.val (Val.not rfl) rfl (Rg.val (Val.move rfl) rfl (Rg.split 18 rfl (fun c1 => ?_) (fun c1 => ?_)))))))))))))))
  · replace c1 := bnot_t c1
    refine Rg.off rfl rfl rfl rfl (Rg.off rfl rfl rfl rfl (Rg.off rfl rfl rfl rfl (Rg.val (Val.pickT rfl rfl) rfl (Rg.nil (Rx.seq (Cd.yes rfl (Cd.seq (Cd.region (Rg.eff (Eff.give rfl rfl en14 rfl (fun w hm => works_gives w)) rfl fun _ _ => (Rg.val (Val.assign rfl) rfl (Rg.nil (Rx.seq (Cd.ret (Rx.pastR (Rx.ret1 rfl rfl fun w hm_ => (⟨rfl, hm_.below⟩))))))))))))))))
  · replace c1 := bnot_f c1
    obtain ⟨hw, h0_, h8_⟩ := valid_of c1
    refine Rg.on rfl rfl rfl (Rg.val (Val.move rfl) rfl (Rg.on rfl rfl rfl (Rg.val (Val.len Try.underlying24 rfl) rfl (Rg.on rfl rfl rfl (Rg.val (Val.gtr rfl rfl) rfl (Rg.val (Val.pickF rfl rfl) rfl (Rg.nil (Rx.seq (Cd.cond rfl (fun c2 => ?_) (fun c2 => ?_))))))))))
    · replace c2 := of_decide_eq_true c2
      refine Cd.seq (Cd.region (Rg.eff (Eff.give rfl rfl en14 rfl (fun w hm => works_gives w)) rfl fun _ _ => (Rg.val (Val.assign rfl) rfl (Rg.nil (Rx.seq (Cd.ret (Rx.pastR (Rx.ret1 rfl rfl fun w hm_ => (⟨rfl, hm_.below⟩)))))))))
    · replace c2 := of_decide_eq_false c2
      refine Cd.skip (Rx.seq (Cd.seq (Cd.region (Rg.val (Val.loadAll (l := 1) rfl rfl ag26 rfl) rfl (Rg.val (Val.move rfl) rfl (Rg.val (Val.move rfl) rfl (Rg.eff (Eff.give rfl rfl en23 rfl (fun w hm => CheckPlan_gives J _ _ os _ _ ss w (Mem.job hm hJ) (Mem.ord hm hO) hw (hm.rdb hSs) hsl)) rfl fun _ _ => (Rg.val (Val.move rfl) rfl (Rg.val (Val.extract rfl rfl) rfl (Rg.val (Val.extract rfl rfl) rfl (Rg.val (Val.assign rfl) rfl (Rg.val (Val.assign rfl) rfl (Rg.nil (Rx.seq (Cd.seq (Cd.region (Rg.val (Val.loadAll (l := 1) rfl rfl ag26 rfl) rfl (Rg.val (Val.move rfl) rfl (Rg.eff (Eff.call rfl rfl en27 rfl (fun w hm => RowPost.mem 2 hm (Earliest_calls J _ _ os w (Mem.job hm hJ) (Mem.ord hm hO) hw))) rfl fun p3 _ => (Rg.val (Val.move rfl) rfl (Rg.val (Val.extract rfl rfl) rfl (Rg.val (Val.extract rfl rfl) rfl (Rg.val (Val.assign rfl) rfl (Rg.val (Val.assign rfl) rfl (Rg.nil (Rx.seq (Cd.seq (Cd.seq (Cd.region (Rg.val (Val.move rfl) rfl (Rg.val (Val.neq rfl rfl) rfl (Rg.nil (Rx.seq (Cd.cond rfl (fun c4 => ?_) (fun c4 => ?_)))))))))))))))))))))))))))))))))))
      · replace c4 := bnot_t c4
        replace c4 := of_decide_eq_false c4
        obtain ⟨h15_, hy_, hno_⟩ := early_none h0_ c4
        have hpn_ : ¬ (planF J os ss).2 = 0 := fun h => hno_ ⟨_, (planF_plan h).2⟩
        refine Cd.seq (Cd.region (Rg.val (Val.move rfl) rfl (Rg.val (Val.eql rfl rfl) rfl (Rg.val (Val.move rfl) rfl (Rg.know (t := 41) rfl (decide_eq_true h15_) (Rg.on rfl rfl rfl (Rg.val (Val.move rfl) rfl (Rg.on rfl rfl rfl (Rg.val (Val.neq rfl rfl) rfl (Rg.val (Val.pickT rfl rfl) rfl (Rg.val (Val.move rfl) rfl (Rg.know (t := 45) rfl (by simp [hpn_]) (Rg.on rfl rfl rfl (Rg.val (Val.move rfl) rfl (Rg.on rfl rfl rfl (Rg.val (Val.len Try.underlying24 rfl) rfl (Rg.on rfl rfl rfl (Rg.val (Val.eql rfl rfl) rfl (Rg.val (Val.pickT rfl rfl) rfl (Rg.val (Val.move rfl) rfl (Rg.know (t := 50) rfl (by simp [hy_]) (Rg.on rfl rfl rfl (Rg.eff (Eff.give rfl rfl en14 rfl (fun w hm => works_gives w)) rfl fun _ _ => (Rg.val (Val.pickT rfl rfl) rfl (Rg.val (Val.assign rfl) rfl (Rg.nil (Rx.seq (Cd.ret (Rx.pastR (Rx.ret1 rfl rfl fun w hm_ => (⟨rfl, hm_.below⟩)))))))))))))))))))))))))))))))
      · replace c4 := bnot_f c4
        replace c4 := of_decide_eq_true c4
        have hl_ := early_some h0_ c4
        have hp0_ := planF_of h0_ hl_.plan
        have hyl_ := hl_.plan.len
        refine Cd.skip (Rx.seq (Cd.seq (Cd.region (Rg.val (Val.loadAll (l := 1) rfl rfl ag26 rfl) rfl (Rg.val (Val.move rfl) rfl (Rg.val (Val.move rfl) rfl (Rg.eff (Eff.give rfl rfl en23 rfl (fun w hm => CheckPlan_gives J _ _ os _ _ (EarlY J os) w (Mem.job hm hJ) (Mem.ord hm hO) hw (Rdb.of_row (l := 2) hm rfl (fun _ => rfl)) (by rw [hyl_]; omega))) rfl fun _ _ => (Rg.val (Val.move rfl) rfl (Rg.val (Val.extract rfl rfl) rfl (Rg.val (Val.extract rfl rfl) rfl (Rg.val (Val.assign rfl) rfl (Rg.val (Val.assign rfl) rfl (Rg.nil (Rx.seq (Cd.seq (Cd.seq (Cd.region (Rg.val (Val.move rfl) rfl (Rg.val (Val.neq rfl rfl) rfl (Rg.val (Val.move rfl) rfl (Rg.know (t := 62) rfl (by simp [hp0_]) (Rg.on rfl rfl rfl (Rg.val (Val.move rfl) rfl (Rg.on rfl rfl rfl (Rg.val (Val.len Try.underlying24 rfl) rfl (Rg.on rfl rfl rfl (Rg.val (Val.fa rfl (fa26_0 _ _)) rfl (Rg.on rfl rfl rfl (Rg.val (Val.load (l := 1) rfl rfl sc22 rfl) rfl (Rg.on rfl rfl rfl (Rg.val (Val.len Try.underlying22 rfl) rfl (Rg.on rfl rfl rfl (Rg.val (Val.neq rfl rfl) rfl (Rg.val (Val.pickF rfl rfl) rfl (Rg.nil (Rx.seq (Cd.know (t := 69) rfl (by simp [hyl_]) (Cd.no rfl (Cd.skip ?_)))))))))))))))))))))))))))))))))))))))
        refine Rx.seq (Cd.seq (Cd.seq (Cd.region (Rg.val (Val.assign rfl) rfl (Rg.nil (Rx.seq (Cd.block ?_)))))))
        refine Cd.loop (A := Nat) (fun k : Nat => k ≤ (EarlY J os).length)
            (fun k : Nat => [(2, .slice sa ss.length sc), (8, .int .i64 ((planF J os ss).2)), (9, .slice p3.1 (EarlY J os).length p3.2), (13, .int .i64 (k : Int))])
            (fun k : Nat => [(1, blk b1 [.slice J.ta J.ts.length J.tc, .slice J.aa J.ls.length J.ac, .slice J.ga J.gs.length J.gc] 26), (2, rowL 2 1 encI p3.1 p3.2 (EarlY J os))])
            (fun k : Nat => (EarlY J os).length - k) 0 ?_ ⟨rfl, rfl, rfl, rfl, trivial⟩ ⟨rfl, rfl, trivial⟩ ?_
        · exact Nat.zero_le _
        · rintro k hk
          show Cd _ _ _ _ _ [(2, .slice sa ss.length sc), (8, .int .i64 ((planF J os ss).2)), (9, .slice p3.1 (EarlY J os).length p3.2), (13, .int .i64 (k : Int))] [(1, blk b1 [.slice J.ta J.ts.length J.tc, .slice J.aa J.ls.length J.ac, .slice J.ga J.gs.length J.gc] 26), (2, rowL 2 1 encI p3.1 p3.2 (EarlY J os))]
          refine Cd.seq (Cd.seq (Cd.region (Rg.val (Val.move rfl) rfl (Rg.val (Val.eql rfl rfl) rfl (Rg.val (Val.move rfl) rfl (Rg.split 72 rfl (fun c9 => ?_) (fun c9 => ?_)))))))
          · replace c9 := of_decide_eq_true c9
            have hpl_ := (planF_plan c9).2
            have hsl2_ := hpl_.len
            refine Rg.on rfl rfl rfl (Rg.val (Val.move rfl) rfl (Rg.on rfl rfl rfl (Rg.val (Val.move rfl) rfl (Rg.on rfl rfl rfl (Rg.val (Val.len Try.underlying24 rfl) rfl (Rg.on rfl rfl rfl (Rg.val (Val.lss rfl rfl) rfl (Rg.val (Val.pickT rfl rfl) rfl (Rg.nil (Rx.seq (Cd.cond rfl (fun c10 => ?_) (fun c10 => ?_))))))))))))
            · replace c10 := of_decide_eq_true c10
              refine Cd.skip (Rx.seq (Cd.seq (Cd.block (Cd.seq (Cd.draw [(1, blk b1 [.slice J.ta J.ts.length J.tc, .slice J.aa J.ls.length J.ac, .slice J.ga J.gs.length J.gc] 26), (2, rowL 2 1 encI p3.1 p3.2 (EarlY J os))] mixed rfl (Dr.take 0 rfl (by kernel_rfl) (Val.move rfl) rfl ⟨rfl, rfl, trivial⟩ (Dr.take 1 rfl (by kernel_rfl) (Val.move rfl) rfl ⟨rfl, rfl, trivial⟩ (Dr.take 2 rfl (by kernel_rfl) (Val.len Try.underlying24 rfl) rfl ⟨rfl, rfl, trivial⟩ (Dr.take 3 rfl (by kernel_rfl) (Val.geq rfl rfl) rfl ⟨rfl, rfl, trivial⟩ (Dr.take 4 rfl (by kernel_rfl) (Val.move rfl) rfl ⟨rfl, rfl, trivial⟩ (Dr.know (t := 84) rfl (decide_eq_false (by omega)) (Dr.takeG 5 rfl (by kernel_rfl) rfl rfl rfl (Val.move rfl) rfl ⟨rfl, rfl, trivial⟩ (Dr.takeG 6 rfl (by kernel_rfl) rfl rfl rfl (Val.move rfl) rfl ⟨rfl, rfl, trivial⟩ ?_)))))))))))))
              obtain ⟨x12, hx13⟩ : ∃ x, ss[k]? = some x := ⟨_, List.getElem?_eq_getElem (by omega)⟩
              refine Dr.takeG 7 rfl (by kernel_rfl) rfl rfl rfl (Val.ide Try.underlying24 sz2 rfl rfl hSs (by first | rfl | omega | (simp; done)) hx13 (Nat.le_refl _)) rfl ⟨rfl, rfl, trivial⟩ (Dr.takeG 8 rfl (by kernel_rfl) rfl rfl rfl (Val.loadE (k := 0) rfl sc2 hSs hx13 rfl) rfl ⟨rfl, rfl, trivial⟩ (Dr.takeG 9 rfl (by kernel_rfl) rfl rfl rfl (Val.move rfl) rfl ⟨rfl, rfl, trivial⟩ (Dr.takeG 10 rfl (by kernel_rfl) rfl rfl rfl (Val.move rfl) rfl ⟨rfl, rfl, trivial⟩ ?_)))
              obtain ⟨x14, hx15⟩ : ∃ x, (EarlY J os)[k]? = some x := ⟨_, List.getElem?_eq_getElem (by omega)⟩
              refine Dr.takeG 11 rfl (by kernel_rfl) rfl rfl rfl (Val.ideRow 2 Try.underlying24 sz2 rfl rfl rfl rfl (by first | rfl | omega | (simp; done)) hx15) rfl ⟨rfl, rfl, trivial⟩ (Dr.takeG 12 rfl (by kernel_rfl) rfl rfl rfl (Val.loadRow (k := 0) 2 rfl sc2 rfl (fun _ => rfl) hx15 rfl) rfl ⟨rfl, rfl, trivial⟩ (Dr.takeG 13 rfl (by kernel_rfl) rfl rfl rfl (Val.lss rfl rfl) rfl ⟨rfl, rfl, trivial⟩ (Dr.take 14 rfl (by kernel_rfl) (Val.pickF rfl rfl) rfl ⟨rfl, rfl, trivial⟩ (Dr.done (by kernel_rfl) (Rx.seq (Cd.know (t := 94) rfl (by have := hl_.low ss hpl_ k _ _ hx15 hx13; exact decide_eq_false (by omega)) (Cd.no rfl (Cd.skip (Rx.inb (Rx.seq (Cd.region (Rg.val (Val.move rfl) rfl (Rg.val (Val.addN rfl rfl (by have := h8_; unfold in64; omega)) rfl (Rg.val (Val.assign rfl) rfl (Rg.nil ?_)))))))))))))))
              refine Rx.meet (k + 1) ⟨by show k + 1 ≤ _; omega, by show (EarlY J os).length - (k + 1) < (EarlY J os).length - k; omega⟩ ⟨rfl, rfl, rfl, rfl, trivial⟩ ⟨rfl, rfl, trivial⟩
            · replace c10 := of_decide_eq_false c10
              refine Cd.exit (Rx.pastE (Rx.pastE (Rx.hit (Rx.seq (Cd.seq (Cd.region (Rg.eff (Eff.give rfl rfl en14 rfl (fun w hm => works_gives w)) rfl fun _ _ => (Rg.val (Val.assign rfl) rfl (Rg.nil (Rx.seq (Cd.ret (Rx.ret1 rfl rfl fun w hm_ => (⟨rfl, hm_.below⟩)))))))))))))
          · replace c9 := of_decide_eq_false c9
            refine Rg.off rfl rfl rfl rfl (Rg.off rfl rfl rfl rfl (Rg.off rfl rfl rfl rfl (Rg.off rfl rfl rfl rfl (Rg.val (Val.pickF rfl rfl) rfl (Rg.nil (Rx.seq (Cd.no rfl (Cd.exit (Rx.pastE (Rx.pastE (Rx.hit (Rx.seq (Cd.seq (Cd.region (Rg.eff (Eff.give rfl rfl en14 rfl (fun w hm => works_gives w)) rfl fun _ _ => (Rg.val (Val.assign rfl) rfl (Rg.nil (Rx.seq (Cd.ret (Rx.ret1 rfl rfl fun w hm_ => (⟨rfl, hm_.below⟩)))))))))))))))))))))

end Go.Proofs.Ytdmkedbmoboamaa
