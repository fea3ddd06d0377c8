/- Walks of functions of the program: what each returns, told by plain functions. -/
import Derived.Test.YtdmkedbmoboamaaA12
import Derived.Test.YtdmkedbmoboamaaPR
namespace Go.Proofs.Ytdmkedbmoboamaa
open Go.Kx Go.RowKit
set_option maxRecDepth 100000
set_option linter.unusedVariables false
set_option linter.unusedSimpArgs false
set_option linter.unnecessarySimpa false
set_option linter.constructorNameAsVariable false
def LinkY (J : Jb) (os : List Rw) : List Af := if chkO J os = 0 then linksF J os else []
theorem LinkY_0 {J : Jb} {os : List Rw} (h : chkO J os = 0) : LinkY J os = linksF J os := by unfold LinkY; rw [if_pos h]
theorem LinkY_e {J : Jb} {os : List Rw} (h : ¬ chkO J os = 0) : LinkY J os = [] := by unfold LinkY; rw [if_neg h]
theorem Links_calls (J : Jb) (ao : Option Addr) (co : Nat) (os : List Rw) (w : World) (hJ : JobAt w J) (hO : OrdAt w ao os) (hw : os.length ≤ 1000 ∧ ∀ r ∈ os, r.xs.length ≤ 1000) : Calls Try.prog 15 #[.agg #[.slice J.ta J.ts.length J.tc, .slice J.aa J.ls.length J.ac, .slice J.ga J.gs.length J.gc], .slice ao os.length co] w (RowPost w 38 3 encAf (LinkY J os) fun a_ c_ => .tuple #[.slice a_ (LinkY J os).length c_, .int .i64 (chkO J os)]) := by
  refine calls_of (vs := [.agg #[.slice J.ta J.ts.length J.tc, .slice J.aa J.ls.length J.ac, .slice J.ga J.gs.length J.gc], .slice ao os.length co]) Try.func15 rfl rfl rfl ?_
  show Cd _ _ _ _ _ [(0, .agg #[.slice J.ta J.ts.length J.tc, .slice J.aa J.ls.length J.ac, .slice J.ga J.gs.length J.gc]), (1, .slice ao os.length co)] []
  refine Cd.seq (Cd.region (Rg.eff (Eff.box 1 rfl rfl) rfl fun b1 _ => (Rg.val (Val.assign rfl) rfl (Rg.val (Val.assign rfl) rfl (Rg.nil (Rx.seq (Cd.seq (Cd.seq (Cd.region (Rg.val (Val.loadAll (l := 1) rfl rfl ag26 rfl) rfl (Rg.val (Val.move rfl) rfl (Rg.eff (Eff.give rfl rfl en19 rfl (fun w hm => CheckOrder_gives J _ _ os w (Mem.job hm hJ) (Mem.ord hm hO) hw)) rfl fun _ _ => (Rg.val (Val.assign rfl) rfl (Rg.nil (Rx.seq (Cd.seq (Cd.region (Rg.val (Val.move rfl) rfl (Rg.val (Val.neq rfl rfl) rfl (Rg.nil (Rx.seq (Cd.cond rfl (fun c1 => ?_) (fun c1 => ?_)))))))))))))))))))))))
  · replace c1 := bnot_t c1
    replace c1 := of_decide_eq_false c1
    refine Cd.seq (Cd.region (Rg.val (Val.move rfl) rfl (Rg.val (Val.assign rfl) rfl (Rg.val (Val.assign rfl) rfl (Rg.nil (Rx.seq (Cd.ret (Rx.pastR (Rx.ret2 rfl rfl rfl fun w hm_ => ((by rw [LinkY_e c1]; exact RowPost.none hm_.below rfl rfl)))))))))))
  · replace c1 := bnot_f c1
    replace c1 := of_decide_eq_true c1
    obtain ⟨hK, hV, _⟩ := OrdOk.of c1
    have hS := sound_of hK hV
    have h0_ := c1
    refine Cd.skip (Rx.seq (Cd.seq (Cd.region (Rg.val (Val.loadAll (l := 1) rfl rfl ag26 rfl) rfl (Rg.val (Val.move rfl) rfl (Rg.eff (Eff.call rfl rfl en50 rfl (fun w hm => RowPost.mem 2 hm (links_calls J _ _ os w (Mem.job hm hJ) (Mem.ord hm hO) hK hV))) rfl fun p2 _ => (Rg.val (Val.assign rfl) rfl (Rg.val (Val.assign rfl) rfl (Rg.nil (Rx.seq (Cd.ret (Rx.ret2 rfl rfl rfl fun w hm_ => ((by rw [LinkY_0 c1, c1]; exact RowPost.row 2 hm_ rfl rfl))))))))))))))

theorem rLinks_calls (J : Jb) (ao : Option Addr) (co : Nat) (os : List Rw) (w : World) (hJ : JobAt w J) (hO : OrdAt w ao os) (hw : os.length ≤ 1000 ∧ ∀ r ∈ os, r.xs.length ≤ 1000) : Calls Try.prog 16 #[.agg #[.slice J.ta J.ts.length J.tc, .slice J.aa J.ls.length J.ac, .slice J.ga J.gs.length J.gc], .slice ao os.length co] w (RowPost w 38 3 encAf (LinkY J os) fun a_ c_ => .tuple #[.slice a_ (LinkY J os).length c_, .int .i64 (chkO J os)]) := by
  refine calls_of (vs := [.agg #[.slice J.ta J.ts.length J.tc, .slice J.aa J.ls.length J.ac, .slice J.ga J.gs.length J.gc], .slice ao os.length co]) Try.func16 rfl rfl rfl ?_
  show Cd _ _ _ _ _ [(0, .agg #[.slice J.ta J.ts.length J.tc, .slice J.aa J.ls.length J.ac, .slice J.ga J.gs.length J.gc]), (1, .slice ao os.length co)] []
  refine Cd.seq (Cd.region (Rg.eff (Eff.box 1 rfl rfl) rfl fun b1 _ => (Rg.val (Val.assign rfl) rfl (Rg.val (Val.assign rfl) rfl (Rg.nil (Rx.seq (Cd.seq (Cd.region (Rg.val (Val.loadAll (l := 1) rfl rfl ag26 rfl) rfl (Rg.val (Val.move rfl) rfl (Rg.eff (Eff.give rfl rfl en20 rfl (fun w hm => rCheckOrder_gives J _ _ os w (Mem.job hm hJ) (Mem.ord hm hO) hw)) rfl fun _ _ => (Rg.val (Val.assign rfl) rfl (Rg.nil (Rx.seq (Cd.seq (Cd.seq (Cd.region (Rg.val (Val.move rfl) rfl (Rg.val (Val.neq rfl rfl) rfl (Rg.nil (Rx.seq (Cd.cond rfl (fun c1 => ?_) (fun c1 => ?_)))))))))))))))))))))))
  · replace c1 := bnot_t c1
    replace c1 := of_decide_eq_false c1
    refine Cd.seq (Cd.region (Rg.val (Val.move rfl) rfl (Rg.val (Val.assign rfl) rfl (Rg.val (Val.assign rfl) rfl (Rg.nil (Rx.seq (Cd.ret (Rx.pastR (Rx.ret2 rfl rfl rfl fun w hm_ => ((by rw [LinkY_e c1]; exact RowPost.none hm_.below rfl rfl)))))))))))
  · replace c1 := bnot_f c1
    replace c1 := of_decide_eq_true c1
    obtain ⟨hK, hV, _⟩ := OrdOk.of c1
    have hS := sound_of hK hV
    have h0_ := c1
    refine Cd.skip (Rx.seq (Cd.seq (Cd.region (Rg.val (Val.loadAll (l := 1) rfl rfl ag26 rfl) rfl (Rg.val (Val.move rfl) rfl (Rg.eff (Eff.call rfl rfl en51 rfl (fun w hm => RowPost.mem 2 hm (rlinks_calls J _ _ os w (Mem.job hm hJ) (Mem.ord hm hO) hK hV))) rfl fun p2 _ => (Rg.val (Val.assign rfl) rfl (Rg.val (Val.assign rfl) rfl (Rg.nil (Rx.seq (Cd.ret (Rx.ret2 rfl rfl rfl fun w hm_ => ((by rw [LinkY_0 c1, c1]; exact RowPost.row 2 hm_ rfl rfl))))))))))))))

theorem starts_gives (J : Jb) (sa : Option Addr) (sc : Nat) (ss : List Int) (w : World) (hJ : JobAt w J) (hSs : Rdb w sa 1 encI ss) (hsl : ss.length ≤ 9223372036854775807) : Gives Try.prog 74 #[.agg #[.slice J.ta J.ts.length J.tc, .slice J.aa J.ls.length J.ac, .slice J.ga J.gs.length J.gc], .slice sa ss.length sc] w (.int .i64 (stF J.ts.length ss)) := by
  refine calls_of (vs := [.agg #[.slice J.ta J.ts.length J.tc, .slice J.aa J.ls.length J.ac, .slice J.ga J.gs.length J.gc], .slice sa ss.length sc]) Try.func74 rfl rfl rfl ?_
  show Cd _ _ _ _ _ [(0, .agg #[.slice J.ta J.ts.length J.tc, .slice J.aa J.ls.length J.ac, .slice J.ga J.gs.length J.gc]), (1, .slice sa ss.length sc)] []
  refine Cd.seq (Cd.region (Rg.eff (Eff.box 1 rfl rfl) rfl fun b1 _ => (Rg.val (Val.assign rfl) rfl (Rg.nil (Rx.seq (Cd.seq (Cd.seq (Cd.region (Rg.val (Val.move rfl) rfl (Rg.val (Val.len Try.underlying24 rfl) rfl (Rg.val (Val.fa rfl (fa26_0 _ _)) rfl (Rg.val (Val.load (l := 1) rfl rfl sc22 rfl) rfl (Rg.val (Val.len Try.underlying22 rfl) rfl (Rg.val (Val.neq rfl rfl) rfl (Rg.nil (Rx.seq (Cd.cond rfl (fun c1 => ?_) (fun c1 => ?_))))))))))))))))))
  · replace c1 := bnot_t c1
    replace c1 := of_decide_eq_false c1
    refine Cd.seq (Cd.region (Rg.val (Val.assign rfl) rfl (Rg.nil (Rx.seq (Cd.ret (Rx.pastR (Rx.ret1 rfl rfl fun w hm_ => (⟨by simp [stF, *], hm_.below⟩))))))))
  · replace c1 := bnot_f c1
    replace c1 := of_decide_eq_true c1
    refine Cd.skip (Rx.seq (Cd.seq (Cd.seq (Cd.region (Rg.val (Val.assign rfl) rfl (Rg.nil (Rx.seq (Cd.block ?_))))))))
    refine Cd.loop (A := Nat) (fun i : Nat => i ≤ ss.length ∧ ss.any startBad = (ss.drop i).any startBad)
        (fun i : Nat => [(1, .slice sa ss.length sc), (5, .int .i64 (i : Int))])
        (fun i : Nat => [(1, blk b1 [.slice J.ta J.ts.length J.tc, .slice J.aa J.ls.length J.ac, .slice J.ga J.gs.length J.gc] 26)])
        (fun i : Nat => ss.length - i) 0 ?_ ⟨rfl, rfl, trivial⟩ ⟨rfl, trivial⟩ ?_
    · exact ⟨Nat.zero_le _, rfl⟩
    · rintro i ⟨hi_i, hG_i⟩
      show Cd _ _ _ _ _ [(1, .slice sa ss.length sc), (5, .int .i64 (i : Int))] [(1, blk b1 [.slice J.ta J.ts.length J.tc, .slice J.aa J.ls.length J.ac, .slice J.ga J.gs.length J.gc] 26)]
      refine Cd.seq (Cd.seq (Cd.region (Rg.val (Val.move rfl) rfl (Rg.val (Val.move rfl) rfl (Rg.val (Val.len Try.underlying24 rfl) rfl (Rg.val (Val.lss rfl rfl) rfl (Rg.nil (Rx.seq (Cd.cond rfl (fun c2 => ?_) (fun c2 => ?_))))))))))
      · replace c2 := of_decide_eq_true c2
        refine Cd.skip (Rx.seq (Cd.seq (Cd.block (Cd.seq (Cd.region (Rg.val (Val.move rfl) rfl (Rg.val (Val.move rfl) rfl ?_)))))))
        obtain ⟨x3, hx4⟩ : ∃ x, ss[i]? = some x := ⟨_, List.getElem?_eq_getElem (by omega)⟩
        refine Rg.val (Val.ide Try.underlying24 sz2 rfl rfl hSs (by first | rfl | omega | (simp; done)) hx4 (Nat.le_refl _)) rfl (Rg.val (Val.loadE (k := 0) rfl sc2 hSs hx4 rfl) rfl (Rg.eff (Eff.give rfl rfl en61 rfl (fun w hm => in_gives _ _ _ w)) rfl fun _ _ => (Rg.val (Val.not rfl) rfl (Rg.nil (Rx.seq (Cd.cond rfl (fun c5 => ?_) (fun c5 => ?_)))))))
        · replace c5 := bnot_t c5
          have he_ := any_hit hG_i hx4 (by simp [startBad, *])
          clear hG_i
          refine Cd.seq (Cd.region (Rg.val (Val.assign rfl) rfl (Rg.nil (Rx.seq (Cd.ret (Rx.inr (Rx.pastR (Rx.pastR (Rx.inr (Rx.pastR (Rx.ret1 rfl rfl fun w hm_ => (⟨by simp [stF, *], hm_.below⟩))))))))))))
        · replace c5 := bnot_f c5
          refine Cd.skip (Rx.inb (Rx.seq (Cd.region (Rg.val (Val.move rfl) rfl (Rg.val (Val.addN rfl rfl (by unfold in64; omega)) rfl (Rg.val (Val.assign rfl) rfl (Rg.nil ?_)))))))
          refine Rx.meet (i + 1) ⟨⟨by omega, any_drop hG_i hx4 (by simp [startBad, *])⟩, by show ss.length - (i + 1) < ss.length - i; omega⟩ ⟨rfl, rfl, trivial⟩ ⟨rfl, trivial⟩
      · replace c2 := of_decide_eq_false c2
        have he_ := any_end hG_i c2
        clear hG_i
        refine Cd.exit (Rx.pastE (Rx.pastE (Rx.hit (Rx.seq (Cd.seq (Cd.region (Rg.val (Val.assign rfl) rfl (Rg.nil (Rx.seq (Cd.ret (Rx.ret1 rfl rfl fun w hm_ => (⟨by simp [stF, *], hm_.below⟩))))))))))))

theorem rCheckPlan_gives (J : Jb) (ao : Option Addr) (co : Nat) (os : List Rw) (sa : Option Addr) (sc : Nat) (ss : List Int) (w : World) (hJ : JobAt w J) (hO : OrdAt w ao os) (hw : os.length ≤ 1000 ∧ ∀ r ∈ os, r.xs.length ≤ 1000) (hSs : Rdb w sa 1 encI ss) (hsl : ss.length ≤ 9223372036854775807) : Gives Try.prog 24 #[.agg #[.slice J.ta J.ts.length J.tc, .slice J.aa J.ls.length J.ac, .slice J.ga J.gs.length J.gc], .slice ao os.length co, .slice sa ss.length sc] w (.tuple #[.int .i64 (planF J os ss).1, .int .i64 (planF J os ss).2]) := by
  refine calls_of (vs := [.agg #[.slice J.ta J.ts.length J.tc, .slice J.aa J.ls.length J.ac, .slice J.ga J.gs.length J.gc], .slice ao os.length co, .slice sa ss.length sc]) Try.func24 rfl rfl rfl ?_
  show Cd _ _ _ _ _ [(0, .agg #[.slice J.ta J.ts.length J.tc, .slice J.aa J.ls.length J.ac, .slice J.ga J.gs.length J.gc]), (1, .slice ao os.length co), (2, .slice sa ss.length sc)] []
  refine Cd.seq (Cd.region (Rg.eff (Eff.box 1 rfl rfl) rfl fun b1 _ => (Rg.val (Val.assign rfl) rfl (Rg.val (Val.assign rfl) rfl (Rg.nil (Rx.seq (Cd.seq (Cd.region (Rg.val (Val.loadAll (l := 1) rfl rfl ag26 rfl) rfl (Rg.val (Val.move rfl) rfl (Rg.eff (Eff.give rfl rfl en20 rfl (fun w hm => rCheckOrder_gives J _ _ os w (Mem.job hm hJ) (Mem.ord hm hO) hw)) rfl fun _ _ => (Rg.val (Val.assign rfl) rfl (Rg.nil (Rx.seq (Cd.seq (Cd.seq (Cd.region (Rg.val (Val.move rfl) rfl (Rg.val (Val.neq rfl rfl) rfl (Rg.nil (Rx.seq (Cd.cond rfl (fun c1 => ?_) (fun c1 => ?_)))))))))))))))))))))))
  · replace c1 := bnot_t c1
    replace c1 := of_decide_eq_false c1
    refine Cd.seq (Cd.region (Rg.val (Val.move rfl) rfl (Rg.val (Val.assign rfl) rfl (Rg.val (Val.assign rfl) rfl (Rg.nil (Rx.seq (Cd.ret (Rx.pastR (Rx.ret2 rfl rfl rfl fun w hm_ => (⟨by rw [planF_e c1], hm_.below⟩))))))))))
  · replace c1 := bnot_f c1
    replace c1 := of_decide_eq_true c1
    obtain ⟨hK, hV, _⟩ := OrdOk.of c1
    have hS := sound_of hK hV
    have h0_ := c1
    refine Cd.skip (Rx.seq (Cd.seq (Cd.region (Rg.val (Val.loadAll (l := 1) rfl rfl ag26 rfl) rfl (Rg.val (Val.move rfl) rfl (Rg.eff (Eff.give rfl rfl en74 rfl (fun w hm => starts_gives J _ _ ss w (Mem.job hm hJ) (hm.rdb hSs) hsl)) rfl fun _ _ => (Rg.val (Val.assign rfl) rfl (Rg.nil (Rx.seq (Cd.seq (Cd.seq (Cd.region (Rg.val (Val.move rfl) rfl (Rg.val (Val.neq rfl rfl) rfl (Rg.nil (Rx.seq (Cd.cond rfl (fun c2 => ?_) (fun c2 => ?_))))))))))))))))))
    · replace c2 := bnot_t c2
      replace c2 := of_decide_eq_false c2
      refine Cd.seq (Cd.region (Rg.val (Val.move rfl) rfl (Rg.val (Val.assign rfl) rfl (Rg.val (Val.assign rfl) rfl (Rg.nil (Rx.seq (Cd.ret (Rx.pastR (Rx.ret2 rfl rfl rfl fun w hm_ => (⟨by rw [planF_s h0_ c2], hm_.below⟩))))))))))
    · replace c2 := bnot_f c2
      replace c2 := of_decide_eq_true c2
      have hst := c2
      have hsn := (stF_ok hst).1
      have hsb := (stF_ok hst).2
      refine Cd.skip (Rx.seq (Cd.seq (Cd.seq (Cd.region (Rg.val (Val.assign rfl) rfl (Rg.nil (Rx.seq (Cd.block ?_))))))))
      refine Cd.loop (A := Nat) (fun i : Nat => i ≤ ss.length ∧ ((J.ts.zip ss).take i).all (fun z => !(fun p : Tk × Int => !fitsF p.1.m p.2 p.1.ws) z) = true)
          (fun i : Nat => [(1, .slice ao os.length co), (2, .slice sa ss.length sc), (3, .pointer (some ⟨b1, 0, none⟩)), (9, .int .i64 (i : Int))])
          (fun i : Nat => [(1, blk b1 [.slice J.ta J.ts.length J.tc, .slice J.aa J.ls.length J.ac, .slice J.ga J.gs.length J.gc] 26)])
          (fun i : Nat => ss.length - i) 0 ?_ ⟨rfl, rfl, rfl, rfl, trivial⟩ ⟨rfl, trivial⟩ ?_
      · exact ⟨Nat.zero_le _, rfl⟩
      · rintro i ⟨hi, hall⟩
        show Cd _ _ _ _ _ [(1, .slice ao os.length co), (2, .slice sa ss.length sc), (3, .pointer (some ⟨b1, 0, none⟩)), (9, .int .i64 (i : Int))] [(1, blk b1 [.slice J.ta J.ts.length J.tc, .slice J.aa J.ls.length J.ac, .slice J.ga J.gs.length J.gc] 26)]
        refine Cd.seq (Cd.seq (Cd.region (Rg.val (Val.move rfl) rfl (Rg.val (Val.move rfl) rfl (Rg.val (Val.len Try.underlying24 rfl) rfl (Rg.val (Val.lss rfl rfl) rfl (Rg.nil (Rx.seq (Cd.cond rfl (fun c3 => ?_) (fun c3 => ?_))))))))))
        · replace c3 := of_decide_eq_true c3
          refine Cd.skip (Rx.seq (Cd.seq (Cd.block (Cd.seq (Cd.draw [(1, blk b1 [.slice J.ta J.ts.length J.tc, .slice J.aa J.ls.length J.ac, .slice J.ga J.gs.length J.gc] 26)] mixed rfl (Dr.take 0 rfl (by kernel_rfl) (Val.fa rfl (fa26_0 _ _)) rfl ⟨rfl, trivial⟩ (Dr.take 1 rfl (by kernel_rfl) (Val.load (l := 1) rfl rfl sc22 rfl) rfl ⟨rfl, trivial⟩ (Dr.take 2 rfl (by kernel_rfl) (Val.move rfl) rfl ⟨rfl, trivial⟩ ?_))))))))
          obtain ⟨x4, hx5⟩ : ∃ x, J.ts[i]? = some x := ⟨_, List.getElem?_eq_getElem (by first | omega | (have := hK.nts; omega))⟩
          have hk_x4 := hK.tk _ (List.mem_of_getElem? hx5)
          refine Dr.take 3 rfl (by kernel_rfl) (Val.ide Try.underlying22 sz57 rfl rfl hJ.rts (by first | rfl | omega | (simp; done)) hx5 (Nat.le_refl _)) rfl ⟨rfl, trivial⟩ (Dr.take 4 rfl (by kernel_rfl) (Val.fae (k := 1) rfl (hJ.rts.ne hx5) fa57_1) rfl ⟨rfl, trivial⟩ (Dr.take 5 rfl (by kernel_rfl) (Val.loadE (k := 1) rfl sc28 hJ.rts hx5 rfl) rfl ⟨rfl, trivial⟩ (Dr.take 6 rfl (by kernel_rfl) (Val.fa rfl (fa26_0 _ _)) rfl ⟨rfl, trivial⟩ (Dr.take 7 rfl (by kernel_rfl) (Val.load (l := 1) rfl rfl sc22 rfl) rfl ⟨rfl, trivial⟩ (Dr.take 8 rfl (by kernel_rfl) (Val.move rfl) rfl ⟨rfl, trivial⟩ (Dr.take 9 rfl (by kernel_rfl) (Val.ide Try.underlying22 sz57 rfl rfl hJ.rts (by first | rfl | omega | (simp; done)) hx5 (Nat.le_refl _)) rfl ⟨rfl, trivial⟩ (Dr.take 10 rfl (by kernel_rfl) (Val.fae (k := 0) rfl (hJ.rts.ne hx5) fa57_0) rfl ⟨rfl, trivial⟩ (Dr.take 11 rfl (by kernel_rfl) (Val.loadE (k := 0) rfl sc2 hJ.rts hx5 rfl) rfl ⟨rfl, trivial⟩ (Dr.take 12 rfl (by kernel_rfl) (Val.move rfl) rfl ⟨rfl, trivial⟩ (Dr.take 13 rfl (by kernel_rfl) (Val.move rfl) rfl ⟨rfl, trivial⟩ ?_))))))))))
          obtain ⟨x6, hx7⟩ : ∃ x, ss[i]? = some x := ⟨_, List.getElem?_eq_getElem (by first | omega | (have := hK.nts; omega))⟩
          have hb_x6 := hsb _ (List.mem_of_getElem? hx7)
          refine Dr.take 14 rfl (by kernel_rfl) (Val.ide Try.underlying24 sz2 rfl rfl hSs (by first | rfl | omega | (simp; done)) hx7 (Nat.le_refl _)) rfl ⟨rfl, trivial⟩ (Dr.take 15 rfl (by kernel_rfl) (Val.loadE (k := 0) rfl sc2 hSs hx7 rfl) rfl ⟨rfl, trivial⟩ (Dr.one 16 (by kernel_rfl) rfl (Eff.give rfl rfl en75 rfl (fun w hm => rfits_gives _ _ _ _ _ w (hm.rdb (hJ.win _ (List.mem_of_getElem? hx5))) (by omega) (fun w_ hw_ => winF_mem hk_x4.2.1 w_ hw_) hk_x4.1)) rfl (fun _ _ => ⟨rfl, trivial⟩) fun _ _ => (Dr.take 17 rfl (by kernel_rfl) (Val.not rfl) rfl ⟨rfl, trivial⟩ (Dr.done (by kernel_rfl) (Rx.seq (Cd.cond rfl (fun c8 => ?_) (fun c8 => ?_)))))))
          · replace c8 := bnot_t c8
            refine Cd.seq (Cd.region (Rg.val (Val.move rfl) rfl (Rg.val (Val.assign rfl) rfl (Rg.val (Val.assign rfl) rfl (Rg.nil (Rx.seq (Cd.ret (Rx.inr (Rx.pastR (Rx.pastR (Rx.inr (Rx.pastR (Rx.ret2 rfl rfl rfl fun w hm_ => (⟨by have hu2_ := show unfitF J ss = (i : Int) from idxF_at (x := (x4, x6)) (List.getElem?_zip_eq_some.2 ⟨hx5, hx7⟩) hall (by simp [c8]); rw [planF_u h0_ hst (by omega), hu2_], hm_.below⟩))))))))))))))
          · replace c8 := bnot_f c8
            refine Cd.skip (Rx.inb (Rx.seq (Cd.region (Rg.val (Val.move rfl) rfl (Rg.val (Val.addN rfl rfl (by have := linksF_len hK hV; have := hK.nts; unfold in64; omega)) rfl (Rg.val (Val.assign rfl) rfl (Rg.nil ?_)))))))
            refine Rx.meet (i + 1) ⟨⟨by omega, all_snoc (x := (x4, x6)) (List.getElem?_zip_eq_some.2 ⟨hx5, hx7⟩) hall (by simp [c8])⟩, by show ss.length - (i + 1) < ss.length - i; omega⟩ ⟨rfl, rfl, rfl, rfl, trivial⟩ ⟨rfl, trivial⟩
        · replace c3 := of_decide_eq_false c3
          have hu_ : ¬ 0 ≤ unfitF J ss := by rw [show unfitF J ss = -1 from idxF_none (by rw [List.take_of_length_le (by simp [List.length_zip]; omega)] at hall; exact hall)]; decide
          refine Cd.exit (Rx.pastE (Rx.pastE (Rx.hit (Rx.seq (Cd.seq (Cd.region (Rg.val (Val.loadAll (l := 1) rfl rfl ag26 rfl) rfl (Rg.val (Val.move rfl) rfl (Rg.eff (Eff.call rfl rfl en51 rfl (fun w hm => RowPost.mem 2 hm (rlinks_calls J _ _ os w (Mem.job hm hJ) (Mem.ord hm hO) hK hV))) rfl fun p9 _ => (Rg.val (Val.assign rfl) rfl (Rg.nil (Rx.seq (Cd.seq (Cd.seq (Cd.region (Rg.val (Val.assign rfl) rfl (Rg.nil (Rx.seq (Cd.block ?_)))))))))))))))))))
          refine Cd.loop (A := Nat) (fun c : Nat => c ≤ (linksF J os).length ∧ ((linksF J os).take c).all (fun z => !brokeF ss z) = true)
              (fun c : Nat => [(2, .slice sa ss.length sc), (10, .slice p9.1 (linksF J os).length p9.2), (11, .int .i64 (c : Int))])
              (fun c : Nat => [(1, blk b1 [.slice J.ta J.ts.length J.tc, .slice J.aa J.ls.length J.ac, .slice J.ga J.gs.length J.gc] 26), (2, rowL 38 3 encAf p9.1 p9.2 (linksF J os))])
              (fun c : Nat => (linksF J os).length - c) 0 ?_ ⟨rfl, rfl, rfl, trivial⟩ ⟨rfl, rfl, trivial⟩ ?_
          · exact ⟨Nat.zero_le _, rfl⟩
          · rintro c ⟨hc, hbr⟩
            show Cd _ _ _ _ _ [(2, .slice sa ss.length sc), (10, .slice p9.1 (linksF J os).length p9.2), (11, .int .i64 (c : Int))] [(1, blk b1 [.slice J.ta J.ts.length J.tc, .slice J.aa J.ls.length J.ac, .slice J.ga J.gs.length J.gc] 26), (2, rowL 38 3 encAf p9.1 p9.2 (linksF J os))]
            refine Cd.seq (Cd.seq (Cd.region (Rg.val (Val.move rfl) rfl (Rg.val (Val.move rfl) rfl (Rg.val (Val.len Try.underlying23 rfl) rfl (Rg.val (Val.lss rfl rfl) rfl (Rg.nil (Rx.seq (Cd.cond rfl (fun c10 => ?_) (fun c10 => ?_))))))))))
            · replace c10 := of_decide_eq_true c10
              refine Cd.skip (Rx.seq (Cd.seq (Cd.block (Cd.seq (Cd.draw [(1, blk b1 [.slice J.ta J.ts.length J.tc, .slice J.aa J.ls.length J.ac, .slice J.ga J.gs.length J.gc] 26), (2, rowL 38 3 encAf p9.1 p9.2 (linksF J os))] mixed rfl (Dr.take 0 rfl (by kernel_rfl) (Val.move rfl) rfl ⟨rfl, rfl, trivial⟩ (Dr.take 1 rfl (by kernel_rfl) (Val.move rfl) rfl ⟨rfl, rfl, trivial⟩ (Dr.take 2 rfl (by kernel_rfl) (Val.move rfl) rfl ⟨rfl, rfl, trivial⟩ ?_))))))))
              obtain ⟨x11, hx12⟩ : ∃ x, (linksF J os)[c]? = some x := ⟨_, List.getElem?_eq_getElem (by first | omega | (have := hK.nts; omega))⟩
              have hk_x11 := hS.lk _ (List.mem_of_getElem? hx12)
              refine Dr.take 3 rfl (by kernel_rfl) (Val.ideRow 2 Try.underlying23 sz38 rfl rfl rfl rfl (by first | rfl | omega | (simp; done)) hx12) rfl ⟨rfl, rfl, trivial⟩ (Dr.take 4 rfl (by kernel_rfl) (Val.faeRow (k := 1) 2 rfl rfl (fun _ => rfl) hx12 fa38_1) rfl ⟨rfl, rfl, trivial⟩ (Dr.take 5 rfl (by kernel_rfl) (Val.loadRow (k := 1) 2 rfl sc3 rfl (fun _ => rfl) hx12 rfl) rfl ⟨rfl, rfl, trivial⟩ ?_))
              obtain ⟨x13, hx14⟩ : ∃ x, ss[(Int.toNat x11.q)]? = some x := ⟨_, List.getElem?_eq_getElem (by first | omega | (have := hK.nts; omega))⟩
              have hb_x13 := hsb _ (List.mem_of_getElem? hx14)
              refine Dr.take 6 rfl (by kernel_rfl) (Val.ide Try.underlying24 sz2 rfl rfl hSs (by first | rfl | omega | (simp; done)) hx14 (Nat.le_refl _)) rfl ⟨rfl, rfl, trivial⟩ (Dr.take 7 rfl (by kernel_rfl) (Val.loadE (k := 0) rfl sc2 hSs hx14 rfl) rfl ⟨rfl, rfl, trivial⟩ (Dr.take 8 rfl (by kernel_rfl) (Val.move rfl) rfl ⟨rfl, rfl, trivial⟩ (Dr.take 9 rfl (by kernel_rfl) (Val.move rfl) rfl ⟨rfl, rfl, trivial⟩ (Dr.take 10 rfl (by kernel_rfl) (Val.move rfl) rfl ⟨rfl, rfl, trivial⟩ (Dr.take 11 rfl (by kernel_rfl) (Val.ideRow 2 Try.underlying23 sz38 rfl rfl rfl rfl (by first | rfl | omega | (simp; done)) hx12) rfl ⟨rfl, rfl, trivial⟩ (Dr.take 12 rfl (by kernel_rfl) (Val.faeRow (k := 0) 2 rfl rfl (fun _ => rfl) hx12 fa38_0) rfl ⟨rfl, rfl, trivial⟩ (Dr.take 13 rfl (by kernel_rfl) (Val.loadRow (k := 0) 2 rfl sc3 rfl (fun _ => rfl) hx12 rfl) rfl ⟨rfl, rfl, trivial⟩ ?_)))))))
              obtain ⟨x15, hx16⟩ : ∃ x, ss[(Int.toNat x11.p)]? = some x := ⟨_, List.getElem?_eq_getElem (by first | omega | (have := hK.nts; omega))⟩
              have hb_x15 := hsb _ (List.mem_of_getElem? hx16)
              refine Dr.take 14 rfl (by kernel_rfl) (Val.ide Try.underlying24 sz2 rfl rfl hSs (by first | rfl | omega | (simp; done)) hx16 (Nat.le_refl _)) rfl ⟨rfl, rfl, trivial⟩ (Dr.take 15 rfl (by kernel_rfl) (Val.loadE (k := 0) rfl sc2 hSs hx16 rfl) rfl ⟨rfl, rfl, trivial⟩ (Dr.take 16 rfl (by kernel_rfl) (Val.move rfl) rfl ⟨rfl, rfl, trivial⟩ (Dr.take 17 rfl (by kernel_rfl) (Val.move rfl) rfl ⟨rfl, rfl, trivial⟩ (Dr.take 18 rfl (by kernel_rfl) (Val.ideRow 2 Try.underlying23 sz38 rfl rfl rfl rfl (by first | rfl | omega | (simp; done)) hx12) rfl ⟨rfl, rfl, trivial⟩ (Dr.take 19 rfl (by kernel_rfl) (Val.faeRow (k := 2) 2 rfl rfl (fun _ => rfl) hx12 fa38_2) rfl ⟨rfl, rfl, trivial⟩ (Dr.take 20 rfl (by kernel_rfl) (Val.loadRow (k := 2) 2 rfl sc2 rfl (fun _ => rfl) hx12 rfl) rfl ⟨rfl, rfl, trivial⟩ (Dr.take 21 rfl (by kernel_rfl) (Val.addN rfl rfl (by have := linksF_len hK hV; have := hK.nts; unfold in64; omega)) rfl ⟨rfl, rfl, trivial⟩ (Dr.take 22 rfl (by kernel_rfl) (Val.lss rfl rfl) rfl ⟨rfl, rfl, trivial⟩ (Dr.done (by kernel_rfl) (Rx.seq (Cd.cond rfl (fun c17 => ?_) (fun c17 => ?_))))))))))))
              · replace c17 := of_decide_eq_true c17
                refine Cd.seq (Cd.region (Rg.val (Val.move rfl) rfl (Rg.val (Val.assign rfl) rfl (Rg.val (Val.assign rfl) rfl (Rg.nil (Rx.seq (Cd.ret (Rx.inr (Rx.pastR (Rx.pastR (Rx.inr (Rx.pastR (Rx.ret2 rfl rfl rfl fun w hm_ => (⟨by have hb2_ := show brokenF (linksF J os) ss = (c : Int) from idxF_at hx12 hbr (by unfold brokeF; rw [at_of hx14, at_of hx16]; simp; omega); rw [planF_b h0_ hst hu_ (by omega), hb2_], hm_.below⟩))))))))))))))
              · replace c17 := of_decide_eq_false c17
                refine Cd.skip (Rx.inb (Rx.seq (Cd.region (Rg.val (Val.move rfl) rfl (Rg.val (Val.addN rfl rfl (by have := linksF_len hK hV; have := hK.nts; unfold in64; omega)) rfl (Rg.val (Val.assign rfl) rfl (Rg.nil ?_)))))))
                refine Rx.meet (c + 1) ⟨⟨by omega, all_snoc hx12 hbr (by unfold brokeF; rw [at_of hx14, at_of hx16]; simp; omega)⟩, by show (linksF J os).length - (c + 1) < (linksF J os).length - c; omega⟩ ⟨rfl, rfl, rfl, trivial⟩ ⟨rfl, rfl, trivial⟩
            · replace c10 := of_decide_eq_false c10
              refine Cd.exit (Rx.pastE (Rx.pastE (Rx.hit (Rx.seq (Cd.seq (Cd.region (Rg.val (Val.assign rfl) rfl (Rg.val (Val.assign rfl) rfl (Rg.nil (Rx.seq (Cd.ret (Rx.ret2 rfl rfl rfl fun w hm_ => (⟨by rw [planF_0 h0_ hst hu_ (by rw [show brokenF (linksF J os) ss = -1 from idxF_none (by rw [List.take_of_length_le (by omega)] at hbr; exact hbr)]; decide)], hm_.below⟩)))))))))))))

theorem positive_calls.bsl_0  (w : World) : (Instr.buildSlice 24 0 #[]).run Try.prog w = .ok (.slice (some ⟨w.heap.size, 0, none⟩) 0 0) (w.alloc (.cells #[] 2)) := by kernel_rfl
open positive_calls in
theorem positive_calls (n : Nat) (a : Option Addr) (cap : Nat) (L : List Af) (w : World) (hR : Rdb w a 3 encAf L) (hlk : Lk n L) (hL : L.length ≤ 240) (hn : n ≤ 24) : Calls Try.prog 92 #[.int .i64 (n : Int), .slice a L.length cap] w fun e w' => ∃ b : Bool, (b = true → ∀ π, Pot L π → False) ∧ e = .returned (.bool b) ∧ Mem w [] w' := by
  refine calls_of (vs := [.int .i64 (n : Int), .slice a L.length cap]) Try.func92 rfl rfl rfl ?_
  show Cd _ _ _ _ _ [(0, .int .i64 (n : Int)), (1, .slice a L.length cap)] []
  refine Cd.seq (Cd.region (Rg.val (Val.assign rfl) rfl (Rg.nil (Rx.seq (Cd.seq (Cd.seq (Cd.region (Rg.val (Val.assign rfl) rfl (Rg.nil (Rx.seq (Cd.block ?_)))))))))))
  refine Cd.loop (A := Nat) (fun v : Nat => v ≤ n)
      (fun v : Nat => [(0, .int .i64 (n : Int)), (1, .slice a L.length cap), (5, .int .i64 (v : Int))])
      (fun v : Nat => [])
      (fun v : Nat => n - v) 0 ?_ ⟨rfl, rfl, rfl, trivial⟩ trivial ?_
  · exact Nat.zero_le _
  · rintro v hv
    show Cd _ _ _ _ _ [(0, .int .i64 (n : Int)), (1, .slice a L.length cap), (5, .int .i64 (v : Int))] []
    refine Cd.seq (Cd.seq (Cd.region (Rg.val (Val.move rfl) rfl (Rg.val (Val.move rfl) rfl (Rg.val (Val.lss rfl rfl) rfl (Rg.nil (Rx.seq (Cd.cond rfl (fun c1 => ?_) (fun c1 => ?_)))))))))
    · replace c1 := of_decide_eq_true c1
      refine Cd.skip (Rx.seq (Cd.seq (Cd.block (Cd.seq (Cd.region (Rg.val (Val.move rfl) rfl (Rg.eff (Eff.makeRow (m := n) (u := (0 : Int)) (enc := encI) 51 Try.underlying24 mkf2 rfl rfl rfl (by first | rfl | omega | (simp; done)) rfl (by simp only [maxLen]; omega) rfl) rfl fun b51 _ => (Rg.val (Val.assign rfl) rfl (Rg.nil (Rx.seq (Cd.seq (Cd.seq (Cd.region (Rg.val (Val.assign rfl) rfl (Rg.nil (Rx.seq (Cd.block ?_)))))))))))))))))
      refine Cd.loop (A := Nat × List Int) (fun pr_ : Nat × List Int => match pr_ with | (i, fs) => i ≤ n ∧ fs.length = n ∧ ∀ k, k < i → fs[k]? = some (-1125899906842624))
          (fun pr_ : Nat × List Int => match pr_ with | (i, fs) => [(0, .int .i64 (n : Int)), (1, .slice a L.length cap), (5, .int .i64 (v : Int)), (6, .slice (some ⟨b51, 0, none⟩) n n), (7, .int .i64 (i : Int))])
          (fun pr_ : Nat × List Int => match pr_ with | (i, fs) => [(51, rowL 2 1 encI (some ⟨b51, 0, none⟩) n fs)])
          (fun pr_ : Nat × List Int => match pr_ with | (i, fs) => n - i) (0, List.replicate n 0) ?_ ⟨rfl, rfl, rfl, rfl, rfl, trivial⟩ ⟨rfl, trivial⟩ ?_
      · exact ⟨Nat.zero_le _, by simp, fun k hk => absurd hk (by omega)⟩
      · rintro ⟨i, fs⟩ ⟨hi, hfl, hfs⟩
        show Cd _ _ _ _ _ [(0, .int .i64 (n : Int)), (1, .slice a L.length cap), (5, .int .i64 (v : Int)), (6, .slice (some ⟨b51, 0, none⟩) n n), (7, .int .i64 (i : Int))] [(51, rowL 2 1 encI (some ⟨b51, 0, none⟩) n fs)]
        refine Cd.seq (Cd.seq (Cd.region (Rg.val (Val.move rfl) rfl (Rg.val (Val.move rfl) rfl (Rg.val (Val.lss rfl rfl) rfl (Rg.nil (Rx.seq (Cd.cond rfl (fun c2 => ?_) (fun c2 => ?_)))))))))
        · replace c2 := of_decide_eq_true c2
          refine Cd.skip (Rx.seq (Cd.seq (Cd.block (Cd.region (Rg.val (Val.move rfl) rfl (Rg.val (Val.move rfl) rfl ?_))))))
          obtain ⟨x3, hx4⟩ : ∃ x, fs[i]? = some x := ⟨_, List.getElem?_eq_getElem (by first | omega | (simp; omega))⟩
          refine Rg.val (Val.ideRow 51 Try.underlying24 sz2 rfl (by first | omega | (simp; omega)) rfl rfl (by first | rfl | omega | (simp; done)) hx4) rfl (Rg.eff (Eff.storeRow (k := 0) (u' := (-1125899906842624)) 51 sz2 rfl rfl rfl rfl (fun _ => rfl) hx4 rfl rfl) rfl fun _ _ => ?_)
          have hx5 := set_at (u' := (-1125899906842624)) hx4
          refine Rg.nil (Rx.inb (Rx.seq (Cd.region (Rg.val (Val.move rfl) rfl (Rg.val (Val.addN rfl rfl (by unfold in64; omega)) rfl (Rg.val (Val.assign rfl) rfl (Rg.nil ?_)))))))
          refine Rx.meet (i + 1, (fs.set i (-1125899906842624))) ⟨⟨by omega, by simpa using hfl, fun k hk => set_belowC hfs hx4 hk⟩, by show n - (i + 1) < n - i; omega⟩ ⟨rfl, rfl, rfl, rfl, rfl, trivial⟩ ⟨rfl, trivial⟩
        · replace c2 := of_decide_eq_false c2
          refine Cd.exit (Rx.pastE (Rx.pastE (Rx.hit (Rx.seq (Cd.seq (Cd.region (Rg.val (Val.move rfl) rfl (Rg.val (Val.move rfl) rfl ?_))))))))
          obtain ⟨x6, hx7⟩ : ∃ x, fs[v]? = some x := ⟨_, List.getElem?_eq_getElem (by first | omega | (simp; omega))⟩
          refine Rg.val (Val.ideRow 51 Try.underlying24 sz2 rfl (by first | omega | (simp; omega)) rfl rfl (by first | rfl | omega | (simp; done)) hx7) rfl (Rg.eff (Eff.storeRow (k := 0) (u' := 0) 51 sz2 rfl rfl rfl rfl (fun _ => rfl) hx7 rfl rfl) rfl fun _ _ => ?_)
          have hx8 := set_at (u' := 0) hx7
          refine Rg.nil (Rx.seq (Cd.seq (Cd.seq (Cd.region (Rg.val (Val.assign rfl) rfl (Rg.nil (Rx.seq (Cd.block ?_))))))))
          refine Cd.loop (A := Nat × Option Addr × Nat × List Int) (fun pr_ : Nat × Option Addr × Nat × List Int => match pr_ with | (k, ra, rc, ls) => k ≤ n ∧ PosI n L v k ls)
              (fun pr_ : Nat × Option Addr × Nat × List Int => match pr_ with | (k, ra, rc, ls) => [(0, .int .i64 (n : Int)), (1, .slice a L.length cap), (5, .int .i64 (v : Int)), (6, .slice ra n rc), (8, .int .i64 (k : Int))])
              (fun pr_ : Nat × Option Addr × Nat × List Int => match pr_ with | (k, ra, rc, ls) => [(51, rowL 2 1 encI ra rc ls)])
              (fun pr_ : Nat × Option Addr × Nat × List Int => match pr_ with | (k, ra, rc, ls) => n - k) (0, (some ⟨b51, 0, none⟩), n, (fs.set v 0)) ?_ ⟨rfl, rfl, rfl, rfl, rfl, trivial⟩ ⟨rfl, trivial⟩ ?_
          · exact ⟨Nat.zero_le _, PosI.start hfl (fun k hk => hfs k (by omega)) hx7⟩
          · rintro ⟨k, ra, rc, ls⟩ ⟨hk, hP⟩
            show Cd _ _ _ _ _ [(0, .int .i64 (n : Int)), (1, .slice a L.length cap), (5, .int .i64 (v : Int)), (6, .slice ra n rc), (8, .int .i64 (k : Int))] [(51, rowL 2 1 encI ra rc ls)]
            have hls := hP.len
            refine Cd.seq (Cd.seq (Cd.region (Rg.val (Val.move rfl) rfl (Rg.val (Val.move rfl) rfl (Rg.val (Val.lss rfl rfl) rfl (Rg.nil (Rx.seq (Cd.cond rfl (fun c9 => ?_) (fun c9 => ?_)))))))))
            · replace c9 := of_decide_eq_true c9
              refine Cd.skip (Rx.seq (Cd.seq (Cd.block (Cd.seq (Cd.region (Rg.eff (Eff.buildSlice (cs := []) 52 rfl (fun w => (bsl_0) w) rfl) rfl fun b52 _ => (Rg.val (Val.move rfl) rfl (Rg.gain (fun w hm => hm.rowOf (l := 52) (e := 2) (sz := 1) (enc := encI) (xs := ([] : List Int)) (cap := 0) rfl rfl (fun _ => rfl) rfl (by decide)) (Rg.eff (Eff.appendSl (enc := encI) (ys := ls) (bytes := 8) 52 Try.underlying24 (by kernel_rfl) rfl rfl rfl rfl rfl (by first | omega | (simp; omega)) (fun w hm => (Rdb.of_row (l := 51) hm rfl (fun _ => rfl))) (fun _ => rfl) ones_I (by simp only [List.length_nil, maxLen]; omega) rfl) rfl fun p10 _ => (Rg.val (Val.assign rfl) rfl (Rg.nil (Rx.seq (Cd.seq (Cd.seq (Cd.region (Rg.val (Val.assign rfl) rfl (Rg.nil (Rx.seq (Cd.block (Cd.turn (t := 9) (v := .slice p10.1 n p10.2) rfl (by simp [hls]) ?_))))))))))))))))))))
              refine Cd.loop (A := Nat × Option Addr × Nat × List Int) (fun pr_ : Nat × Option Addr × Nat × List Int => match pr_ with | (c, rb, rd, l2) => c ≤ L.length ∧ PosI n L v (k + 1) l2)
                  (fun pr_ : Nat × Option Addr × Nat × List Int => match pr_ with | (c, rb, rd, l2) => [(0, .int .i64 (n : Int)), (1, .slice a L.length cap), (5, .int .i64 (v : Int)), (6, .slice ra n rc), (8, .int .i64 (k : Int)), (9, .slice rb n rd), (10, .int .i64 (c : Int))])
                  (fun pr_ : Nat × Option Addr × Nat × List Int => match pr_ with | (c, rb, rd, l2) => [(51, rowL 2 1 encI ra rc ls), (52, rowL 2 1 encI rb rd l2)])
                  (fun pr_ : Nat × Option Addr × Nat × List Int => match pr_ with | (c, rb, rd, l2) => L.length - c) (0, p10.1, p10.2, ls) ?_ ⟨rfl, rfl, rfl, rfl, rfl, rfl, rfl, trivial⟩ ⟨rfl, rfl, trivial⟩ ?_
              · exact ⟨Nat.zero_le _, hP.mono⟩
              · rintro ⟨c, rb, rd, l2⟩ ⟨hc, hQ⟩
                show Cd _ _ _ _ _ [(0, .int .i64 (n : Int)), (1, .slice a L.length cap), (5, .int .i64 (v : Int)), (6, .slice ra n rc), (8, .int .i64 (k : Int)), (9, .slice rb n rd), (10, .int .i64 (c : Int))] [(51, rowL 2 1 encI ra rc ls), (52, rowL 2 1 encI rb rd l2)]
                have hl2 := hQ.len
                refine Cd.seq (Cd.seq (Cd.region (Rg.val (Val.move rfl) rfl (Rg.val (Val.move rfl) rfl (Rg.val (Val.len Try.underlying23 rfl) rfl (Rg.val (Val.lss rfl rfl) rfl (Rg.nil (Rx.seq (Cd.cond rfl (fun c11 => ?_) (fun c11 => ?_))))))))))
                · replace c11 := of_decide_eq_true c11
                  refine Cd.skip (Rx.seq (Cd.seq (Cd.block (Cd.seq (Cd.region (Rg.val (Val.move rfl) rfl (Rg.val (Val.move rfl) rfl (Rg.val (Val.move rfl) rfl ?_))))))))
                  obtain ⟨x12, hx13⟩ : ∃ x, L[c]? = some x := ⟨_, List.getElem?_eq_getElem (by first | omega | (simp; omega))⟩
                  have hk_x12 := hlk _ (List.mem_of_getElem? hx13)
                  refine Rg.val (Val.ide Try.underlying23 sz38 rfl rfl hR (by first | rfl | omega | (simp; done)) hx13 (Nat.le_refl _)) rfl (Rg.val (Val.fae (k := 0) rfl (hR.ne hx13) fa38_0) rfl (Rg.val (Val.loadE (k := 0) rfl sc3 hR hx13 rfl) rfl ?_))
                  obtain ⟨x14, hx15⟩ : ∃ x, ls[(Int.toNat x12.p)]? = some x := ⟨_, List.getElem?_eq_getElem (by first | omega | (simp; omega))⟩
                  have hb_x14 := hP.bd _ (List.mem_of_getElem? hx15)
                  refine Rg.val (Val.ideRow 51 Try.underlying24 sz2 rfl (by first | omega | (simp; omega)) rfl rfl (by first | rfl | omega | (simp; done)) hx15) rfl (Rg.val (Val.loadRow (k := 0) 51 rfl sc2 rfl (fun _ => rfl) hx15 rfl) rfl (Rg.val (Val.gtr rfl rfl) rfl (Rg.nil (Rx.seq (Cd.cond rfl (fun c16 => ?_) (fun c16 => ?_))))))
                  · replace c16 := of_decide_eq_true c16
                    refine Cd.draw [(51, rowL 2 1 encI ra rc ls)] mixed rfl (Dr.take 0 rfl (by kernel_rfl) (Val.move rfl) rfl ⟨rfl, trivial⟩ (Dr.take 1 rfl (by kernel_rfl) (Val.move rfl) rfl ⟨rfl, trivial⟩ (Dr.take 2 rfl (by kernel_rfl) (Val.move rfl) rfl ⟨rfl, trivial⟩ (Dr.take 3 rfl (by kernel_rfl) (Val.ide Try.underlying23 sz38 rfl rfl hR (by first | rfl | omega | (simp; done)) hx13 (Nat.le_refl _)) rfl ⟨rfl, trivial⟩ (Dr.take 4 rfl (by kernel_rfl) (Val.fae (k := 1) rfl (hR.ne hx13) fa38_1) rfl ⟨rfl, trivial⟩ (Dr.take 5 rfl (by kernel_rfl) (Val.loadE (k := 1) rfl sc3 hR hx13 rfl) rfl ⟨rfl, trivial⟩ (Dr.take 6 rfl (by kernel_rfl) (Val.move rfl) rfl ⟨rfl, trivial⟩ (Dr.take 7 rfl (by kernel_rfl) (Val.move rfl) rfl ⟨rfl, trivial⟩ (Dr.take 8 rfl (by kernel_rfl) (Val.move rfl) rfl ⟨rfl, trivial⟩ (Dr.take 9 rfl (by kernel_rfl) (Val.ide Try.underlying23 sz38 rfl rfl hR (by first | rfl | omega | (simp; done)) hx13 (Nat.le_refl _)) rfl ⟨rfl, trivial⟩ (Dr.take 10 rfl (by kernel_rfl) (Val.fae (k := 1) rfl (hR.ne hx13) fa38_1) rfl ⟨rfl, trivial⟩ (Dr.take 11 rfl (by kernel_rfl) (Val.loadE (k := 1) rfl sc3 hR hx13 rfl) rfl ⟨rfl, trivial⟩ (Dr.take 14 rfl (by kernel_rfl) (Val.move rfl) rfl ⟨rfl, trivial⟩ (Dr.take 15 rfl (by kernel_rfl) (Val.move rfl) rfl ⟨rfl, trivial⟩ (Dr.take 16 rfl (by kernel_rfl) (Val.move rfl) rfl ⟨rfl, trivial⟩ (Dr.take 17 rfl (by kernel_rfl) (Val.ide Try.underlying23 sz38 rfl rfl hR (by first | rfl | omega | (simp; done)) hx13 (Nat.le_refl _)) rfl ⟨rfl, trivial⟩ (Dr.take 18 rfl (by kernel_rfl) (Val.fae (k := 0) rfl (hR.ne hx13) fa38_0) rfl ⟨rfl, trivial⟩ (Dr.take 19 rfl (by kernel_rfl) (Val.loadE (k := 0) rfl sc3 hR hx13 rfl) rfl ⟨rfl, trivial⟩ (Dr.take 20 rfl (by kernel_rfl) (Val.ideRow 51 Try.underlying24 sz2 rfl (by first | omega | (simp; omega)) rfl rfl (by first | rfl | omega | (simp; done)) hx15) rfl ⟨rfl, trivial⟩ (Dr.take 21 rfl (by kernel_rfl) (Val.loadRow (k := 0) 51 rfl sc2 rfl (fun _ => rfl) hx15 rfl) rfl ⟨rfl, trivial⟩ (Dr.take 22 rfl (by kernel_rfl) (Val.move rfl) rfl ⟨rfl, trivial⟩ (Dr.take 23 rfl (by kernel_rfl) (Val.move rfl) rfl ⟨rfl, trivial⟩ (Dr.take 24 rfl (by kernel_rfl) (Val.ide Try.underlying23 sz38 rfl rfl hR (by first | rfl | omega | (simp; done)) hx13 (Nat.le_refl _)) rfl ⟨rfl, trivial⟩ (Dr.take 25 rfl (by kernel_rfl) (Val.fae (k := 2) rfl (hR.ne hx13) fa38_2) rfl ⟨rfl, trivial⟩ (Dr.take 26 rfl (by kernel_rfl) (Val.loadE (k := 2) rfl sc2 hR hx13 rfl) rfl ⟨rfl, trivial⟩ (Dr.take 27 rfl (by kernel_rfl) (Val.addN rfl rfl (by unfold in64; omega)) rfl ⟨rfl, trivial⟩ ?_))))))))))))))))))))))))))
                    obtain ⟨x17, hx18⟩ : ∃ x, l2[(Int.toNat x12.q)]? = some x := ⟨_, List.getElem?_eq_getElem (by first | omega | (simp; omega))⟩
                    have hb_x17 := hQ.bd _ (List.mem_of_getElem? hx18)
                    refine Dr.one 12 (by kernel_rfl) rfl (Val.eff (Val.ideRow 52 Try.underlying24 sz2 rfl (by first | omega | (simp; omega)) rfl rfl (by first | rfl | omega | (simp; done)) hx18) rfl) rfl (fun _ _ => ⟨rfl, trivial⟩) fun _ _ => (Dr.one 13 (by kernel_rfl) rfl (Val.eff (Val.loadRow (k := 0) 52 rfl sc2 rfl (fun _ => rfl) hx18 rfl) rfl) rfl (fun _ _ => ⟨rfl, trivial⟩) fun _ _ => (Dr.take 28 rfl (by kernel_rfl) (Val.max rfl rfl) rfl ⟨rfl, trivial⟩ (Dr.one 29 (by kernel_rfl) rfl (Val.eff (Val.ideRow 52 Try.underlying24 sz2 rfl (by first | omega | (simp; omega)) rfl rfl (by first | rfl | omega | (simp; done)) hx18) rfl) rfl (fun _ _ => ⟨rfl, trivial⟩) fun _ _ => (Dr.one 30 (by kernel_rfl) rfl (Eff.storeRow (k := 0) (u' := (Max.max x17 (x14 + x12.lag))) 52 sz2 rfl rfl rfl rfl (fun _ => rfl) hx18 rfl rfl) rfl (fun _ _ => ⟨rfl, trivial⟩) fun _ _ => ?_))))
                    have hx19 := set_at (u' := (Max.max x17 (x14 + x12.lag))) hx18
                    refine Dr.done (by kernel_rfl) (Rx.inb (Rx.seq (Cd.region (Rg.val (Val.move rfl) rfl (Rg.val (Val.addN rfl rfl (by unfold in64; omega)) rfl (Rg.val (Val.assign rfl) rfl (Rg.nil ?_)))))))
                    refine Rx.meet (c + 1, rb, rd, (l2.set (Int.toNat x12.q) (Max.max x17 (x14 + x12.lag)))) ⟨⟨by omega, hP.step hQ hlk (List.mem_of_getElem? hx13) hx15 hx18 c16⟩, by show L.length - (c + 1) < L.length - c; omega⟩ ⟨rfl, rfl, rfl, rfl, rfl, rfl, rfl, trivial⟩ ⟨rfl, rfl, trivial⟩
                  · replace c16 := of_decide_eq_false c16
                    refine Cd.skip (Rx.inb (Rx.seq (Cd.region (Rg.val (Val.move rfl) rfl (Rg.val (Val.addN rfl rfl (by unfold in64; omega)) rfl (Rg.val (Val.assign rfl) rfl (Rg.nil ?_)))))))
                    refine Rx.meet (c + 1, rb, rd, l2) ⟨⟨by omega, hQ⟩, by show L.length - (c + 1) < L.length - c; omega⟩ ⟨rfl, rfl, rfl, rfl, rfl, rfl, rfl, trivial⟩ ⟨rfl, rfl, trivial⟩
                · replace c11 := of_decide_eq_false c11
                  refine Cd.exit (Rx.pastE (Rx.pastE (Rx.hit (Rx.seq (Cd.region (Rg.val (Val.move rfl) rfl (Rg.val (Val.assign rfl) rfl (Rg.nil (Rx.inb (Rx.seq (Cd.region (Rg.val (Val.move rfl) rfl (Rg.val (Val.addN rfl rfl (by unfold in64; omega)) rfl (Rg.val (Val.assign rfl) rfl (Rg.nil (Rx.gain (fun w hm => hm.relabel 52 51 rfl) ?_))))))))))))))))
                  refine Rx.meet (k + 1, rb, rd, l2) ⟨⟨by omega, hQ⟩, by show n - (k + 1) < n - k; omega⟩ ⟨rfl, rfl, rfl, rfl, rfl, trivial⟩ ⟨rfl, trivial⟩
            · replace c9 := of_decide_eq_false c9
              refine Cd.exit (Rx.pastE (Rx.pastE (Rx.hit (Rx.seq (Cd.seq (Cd.region (Rg.val (Val.move rfl) rfl (Rg.val (Val.move rfl) rfl ?_))))))))
              obtain ⟨x20, hx21⟩ : ∃ x, ls[v]? = some x := ⟨_, List.getElem?_eq_getElem (by first | omega | (simp; omega))⟩
              have hb_x20 := hP.bd _ (List.mem_of_getElem? hx21)
              refine Rg.val (Val.ideRow 51 Try.underlying24 sz2 rfl (by first | omega | (simp; omega)) rfl rfl (by first | rfl | omega | (simp; done)) hx21) rfl (Rg.val (Val.loadRow (k := 0) 51 rfl sc2 rfl (fun _ => rfl) hx21 rfl) rfl (Rg.val (Val.gtr rfl rfl) rfl (Rg.nil (Rx.seq (Cd.cond rfl (fun c22 => ?_) (fun c22 => ?_))))))
              · replace c22 := of_decide_eq_true c22
                refine Cd.seq (Cd.region (Rg.val (Val.assign rfl) rfl (Rg.nil (Rx.seq (Cd.ret (Rx.inr (Rx.pastR (Rx.pastR (Rx.inr (Rx.pastR (Rx.ret1 rfl rfl fun w hm_ => (⟨true, fun _ π_ hπ_ => hP.no hx21 c22 hπ_, rfl, hm_.weak trivial⟩))))))))))))
              · replace c22 := of_decide_eq_false c22
                refine Cd.skip (Rx.inb (Rx.seq (Cd.region (Rg.val (Val.move rfl) rfl (Rg.val (Val.addN rfl rfl (by unfold in64; omega)) rfl (Rg.val (Val.assign rfl) rfl (Rg.nil ?_)))))))
                refine Rx.meet (v + 1) ⟨by omega, by show n - (v + 1) < n - v; omega⟩ ⟨rfl, rfl, rfl, trivial⟩ trivial
    · replace c1 := of_decide_eq_false c1
      refine Cd.exit (Rx.pastE (Rx.pastE (Rx.hit (Rx.seq (Cd.seq (Cd.region (Rg.val (Val.assign rfl) rfl (Rg.nil (Rx.seq (Cd.ret (Rx.ret1 rfl rfl fun w hm_ => (⟨false, fun h_ => (by cases h_), rfl, hm_.weak trivial⟩))))))))))))

theorem first_neg2 {m k : Int} {ws : List Wn} (hm : 0 ≤ m) (hw : winF 0 ws = true) : ((firstF m k ws).getD (-1) < 0 → firstF m k ws = none) ∧ (¬ (firstF m k ws).getD (-1) < 0 → ∃ z, firstF m k ws = some z ∧ (firstF m k ws).getD (-1) = z) := by
  cases h : firstF m k ws with
  | none => exact ⟨fun _ => rfl, fun h1 => absurd (show (-1 : Int) < 0 by omega) h1⟩
  | some y =>
    have := firstF_bd hm hw h
    exact ⟨fun h1 => by simp at h1; omega, fun _ => ⟨y, rfl, rfl⟩⟩
theorem rearliest_calls.bsl_0 (y0 : Int) (w : World) : (Instr.buildSlice 24 1 #[(0, .int .i64 y0)]).run Try.prog w = .ok (.slice (some ⟨w.heap.size, 0, none⟩) 1 1) (w.alloc (.cells #[.int .i64 y0] 2)) := by kernel_rfl
open rearliest_calls in
theorem rearliest_calls (J : Jb) (ao : Option Addr) (co : Nat) (os : List Rw) (w : World) (hJ : JobAt w J) (hO : OrdAt w ao os) (hK : JobOk J) (hV : OrdOk J os) : Calls Try.prog 82 #[.agg #[.slice J.ta J.ts.length J.tc, .slice J.aa J.ls.length J.ac, .slice J.ga J.gs.length J.gc], .slice ao os.length co] w (RowPost w 2 1 encI ((earlF J (linksF J os)).getD []) fun a_ c_ => .tuple #[.slice a_ ((earlF J (linksF J os)).getD []).length c_, .bool (earlF J (linksF J os)).isSome]) := by
  have hS := sound_of hK hV
  have hkn := hK.nts
  refine calls_of (vs := [.agg #[.slice J.ta J.ts.length J.tc, .slice J.aa J.ls.length J.ac, .slice J.ga J.gs.length J.gc], .slice ao os.length co]) Try.func82 rfl rfl rfl ?_
  show Cd _ _ _ _ _ [(0, .agg #[.slice J.ta J.ts.length J.tc, .slice J.aa J.ls.length J.ac, .slice J.ga J.gs.length J.gc]), (1, .slice ao os.length co)] []
  refine Cd.seq (Cd.region (Rg.eff (Eff.box 1 rfl rfl) rfl fun b1 _ => (Rg.val (Val.assign rfl) rfl (Rg.val (Val.assign rfl) rfl (Rg.nil (Rx.seq (Cd.seq (Cd.region (Rg.val (Val.loadAll (l := 1) rfl rfl ag26 rfl) rfl (Rg.val (Val.move rfl) rfl (Rg.eff (Eff.call rfl rfl en51 rfl (fun w hm => RowPost.mem 2 hm (rlinks_calls J _ _ os w (Mem.job hm hJ) (Mem.ord hm hO) hK hV))) rfl fun p1 _ => (Rg.val (Val.assign rfl) rfl (Rg.nil (Rx.seq (Cd.seq (Cd.seq (Cd.region (Rg.val (Val.fa rfl (fa26_0 _ _)) rfl (Rg.val (Val.load (l := 1) rfl rfl sc22 rfl) rfl (Rg.val (Val.len Try.underlying22 rfl) rfl (Rg.val (Val.move rfl) rfl (Rg.eff (Eff.made (A := Bool) (Bs := fun _ => []) rfl rfl en92 rfl (fun _ => rfl) (fun w hm => positive_calls J.ts.length _ _ (linksF J os) w (Rdb.of_row (l := 2) hm rfl (fun _ => rfl)) hS.lk' (linksF_len hK hV) hK.nts.2)) rfl fun p2 hp2 => (Rg.nil (Rx.seq (Cd.cond rfl (fun c3 => ?_) (fun c3 => ?_))))))))))))))))))))))))))
  · have hno_ : ¬ ∃ l, IsPlan J (linksF J os) l := fun ⟨l_, hl_⟩ => hp2 c3 _ (Pot.of_plan hl_)
    refine Cd.seq (Cd.region (Rg.val (Val.assign rfl) rfl (Rg.val (Val.assign rfl) rfl (Rg.nil (Rx.seq (Cd.ret (Rx.pastR (Rx.ret2 rfl rfl rfl fun w hm_ => ((by rw [earlF_none hno_]; exact RowPost.none hm_.below rfl rfl))))))))))
  · refine Cd.skip (Rx.seq (Cd.seq (Cd.region (Rg.val (Val.assign rfl) rfl (Rg.nil (Rx.seq (Cd.seq (Cd.seq (Cd.region (Rg.val (Val.assign rfl) rfl (Rg.nil (Rx.seq (Cd.block (Cd.gain (fun w hm => Mem.nilRow 500 2 1 encI hm) ?_))))))))))))))
    refine Cd.loop (A := Nat × Option Addr × Nat × List Int) (fun pr_ : Nat × Option Addr × Nat × List Int => match pr_ with | (i, ar, cr, o) => i ≤ J.ts.length ∧ FstI J i o)
        (fun pr_ : Nat × Option Addr × Nat × List Int => match pr_ with | (i, ar, cr, o) => [(2, .pointer (some ⟨b1, 0, none⟩)), (6, .slice p1.1 (linksF J os).length p1.2), (7, .slice ar o.length cr), (8, .int .i64 (i : Int))])
        (fun pr_ : Nat × Option Addr × Nat × List Int => match pr_ with | (i, ar, cr, o) => [(1, blk b1 [.slice J.ta J.ts.length J.tc, .slice J.aa J.ls.length J.ac, .slice J.ga J.gs.length J.gc] 26), (2, rowL 38 3 encAf p1.1 p1.2 (linksF J os)), (500, rowL 2 1 encI ar cr o)])
        (fun pr_ : Nat × Option Addr × Nat × List Int => match pr_ with | (i, ar, cr, o) => J.ts.length - i) (0, none, 0, []) ?_ ⟨rfl, rfl, rfl, rfl, trivial⟩ ⟨rfl, rfl, rfl, trivial⟩ ?_
    · exact ⟨Nat.zero_le _, FstI.start⟩
    · rintro ⟨i, ar, cr, o⟩ ⟨hi, hF⟩
      show Cd _ _ _ _ _ [(2, .pointer (some ⟨b1, 0, none⟩)), (6, .slice p1.1 (linksF J os).length p1.2), (7, .slice ar o.length cr), (8, .int .i64 (i : Int))] [(1, blk b1 [.slice J.ta J.ts.length J.tc, .slice J.aa J.ls.length J.ac, .slice J.ga J.gs.length J.gc] 26), (2, rowL 38 3 encAf p1.1 p1.2 (linksF J os)), (500, rowL 2 1 encI ar cr o)]
      have hol := hF.len
      refine Cd.seq (Cd.seq (Cd.region (Rg.val (Val.move rfl) rfl (Rg.val (Val.fa rfl (fa26_0 _ _)) rfl (Rg.val (Val.load (l := 1) rfl rfl sc22 rfl) rfl (Rg.val (Val.len Try.underlying22 rfl) rfl (Rg.val (Val.lss rfl rfl) rfl (Rg.nil (Rx.seq (Cd.cond rfl (fun c4 => ?_) (fun c4 => ?_)))))))))))
      · replace c4 := of_decide_eq_true c4
        refine Cd.skip (Rx.seq (Cd.seq (Cd.block (Cd.seq (Cd.draw [(1, blk b1 [.slice J.ta J.ts.length J.tc, .slice J.aa J.ls.length J.ac, .slice J.ga J.gs.length J.gc] 26), (2, rowL 38 3 encAf p1.1 p1.2 (linksF J os)), (500, rowL 2 1 encI ar cr o)] mixed rfl (Dr.take 0 rfl (by kernel_rfl) (Val.fa rfl (fa26_0 _ _)) rfl ⟨rfl, rfl, rfl, trivial⟩ (Dr.take 1 rfl (by kernel_rfl) (Val.load (l := 1) rfl rfl sc22 rfl) rfl ⟨rfl, rfl, rfl, trivial⟩ (Dr.take 2 rfl (by kernel_rfl) (Val.move rfl) rfl ⟨rfl, rfl, rfl, trivial⟩ ?_))))))))
        obtain ⟨x5, hx6⟩ : ∃ x, J.ts[i]? = some x := ⟨_, List.getElem?_eq_getElem (by first | omega | (simp; omega))⟩
        have hk_x5 := hK.tk _ (List.mem_of_getElem? hx6)
        refine Dr.take 3 rfl (by kernel_rfl) (Val.ide Try.underlying22 sz57 rfl rfl hJ.rts (by first | rfl | omega | (simp; done)) hx6 (Nat.le_refl _)) rfl ⟨rfl, rfl, rfl, trivial⟩ (Dr.take 4 rfl (by kernel_rfl) (Val.fae (k := 1) rfl (hJ.rts.ne hx6) fa57_1) rfl ⟨rfl, rfl, rfl, trivial⟩ (Dr.take 5 rfl (by kernel_rfl) (Val.loadE (k := 1) rfl sc28 hJ.rts hx6 rfl) rfl ⟨rfl, rfl, rfl, trivial⟩ (Dr.take 6 rfl (by kernel_rfl) (Val.fa rfl (fa26_0 _ _)) rfl ⟨rfl, rfl, rfl, trivial⟩ (Dr.take 7 rfl (by kernel_rfl) (Val.load (l := 1) rfl rfl sc22 rfl) rfl ⟨rfl, rfl, rfl, trivial⟩ (Dr.take 8 rfl (by kernel_rfl) (Val.move rfl) rfl ⟨rfl, rfl, rfl, trivial⟩ (Dr.take 9 rfl (by kernel_rfl) (Val.ide Try.underlying22 sz57 rfl rfl hJ.rts (by first | rfl | omega | (simp; done)) hx6 (Nat.le_refl _)) rfl ⟨rfl, rfl, rfl, trivial⟩ (Dr.take 10 rfl (by kernel_rfl) (Val.fae (k := 0) rfl (hJ.rts.ne hx6) fa57_0) rfl ⟨rfl, rfl, rfl, trivial⟩ (Dr.take 11 rfl (by kernel_rfl) (Val.loadE (k := 0) rfl sc2 hJ.rts hx6 rfl) rfl ⟨rfl, rfl, rfl, trivial⟩ (Dr.one 12 (by kernel_rfl) rfl (Eff.give rfl rfl en70 rfl (fun w hm => rfirst_gives _ _ _ _ _ w (hm.rdb (hJ.win _ (List.mem_of_getElem? hx6))) (by omega) (fun w_ hw_ => winF_mem hk_x5.2.1 w_ hw_) hk_x5.1 (by unfold in64; omega))) rfl (fun _ _ => ⟨rfl, rfl, rfl, trivial⟩) fun _ _ => (Dr.take 13 rfl (by kernel_rfl) (Val.assign rfl) rfl ⟨rfl, rfl, rfl, trivial⟩ (Dr.done (by kernel_rfl) (Rx.seq (Cd.seq (Cd.seq (Cd.region (Rg.val (Val.move rfl) rfl (Rg.val (Val.lss rfl rfl) rfl (Rg.nil (Rx.seq (Cd.cond rfl (fun c7 => ?_) (fun c7 => ?_)))))))))))))))))))))
        · replace c7 := of_decide_eq_true c7
          have hnone_ := (first_neg2 hk_x5.1.1 hk_x5.2.1).1 c7
          refine Cd.seq (Cd.region (Rg.val (Val.assign rfl) rfl (Rg.val (Val.assign rfl) rfl (Rg.nil (Rx.seq (Cd.ret (Rx.pastR (Rx.inr (Rx.pastR (Rx.pastR (Rx.inr (Rx.pastR (Rx.ret2 rfl rfl rfl fun w hm_ => ((by rw [earlF_none (first_dead hS hx6 hnone_)]; exact RowPost.none hm_.below rfl rfl)))))))))))))))
        · replace c7 := of_decide_eq_false c7
          obtain ⟨z_, hz_, hzg_⟩ := (first_neg2 hk_x5.1.1 hk_x5.2.1).2 c7
          refine Cd.skip (Rx.seq (Cd.region (Rg.val (Val.move rfl) rfl (Rg.val (Val.move rfl) rfl (Rg.eff (Eff.buildSlice (cs := [.int .i64 ((firstF x5.m 0 x5.ws).getD (-1))]) 3 rfl (fun w => (bsl_0 _) w) rfl) rfl fun b3 _ => (Rg.eff (Eff.append (enc := encI) (ys := [(firstF x5.m 0 x5.ws).getD (-1)]) (bytes := 8) 500 Try.underlying24 (by kernel_rfl) rfl rfl rfl rfl (fun w hm => hm.news (l := 3) rfl rfl) (fun _ => rfl) ones_I (by simp only [List.length_cons, List.length_nil, maxLen]; omega) rfl) rfl fun p8 _ => (Rg.val (Val.assign rfl) rfl (Rg.nil (Rx.inb (Rx.seq (Cd.region (Rg.val (Val.move rfl) rfl (Rg.val (Val.addN rfl rfl (by have := linksF_len hK hV; unfold in64; omega)) rfl (Rg.val (Val.assign rfl) rfl (Rg.nil ?_)))))))))))))))
          refine Rx.meet (i + 1, p8.1, p8.2, (o ++ [(firstF x5.m 0 x5.ws).getD (-1)])) ⟨⟨by omega, by rw [hzg_]; exact hF.next hx6 hz_⟩, by show J.ts.length - (i + 1) < J.ts.length - i; omega⟩ ⟨rfl, rfl, rfl, rfl, trivial⟩ ⟨rfl, rfl, rfl, trivial⟩
      · replace c4 := of_decide_eq_false c4
        refine Cd.exit (Rx.pastE (Rx.pastE (Rx.hit (Rx.seq (Cd.block (Cd.turn (t := 7) (v := .slice ar J.ts.length cr) rfl (by rw [hF.len, show i = J.ts.length from by omega]) ?_))))))
        refine Cd.loop (A := List Int) (fun ls : List Int => RelI J (linksF J os) ls)
            (fun ls : List Int => [(2, .pointer (some ⟨b1, 0, none⟩)), (6, .slice p1.1 (linksF J os).length p1.2), (7, .slice ar J.ts.length cr)])
            (fun ls : List Int => [(1, blk b1 [.slice J.ta J.ts.length J.tc, .slice J.aa J.ls.length J.ac, .slice J.ga J.gs.length J.gc] 26), (2, rowL 38 3 encAf p1.1 p1.2 (linksF J os)), (500, rowL 2 1 encI ar cr ls)])
            (fun ls : List Int => room ls) o ?_ ⟨rfl, rfl, rfl, trivial⟩ ⟨rfl, rfl, rfl, trivial⟩ ?_
        · exact hF.done hS (by omega)
        · rintro ls hR
          show Cd _ _ _ _ _ [(2, .pointer (some ⟨b1, 0, none⟩)), (6, .slice p1.1 (linksF J os).length p1.2), (7, .slice ar J.ts.length cr)] [(1, blk b1 [.slice J.ta J.ts.length J.tc, .slice J.aa J.ls.length J.ac, .slice J.ga J.gs.length J.gc] 26), (2, rowL 38 3 encAf p1.1 p1.2 (linksF J os)), (500, rowL 2 1 encI ar cr ls)]
          have hll := hR.len
          refine Cd.block (Cd.seq (Cd.region (Rg.val (Val.assign rfl) rfl (Rg.nil (Rx.seq (Cd.seq (Cd.seq (Cd.region (Rg.val (Val.assign rfl) rfl (Rg.nil (Rx.seq (Cd.block ?_))))))))))))
          refine Cd.loop (A := Nat × Bool × List Int) (fun pr_ : Nat × Bool × List Int => match pr_ with | (c, ag, l2) => c ≤ (linksF J os).length ∧ RelI J (linksF J os) l2 ∧ PassR (linksF J os) ls l2 ag c)
              (fun pr_ : Nat × Bool × List Int => match pr_ with | (c, ag, l2) => [(2, .pointer (some ⟨b1, 0, none⟩)), (6, .slice p1.1 (linksF J os).length p1.2), (7, .slice ar J.ts.length cr), (10, .bool ag), (11, .int .i64 (c : Int))])
              (fun pr_ : Nat × Bool × List Int => match pr_ with | (c, ag, l2) => [(1, blk b1 [.slice J.ta J.ts.length J.tc, .slice J.aa J.ls.length J.ac, .slice J.ga J.gs.length J.gc] 26), (2, rowL 38 3 encAf p1.1 p1.2 (linksF J os)), (500, rowL 2 1 encI ar cr l2)])
              (fun pr_ : Nat × Bool × List Int => match pr_ with | (c, ag, l2) => (linksF J os).length - c) (0, false, ls) ?_ ⟨rfl, rfl, rfl, rfl, rfl, trivial⟩ ⟨rfl, rfl, rfl, trivial⟩ ?_
          · exact ⟨Nat.zero_le _, hR, PassR.start⟩
          · rintro ⟨c, ag, l2⟩ ⟨hc, hQ, hP⟩
            show Cd _ _ _ _ _ [(2, .pointer (some ⟨b1, 0, none⟩)), (6, .slice p1.1 (linksF J os).length p1.2), (7, .slice ar J.ts.length cr), (10, .bool ag), (11, .int .i64 (c : Int))] [(1, blk b1 [.slice J.ta J.ts.length J.tc, .slice J.aa J.ls.length J.ac, .slice J.ga J.gs.length J.gc] 26), (2, rowL 38 3 encAf p1.1 p1.2 (linksF J os)), (500, rowL 2 1 encI ar cr l2)]
            have hl2 := hQ.len
            refine Cd.seq (Cd.seq (Cd.region (Rg.val (Val.move rfl) rfl (Rg.val (Val.move rfl) rfl (Rg.val (Val.len Try.underlying23 rfl) rfl (Rg.val (Val.lss rfl rfl) rfl (Rg.nil (Rx.seq (Cd.cond rfl (fun c9 => ?_) (fun c9 => ?_))))))))))
            · replace c9 := of_decide_eq_true c9
              refine Cd.skip (Rx.seq (Cd.seq (Cd.block (Cd.seq (Cd.draw [(1, blk b1 [.slice J.ta J.ts.length J.tc, .slice J.aa J.ls.length J.ac, .slice J.ga J.gs.length J.gc] 26), (2, rowL 38 3 encAf p1.1 p1.2 (linksF J os)), (500, rowL 2 1 encI ar cr l2)] mixed rfl (Dr.take 0 rfl (by kernel_rfl) (Val.move rfl) rfl ⟨rfl, rfl, rfl, trivial⟩ (Dr.take 1 rfl (by kernel_rfl) (Val.move rfl) rfl ⟨rfl, rfl, rfl, trivial⟩ (Dr.take 2 rfl (by kernel_rfl) (Val.move rfl) rfl ⟨rfl, rfl, rfl, trivial⟩ ?_))))))))
              obtain ⟨x10, hx11⟩ : ∃ x, (linksF J os)[c]? = some x := ⟨_, List.getElem?_eq_getElem (by first | omega | (simp; omega))⟩
              have hk_x10 := hS.lk _ (List.mem_of_getElem? hx11)
              refine Dr.take 3 rfl (by kernel_rfl) (Val.ideRow 2 Try.underlying23 sz38 rfl rfl rfl rfl (by first | rfl | omega | (simp; done)) hx11) rfl ⟨rfl, rfl, rfl, trivial⟩ (Dr.take 4 rfl (by kernel_rfl) (Val.faeRow (k := 0) 2 rfl rfl (fun _ => rfl) hx11 fa38_0) rfl ⟨rfl, rfl, rfl, trivial⟩ (Dr.take 5 rfl (by kernel_rfl) (Val.loadRow (k := 0) 2 rfl sc3 rfl (fun _ => rfl) hx11 rfl) rfl ⟨rfl, rfl, rfl, trivial⟩ ?_))
              obtain ⟨x12, hx13⟩ : ∃ x, l2[(Int.toNat x10.p)]? = some x := ⟨_, List.getElem?_eq_getElem (by first | omega | (simp; omega))⟩
              have hb_x12 := hQ.bd hS _ (List.mem_of_getElem? hx13)
              refine Dr.take 6 rfl (by kernel_rfl) (Val.ideRow 500 Try.underlying24 sz2 rfl (by first | omega | (simp; omega)) rfl rfl (by first | rfl | omega | (simp; done)) hx13) rfl ⟨rfl, rfl, rfl, trivial⟩ (Dr.take 7 rfl (by kernel_rfl) (Val.loadRow (k := 0) 500 rfl sc2 rfl (fun _ => rfl) hx13 rfl) rfl ⟨rfl, rfl, rfl, trivial⟩ (Dr.take 8 rfl (by kernel_rfl) (Val.move rfl) rfl ⟨rfl, rfl, rfl, trivial⟩ (Dr.take 9 rfl (by kernel_rfl) (Val.move rfl) rfl ⟨rfl, rfl, rfl, trivial⟩ (Dr.take 10 rfl (by kernel_rfl) (Val.ideRow 2 Try.underlying23 sz38 rfl rfl rfl rfl (by first | rfl | omega | (simp; done)) hx11) rfl ⟨rfl, rfl, rfl, trivial⟩ (Dr.take 11 rfl (by kernel_rfl) (Val.faeRow (k := 2) 2 rfl rfl (fun _ => rfl) hx11 fa38_2) rfl ⟨rfl, rfl, rfl, trivial⟩ (Dr.take 12 rfl (by kernel_rfl) (Val.loadRow (k := 2) 2 rfl sc2 rfl (fun _ => rfl) hx11 rfl) rfl ⟨rfl, rfl, rfl, trivial⟩ (Dr.take 13 rfl (by kernel_rfl) (Val.addN rfl rfl (by have := linksF_len hK hV; unfold in64; omega)) rfl ⟨rfl, rfl, rfl, trivial⟩ (Dr.take 14 rfl (by kernel_rfl) (Val.assign rfl) rfl ⟨rfl, rfl, rfl, trivial⟩ (Dr.done (by kernel_rfl) (Rx.seq (Cd.seq (Cd.region (Rg.val (Val.move rfl) rfl (Rg.val (Val.move rfl) rfl (Rg.val (Val.ideRow 2 Try.underlying23 sz38 rfl rfl rfl rfl (by first | rfl | omega | (simp; done)) hx11) rfl (Rg.val (Val.faeRow (k := 1) 2 rfl rfl (fun _ => rfl) hx11 fa38_1) rfl (Rg.val (Val.loadRow (k := 1) 2 rfl sc3 rfl (fun _ => rfl) hx11 rfl) rfl (Rg.val (Val.assign rfl) rfl (Rg.nil (Rx.seq (Cd.seq (Cd.seq (Cd.region (Rg.val (Val.move rfl) rfl (Rg.val (Val.move rfl) rfl ?_)))))))))))))))))))))))))
              obtain ⟨x14, hx15⟩ : ∃ x, l2[(Int.toNat x10.q)]? = some x := ⟨_, List.getElem?_eq_getElem (by first | omega | (simp; omega))⟩
              have hb_x14 := hQ.bd hS _ (List.mem_of_getElem? hx15)
              refine Rg.val (Val.ideRow 500 Try.underlying24 sz2 rfl (by first | omega | (simp; omega)) rfl rfl (by first | rfl | omega | (simp; done)) hx15) rfl (Rg.val (Val.loadRow (k := 0) 500 rfl sc2 rfl (fun _ => rfl) hx15 rfl) rfl (Rg.val (Val.move rfl) rfl (Rg.val (Val.geq rfl rfl) rfl (Rg.nil (Rx.seq (Cd.cond rfl (fun c16 => ?_) (fun c16 => ?_)))))))
              · replace c16 := of_decide_eq_true c16
                refine Cd.exit (Rx.pastE (Rx.hit (Rx.seq (Cd.region (Rg.val (Val.move rfl) rfl (Rg.val (Val.addN rfl rfl (by have := linksF_len hK hV; unfold in64; omega)) rfl (Rg.val (Val.assign rfl) rfl (Rg.nil ?_))))))))
                refine Rx.meet (c + 1, ag, l2) ⟨⟨by omega, hQ, hP.skip hx11 (by unfold sat; rw [at_of hx13, at_of hx15]; omega)⟩, by show (linksF J os).length - (c + 1) < (linksF J os).length - c; omega⟩ ⟨rfl, rfl, rfl, rfl, rfl, trivial⟩ ⟨rfl, rfl, rfl, trivial⟩
              · replace c16 := of_decide_eq_false c16
                refine Cd.skip (Rx.seq (Cd.seq (Cd.draw [(1, blk b1 [.slice J.ta J.ts.length J.tc, .slice J.aa J.ls.length J.ac, .slice J.ga J.gs.length J.gc] 26), (2, rowL 38 3 encAf p1.1 p1.2 (linksF J os))] mixed rfl (Dr.take 0 rfl (by kernel_rfl) (Val.move rfl) rfl ⟨rfl, rfl, trivial⟩ (Dr.take 1 rfl (by kernel_rfl) (Val.move rfl) rfl ⟨rfl, rfl, trivial⟩ (Dr.take 2 rfl (by kernel_rfl) (Val.fa rfl (fa26_0 _ _)) rfl ⟨rfl, rfl, trivial⟩ (Dr.take 3 rfl (by kernel_rfl) (Val.load (l := 1) rfl rfl sc22 rfl) rfl ⟨rfl, rfl, trivial⟩ (Dr.take 4 rfl (by kernel_rfl) (Val.move rfl) rfl ⟨rfl, rfl, trivial⟩ ?_))))))))
                obtain ⟨x17, hx18⟩ : ∃ x, J.ts[(Int.toNat x10.q)]? = some x := ⟨_, List.getElem?_eq_getElem (by first | omega | (simp; omega))⟩
                have hk_x17 := hK.tk _ (List.mem_of_getElem? hx18)
                refine Dr.take 5 rfl (by kernel_rfl) (Val.ide Try.underlying22 sz57 rfl rfl hJ.rts (by first | rfl | omega | (simp; done)) hx18 (Nat.le_refl _)) rfl ⟨rfl, rfl, trivial⟩ (Dr.take 6 rfl (by kernel_rfl) (Val.fae (k := 1) rfl (hJ.rts.ne hx18) fa57_1) rfl ⟨rfl, rfl, trivial⟩ (Dr.take 7 rfl (by kernel_rfl) (Val.loadE (k := 1) rfl sc28 hJ.rts hx18 rfl) rfl ⟨rfl, rfl, trivial⟩ (Dr.take 8 rfl (by kernel_rfl) (Val.fa rfl (fa26_0 _ _)) rfl ⟨rfl, rfl, trivial⟩ (Dr.take 9 rfl (by kernel_rfl) (Val.load (l := 1) rfl rfl sc22 rfl) rfl ⟨rfl, rfl, trivial⟩ (Dr.take 10 rfl (by kernel_rfl) (Val.move rfl) rfl ⟨rfl, rfl, trivial⟩ (Dr.take 11 rfl (by kernel_rfl) (Val.ide Try.underlying22 sz57 rfl rfl hJ.rts (by first | rfl | omega | (simp; done)) hx18 (Nat.le_refl _)) rfl ⟨rfl, rfl, trivial⟩ (Dr.take 12 rfl (by kernel_rfl) (Val.fae (k := 0) rfl (hJ.rts.ne hx18) fa57_0) rfl ⟨rfl, rfl, trivial⟩ (Dr.take 13 rfl (by kernel_rfl) (Val.loadE (k := 0) rfl sc2 hJ.rts hx18 rfl) rfl ⟨rfl, rfl, trivial⟩ (Dr.take 14 rfl (by kernel_rfl) (Val.move rfl) rfl ⟨rfl, rfl, trivial⟩ (Dr.one 15 (by kernel_rfl) rfl (Eff.give rfl rfl en70 rfl (fun w hm => rfirst_gives _ _ _ _ _ w (hm.rdb (hJ.win _ (List.mem_of_getElem? hx18))) (by omega) (fun w_ hw_ => winF_mem hk_x17.2.1 w_ hw_) hk_x17.1 (by unfold in64; omega))) rfl (fun _ _ => ⟨rfl, rfl, trivial⟩) fun _ _ => (Dr.one 16 (by kernel_rfl) rfl (Val.eff (Val.ideRow 500 Try.underlying24 sz2 rfl (by first | omega | (simp; omega)) rfl rfl (by first | rfl | omega | (simp; done)) hx15) rfl) rfl (fun _ _ => ⟨rfl, rfl, trivial⟩) fun _ _ => (Dr.one 17 (by kernel_rfl) rfl (Eff.storeRow (k := 0) (u' := ((firstF x17.m (x12 + x10.lag) x17.ws).getD (-1))) 500 sz2 rfl rfl rfl rfl (fun _ => rfl) hx15 rfl rfl) rfl (fun _ _ => ⟨rfl, rfl, trivial⟩) fun _ _ => ?_))))))))))))
                have hx19 := set_at (u' := ((firstF x17.m (x12 + x10.lag) x17.ws).getD (-1))) hx15
                refine Dr.done (by kernel_rfl) (Rx.seq (Cd.seq (Cd.seq (Cd.region (Rg.val (Val.move rfl) rfl (Rg.val (Val.move rfl) rfl (Rg.val (Val.ideRow 500 Try.underlying24 sz2 rfl (by first | omega | (simp; omega)) rfl rfl (by first | rfl | omega | (simp; done)) hx19) rfl (Rg.val (Val.loadRow (k := 0) 500 rfl sc2 rfl (fun _ => rfl) hx19 rfl) rfl (Rg.val (Val.lss rfl rfl) rfl (Rg.nil (Rx.seq (Cd.cond rfl (fun c20 => ?_) (fun c20 => ?_)))))))))))))
                · replace c20 := of_decide_eq_true c20
                  have hnone_ := (first_neg2 hk_x17.1.1 hk_x17.2.1).1 c20
                  refine Cd.seq (Cd.region (Rg.val (Val.assign rfl) rfl (Rg.val (Val.assign rfl) rfl (Rg.nil (Rx.seq (Cd.ret (Rx.pastR (Rx.inr (Rx.pastR (Rx.pastR (Rx.inr (Rx.pastR (Rx.inr (Rx.pastR (Rx.inr (Rx.ret2 rfl rfl rfl fun w hm_ => ((by rw [earlF_none ((hQ.step hS (List.mem_of_getElem? hx11) hx18 hx13 hx15 (by omega)).1 hnone_)]; exact RowPost.none hm_.below rfl rfl))))))))))))))))))
                · replace c20 := of_decide_eq_false c20
                  obtain ⟨z_, hz_, hzg_⟩ := (first_neg2 hk_x17.1.1 hk_x17.2.1).2 c20
                  refine Cd.skip (Rx.seq (Cd.region (Rg.val (Val.assign rfl) rfl (Rg.nil (Rx.inb (Rx.seq (Cd.region (Rg.val (Val.move rfl) rfl (Rg.val (Val.addN rfl rfl (by have := linksF_len hK hV; unfold in64; omega)) rfl (Rg.val (Val.assign rfl) rfl (Rg.nil ?_)))))))))))
                  have hst_ := (hQ.step hS (List.mem_of_getElem? hx11) hx18 hx13 hx15 (by omega)).2 z_ hz_
                  refine Rx.meet (c + 1, true, (l2.set (Int.toNat x10.q) ((firstF x17.m (x12 + x10.lag) x17.ws).getD (-1)))) ⟨⟨by omega, by rw [hzg_]; exact hst_.1, by rw [hzg_]; exact hP.set hst_.2⟩, by show (linksF J os).length - (c + 1) < (linksF J os).length - c; omega⟩ ⟨rfl, rfl, rfl, rfl, rfl, trivial⟩ ⟨rfl, rfl, rfl, trivial⟩
            · replace c9 := of_decide_eq_false c9
              refine Cd.exit (Rx.pastE (Rx.pastE (Rx.hit (Rx.seq (Cd.seq (Cd.region (Rg.val (Val.move rfl) rfl (Rg.val (Val.not rfl) rfl (Rg.nil (Rx.seq (Cd.cond rfl (fun c21 => ?_) (fun c21 => ?_))))))))))))
              · replace c21 := bnot_t c21
                refine Cd.seq (Cd.region (Rg.val (Val.move rfl) rfl (Rg.val (Val.assign rfl) rfl (Rg.val (Val.assign rfl) rfl (Rg.nil (Rx.seq (Cd.ret (Rx.inr (Rx.pastR (Rx.inr (Rx.ret2 rfl rfl rfl fun w hm_ => ((by have h_ := hP; rw [c21] at h_; have hl_ := hQ.least (h_.done (by omega)); rw [earlF_some hl_]; exact RowPost.row 500 hm_ rfl (by simp [hl_.plan.len]))))))))))))))
              · replace c21 := bnot_f c21
                refine Cd.skip (Rx.inb ?_)
                refine Rx.meet l2 ⟨hQ, hP.2 c21⟩ ⟨rfl, rfl, rfl, trivial⟩ ⟨rfl, rfl, rfl, trivial⟩

theorem rEarliest_calls (J : Jb) (ao : Option Addr) (co : Nat) (os : List Rw) (w : World) (hJ : JobAt w J) (hO : OrdAt w ao os) (hw : os.length ≤ 1000 ∧ ∀ r ∈ os, r.xs.length ≤ 1000) : Calls Try.prog 28 #[.agg #[.slice J.ta J.ts.length J.tc, .slice J.aa J.ls.length J.ac, .slice J.ga J.gs.length J.gc], .slice ao os.length co] w (RowPost w 2 1 encI (EarlY J os) fun a_ c_ => .tuple #[.slice a_ (EarlY J os).length c_, .int .i64 (EarlE J os)]) := by
  refine calls_of (vs := [.agg #[.slice J.ta J.ts.length J.tc, .slice J.aa J.ls.length J.ac, .slice J.ga J.gs.length J.gc], .slice ao os.length co]) Try.func28 rfl rfl rfl ?_
  show Cd _ _ _ _ _ [(0, .agg #[.slice J.ta J.ts.length J.tc, .slice J.aa J.ls.length J.ac, .slice J.ga J.gs.length J.gc]), (1, .slice ao os.length co)] []
  refine Cd.seq (Cd.region (Rg.eff (Eff.box 1 rfl rfl) rfl fun b1 _ => (Rg.val (Val.assign rfl) rfl (Rg.val (Val.assign rfl) rfl (Rg.nil (Rx.seq (Cd.seq (Cd.region (Rg.val (Val.loadAll (l := 1) rfl rfl ag26 rfl) rfl (Rg.val (Val.move rfl) rfl (Rg.eff (Eff.give rfl rfl en20 rfl (fun w hm => rCheckOrder_gives J _ _ os w (Mem.job hm hJ) (Mem.ord hm hO) hw)) rfl fun _ _ => (Rg.val (Val.assign rfl) rfl (Rg.nil (Rx.seq (Cd.seq (Cd.seq (Cd.region (Rg.val (Val.move rfl) rfl (Rg.val (Val.neq rfl rfl) rfl (Rg.nil (Rx.seq (Cd.cond rfl (fun c1 => ?_) (fun c1 => ?_)))))))))))))))))))))))
  · replace c1 := bnot_t c1
    replace c1 := of_decide_eq_false c1
    refine Cd.seq (Cd.region (Rg.val (Val.move rfl) rfl (Rg.val (Val.assign rfl) rfl (Rg.val (Val.assign rfl) rfl (Rg.nil (Rx.seq (Cd.ret (Rx.pastR (Rx.ret2 rfl rfl rfl fun w hm_ => ((by rw [(Earl_bad c1).1, (Earl_bad c1).2]; exact RowPost.none hm_.below rfl rfl)))))))))))
  · replace c1 := bnot_f c1
    replace c1 := of_decide_eq_true c1
    obtain ⟨hK, hV, _⟩ := OrdOk.of c1
    refine Cd.skip (Rx.seq (Cd.seq (Cd.region (Rg.val (Val.loadAll (l := 1) rfl rfl ag26 rfl) rfl (Rg.val (Val.move rfl) rfl (Rg.eff (Eff.call rfl rfl en82 rfl (fun w hm => RowPost.mem 2 hm (rearliest_calls J _ _ os w (Mem.job hm hJ) (Mem.ord hm hO) hK hV))) rfl fun p2 _ => (Rg.val (Val.move rfl) rfl (Rg.val (Val.extract rfl rfl) rfl (Rg.val (Val.extract rfl rfl) rfl (Rg.val (Val.assign rfl) rfl (Rg.val (Val.assign rfl) rfl (Rg.nil (Rx.seq (Cd.seq (Cd.seq (Cd.region (Rg.val (Val.move rfl) rfl (Rg.val (Val.not rfl) rfl (Rg.nil (Rx.seq (Cd.cond rfl (fun c3 => ?_) (fun c3 => ?_))))))))))))))))))))))
    · replace c3 := bnot_t c3
      refine Cd.seq (Cd.region (Rg.val (Val.assign rfl) rfl (Rg.val (Val.assign rfl) rfl (Rg.nil (Rx.seq (Cd.ret (Rx.pastR (Rx.ret2 rfl rfl rfl fun w hm_ => ((by rw [(Earl_none c1 c3).1, (Earl_none c1 c3).2]; exact RowPost.none hm_.below rfl rfl))))))))))
    · replace c3 := bnot_f c3
      refine Cd.skip (Rx.seq (Cd.seq (Cd.region (Rg.val (Val.move rfl) rfl (Rg.val (Val.assign rfl) rfl (Rg.val (Val.assign rfl) rfl (Rg.nil (Rx.seq (Cd.ret (Rx.ret2 rfl rfl rfl fun w hm_ => ((by rw [(Earl_some c1 c3).1, (Earl_some c1 c3).2]; exact RowPost.row 2 hm_ rfl rfl))))))))))))

end Go.Proofs.Ytdmkedbmoboamaa
