/- Walks of functions of the program: what each returns, told by plain functions. -/
import Derived.Test.YtdmkedbmoboamaaA19
namespace Go.Proofs.Ytdmkedbmoboamaa
open Go.Kx Go.RowKit
set_option maxRecDepth 100000
set_option linter.unusedVariables false
set_option linter.unusedSimpArgs false
set_option linter.unnecessarySimpa false
set_option linter.constructorNameAsVariable false
theorem rfirstU_gives (a : Option Addr) (cap : Nat) (xs : List Wn) (m k : Int) (w : World) (hR : Rdb w a 2 encWn xs) (hlen : xs.length ≤ 9223372036854775807) (hv : ∀ w ∈ xs, 0 ≤ w.f ∧ w.f < w.t ∧ w.t ≤ 1099511627776) (hm0 : 0 ≤ m ∧ m ≤ 10080) : Gives Try.prog 70 #[.slice a xs.length cap, .int .i64 m, .int .i64 k] w (.int .i64 ((firstF m k xs).getD (-1))) := by
  refine calls_of (vs := [.slice a xs.length cap, .int .i64 m, .int .i64 k]) Try.func70 rfl rfl rfl ?_
  show Cd _ _ _ _ _ [(0, .slice a xs.length cap), (1, .int .i64 m), (2, .int .i64 k)] []
  refine Cd.seq (Cd.region (Rg.val (Val.assign rfl) rfl (Rg.nil (Rx.seq (Cd.seq (Cd.seq (Cd.region (Rg.val (Val.assign rfl) rfl (Rg.nil (Rx.seq (Cd.block ?_)))))))))))
  refine Cd.loop (A := Nat) (fun i : Nat => i ≤ xs.length ∧ firstF m k xs = firstF m k (xs.drop i))
      (fun i : Nat => [(0, .slice a xs.length cap), (1, .int .i64 m), (2, .int .i64 k), (7, .int .i64 (i : Int))])
      (fun i : Nat => [])
      (fun i : Nat => xs.length - i) 0 ?_ ⟨rfl, rfl, rfl, rfl, trivial⟩ trivial ?_
  · exact ⟨by omega, rfl⟩
  · rintro i ⟨hi, hG⟩
    show Cd _ _ _ _ _ [(0, .slice a xs.length cap), (1, .int .i64 m), (2, .int .i64 k), (7, .int .i64 (i : Int))] []
    refine Cd.seq (Cd.seq (Cd.region (Rg.val (Val.move rfl) rfl (Rg.val (Val.move rfl) rfl (Rg.val (Val.len Try.underlying28 rfl) rfl (Rg.val (Val.lss rfl rfl) rfl (Rg.nil (Rx.seq (Cd.cond rfl (fun c1 => ?_) (fun c1 => ?_))))))))))
    · replace c1 := of_decide_eq_true c1
      refine Cd.skip (Rx.seq (Cd.seq (Cd.block (Cd.seq (Cd.region (Rg.val (Val.move rfl) rfl (Rg.val (Val.move rfl) rfl (Rg.val (Val.move rfl) rfl ?_))))))))
      obtain ⟨x2, hx3⟩ : ∃ x, xs[i]? = some x := ⟨_, List.getElem?_eq_getElem (by omega)⟩
      have hv_x2 := hv _ (List.mem_of_getElem? hx3)
      refine Rg.val (Val.ide Try.underlying28 sz59 rfl rfl hR (by first | rfl | omega | (simp; done)) hx3 (Nat.le_refl _)) rfl (Rg.val (Val.fae (k := 0) rfl (hR.ne hx3) fa59_0) rfl (Rg.val (Val.loadE (k := 0) rfl sc2 hR hx3 rfl) rfl (Rg.val (Val.max rfl rfl) rfl (Rg.val (Val.assign rfl) rfl (Rg.nil (Rx.seq (Cd.seq (Cd.region (Rg.val (Val.move rfl) rfl (Rg.val (Val.move rfl) rfl (Rg.val (Val.move rfl) rfl (Rg.val (Val.ide Try.underlying28 sz59 rfl rfl hR (by first | rfl | omega | (simp; done)) hx3 (Nat.le_refl _)) rfl (Rg.val (Val.fae (k := 1) rfl (hR.ne hx3) fa59_1) rfl (Rg.val (Val.loadE (k := 1) rfl sc2 hR hx3 rfl) rfl (Rg.val (Val.move rfl) rfl (Rg.val (Val.subN rfl rfl (by unfold in64; omega)) rfl (Rg.val (Val.leq rfl rfl) rfl (Rg.nil (Rx.seq (Cd.cond rfl (fun c4 => ?_) (fun c4 => ?_)))))))))))))))))))))
      · replace c4 := of_decide_eq_true c4
        refine Cd.seq (Cd.region (Rg.val (Val.move rfl) rfl (Rg.val (Val.assign rfl) rfl (Rg.nil (Rx.seq (Cd.ret (Rx.inr (Rx.pastR (Rx.pastR (Rx.inr (Rx.pastR (Rx.ret1 rfl rfl fun w hm_ => (⟨by have hG_ := hG; rw [dropc hx3, firstF, if_pos (by omega)] at hG_; rw [hG_]; rfl, hm_.below⟩)))))))))))))
      · replace c4 := of_decide_eq_false c4
        refine Cd.skip (Rx.inb (Rx.seq (Cd.region (Rg.val (Val.move rfl) rfl (Rg.val (Val.addN rfl rfl (by unfold in64; omega)) rfl (Rg.val (Val.assign rfl) rfl (Rg.nil ?_)))))))
        refine Rx.meet (i + 1) ⟨⟨by omega, by have hG_ := hG; rw [dropc hx3, firstF, if_neg (by omega)] at hG_; exact hG_⟩, by omega⟩ ⟨rfl, rfl, rfl, rfl, trivial⟩ trivial
    · replace c1 := of_decide_eq_false c1
      refine Cd.exit (Rx.pastE (Rx.pastE (Rx.hit (Rx.seq (Cd.seq (Cd.region (Rg.val (Val.assign rfl) rfl (Rg.nil (Rx.seq (Cd.ret (Rx.ret1 rfl rfl fun w hm_ => (⟨by have hG_ := hG; rw [drop_all (by omega), firstF] at hG_; rw [hG_]; rfl, hm_.below⟩))))))))))))

theorem okR_no {J : Jb} {L : List Af} {pre : List Re} {r : Re} (hD : (r.task < 0 ∨ (J.ts.length : Int) ≤ r.task) ∨ (∃ t, J.ts[r.task.toNat]? = some t ∧ (r.from_ < 0 ∨ r.start ≠ (firstF t.m r.from_ t.ws).getD (-1))) ∨ (r.by_ = -1 ∧ r.from_ ≠ 0) ∨ (r.by_ ≠ -1 ∧ (mxS pre r.by_ < 0 ∨ L.any (viaP r (mxS pre r.by_)) = false))) : okR J L pre r = false := by
  cases h : okR J L pre r with
  | false => rfl
  | true =>
    obtain ⟨t, ht, g0, g1, g2, g3⟩ := okR_iff.1 h
    have hlt := (List.getElem?_eq_some_iff.1 ht).1
    exfalso
    rcases hD with hD | ⟨t', ht', hD⟩ | hD | ⟨hD, hD2⟩
    · omega
    · rw [ht] at ht'; injection ht' with ht'; subst ht'
      rcases hD with hD | hD
      · omega
      · exact hD g2
    · rcases g3 with g3 | g3
      · exact hD.2 g3.2
      · exact g3.1 hD.1
    · rcases g3 with g3 | ⟨_, g3, a, ha, e1, e2, e3⟩
      · exact hD g3.1
      · rcases hD2 with hD2 | hD2
        · omega
        · have := List.any_eq_false.1 hD2 a ha
          unfold viaP at this
          rw [if_pos e1, if_pos e2] at this
          simp [e3] at this
theorem okR_yes {J : Jb} {L : List Af} {pre : List Re} {r : Re} {t : Tk} (ht : J.ts[r.task.toNat]? = some t) (h0 : 0 ≤ r.task) (h1 : 0 ≤ r.from_) (hs : r.start = (firstF t.m r.from_ t.ws).getD (-1)) (hv : (r.by_ = -1 ∧ r.from_ = 0) ∨ (r.by_ ≠ -1 ∧ ¬ mxS pre r.by_ < 0 ∧ L.any (viaP r (mxS pre r.by_)) = true)) : okR J L pre r = true := by
  refine okR_iff.2 ⟨t, ht, h0, h1, hs, ?_⟩
  rcases hv with hv | ⟨hv, h2, h3⟩
  · exact .inl hv
  · obtain ⟨a, ha, hp⟩ := List.any_eq_true.1 h3
    unfold viaP at hp
    split at hp
    · rename_i e2
      split at hp
      · rename_i e3
        exact .inr ⟨hv, by omega, a, ha, e2, e3, of_decide_eq_true hp⟩
      · cases hp
    · cases hp
theorem mxS_bd {pre : List Re} {k : Int} (h : ∀ s ∈ pre, -1 ≤ s.start ∧ s.start ≤ 1099511627776) : -1 ≤ mxS pre k ∧ mxS pre k ≤ 1099511627776 := ⟨mxS_ge pre k, mxS_le (by omega) fun r hr _ => (h r hr).2⟩
theorem reason_gives (J : Jb) (la : Option Addr) (lc : Nat) (L : List Af) (pa : Option Addr) (pc : Nat) (pre : List Re) (r : Re) (w : World) (hJ : JobAt w J) (hK : JobOk J) (hS : Sound J L) (hLs : Rdb w la 3 encAf L) (hLl : L.length ≤ 240) (hP : Rdb w pa 4 encRe pre) (hpl : pre.length ≤ 20000) (hpb : ∀ s ∈ pre, -1 ≤ s.start ∧ s.start ≤ 1099511627776) : Gives Try.prog 86 #[.agg #[.slice J.ta J.ts.length J.tc, .slice J.aa J.ls.length J.ac, .slice J.ga J.gs.length J.gc], .slice la L.length lc, .slice pa pre.length pc, .agg #[.int .i64 r.task, .int .i64 r.by_, .int .i64 r.from_, .int .i64 r.start]] w (.bool (okR J L pre r)) := by
  refine calls_of (vs := [.agg #[.slice J.ta J.ts.length J.tc, .slice J.aa J.ls.length J.ac, .slice J.ga J.gs.length J.gc], .slice la L.length lc, .slice pa pre.length pc, .agg #[.int .i64 r.task, .int .i64 r.by_, .int .i64 r.from_, .int .i64 r.start]]) Try.func86 rfl rfl rfl ?_
  show Cd _ _ _ _ _ [(0, .agg #[.slice J.ta J.ts.length J.tc, .slice J.aa J.ls.length J.ac, .slice J.ga J.gs.length J.gc]), (1, .slice la L.length lc), (2, .slice pa pre.length pc), (3, .agg #[.int .i64 r.task, .int .i64 r.by_, .int .i64 r.from_, .int .i64 r.start])] []
  refine Cd.seq (Cd.region (Rg.eff (Eff.box 1 rfl rfl) rfl fun b1 _ => (Rg.eff (Eff.box 2 rfl rfl) rfl fun b2 _ => (Rg.val (Val.assign rfl) rfl (Rg.nil (Rx.seq (Cd.seq (Cd.seq (Cd.region (Rg.val (Val.fa rfl (fa72_0 _ _)) rfl (Rg.val (Val.load (l := 2) rfl rfl sc3 rfl) rfl (Rg.val (Val.lss rfl rfl) rfl (Rg.val (Val.move rfl) rfl (Rg.split 16 rfl (fun c1 => ?_) (fun c1 => ?_)))))))))))))))
  · replace c1 := of_decide_eq_true c1
    refine Rg.off rfl rfl rfl rfl (Rg.off rfl rfl rfl rfl (Rg.off rfl rfl rfl rfl (Rg.off rfl rfl rfl rfl (Rg.off rfl rfl rfl rfl (Rg.off rfl rfl rfl rfl (Rg.val (Val.pickT rfl rfl) rfl (Rg.nil (Rx.seq (Cd.yes rfl (Cd.seq (Cd.region (Rg.val (Val.assign rfl) rfl (Rg.nil (Rx.seq (Cd.ret (Rx.pastR (Rx.ret1 rfl rfl fun w hm_ => (⟨by rw [okR_no (.inl (.inl c1))], hm_.below⟩))))))))))))))))))
  · replace c1 := of_decide_eq_false c1
    refine Rg.on rfl rfl rfl (Rg.val (Val.fa rfl (fa72_0 _ _)) rfl (Rg.on rfl rfl rfl (Rg.val (Val.load (l := 2) rfl rfl sc3 rfl) rfl (Rg.on rfl rfl rfl (Rg.val (Val.fa rfl (fa26_0 _ _)) rfl (Rg.on rfl rfl rfl (Rg.val (Val.load (l := 1) rfl rfl sc22 rfl) rfl (Rg.on rfl rfl rfl (Rg.val (Val.len Try.underlying22 rfl) rfl (Rg.on rfl rfl rfl (Rg.val (Val.geq rfl rfl) rfl (Rg.val (Val.pickF rfl rfl) rfl (Rg.nil (Rx.seq (Cd.cond rfl (fun c2 => ?_) (fun c2 => ?_))))))))))))))))
    · replace c2 := of_decide_eq_true c2
      refine Cd.seq (Cd.region (Rg.val (Val.assign rfl) rfl (Rg.nil (Rx.seq (Cd.ret (Rx.pastR (Rx.ret1 rfl rfl fun w hm_ => (⟨by rw [okR_no (.inl (.inr c2))], hm_.below⟩))))))))
    · replace c2 := of_decide_eq_false c2
      refine Cd.skip (Rx.seq (Cd.seq (Cd.region (Rg.val (Val.fa rfl (fa26_0 _ _)) rfl (Rg.val (Val.load (l := 1) rfl rfl sc22 rfl) rfl (Rg.val (Val.fa rfl (fa72_0 _ _)) rfl (Rg.val (Val.load (l := 2) rfl rfl sc3 rfl) rfl ?_)))))))
      obtain ⟨x3, hx4⟩ : ∃ x, J.ts[(Int.toNat r.task)]? = some x := ⟨_, List.getElem?_eq_getElem (by omega)⟩
      have hk_x3 := hK.tk _ (List.mem_of_getElem? hx4)
      refine Rg.val (Val.ide Try.underlying22 sz57 rfl rfl hJ.rts (by first | rfl | omega | (simp; done)) hx4 (Nat.le_refl _)) rfl (Rg.val (Val.loadEA rfl ag57 hJ.rts hx4) rfl (Rg.eff (Eff.alloc 3 zv57 rfl) rfl fun b3 _ => (Rg.eff (Eff.storeAll (l := 3) sz57 rfl rfl rfl rfl rfl rfl) rfl fun _ _ => (Rg.nil (Rx.seq (Cd.seq (Cd.seq (Cd.draw [(1, blk b1 [.slice J.ta J.ts.length J.tc, .slice J.aa J.ls.length J.ac, .slice J.ga J.gs.length J.gc] 26), (2, blk b2 [.int .i64 r.task, .int .i64 r.by_, .int .i64 r.from_, .int .i64 r.start] 72), (3, blk b3 [.int .i64 x3.m, .slice x3.aw x3.ws.length x3.cw, .int .i64 x3.team] 57)] mixed rfl (Dr.take 0 rfl (by kernel_rfl) (Val.fa rfl (fa72_2 _ _)) rfl ⟨rfl, rfl, rfl, trivial⟩ (Dr.take 1 rfl (by kernel_rfl) (Val.load (l := 2) rfl rfl sc2 rfl) rfl ⟨rfl, rfl, rfl, trivial⟩ (Dr.take 2 rfl (by kernel_rfl) (Val.lss rfl rfl) rfl ⟨rfl, rfl, rfl, trivial⟩ (Dr.take 3 rfl (by kernel_rfl) (Val.move rfl) rfl ⟨rfl, rfl, rfl, trivial⟩ (Dr.split 33 rfl (fun c5 => ?_) (fun c5 => ?_))))))))))))))
      · replace c5 := of_decide_eq_true c5
        refine Dr.off 4 rfl (by kernel_rfl) rfl rfl rfl rfl ⟨rfl, rfl, rfl, trivial⟩ (Dr.off 5 rfl (by kernel_rfl) rfl rfl rfl rfl ⟨rfl, rfl, rfl, trivial⟩ (Dr.off 6 rfl (by kernel_rfl) rfl rfl rfl rfl ⟨rfl, rfl, rfl, trivial⟩ (Dr.off 7 rfl (by kernel_rfl) rfl rfl rfl rfl ⟨rfl, rfl, rfl, trivial⟩ (Dr.off 8 rfl (by kernel_rfl) rfl rfl rfl rfl ⟨rfl, rfl, rfl, trivial⟩ (Dr.off 9 rfl (by kernel_rfl) rfl rfl rfl rfl ⟨rfl, rfl, rfl, trivial⟩ (Dr.off 10 rfl (by kernel_rfl) rfl rfl rfl rfl ⟨rfl, rfl, rfl, trivial⟩ (Dr.off 11 rfl (by kernel_rfl) rfl rfl rfl rfl ⟨rfl, rfl, rfl, trivial⟩ (Dr.off 12 rfl (by kernel_rfl) rfl rfl rfl rfl ⟨rfl, rfl, rfl, trivial⟩ (Dr.off 13 rfl (by kernel_rfl) rfl rfl rfl rfl ⟨rfl, rfl, rfl, trivial⟩ (Dr.take 14 rfl (by kernel_rfl) (Val.pickT rfl rfl) rfl ⟨rfl, rfl, rfl, trivial⟩ (Dr.done (by kernel_rfl) (Rx.seq (Cd.yes rfl (Cd.seq (Cd.region (Rg.val (Val.assign rfl) rfl (Rg.nil (Rx.seq (Cd.ret (Rx.pastR (Rx.ret1 rfl rfl fun w hm_ => (⟨by rw [okR_no (.inr (.inl ⟨x3, hx4, .inl c5⟩))], hm_.below⟩))))))))))))))))))))))
      · replace c5 := of_decide_eq_false c5
        refine Dr.takeG 4 rfl (by kernel_rfl) rfl rfl rfl (Val.fa rfl (fa72_3 _ _)) rfl ⟨rfl, rfl, rfl, trivial⟩ (Dr.takeG 5 rfl (by kernel_rfl) rfl rfl rfl (Val.load (l := 2) rfl rfl sc2 rfl) rfl ⟨rfl, rfl, rfl, trivial⟩ (Dr.takeG 6 rfl (by kernel_rfl) rfl rfl rfl (Val.fa rfl (fa57_1 _ _)) rfl ⟨rfl, rfl, rfl, trivial⟩ (Dr.takeG 7 rfl (by kernel_rfl) rfl rfl rfl (Val.load (l := 3) rfl rfl sc28 rfl) rfl ⟨rfl, rfl, rfl, trivial⟩ (Dr.takeG 8 rfl (by kernel_rfl) rfl rfl rfl (Val.fa rfl (fa57_0 _ _)) rfl ⟨rfl, rfl, rfl, trivial⟩ (Dr.takeG 9 rfl (by kernel_rfl) rfl rfl rfl (Val.load (l := 3) rfl rfl sc2 rfl) rfl ⟨rfl, rfl, rfl, trivial⟩ (Dr.takeG 10 rfl (by kernel_rfl) rfl rfl rfl (Val.fa rfl (fa72_2 _ _)) rfl ⟨rfl, rfl, rfl, trivial⟩ (Dr.takeG 11 rfl (by kernel_rfl) rfl rfl rfl (Val.load (l := 2) rfl rfl sc2 rfl) rfl ⟨rfl, rfl, rfl, trivial⟩ (Dr.oneG 12 (by kernel_rfl) rfl rfl rfl rfl (Eff.give rfl rfl en70 rfl (fun w hm => rfirstU_gives _ _ _ _ _ w (hm.rdb (hJ.win _ (List.mem_of_getElem? hx4))) (by have := hk_x3.2.2.2; omega) (fun w_ hw_ => winF_mem hk_x3.2.1 w_ hw_) hk_x3.1)) (fun _ _ => ⟨rfl, rfl, rfl, trivial⟩) fun _ _ => (Dr.takeG 13 rfl (by kernel_rfl) rfl rfl rfl (Val.neq rfl rfl) rfl ⟨rfl, rfl, rfl, trivial⟩ (Dr.take 14 rfl (by kernel_rfl) (Val.pickF rfl rfl) rfl ⟨rfl, rfl, rfl, trivial⟩ (Dr.done (by kernel_rfl) (Rx.seq (Cd.cond rfl (fun c6 => ?_) (fun c6 => ?_))))))))))))))
        · replace c6 := bnot_t c6
          replace c6 := of_decide_eq_false c6
          refine Cd.seq (Cd.region (Rg.val (Val.assign rfl) rfl (Rg.nil (Rx.seq (Cd.ret (Rx.pastR (Rx.ret1 rfl rfl fun w hm_ => (⟨by rw [okR_no (.inr (.inl ⟨x3, hx4, .inr c6⟩))], hm_.below⟩))))))))
        · replace c6 := bnot_f c6
          replace c6 := of_decide_eq_true c6
          refine Cd.skip (Rx.seq (Cd.seq (Cd.seq (Cd.region (Rg.val (Val.fa rfl (fa72_1 _ _)) rfl (Rg.val (Val.load (l := 2) rfl rfl sc3 rfl) rfl (Rg.val (Val.eql rfl rfl) rfl (Rg.nil (Rx.seq (Cd.cond rfl (fun c7 => ?_) (fun c7 => ?_)))))))))))
          · replace c7 := of_decide_eq_true c7
            refine Cd.seq (Cd.region (Rg.val (Val.fa rfl (fa72_2 _ _)) rfl (Rg.val (Val.load (l := 2) rfl rfl sc2 rfl) rfl (Rg.val (Val.eql rfl rfl) rfl (Rg.val (Val.assign rfl) rfl (Rg.nil (Rx.seq (Cd.ret (Rx.pastR (Rx.ret1 rfl rfl fun w hm_ => (⟨congrArg (fun z => Ending.returned (.bool z)) (by by_cases h_ : r.from_ = 0; all_goals first | (rw [okR_yes hx4 (by omega) (by omega) c6 (.inl ⟨c7, h_⟩)]; exact decide_eq_true h_) | (rw [okR_no (.inr (.inr (.inl ⟨c7, h_⟩)))]; exact decide_eq_false h_)), hm_.below⟩)))))))))))
          · replace c7 := of_decide_eq_false c7
            refine Cd.skip (Rx.seq (Cd.seq (Cd.region (Rg.val (Val.assign rfl) rfl (Rg.nil (Rx.seq (Cd.seq (Cd.seq (Cd.region (Rg.val (Val.assign rfl) rfl (Rg.nil (Rx.seq (Cd.block ?_)))))))))))))
            refine Cd.loop (A := Nat × Int) (fun pr_ : Nat × Int => match pr_ with | (i, m) => i ≤ pre.length ∧ m = mxS (pre.take i) r.by_)
                (fun pr_ : Nat × Int => match pr_ with | (i, m) => [(1, .slice la L.length lc), (2, .slice pa pre.length pc), (7, .pointer (some ⟨b2, 0, none⟩)), (8, .bool false), (10, .int .i64 m), (11, .int .i64 (i : Int))])
                (fun pr_ : Nat × Int => match pr_ with | (i, m) => [(1, blk b1 [.slice J.ta J.ts.length J.tc, .slice J.aa J.ls.length J.ac, .slice J.ga J.gs.length J.gc] 26), (2, blk b2 [.int .i64 r.task, .int .i64 r.by_, .int .i64 r.from_, .int .i64 r.start] 72), (3, blk b3 [.int .i64 x3.m, .slice x3.aw x3.ws.length x3.cw, .int .i64 x3.team] 57)])
                (fun pr_ : Nat × Int => match pr_ with | (i, m) => pre.length - i) (0, -1) ?_ ⟨rfl, rfl, rfl, rfl, rfl, rfl, trivial⟩ ⟨rfl, rfl, rfl, trivial⟩ ?_
            · exact ⟨Nat.zero_le _, rfl⟩
            · rintro ⟨i, m⟩ ⟨hi, hmx⟩
              show Cd _ _ _ _ _ [(1, .slice la L.length lc), (2, .slice pa pre.length pc), (7, .pointer (some ⟨b2, 0, none⟩)), (8, .bool false), (10, .int .i64 m), (11, .int .i64 (i : Int))] [(1, blk b1 [.slice J.ta J.ts.length J.tc, .slice J.aa J.ls.length J.ac, .slice J.ga J.gs.length J.gc] 26), (2, blk b2 [.int .i64 r.task, .int .i64 r.by_, .int .i64 r.from_, .int .i64 r.start] 72), (3, blk b3 [.int .i64 x3.m, .slice x3.aw x3.ws.length x3.cw, .int .i64 x3.team] 57)]
              refine Cd.seq (Cd.seq (Cd.region (Rg.val (Val.move rfl) rfl (Rg.val (Val.move rfl) rfl (Rg.val (Val.len Try.underlying61 rfl) rfl (Rg.val (Val.lss rfl rfl) rfl (Rg.nil (Rx.seq (Cd.cond rfl (fun c8 => ?_) (fun c8 => ?_))))))))))
              · replace c8 := of_decide_eq_true c8
                refine Cd.skip (Rx.seq (Cd.seq (Cd.block (Cd.seq (Cd.draw [(1, blk b1 [.slice J.ta J.ts.length J.tc, .slice J.aa J.ls.length J.ac, .slice J.ga J.gs.length J.gc] 26), (2, blk b2 [.int .i64 r.task, .int .i64 r.by_, .int .i64 r.from_, .int .i64 r.start] 72), (3, blk b3 [.int .i64 x3.m, .slice x3.aw x3.ws.length x3.cw, .int .i64 x3.team] 57)] mixed rfl (Dr.take 0 rfl (by kernel_rfl) (Val.move rfl) rfl ⟨rfl, rfl, rfl, trivial⟩ (Dr.take 1 rfl (by kernel_rfl) (Val.move rfl) rfl ⟨rfl, rfl, rfl, trivial⟩ ?_)))))))
                obtain ⟨x9, hx10⟩ : ∃ x, pre[i]? = some x := ⟨_, List.getElem?_eq_getElem (by omega)⟩
                have hp_x9 := hpb _ (List.mem_of_getElem? hx10)
                refine Dr.take 2 rfl (by kernel_rfl) (Val.ide Try.underlying61 sz72 rfl rfl hP (by first | rfl | omega | (simp; done)) hx10 (Nat.le_refl _)) rfl ⟨rfl, rfl, rfl, trivial⟩ (Dr.take 3 rfl (by kernel_rfl) (Val.fae (k := 0) rfl (hP.ne hx10) fa72_0) rfl ⟨rfl, rfl, rfl, trivial⟩ (Dr.take 4 rfl (by kernel_rfl) (Val.loadE (k := 0) rfl sc3 hP hx10 rfl) rfl ⟨rfl, rfl, rfl, trivial⟩ (Dr.take 5 rfl (by kernel_rfl) (Val.fa rfl (fa72_1 _ _)) rfl ⟨rfl, rfl, rfl, trivial⟩ (Dr.take 6 rfl (by kernel_rfl) (Val.load (l := 2) rfl rfl sc3 rfl) rfl ⟨rfl, rfl, rfl, trivial⟩ (Dr.take 7 rfl (by kernel_rfl) (Val.eql rfl rfl) rfl ⟨rfl, rfl, rfl, trivial⟩ (Dr.done (by kernel_rfl) (Rx.seq (Cd.cond rfl (fun c11 => ?_) (fun c11 => ?_)))))))))
                · replace c11 := of_decide_eq_true c11
                  refine Cd.region (Rg.val (Val.move rfl) rfl (Rg.val (Val.move rfl) rfl (Rg.val (Val.move rfl) rfl (Rg.val (Val.ide Try.underlying61 sz72 rfl rfl hP (by first | rfl | omega | (simp; done)) hx10 (Nat.le_refl _)) rfl (Rg.val (Val.fae (k := 3) rfl (hP.ne hx10) fa72_3) rfl (Rg.val (Val.loadE (k := 3) rfl sc2 hP hx10 rfl) rfl (Rg.val (Val.max rfl rfl) rfl (Rg.val (Val.assign rfl) rfl (Rg.nil (Rx.inb (Rx.seq (Cd.region (Rg.val (Val.move rfl) rfl (Rg.val (Val.addN rfl rfl (by unfold in64; omega)) rfl (Rg.val (Val.assign rfl) rfl (Rg.nil ?_))))))))))))))))
                  refine Rx.meet (i + 1, Max.max m x9.start) ⟨⟨by omega, by rw [take_snoc hx10, mxS_snoc, if_pos c11, hmx]⟩, by show pre.length - (i + 1) < pre.length - i; omega⟩ ⟨rfl, rfl, rfl, rfl, rfl, rfl, trivial⟩ ⟨rfl, rfl, rfl, trivial⟩
                · replace c11 := of_decide_eq_false c11
                  refine Cd.skip (Rx.inb (Rx.seq (Cd.region (Rg.val (Val.move rfl) rfl (Rg.val (Val.addN rfl rfl (by unfold in64; omega)) rfl (Rg.val (Val.assign rfl) rfl (Rg.nil ?_)))))))
                  refine Rx.meet (i + 1, m) ⟨⟨by omega, by rw [take_snoc hx10, mxS_snoc, if_neg c11, hmx]⟩, by show pre.length - (i + 1) < pre.length - i; omega⟩ ⟨rfl, rfl, rfl, rfl, rfl, rfl, trivial⟩ ⟨rfl, rfl, rfl, trivial⟩
              · replace c8 := of_decide_eq_false c8
                have hmx2 : m = (mxS pre r.by_) := by rw [hmx, List.take_of_length_le (by omega)]
                have hmb := mxS_bd (k := r.by_) hpb
                refine Cd.exit (Rx.pastE (Rx.pastE (Rx.hit (Rx.seq (Cd.seq (Cd.seq (Cd.region (Rg.val (Val.move rfl) rfl (Rg.val (Val.lss rfl rfl) rfl (Rg.nil (Rx.seq (Cd.cond rfl (fun c12 => ?_) (fun c12 => ?_)))))))))))))
                · replace c12 := of_decide_eq_true c12
                  refine Cd.seq (Cd.region (Rg.val (Val.assign rfl) rfl (Rg.nil (Rx.seq (Cd.ret (Rx.pastR (Rx.ret1 rfl rfl fun w hm_ => (⟨by rw [okR_no (.inr (.inr (.inr ⟨c7, .inl (by omega)⟩)))], hm_.below⟩))))))))
                · replace c12 := of_decide_eq_false c12
                  refine Cd.skip (Rx.seq (Cd.seq (Cd.seq (Cd.region (Rg.val (Val.assign rfl) rfl (Rg.nil (Rx.seq (Cd.block ?_))))))))
                  refine Cd.loop (A := Nat) (fun j : Nat => j ≤ L.length ∧ L.any (viaP r (mxS pre r.by_)) = (L.drop j).any (viaP r (mxS pre r.by_)))
                      (fun j : Nat => [(1, .slice la L.length lc), (7, .pointer (some ⟨b2, 0, none⟩)), (10, .int .i64 m), (12, .int .i64 (j : Int))])
                      (fun j : Nat => [(1, blk b1 [.slice J.ta J.ts.length J.tc, .slice J.aa J.ls.length J.ac, .slice J.ga J.gs.length J.gc] 26), (2, blk b2 [.int .i64 r.task, .int .i64 r.by_, .int .i64 r.from_, .int .i64 r.start] 72), (3, blk b3 [.int .i64 x3.m, .slice x3.aw x3.ws.length x3.cw, .int .i64 x3.team] 57)])
                      (fun j : Nat => L.length - j) 0 ?_ ⟨rfl, rfl, rfl, rfl, trivial⟩ ⟨rfl, rfl, rfl, trivial⟩ ?_
                  · exact ⟨Nat.zero_le _, rfl⟩
                  · rintro j ⟨hi_j, hG_j⟩
                    show Cd _ _ _ _ _ [(1, .slice la L.length lc), (7, .pointer (some ⟨b2, 0, none⟩)), (10, .int .i64 m), (12, .int .i64 (j : Int))] [(1, blk b1 [.slice J.ta J.ts.length J.tc, .slice J.aa J.ls.length J.ac, .slice J.ga J.gs.length J.gc] 26), (2, blk b2 [.int .i64 r.task, .int .i64 r.by_, .int .i64 r.from_, .int .i64 r.start] 72), (3, blk b3 [.int .i64 x3.m, .slice x3.aw x3.ws.length x3.cw, .int .i64 x3.team] 57)]
                    refine Cd.seq (Cd.seq (Cd.region (Rg.val (Val.move rfl) rfl (Rg.val (Val.move rfl) rfl (Rg.val (Val.len Try.underlying23 rfl) rfl (Rg.val (Val.lss rfl rfl) rfl (Rg.nil (Rx.seq (Cd.cond rfl (fun c13 => ?_) (fun c13 => ?_))))))))))
                    · replace c13 := of_decide_eq_true c13
                      refine Cd.skip (Rx.seq (Cd.seq (Cd.block (Cd.seq (Cd.draw [(1, blk b1 [.slice J.ta J.ts.length J.tc, .slice J.aa J.ls.length J.ac, .slice J.ga J.gs.length J.gc] 26), (2, blk b2 [.int .i64 r.task, .int .i64 r.by_, .int .i64 r.from_, .int .i64 r.start] 72), (3, blk b3 [.int .i64 x3.m, .slice x3.aw x3.ws.length x3.cw, .int .i64 x3.team] 57)] mixed rfl (Dr.take 0 rfl (by kernel_rfl) (Val.move rfl) rfl ⟨rfl, rfl, rfl, trivial⟩ (Dr.take 1 rfl (by kernel_rfl) (Val.move rfl) rfl ⟨rfl, rfl, rfl, trivial⟩ ?_)))))))
                      obtain ⟨x14, hx15⟩ : ∃ x, L[j]? = some x := ⟨_, List.getElem?_eq_getElem (by omega)⟩
                      have hlg_x14 := (hS.lk _ (List.mem_of_getElem? hx15)).2.2
                      refine Dr.take 2 rfl (by kernel_rfl) (Val.ide Try.underlying23 sz38 rfl rfl hLs (by first | rfl | omega | (simp; done)) hx15 (Nat.le_refl _)) rfl ⟨rfl, rfl, rfl, trivial⟩ (Dr.take 3 rfl (by kernel_rfl) (Val.fae (k := 0) rfl (hLs.ne hx15) fa38_0) rfl ⟨rfl, rfl, rfl, trivial⟩ (Dr.take 4 rfl (by kernel_rfl) (Val.loadE (k := 0) rfl sc3 hLs hx15 rfl) rfl ⟨rfl, rfl, rfl, trivial⟩ (Dr.take 5 rfl (by kernel_rfl) (Val.fa rfl (fa72_1 _ _)) rfl ⟨rfl, rfl, rfl, trivial⟩ (Dr.take 6 rfl (by kernel_rfl) (Val.load (l := 2) rfl rfl sc3 rfl) rfl ⟨rfl, rfl, rfl, trivial⟩ (Dr.take 7 rfl (by kernel_rfl) (Val.eql rfl rfl) rfl ⟨rfl, rfl, rfl, trivial⟩ (Dr.take 8 rfl (by kernel_rfl) (Val.move rfl) rfl ⟨rfl, rfl, rfl, trivial⟩ (Dr.split 88 rfl (fun c16 => ?_) (fun c16 => ?_))))))))
                      · replace c16 := of_decide_eq_true c16
                        refine Dr.takeG 9 rfl (by kernel_rfl) rfl rfl rfl (Val.move rfl) rfl ⟨rfl, rfl, rfl, trivial⟩ (Dr.takeG 10 rfl (by kernel_rfl) rfl rfl rfl (Val.move rfl) rfl ⟨rfl, rfl, rfl, trivial⟩ (Dr.takeG 11 rfl (by kernel_rfl) rfl rfl rfl (Val.ide Try.underlying23 sz38 rfl rfl hLs (by first | rfl | omega | (simp; done)) hx15 (Nat.le_refl _)) rfl ⟨rfl, rfl, rfl, trivial⟩ (Dr.takeG 12 rfl (by kernel_rfl) rfl rfl rfl (Val.fae (k := 1) rfl (hLs.ne hx15) fa38_1) rfl ⟨rfl, rfl, rfl, trivial⟩ (Dr.takeG 13 rfl (by kernel_rfl) rfl rfl rfl (Val.loadE (k := 1) rfl sc3 hLs hx15 rfl) rfl ⟨rfl, rfl, rfl, trivial⟩ (Dr.takeG 14 rfl (by kernel_rfl) rfl rfl rfl (Val.fa rfl (fa72_0 _ _)) rfl ⟨rfl, rfl, rfl, trivial⟩ (Dr.takeG 15 rfl (by kernel_rfl) rfl rfl rfl (Val.load (l := 2) rfl rfl sc3 rfl) rfl ⟨rfl, rfl, rfl, trivial⟩ (Dr.takeG 16 rfl (by kernel_rfl) rfl rfl rfl (Val.eql rfl rfl) rfl ⟨rfl, rfl, rfl, trivial⟩ (Dr.take 17 rfl (by kernel_rfl) (Val.pickT rfl rfl) rfl ⟨rfl, rfl, rfl, trivial⟩ (Dr.take 18 rfl (by kernel_rfl) (Val.move rfl) rfl ⟨rfl, rfl, rfl, trivial⟩ (Dr.split 98 rfl (fun c17 => ?_) (fun c17 => ?_)))))))))))
                        · replace c17 := of_decide_eq_true c17
                          refine Dr.takeG 19 rfl (by kernel_rfl) rfl rfl rfl (Val.move rfl) rfl ⟨rfl, rfl, rfl, trivial⟩ (Dr.takeG 20 rfl (by kernel_rfl) rfl rfl rfl (Val.move rfl) rfl ⟨rfl, rfl, rfl, trivial⟩ (Dr.takeG 21 rfl (by kernel_rfl) rfl rfl rfl (Val.move rfl) rfl ⟨rfl, rfl, rfl, trivial⟩ (Dr.takeG 22 rfl (by kernel_rfl) rfl rfl rfl (Val.ide Try.underlying23 sz38 rfl rfl hLs (by first | rfl | omega | (simp; done)) hx15 (Nat.le_refl _)) rfl ⟨rfl, rfl, rfl, trivial⟩ (Dr.takeG 23 rfl (by kernel_rfl) rfl rfl rfl (Val.fae (k := 2) rfl (hLs.ne hx15) fa38_2) rfl ⟨rfl, rfl, rfl, trivial⟩ (Dr.takeG 24 rfl (by kernel_rfl) rfl rfl rfl (Val.loadE (k := 2) rfl sc2 hLs hx15 rfl) rfl ⟨rfl, rfl, rfl, trivial⟩ (Dr.takeG 25 rfl (by kernel_rfl) rfl rfl rfl (Val.addN rfl rfl (by unfold in64; omega)) rfl ⟨rfl, rfl, rfl, trivial⟩ (Dr.takeG 26 rfl (by kernel_rfl) rfl rfl rfl (Val.max rfl rfl) rfl ⟨rfl, rfl, rfl, trivial⟩ (Dr.takeG 27 rfl (by kernel_rfl) rfl rfl rfl (Val.fa rfl (fa72_2 _ _)) rfl ⟨rfl, rfl, rfl, trivial⟩ (Dr.takeG 28 rfl (by kernel_rfl) rfl rfl rfl (Val.load (l := 2) rfl rfl sc2 rfl) rfl ⟨rfl, rfl, rfl, trivial⟩ (Dr.takeG 29 rfl (by kernel_rfl) rfl rfl rfl (Val.eql rfl rfl) rfl ⟨rfl, rfl, rfl, trivial⟩ (Dr.take 30 rfl (by kernel_rfl) (Val.pickT rfl rfl) rfl ⟨rfl, rfl, rfl, trivial⟩ (Dr.done (by kernel_rfl) (Rx.seq (Cd.cond rfl (fun c18 => ?_) (fun c18 => ?_)))))))))))))))
                          · replace c18 := of_decide_eq_true c18
                            refine Cd.seq (Cd.region (Rg.val (Val.assign rfl) rfl (Rg.nil (Rx.seq (Cd.ret (Rx.inr (Rx.pastR (Rx.pastR (Rx.inr (Rx.pastR (Rx.ret1 rfl rfl fun w hm_ => (⟨by rw [okR_yes hx4 (by omega) (by omega) c6 (.inr ⟨c7, by omega, any_hit hG_j hx15 (by unfold viaP; rw [if_pos c16, if_pos c17]; rw [← hmx2]; exact decide_eq_true c18)⟩)], hm_.below⟩))))))))))))
                          · replace c18 := of_decide_eq_false c18
                            refine Cd.skip (Rx.inb (Rx.seq (Cd.region (Rg.val (Val.move rfl) rfl (Rg.val (Val.addN rfl rfl (by unfold in64; omega)) rfl (Rg.val (Val.assign rfl) rfl (Rg.nil ?_)))))))
                            refine Rx.meet (j + 1) ⟨⟨by omega, any_drop hG_j hx15 (by unfold viaP; rw [if_pos c16, if_pos c17]; rw [← hmx2]; exact decide_eq_false c18)⟩, by show L.length - (j + 1) < L.length - j; omega⟩ ⟨rfl, rfl, rfl, rfl, trivial⟩ ⟨rfl, rfl, rfl, trivial⟩
                        · replace c17 := of_decide_eq_false c17
                          refine Dr.off 19 rfl (by kernel_rfl) rfl rfl rfl rfl ⟨rfl, rfl, rfl, trivial⟩ (Dr.off 20 rfl (by kernel_rfl) rfl rfl rfl rfl ⟨rfl, rfl, rfl, trivial⟩ (Dr.off 21 rfl (by kernel_rfl) rfl rfl rfl rfl ⟨rfl, rfl, rfl, trivial⟩ (Dr.off 22 rfl (by kernel_rfl) rfl rfl rfl rfl ⟨rfl, rfl, rfl, trivial⟩ (Dr.off 23 rfl (by kernel_rfl) rfl rfl rfl rfl ⟨rfl, rfl, rfl, trivial⟩ (Dr.off 24 rfl (by kernel_rfl) rfl rfl rfl rfl ⟨rfl, rfl, rfl, trivial⟩ (Dr.off 25 rfl (by kernel_rfl) rfl rfl rfl rfl ⟨rfl, rfl, rfl, trivial⟩ (Dr.off 26 rfl (by kernel_rfl) rfl rfl rfl rfl ⟨rfl, rfl, rfl, trivial⟩ (Dr.off 27 rfl (by kernel_rfl) rfl rfl rfl rfl ⟨rfl, rfl, rfl, trivial⟩ (Dr.off 28 rfl (by kernel_rfl) rfl rfl rfl rfl ⟨rfl, rfl, rfl, trivial⟩ (Dr.off 29 rfl (by kernel_rfl) rfl rfl rfl rfl ⟨rfl, rfl, rfl, trivial⟩ (Dr.take 30 rfl (by kernel_rfl) (Val.pickF rfl rfl) rfl ⟨rfl, rfl, rfl, trivial⟩ (Dr.done (by kernel_rfl) (Rx.seq (Cd.no rfl (Cd.skip (Rx.inb (Rx.seq (Cd.region (Rg.val (Val.move rfl) rfl (Rg.val (Val.addN rfl rfl (by unfold in64; omega)) rfl (Rg.val (Val.assign rfl) rfl (Rg.nil ?_))))))))))))))))))))))
                          refine Rx.meet (j + 1) ⟨⟨by omega, any_drop hG_j hx15 (by unfold viaP; rw [if_pos c16, if_neg c17])⟩, by show L.length - (j + 1) < L.length - j; omega⟩ ⟨rfl, rfl, rfl, rfl, trivial⟩ ⟨rfl, rfl, rfl, trivial⟩
                      · replace c16 := of_decide_eq_false c16
                        refine Dr.off 9 rfl (by kernel_rfl) rfl rfl rfl rfl ⟨rfl, rfl, rfl, trivial⟩ (Dr.off 10 rfl (by kernel_rfl) rfl rfl rfl rfl ⟨rfl, rfl, rfl, trivial⟩ (Dr.off 11 rfl (by kernel_rfl) rfl rfl rfl rfl ⟨rfl, rfl, rfl, trivial⟩ (Dr.off 12 rfl (by kernel_rfl) rfl rfl rfl rfl ⟨rfl, rfl, rfl, trivial⟩ (Dr.off 13 rfl (by kernel_rfl) rfl rfl rfl rfl ⟨rfl, rfl, rfl, trivial⟩ (Dr.off 14 rfl (by kernel_rfl) rfl rfl rfl rfl ⟨rfl, rfl, rfl, trivial⟩ (Dr.off 15 rfl (by kernel_rfl) rfl rfl rfl rfl ⟨rfl, rfl, rfl, trivial⟩ (Dr.off 16 rfl (by kernel_rfl) rfl rfl rfl rfl ⟨rfl, rfl, rfl, trivial⟩ (Dr.take 17 rfl (by kernel_rfl) (Val.pickF rfl rfl) rfl ⟨rfl, rfl, rfl, trivial⟩ (Dr.take 18 rfl (by kernel_rfl) (Val.move rfl) rfl ⟨rfl, rfl, rfl, trivial⟩ (Dr.off 19 rfl (by kernel_rfl) rfl rfl rfl rfl ⟨rfl, rfl, rfl, trivial⟩ (Dr.off 20 rfl (by kernel_rfl) rfl rfl rfl rfl ⟨rfl, rfl, rfl, trivial⟩ (Dr.off 21 rfl (by kernel_rfl) rfl rfl rfl rfl ⟨rfl, rfl, rfl, trivial⟩ (Dr.off 22 rfl (by kernel_rfl) rfl rfl rfl rfl ⟨rfl, rfl, rfl, trivial⟩ (Dr.off 23 rfl (by kernel_rfl) rfl rfl rfl rfl ⟨rfl, rfl, rfl, trivial⟩ (Dr.off 24 rfl (by kernel_rfl) rfl rfl rfl rfl ⟨rfl, rfl, rfl, trivial⟩ (Dr.off 25 rfl (by kernel_rfl) rfl rfl rfl rfl ⟨rfl, rfl, rfl, trivial⟩ (Dr.off 26 rfl (by kernel_rfl) rfl rfl rfl rfl ⟨rfl, rfl, rfl, trivial⟩ (Dr.off 27 rfl (by kernel_rfl) rfl rfl rfl rfl ⟨rfl, rfl, rfl, trivial⟩ (Dr.off 28 rfl (by kernel_rfl) rfl rfl rfl rfl ⟨rfl, rfl, rfl, trivial⟩ (Dr.off 29 rfl (by kernel_rfl) rfl rfl rfl rfl ⟨rfl, rfl, rfl, trivial⟩ (Dr.take 30 rfl (by kernel_rfl) (Val.pickF rfl rfl) rfl ⟨rfl, rfl, rfl, trivial⟩ (Dr.done (by kernel_rfl) (Rx.seq (Cd.no rfl (Cd.skip (Rx.inb (Rx.seq (Cd.region (Rg.val (Val.move rfl) rfl (Rg.val (Val.addN rfl rfl (by unfold in64; omega)) rfl (Rg.val (Val.assign rfl) rfl (Rg.nil ?_))))))))))))))))))))))))))))))))
                        refine Rx.meet (j + 1) ⟨⟨by omega, any_drop hG_j hx15 (by unfold viaP; rw [if_neg c16])⟩, by show L.length - (j + 1) < L.length - j; omega⟩ ⟨rfl, rfl, rfl, rfl, trivial⟩ ⟨rfl, rfl, rfl, trivial⟩
                    · replace c13 := of_decide_eq_false c13
                      have he_ := any_end hG_j c13
                      refine Cd.exit (Rx.pastE (Rx.pastE (Rx.hit (Rx.seq (Cd.seq (Cd.region (Rg.val (Val.assign rfl) rfl (Rg.nil (Rx.seq (Cd.ret (Rx.ret1 rfl rfl fun w hm_ => (⟨by rw [okR_no (.inr (.inr (.inr ⟨c7, .inr he_⟩)))], hm_.below⟩))))))))))))

theorem reasonT_gives {J : Jb} {la : Option Addr} {lc : Nat} {L : List Af} {qa : Option Addr} {qc i : Nat} {rs : List Re} {r : Re} {w : World} (hJ : JobAt w J) (hK : JobOk J) (hS : Sound J L) (hLs : Rdb w la 3 encAf L) (hLl : L.length ≤ 240) (hP : Rdb w qa 4 encRe (rs.take i)) (hi : i ≤ rs.length) (hl : rs.length ≤ 20000) (hpb : ∀ s ∈ rs.take i, -1 ≤ s.start ∧ s.start ≤ 1099511627776) :
    Gives Try.prog 86 #[.agg #[.slice J.ta J.ts.length J.tc, .slice J.aa J.ls.length J.ac, .slice J.ga J.gs.length J.gc], .slice la L.length lc, .slice qa i qc, .agg #[.int .i64 r.task, .int .i64 r.by_, .int .i64 r.from_, .int .i64 r.start]] w (.bool (okR J L (rs.take i) r)) := by
  have h := reason_gives J la lc L qa qc (rs.take i) r w hJ hK hS hLs hLl hP (by rw [List.length_take]; omega) hpb
  rw [show (rs.take i).length = i from by rw [List.length_take]; omega] at h
  exact h
theorem okR_bd {J : Jb} {L : List Af} (hS : Sound J L) {pre : List Re} {r : Re} (h : okR J L pre r = true) : -1 ≤ r.start ∧ r.start ≤ 1099511627776 := by
  obtain ⟨t, ht, _, _, hs, _⟩ := okR_iff.1 h
  have h3 := hS.tk t (List.mem_of_getElem? ht)
  rw [hs]
  cases hf : firstF t.m r.from_ t.ws with
  | none => simp
  | some z => have := firstF_bd h3.1.1 h3.2.1 hf; simp; omega
theorem why_no2 {J : Jb} {L : List Af} {rs : List Re} {q : Nat} {x : Re} (hG : whyB J L [] rs = whyB J L (rs.take q) (rs.drop q)) (hx : rs[q]? = some x) (hD : okR J L (rs.take q) x = false ∨ (x.start < 0 ∧ (q : Int) + 1 < (rs.length : Int))) : whyB J L [] rs = false := by
  rw [hG, dropc hx, whyB]
  split
  · rename_i h
    rcases hD with hD | ⟨hD, hq⟩
    · rw [h] at hD; cases hD
    · rw [if_pos hD, if_neg]
      intro e
      have := congrArg List.length e
      rw [List.length_drop, List.length_nil] at this
      omega
  · rfl
theorem why_yes2 {J : Jb} {L : List Af} (hS : Sound J L) {rs : List Re} {q : Nat} {x : Re} (hG : whyB J L [] rs = whyB J L (rs.take q) (rs.drop q)) (hx : rs[q]? = some x) (hb : ∀ s ∈ rs.take q, -1 ≤ s.start ∧ s.start ≤ 1099511627776) (h : okR J L (rs.take q) x = true) (hl : ¬ x.start < 0 ∨ ¬ (q : Int) + 1 < (rs.length : Int)) :
    whyB J L [] rs = whyB J L (rs.take (q + 1)) (rs.drop (q + 1)) ∧ ∀ s ∈ rs.take (q + 1), -1 ≤ s.start ∧ s.start ≤ 1099511627776 := by
  have hq := (List.getElem?_eq_some_iff.1 hx).1
  rw [take_snoc hx]
  refine ⟨?_, fun s hs => ?_⟩
  · rw [hG, dropc hx, whyB, if_pos h]
    by_cases hs0 : x.start < 0
    · rw [if_pos hs0, if_pos]
      exact List.drop_eq_nil_of_le (by omega)
    · rw [if_neg hs0]
  · rcases List.mem_append.1 hs with hs | hs
    · exact hb s hs
    · simp at hs; subst hs; exact okR_bd hS h
theorem lag_get {x y m : Int} {L : List Af} {c : Nat} {a : Af} (ha : L[c]? = some a) (hb : -1125899906842624 ≤ a.lag) (hm : m = ((L.take c).foldl (lstep x y) none).getD (-1125899906842624)) :
    ((L.take (c + 1)).foldl (lstep x y) none).getD (-1125899906842624) = if a.p = x then (if a.q = y then max m a.lag else m) else m := by
  rw [take_snoc ha, List.foldl_append, List.foldl_cons, List.foldl_nil]
  generalize (L.take c).foldl (lstep x y) none = o at hm
  unfold lstep
  split
  · split
    · cases o with
      | none => simp at hm ⊢; omega
      | some l => simp at hm ⊢; omega
    · exact hm.symm
  · exact hm.symm
theorem lag_neg {n : Nat} {L : List Af} (hlk : Lk n L) {x y m : Int} (hm : m = (lagF L x y).getD (-1125899906842624)) : (m = -1125899906842624 → lagF L x y = none) ∧ (¬ m = -1125899906842624 → lagF L x y = some m) := by
  cases h : lagF L x y with
  | none => rw [h] at hm; exact ⟨fun _ => rfl, fun h1 => absurd hm h1⟩
  | some l =>
    rw [h] at hm
    obtain ⟨a, ha, _, _, e⟩ := lagF_mem h
    have := hlk a ha
    simp at hm
    exact ⟨fun h1 => by omega, fun _ => by rw [hm]⟩
theorem rCheckWhy_gives (J : Jb) (ao : Option Addr) (co : Nat) (os : List Rw) (qa : Option Addr) (qc : Nat) (rs : List Re) (w : World) (hJ : JobAt w J) (hO : OrdAt w ao os) (hw : os.length ≤ 1000 ∧ ∀ r ∈ os, r.xs.length ≤ 1000) (hQ : Rdb w qa 4 encRe rs) (hqc : rs.length ≤ qc) (hql : rs.length ≤ 9223372036854775807) : Gives Try.prog 37 #[.agg #[.slice J.ta J.ts.length J.tc, .slice J.aa J.ls.length J.ac, .slice J.ga J.gs.length J.gc], .slice ao os.length co, .slice qa rs.length qc] w (.int .i64 (whyF J os rs)) := by
  refine calls_of (vs := [.agg #[.slice J.ta J.ts.length J.tc, .slice J.aa J.ls.length J.ac, .slice J.ga J.gs.length J.gc], .slice ao os.length co, .slice qa rs.length qc]) Try.func37 rfl rfl rfl ?_
  show Cd _ _ _ _ _ [(0, .agg #[.slice J.ta J.ts.length J.tc, .slice J.aa J.ls.length J.ac, .slice J.ga J.gs.length J.gc]), (1, .slice ao os.length co), (2, .slice qa rs.length qc)] []
  refine Cd.seq (Cd.region (Rg.eff (Eff.box 1 rfl rfl) rfl fun b1 _ => (Rg.val (Val.assign rfl) rfl (Rg.nil (Rx.seq (Cd.seq (Cd.region (Rg.val (Val.loadAll (l := 1) rfl rfl ag26 rfl) rfl (Rg.val (Val.move rfl) rfl (Rg.eff (Eff.give rfl rfl en20 rfl (fun w hm => rCheckOrder_gives J _ _ os w (Mem.job hm hJ) (Mem.ord hm hO) hw)) rfl fun _ _ => (Rg.val (Val.assign rfl) rfl (Rg.nil (Rx.seq (Cd.seq (Cd.seq (Cd.region (Rg.val (Val.move rfl) rfl (Rg.val (Val.neq rfl rfl) rfl (Rg.nil (Rx.seq (Cd.cond rfl (fun c1 => ?_) (fun c1 => ?_))))))))))))))))))))))
  · replace c1 := bnot_t c1
    replace c1 := of_decide_eq_false c1
    refine Cd.seq (Cd.region (Rg.val (Val.move rfl) rfl (Rg.val (Val.assign rfl) rfl (Rg.nil (Rx.seq (Cd.ret (Rx.pastR (Rx.ret1 rfl rfl fun w hm_ => (⟨by rw [whyF_e c1], hm_.below⟩)))))))))
  · replace c1 := bnot_f c1
    replace c1 := of_decide_eq_true c1
    obtain ⟨hK, hV, _⟩ := OrdOk.of c1
    have hS := sound_of hK hV
    have h0_ := c1
    refine Cd.skip (Rx.seq (Cd.seq (Cd.seq (Cd.region (Rg.val (Val.move rfl) rfl (Rg.val (Val.len Try.underlying61 rfl) rfl (Rg.val (Val.gtr rfl rfl) rfl (Rg.nil (Rx.seq (Cd.cond rfl (fun c2 => ?_) (fun c2 => ?_)))))))))))
    · replace c2 := of_decide_eq_true c2
      refine Cd.seq (Cd.region (Rg.val (Val.assign rfl) rfl (Rg.nil (Rx.seq (Cd.ret (Rx.pastR (Rx.ret1 rfl rfl fun w hm_ => (⟨by rw [whyF_6 h0_ c2], hm_.below⟩))))))))
    · replace c2 := of_decide_eq_false c2
      refine Cd.skip (Rx.seq (Cd.seq (Cd.seq (Cd.region (Rg.val (Val.move rfl) rfl (Rg.val (Val.len Try.underlying61 rfl) rfl (Rg.val (Val.eql rfl rfl) rfl (Rg.nil (Rx.seq (Cd.cond rfl (fun c3 => ?_) (fun c3 => ?_)))))))))))
      · replace c3 := of_decide_eq_true c3
        refine Cd.seq (Cd.region (Rg.val (Val.assign rfl) rfl (Rg.nil (Rx.seq (Cd.ret (Rx.pastR (Rx.ret1 rfl rfl fun w hm_ => (⟨by rw [whyF_nil h0_ c2 c3], hm_.below⟩))))))))
      · replace c3 := of_decide_eq_false c3
        refine Cd.skip (Rx.seq (Cd.seq (Cd.region (Rg.val (Val.loadAll (l := 1) rfl rfl ag26 rfl) rfl (Rg.val (Val.move rfl) rfl (Rg.eff (Eff.call rfl rfl en51 rfl (fun w hm => RowPost.mem 2 hm (rlinks_calls J _ _ os w (Mem.job hm hJ) (Mem.ord hm hO) hK hV))) rfl fun p4 _ => (Rg.val (Val.assign rfl) rfl (Rg.nil (Rx.seq (Cd.seq (Cd.seq (Cd.region (Rg.val (Val.assign rfl) rfl (Rg.nil (Rx.seq (Cd.block ?_))))))))))))))))
        refine Cd.loop (A := Nat) (fun i : Nat => i ≤ rs.length ∧ whyB J (linksF J os) [] rs = whyB J (linksF J os) (rs.take i) (rs.drop i) ∧ ∀ s ∈ rs.take i, -1 ≤ s.start ∧ s.start ≤ 1099511627776)
            (fun i : Nat => [(2, .slice qa rs.length qc), (3, .pointer (some ⟨b1, 0, none⟩)), (8, .slice p4.1 (linksF J os).length p4.2), (9, .int .i64 (i : Int))])
            (fun i : Nat => [(1, blk b1 [.slice J.ta J.ts.length J.tc, .slice J.aa J.ls.length J.ac, .slice J.ga J.gs.length J.gc] 26), (2, rowL 38 3 encAf p4.1 p4.2 (linksF J os))])
            (fun i : Nat => rs.length - i) 0 ?_ ⟨rfl, rfl, rfl, rfl, trivial⟩ ⟨rfl, rfl, trivial⟩ ?_
        · exact ⟨Nat.zero_le _, rfl, fun s hs => by simp at hs⟩
        · rintro i ⟨hi, hG, hpb⟩
          show Cd _ _ _ _ _ [(2, .slice qa rs.length qc), (3, .pointer (some ⟨b1, 0, none⟩)), (8, .slice p4.1 (linksF J os).length p4.2), (9, .int .i64 (i : Int))] [(1, blk b1 [.slice J.ta J.ts.length J.tc, .slice J.aa J.ls.length J.ac, .slice J.ga J.gs.length J.gc] 26), (2, rowL 38 3 encAf p4.1 p4.2 (linksF J os))]
          refine Cd.seq (Cd.seq (Cd.region (Rg.val (Val.move rfl) rfl (Rg.val (Val.move rfl) rfl (Rg.val (Val.len Try.underlying61 rfl) rfl (Rg.val (Val.lss rfl rfl) rfl (Rg.nil (Rx.seq (Cd.cond rfl (fun c5 => ?_) (fun c5 => ?_))))))))))
          · replace c5 := of_decide_eq_true c5
            refine Cd.skip (Rx.seq (Cd.seq (Cd.block (Cd.seq (Cd.draw [(1, blk b1 [.slice J.ta J.ts.length J.tc, .slice J.aa J.ls.length J.ac, .slice J.ga J.gs.length J.gc] 26), (2, rowL 38 3 encAf p4.1 p4.2 (linksF J os))] mixed rfl (Dr.take 0 rfl (by kernel_rfl) (Val.loadAll (l := 1) rfl rfl ag26 rfl) rfl ⟨rfl, rfl, trivial⟩ (Dr.take 1 rfl (by kernel_rfl) (Val.move rfl) rfl ⟨rfl, rfl, trivial⟩ (Dr.take 2 rfl (by kernel_rfl) (Val.move rfl) rfl ⟨rfl, rfl, trivial⟩ (Dr.take 3 rfl (by kernel_rfl) (Val.move rfl) rfl ⟨rfl, rfl, trivial⟩ (Dr.take 4 rfl (by kernel_rfl) (Val.sliceHi (h := i) Try.underlying61 sz72 rfl rfl (by first | rfl | omega | (simp; done)) (by have := hqc; omega)) rfl ⟨rfl, rfl, trivial⟩ (Dr.take 5 rfl (by kernel_rfl) (Val.move rfl) rfl ⟨rfl, rfl, trivial⟩ (Dr.take 6 rfl (by kernel_rfl) (Val.move rfl) rfl ⟨rfl, rfl, trivial⟩ ?_))))))))))))
            obtain ⟨x6, hx7⟩ : ∃ x, rs[i]? = some x := ⟨_, List.getElem?_eq_getElem (by omega)⟩
            refine Dr.take 7 rfl (by kernel_rfl) (Val.ide Try.underlying61 sz72 rfl rfl hQ (by first | rfl | omega | (simp; done)) hx7 (Nat.le_refl _)) rfl ⟨rfl, rfl, trivial⟩ (Dr.take 8 rfl (by kernel_rfl) (Val.loadEA rfl ag72 hQ hx7) rfl ⟨rfl, rfl, trivial⟩ (Dr.one 9 (by kernel_rfl) rfl (Eff.give rfl rfl en86 rfl (fun w hm => reasonT_gives (Mem.job hm hJ) hK hS (Rdb.of_row (l := 2) hm rfl (fun _ => rfl)) (linksF_len hK hV) (Rdb.take (hm.rdb hQ) i) (by omega) (by omega) hpb)) rfl (fun _ _ => ⟨rfl, rfl, trivial⟩) fun _ _ => (Dr.take 10 rfl (by kernel_rfl) (Val.not rfl) rfl ⟨rfl, rfl, trivial⟩ (Dr.take 11 rfl (by kernel_rfl) (Val.move rfl) rfl ⟨rfl, rfl, trivial⟩ (Dr.split 42 rfl (fun c8 => ?_) (fun c8 => ?_))))))
            · replace c8 := bnot_t c8
              refine Dr.off 12 rfl (by kernel_rfl) rfl rfl rfl rfl ⟨rfl, rfl, trivial⟩ (Dr.off 13 rfl (by kernel_rfl) rfl rfl rfl rfl ⟨rfl, rfl, trivial⟩ (Dr.off 14 rfl (by kernel_rfl) rfl rfl rfl rfl ⟨rfl, rfl, trivial⟩ (Dr.off 15 rfl (by kernel_rfl) rfl rfl rfl rfl ⟨rfl, rfl, trivial⟩ (Dr.off 16 rfl (by kernel_rfl) rfl rfl rfl rfl ⟨rfl, rfl, trivial⟩ (Dr.off 17 rfl (by kernel_rfl) rfl rfl rfl rfl ⟨rfl, rfl, trivial⟩ (Dr.off 18 rfl (by kernel_rfl) rfl rfl rfl rfl ⟨rfl, rfl, trivial⟩ (Dr.off 19 rfl (by kernel_rfl) rfl rfl rfl rfl ⟨rfl, rfl, trivial⟩ (Dr.off 20 rfl (by kernel_rfl) rfl rfl rfl rfl ⟨rfl, rfl, trivial⟩ (Dr.off 21 rfl (by kernel_rfl) rfl rfl rfl rfl ⟨rfl, rfl, trivial⟩ (Dr.off 22 rfl (by kernel_rfl) rfl rfl rfl rfl ⟨rfl, rfl, trivial⟩ (Dr.off 23 rfl (by kernel_rfl) rfl rfl rfl rfl ⟨rfl, rfl, trivial⟩ (Dr.off 24 rfl (by kernel_rfl) rfl rfl rfl rfl ⟨rfl, rfl, trivial⟩ (Dr.take 25 rfl (by kernel_rfl) (Val.pickT rfl rfl) rfl ⟨rfl, rfl, trivial⟩ (Dr.done (by kernel_rfl) (Rx.seq (Cd.yes rfl (Cd.seq (Cd.region (Rg.val (Val.assign rfl) rfl (Rg.nil (Rx.seq (Cd.ret (Rx.inr (Rx.pastR (Rx.pastR (Rx.inr (Rx.pastR (Rx.ret1 rfl rfl fun w hm_ => (⟨by rw [whyF_16 h0_ c2 c3 (why_no2 hG hx7 (.inl c8))], hm_.below⟩)))))))))))))))))))))))))))))
            · replace c8 := bnot_f c8
              refine Dr.takeG 12 rfl (by kernel_rfl) rfl rfl rfl (Val.move rfl) rfl ⟨rfl, rfl, trivial⟩ (Dr.takeG 13 rfl (by kernel_rfl) rfl rfl rfl (Val.move rfl) rfl ⟨rfl, rfl, trivial⟩ (Dr.takeG 14 rfl (by kernel_rfl) rfl rfl rfl (Val.ide Try.underlying61 sz72 rfl rfl hQ (by first | rfl | omega | (simp; done)) hx7 (Nat.le_refl _)) rfl ⟨rfl, rfl, trivial⟩ (Dr.takeG 15 rfl (by kernel_rfl) rfl rfl rfl (Val.fae (k := 3) rfl (hQ.ne hx7) fa72_3) rfl ⟨rfl, rfl, trivial⟩ (Dr.takeG 16 rfl (by kernel_rfl) rfl rfl rfl (Val.loadE (k := 3) rfl sc2 hQ hx7 rfl) rfl ⟨rfl, rfl, trivial⟩ (Dr.takeG 17 rfl (by kernel_rfl) rfl rfl rfl (Val.lss rfl rfl) rfl ⟨rfl, rfl, trivial⟩ (Dr.takeG 18 rfl (by kernel_rfl) rfl rfl rfl (Val.move rfl) rfl ⟨rfl, rfl, trivial⟩ (Dr.split 49 rfl (fun c9 => ?_) (fun c9 => ?_))))))))
              · replace c9 := of_decide_eq_true c9
                refine Dr.takeG 19 rfl (by kernel_rfl) rfl rfl rfl (Val.move rfl) rfl ⟨rfl, rfl, trivial⟩ (Dr.takeG 20 rfl (by kernel_rfl) rfl rfl rfl (Val.addN rfl rfl (by unfold in64; omega)) rfl ⟨rfl, rfl, trivial⟩ (Dr.takeG 21 rfl (by kernel_rfl) rfl rfl rfl (Val.move rfl) rfl ⟨rfl, rfl, trivial⟩ (Dr.takeG 22 rfl (by kernel_rfl) rfl rfl rfl (Val.len Try.underlying61 rfl) rfl ⟨rfl, rfl, trivial⟩ (Dr.takeG 23 rfl (by kernel_rfl) rfl rfl rfl (Val.lss rfl rfl) rfl ⟨rfl, rfl, trivial⟩ (Dr.takeG 24 rfl (by kernel_rfl) rfl rfl rfl (Val.pickT rfl rfl) rfl ⟨rfl, rfl, trivial⟩ (Dr.take 25 rfl (by kernel_rfl) (Val.pickF rfl rfl) rfl ⟨rfl, rfl, trivial⟩ (Dr.done (by kernel_rfl) (Rx.seq (Cd.cond rfl (fun c10 => ?_) (fun c10 => ?_))))))))))
                · replace c10 := of_decide_eq_true c10
                  refine Cd.seq (Cd.region (Rg.val (Val.assign rfl) rfl (Rg.nil (Rx.seq (Cd.ret (Rx.inr (Rx.pastR (Rx.pastR (Rx.inr (Rx.pastR (Rx.ret1 rfl rfl fun w hm_ => (⟨by rw [whyF_16 h0_ c2 c3 (why_no2 hG hx7 (.inr ⟨c9, c10⟩))], hm_.below⟩))))))))))))
                · replace c10 := of_decide_eq_false c10
                  refine Cd.skip (Rx.inb (Rx.seq (Cd.region (Rg.val (Val.move rfl) rfl (Rg.val (Val.addN rfl rfl (by unfold in64; omega)) rfl (Rg.val (Val.assign rfl) rfl (Rg.nil ?_)))))))
                  have hwy_ := why_yes2 hS hG hx7 hpb c8 (.inr c10)
                  refine Rx.meet (i + 1) ⟨⟨by omega, hwy_.1, hwy_.2⟩, by show rs.length - (i + 1) < rs.length - i; omega⟩ ⟨rfl, rfl, rfl, rfl, trivial⟩ ⟨rfl, rfl, trivial⟩
              · replace c9 := of_decide_eq_false c9
                refine Dr.off 19 rfl (by kernel_rfl) rfl rfl rfl rfl ⟨rfl, rfl, trivial⟩ (Dr.off 20 rfl (by kernel_rfl) rfl rfl rfl rfl ⟨rfl, rfl, trivial⟩ (Dr.off 21 rfl (by kernel_rfl) rfl rfl rfl rfl ⟨rfl, rfl, trivial⟩ (Dr.off 22 rfl (by kernel_rfl) rfl rfl rfl rfl ⟨rfl, rfl, trivial⟩ (Dr.off 23 rfl (by kernel_rfl) rfl rfl rfl rfl ⟨rfl, rfl, trivial⟩ (Dr.takeG 24 rfl (by kernel_rfl) rfl rfl rfl (Val.pickF rfl rfl) rfl ⟨rfl, rfl, trivial⟩ (Dr.take 25 rfl (by kernel_rfl) (Val.pickF rfl rfl) rfl ⟨rfl, rfl, trivial⟩ (Dr.done (by kernel_rfl) (Rx.seq (Cd.no rfl (Cd.skip (Rx.inb (Rx.seq (Cd.region (Rg.val (Val.move rfl) rfl (Rg.val (Val.addN rfl rfl (by unfold in64; omega)) rfl (Rg.val (Val.assign rfl) rfl (Rg.nil ?_)))))))))))))))))
                have hwy_ := why_yes2 hS hG hx7 hpb c8 (.inl c9)
                refine Rx.meet (i + 1) ⟨⟨by omega, hwy_.1, hwy_.2⟩, by show rs.length - (i + 1) < rs.length - i; omega⟩ ⟨rfl, rfl, rfl, rfl, trivial⟩ ⟨rfl, rfl, trivial⟩
          · replace c5 := of_decide_eq_false c5
            refine Cd.exit (Rx.pastE (Rx.pastE (Rx.hit (Rx.seq (Cd.seq (Cd.region (Rg.val (Val.assign rfl) rfl (Rg.nil (Rx.seq (Cd.ret (Rx.ret1 rfl rfl fun w hm_ => (⟨by rw [whyF_0 h0_ c2 c3 (why_end hG (by omega))], hm_.below⟩))))))))))))

theorem rCheckCircle_gives (J : Jb) (ao : Option Addr) (co : Nat) (os : List Rw) (ca : Option Addr) (cc : Nat) (cs : List Int) (w : World) (hJ : JobAt w J) (hO : OrdAt w ao os) (hw : os.length ≤ 1000 ∧ ∀ r ∈ os, r.xs.length ≤ 1000) (hC : Rdb w ca 1 encI cs) (hcc : cs.length ≤ cc) (hcl : cs.length ≤ 9223372036854775807) : Gives Try.prog 39 #[.agg #[.slice J.ta J.ts.length J.tc, .slice J.aa J.ls.length J.ac, .slice J.ga J.gs.length J.gc], .slice ao os.length co, .slice ca cs.length cc] w (.int .i64 (circF J os cs)) := by
  refine calls_of (vs := [.agg #[.slice J.ta J.ts.length J.tc, .slice J.aa J.ls.length J.ac, .slice J.ga J.gs.length J.gc], .slice ao os.length co, .slice ca cs.length cc]) Try.func39 rfl rfl rfl ?_
  show Cd _ _ _ _ _ [(0, .agg #[.slice J.ta J.ts.length J.tc, .slice J.aa J.ls.length J.ac, .slice J.ga J.gs.length J.gc]), (1, .slice ao os.length co), (2, .slice ca cs.length cc)] []
  refine Cd.seq (Cd.region (Rg.eff (Eff.box 1 rfl rfl) rfl fun b1 _ => (Rg.val (Val.assign rfl) rfl (Rg.nil (Rx.seq (Cd.seq (Cd.region (Rg.val (Val.loadAll (l := 1) rfl rfl ag26 rfl) rfl (Rg.val (Val.move rfl) rfl (Rg.eff (Eff.give rfl rfl en20 rfl (fun w hm => rCheckOrder_gives J _ _ os w (Mem.job hm hJ) (Mem.ord hm hO) hw)) rfl fun _ _ => (Rg.val (Val.assign rfl) rfl (Rg.nil (Rx.seq (Cd.seq (Cd.seq (Cd.region (Rg.val (Val.move rfl) rfl (Rg.val (Val.neq rfl rfl) rfl (Rg.nil (Rx.seq (Cd.cond rfl (fun c1 => ?_) (fun c1 => ?_))))))))))))))))))))))
  · replace c1 := bnot_t c1
    replace c1 := of_decide_eq_false c1
    refine Cd.seq (Cd.region (Rg.val (Val.move rfl) rfl (Rg.val (Val.assign rfl) rfl (Rg.nil (Rx.seq (Cd.ret (Rx.pastR (Rx.ret1 rfl rfl fun w hm_ => (⟨by rw [circF_e c1], hm_.below⟩)))))))))
  · replace c1 := bnot_f c1
    replace c1 := of_decide_eq_true c1
    obtain ⟨hK, hV, _⟩ := OrdOk.of c1
    have hS := sound_of hK hV
    have h0_ := c1
    refine Cd.skip (Rx.seq (Cd.seq (Cd.seq (Cd.region (Rg.val (Val.move rfl) rfl (Rg.val (Val.len Try.underlying62 rfl) rfl (Rg.val (Val.gtr rfl rfl) rfl (Rg.nil (Rx.seq (Cd.cond rfl (fun c2 => ?_) (fun c2 => ?_)))))))))))
    · replace c2 := of_decide_eq_true c2
      refine Cd.seq (Cd.region (Rg.val (Val.assign rfl) rfl (Rg.nil (Rx.seq (Cd.ret (Rx.pastR (Rx.ret1 rfl rfl fun w hm_ => (⟨by rw [circF_6 h0_ c2], hm_.below⟩))))))))
    · replace c2 := of_decide_eq_false c2
      refine Cd.skip (Rx.seq (Cd.seq (Cd.region (Rg.val (Val.loadAll (l := 1) rfl rfl ag26 rfl) rfl (Rg.val (Val.move rfl) rfl (Rg.eff (Eff.call rfl rfl en51 rfl (fun w hm => RowPost.mem 2 hm (rlinks_calls J _ _ os w (Mem.job hm hJ) (Mem.ord hm hO) hK hV))) rfl fun p3 _ => (Rg.val (Val.assign rfl) rfl (Rg.nil (Rx.seq (Cd.seq (Cd.region (Rg.val (Val.assign rfl) rfl (Rg.nil (Rx.seq (Cd.seq (Cd.seq (Cd.region (Rg.val (Val.assign rfl) rfl (Rg.nil (Rx.seq (Cd.block ?_)))))))))))))))))))))
      refine Cd.loop (A := Nat × Int) (fun pr_ : Nat × Int => match pr_ with | (q, g) => q ≤ cs.length ∧ circB (linksF J os) cs [] 0 cs = circB (linksF J os) cs (cs.take q) g (cs.drop q) ∧ (-((q : Int) * 2097152) ≤ g ∧ g ≤ (q : Int) * 2097152))
          (fun pr_ : Nat × Int => match pr_ with | (q, g) => [(2, .slice ca cs.length cc), (8, .slice p3.1 (linksF J os).length p3.2), (9, .int .i64 g), (10, .int .i64 (q : Int))])
          (fun pr_ : Nat × Int => match pr_ with | (q, g) => [(1, blk b1 [.slice J.ta J.ts.length J.tc, .slice J.aa J.ls.length J.ac, .slice J.ga J.gs.length J.gc] 26), (2, rowL 38 3 encAf p3.1 p3.2 (linksF J os))])
          (fun pr_ : Nat × Int => match pr_ with | (q, g) => cs.length - q) (0, 0) ?_ ⟨rfl, rfl, rfl, rfl, trivial⟩ ⟨rfl, rfl, trivial⟩ ?_
      · exact ⟨Nat.zero_le _, rfl, by omega⟩
      · rintro ⟨q, g⟩ ⟨hq, hG, hgb⟩
        show Cd _ _ _ _ _ [(2, .slice ca cs.length cc), (8, .slice p3.1 (linksF J os).length p3.2), (9, .int .i64 g), (10, .int .i64 (q : Int))] [(1, blk b1 [.slice J.ta J.ts.length J.tc, .slice J.aa J.ls.length J.ac, .slice J.ga J.gs.length J.gc] 26), (2, rowL 38 3 encAf p3.1 p3.2 (linksF J os))]
        refine Cd.seq (Cd.seq (Cd.region (Rg.val (Val.move rfl) rfl (Rg.val (Val.move rfl) rfl (Rg.val (Val.len Try.underlying62 rfl) rfl (Rg.val (Val.lss rfl rfl) rfl (Rg.nil (Rx.seq (Cd.cond rfl (fun c4 => ?_) (fun c4 => ?_))))))))))
        · replace c4 := of_decide_eq_true c4
          refine Cd.skip (Rx.seq (Cd.seq (Cd.block (Cd.seq (Cd.seq (Cd.draw [(1, blk b1 [.slice J.ta J.ts.length J.tc, .slice J.aa J.ls.length J.ac, .slice J.ga J.gs.length J.gc] 26), (2, rowL 38 3 encAf p3.1 p3.2 (linksF J os))] mixed rfl (Dr.take 0 rfl (by kernel_rfl) (Val.move rfl) rfl ⟨rfl, rfl, trivial⟩ (Dr.take 1 rfl (by kernel_rfl) (Val.move rfl) rfl ⟨rfl, rfl, trivial⟩ (Dr.take 2 rfl (by kernel_rfl) (Val.sliceHi (h := q) Try.underlying62 sz3 rfl rfl (by first | rfl | omega | (simp; done)) (by have := hcc; omega)) rfl ⟨rfl, rfl, trivial⟩ (Dr.take 3 rfl (by kernel_rfl) (Val.move rfl) rfl ⟨rfl, rfl, trivial⟩ (Dr.take 4 rfl (by kernel_rfl) (Val.move rfl) rfl ⟨rfl, rfl, trivial⟩ ?_)))))))))))
          obtain ⟨x5, hx6⟩ : ∃ x, cs[q]? = some x := ⟨_, List.getElem?_eq_getElem (by omega)⟩
          refine Dr.take 5 rfl (by kernel_rfl) (Val.ide Try.underlying62 sz3 rfl rfl hC (by first | rfl | omega | (simp; done)) hx6 (Nat.le_refl _)) rfl ⟨rfl, rfl, trivial⟩ (Dr.take 6 rfl (by kernel_rfl) (Val.loadE (k := 0) rfl sc3 hC hx6 rfl) rfl ⟨rfl, rfl, trivial⟩ (Dr.one 7 (by kernel_rfl) rfl (Eff.give rfl rfl en68 rfl (fun w hm => hasT_gives (Rdb.take (hm.rdb hC) q) (by omega) (by omega))) rfl (fun _ _ => ⟨rfl, rfl, trivial⟩) fun _ _ => (Dr.done (by kernel_rfl) (Rx.seq (Cd.cond rfl (fun c7 => ?_) (fun c7 => ?_))))))
          · refine Cd.seq (Cd.region (Rg.val (Val.assign rfl) rfl (Rg.nil (Rx.seq (Cd.ret (Rx.pastR (Rx.inr (Rx.pastR (Rx.pastR (Rx.inr (Rx.pastR (Rx.ret1 rfl rfl fun w hm_ => (⟨by obtain ⟨y_, hy_⟩ : ∃ y, cs[(q + 1) % cs.length]? = some y := ⟨_, List.getElem?_eq_getElem (Nat.mod_lt _ (by omega))⟩; rw [circF_16 h0_ c2 (circ_hit hG hx6 hy_ (.inr c7))], hm_.below⟩)))))))))))))
          · refine Cd.skip (Rx.seq (Cd.seq (Cd.region (Rg.val (Val.assign rfl) rfl (Rg.nil (Rx.seq (Cd.seq (Cd.seq (Cd.region (Rg.val (Val.assign rfl) rfl (Rg.nil (Rx.seq (Cd.block ?_)))))))))))))
            obtain ⟨j, hj, hj2, hje⟩ := rem_next (q := q) (n := cs.length) (by omega)
            obtain ⟨y, hy⟩ : ∃ y, cs[j]? = some y := ⟨_, List.getElem?_eq_getElem (by omega)⟩
            refine Cd.loop (A := Nat × Int) (fun pr_ : Nat × Int => match pr_ with | (c, m) => c ≤ (linksF J os).length ∧ m = (((linksF J os).take c).foldl (lstep x5 y) none).getD (-1125899906842624) ∧ (m = (-1125899906842624) ∨ (-2097152 ≤ m ∧ m ≤ 2097152)))
                (fun pr_ : Nat × Int => match pr_ with | (c, m) => [(2, .slice ca cs.length cc), (8, .slice p3.1 (linksF J os).length p3.2), (9, .int .i64 g), (10, .int .i64 (q : Int)), (11, .int .i64 m), (12, .int .i64 (c : Int))])
                (fun pr_ : Nat × Int => match pr_ with | (c, m) => [(1, blk b1 [.slice J.ta J.ts.length J.tc, .slice J.aa J.ls.length J.ac, .slice J.ga J.gs.length J.gc] 26), (2, rowL 38 3 encAf p3.1 p3.2 (linksF J os))])
                (fun pr_ : Nat × Int => match pr_ with | (c, m) => (linksF J os).length - c) (0, (-1125899906842624)) ?_ ⟨rfl, rfl, rfl, rfl, rfl, rfl, trivial⟩ ⟨rfl, rfl, trivial⟩ ?_
            · exact ⟨Nat.zero_le _, rfl, .inl rfl⟩
            · rintro ⟨c, m⟩ ⟨hc, hlm, hmb⟩
              show Cd _ _ _ _ _ [(2, .slice ca cs.length cc), (8, .slice p3.1 (linksF J os).length p3.2), (9, .int .i64 g), (10, .int .i64 (q : Int)), (11, .int .i64 m), (12, .int .i64 (c : Int))] [(1, blk b1 [.slice J.ta J.ts.length J.tc, .slice J.aa J.ls.length J.ac, .slice J.ga J.gs.length J.gc] 26), (2, rowL 38 3 encAf p3.1 p3.2 (linksF J os))]
              refine Cd.seq (Cd.seq (Cd.region (Rg.val (Val.move rfl) rfl (Rg.val (Val.move rfl) rfl (Rg.val (Val.len Try.underlying23 rfl) rfl (Rg.val (Val.lss rfl rfl) rfl (Rg.nil (Rx.seq (Cd.cond rfl (fun c8 => ?_) (fun c8 => ?_))))))))))
              · replace c8 := of_decide_eq_true c8
                refine Cd.skip (Rx.seq (Cd.seq (Cd.block (Cd.seq (Cd.draw [(1, blk b1 [.slice J.ta J.ts.length J.tc, .slice J.aa J.ls.length J.ac, .slice J.ga J.gs.length J.gc] 26), (2, rowL 38 3 encAf p3.1 p3.2 (linksF J os))] mixed rfl (Dr.take 0 rfl (by kernel_rfl) (Val.move rfl) rfl ⟨rfl, rfl, trivial⟩ (Dr.take 1 rfl (by kernel_rfl) (Val.move rfl) rfl ⟨rfl, rfl, trivial⟩ ?_)))))))
                obtain ⟨x9, hx10⟩ : ∃ x, (linksF J os)[c]? = some x := ⟨_, List.getElem?_eq_getElem (by omega)⟩
                have hk_x9 := (hS.lk _ (List.mem_of_getElem? hx10)).2.2
                refine Dr.take 2 rfl (by kernel_rfl) (Val.ideRow 2 Try.underlying23 sz38 rfl rfl rfl rfl (by first | rfl | omega | (simp; done)) hx10) rfl ⟨rfl, rfl, trivial⟩ (Dr.take 3 rfl (by kernel_rfl) (Val.faeRow (k := 0) 2 rfl rfl (fun _ => rfl) hx10 fa38_0) rfl ⟨rfl, rfl, trivial⟩ (Dr.take 4 rfl (by kernel_rfl) (Val.loadRow (k := 0) 2 rfl sc3 rfl (fun _ => rfl) hx10 rfl) rfl ⟨rfl, rfl, trivial⟩ (Dr.take 5 rfl (by kernel_rfl) (Val.move rfl) rfl ⟨rfl, rfl, trivial⟩ (Dr.take 6 rfl (by kernel_rfl) (Val.move rfl) rfl ⟨rfl, rfl, trivial⟩ (Dr.take 7 rfl (by kernel_rfl) (Val.ide Try.underlying62 sz3 rfl rfl hC (by first | rfl | omega | (simp; done)) hx6 (Nat.le_refl _)) rfl ⟨rfl, rfl, trivial⟩ (Dr.take 8 rfl (by kernel_rfl) (Val.loadE (k := 0) rfl sc3 hC hx6 rfl) rfl ⟨rfl, rfl, trivial⟩ (Dr.take 9 rfl (by kernel_rfl) (Val.eql rfl rfl) rfl ⟨rfl, rfl, trivial⟩ (Dr.take 10 rfl (by kernel_rfl) (Val.move rfl) rfl ⟨rfl, rfl, trivial⟩ (Dr.split 55 rfl (fun c11 => ?_) (fun c11 => ?_))))))))))
                · replace c11 := of_decide_eq_true c11
                  refine Dr.takeG 11 rfl (by kernel_rfl) rfl rfl rfl (Val.move rfl) rfl ⟨rfl, rfl, trivial⟩ (Dr.takeG 12 rfl (by kernel_rfl) rfl rfl rfl (Val.move rfl) rfl ⟨rfl, rfl, trivial⟩ (Dr.takeG 13 rfl (by kernel_rfl) rfl rfl rfl (Val.ideRow 2 Try.underlying23 sz38 rfl rfl rfl rfl (by first | rfl | omega | (simp; done)) hx10) rfl ⟨rfl, rfl, trivial⟩ (Dr.takeG 14 rfl (by kernel_rfl) rfl rfl rfl (Val.faeRow (k := 1) 2 rfl rfl (fun _ => rfl) hx10 fa38_1) rfl ⟨rfl, rfl, trivial⟩ (Dr.takeG 15 rfl (by kernel_rfl) rfl rfl rfl (Val.loadRow (k := 1) 2 rfl sc3 rfl (fun _ => rfl) hx10 rfl) rfl ⟨rfl, rfl, trivial⟩ (Dr.takeG 16 rfl (by kernel_rfl) rfl rfl rfl (Val.move rfl) rfl ⟨rfl, rfl, trivial⟩ (Dr.takeG 17 rfl (by kernel_rfl) rfl rfl rfl (Val.move rfl) rfl ⟨rfl, rfl, trivial⟩ (Dr.takeG 18 rfl (by kernel_rfl) rfl rfl rfl (Val.addN rfl rfl (by have := linksF_len hK hV; unfold in64; omega)) rfl ⟨rfl, rfl, trivial⟩ (Dr.takeG 19 rfl (by kernel_rfl) rfl rfl rfl (Val.move rfl) rfl ⟨rfl, rfl, trivial⟩ (Dr.takeG 20 rfl (by kernel_rfl) rfl rfl rfl (Val.len Try.underlying62 rfl) rfl ⟨rfl, rfl, trivial⟩ (Dr.takeG 21 rfl (by kernel_rfl) rfl rfl rfl (Val.as (Val.rem rfl rfl (by show (cs.length : Int) ≠ 0; omega)) (congrArg (Value.int .i64) hje)) rfl ⟨rfl, rfl, trivial⟩ (Dr.takeG 22 rfl (by kernel_rfl) rfl rfl rfl (Val.ide Try.underlying62 sz3 rfl rfl hC (by first | rfl | omega | (simp; done)) hy (Nat.le_refl _)) rfl ⟨rfl, rfl, trivial⟩ (Dr.takeG 23 rfl (by kernel_rfl) rfl rfl rfl (Val.loadE (k := 0) rfl sc3 hC hy rfl) rfl ⟨rfl, rfl, trivial⟩ (Dr.takeG 24 rfl (by kernel_rfl) rfl rfl rfl (Val.eql rfl rfl) rfl ⟨rfl, rfl, trivial⟩ (Dr.take 25 rfl (by kernel_rfl) (Val.pickT rfl rfl) rfl ⟨rfl, rfl, trivial⟩ (Dr.done (by kernel_rfl) (Rx.seq (Cd.cond rfl (fun c12 => ?_) (fun c12 => ?_))))))))))))))))))
                  · replace c12 := of_decide_eq_true c12
                    refine Cd.region (Rg.val (Val.move rfl) rfl (Rg.val (Val.move rfl) rfl (Rg.val (Val.move rfl) rfl (Rg.val (Val.ideRow 2 Try.underlying23 sz38 rfl rfl rfl rfl (by first | rfl | omega | (simp; done)) hx10) rfl (Rg.val (Val.faeRow (k := 2) 2 rfl rfl (fun _ => rfl) hx10 fa38_2) rfl (Rg.val (Val.loadRow (k := 2) 2 rfl sc2 rfl (fun _ => rfl) hx10 rfl) rfl (Rg.val (Val.max rfl rfl) rfl (Rg.val (Val.assign rfl) rfl (Rg.nil (Rx.inb (Rx.seq (Cd.region (Rg.val (Val.move rfl) rfl (Rg.val (Val.addN rfl rfl (by have := linksF_len hK hV; unfold in64; omega)) rfl (Rg.val (Val.assign rfl) rfl (Rg.nil ?_))))))))))))))))
                    refine Rx.meet (c + 1, Max.max m x9.lag) ⟨⟨by omega, by rw [lag_get hx10 (by omega) hlm, if_pos c11, if_pos c12], by omega⟩, by show (linksF J os).length - (c + 1) < (linksF J os).length - c; omega⟩ ⟨rfl, rfl, rfl, rfl, rfl, rfl, trivial⟩ ⟨rfl, rfl, trivial⟩
                  · replace c12 := of_decide_eq_false c12
                    refine Cd.skip (Rx.inb (Rx.seq (Cd.region (Rg.val (Val.move rfl) rfl (Rg.val (Val.addN rfl rfl (by have := linksF_len hK hV; unfold in64; omega)) rfl (Rg.val (Val.assign rfl) rfl (Rg.nil ?_)))))))
                    refine Rx.meet (c + 1, m) ⟨⟨by omega, by rw [lag_get hx10 (by omega) hlm, if_pos c11, if_neg c12], by omega⟩, by show (linksF J os).length - (c + 1) < (linksF J os).length - c; omega⟩ ⟨rfl, rfl, rfl, rfl, rfl, rfl, trivial⟩ ⟨rfl, rfl, trivial⟩
                · replace c11 := of_decide_eq_false c11
                  refine Dr.off 11 rfl (by kernel_rfl) rfl rfl rfl rfl ⟨rfl, rfl, trivial⟩ (Dr.off 12 rfl (by kernel_rfl) rfl rfl rfl rfl ⟨rfl, rfl, trivial⟩ (Dr.off 13 rfl (by kernel_rfl) rfl rfl rfl rfl ⟨rfl, rfl, trivial⟩ (Dr.off 14 rfl (by kernel_rfl) rfl rfl rfl rfl ⟨rfl, rfl, trivial⟩ (Dr.off 15 rfl (by kernel_rfl) rfl rfl rfl rfl ⟨rfl, rfl, trivial⟩ (Dr.off 16 rfl (by kernel_rfl) rfl rfl rfl rfl ⟨rfl, rfl, trivial⟩ (Dr.off 17 rfl (by kernel_rfl) rfl rfl rfl rfl ⟨rfl, rfl, trivial⟩ (Dr.off 18 rfl (by kernel_rfl) rfl rfl rfl rfl ⟨rfl, rfl, trivial⟩ (Dr.off 19 rfl (by kernel_rfl) rfl rfl rfl rfl ⟨rfl, rfl, trivial⟩ (Dr.off 20 rfl (by kernel_rfl) rfl rfl rfl rfl ⟨rfl, rfl, trivial⟩ (Dr.off 21 rfl (by kernel_rfl) rfl rfl rfl rfl ⟨rfl, rfl, trivial⟩ (Dr.off 22 rfl (by kernel_rfl) rfl rfl rfl rfl ⟨rfl, rfl, trivial⟩ (Dr.off 23 rfl (by kernel_rfl) rfl rfl rfl rfl ⟨rfl, rfl, trivial⟩ (Dr.off 24 rfl (by kernel_rfl) rfl rfl rfl rfl ⟨rfl, rfl, trivial⟩ (Dr.take 25 rfl (by kernel_rfl) (Val.pickF rfl rfl) rfl ⟨rfl, rfl, trivial⟩ (Dr.done (by kernel_rfl) (Rx.seq (Cd.no rfl (Cd.skip (Rx.inb (Rx.seq (Cd.region (Rg.val (Val.move rfl) rfl (Rg.val (Val.addN rfl rfl (by have := linksF_len hK hV; unfold in64; omega)) rfl (Rg.val (Val.assign rfl) rfl (Rg.nil ?_)))))))))))))))))))))))))
                  refine Rx.meet (c + 1, m) ⟨⟨by omega, by rw [lag_get hx10 (by omega) hlm, if_neg c11], by omega⟩, by show (linksF J os).length - (c + 1) < (linksF J os).length - c; omega⟩ ⟨rfl, rfl, rfl, rfl, rfl, rfl, trivial⟩ ⟨rfl, rfl, trivial⟩
              · replace c8 := of_decide_eq_false c8
                refine Cd.exit (Rx.pastE (Rx.pastE (Rx.hit (Rx.seq (Cd.seq (Cd.seq (Cd.region (Rg.val (Val.move rfl) rfl (Rg.val (Val.eql rfl rfl) rfl (Rg.nil (Rx.seq (Cd.cond rfl (fun c13 => ?_) (fun c13 => ?_)))))))))))))
                · replace c13 := of_decide_eq_true c13
                  refine Cd.seq (Cd.region (Rg.val (Val.assign rfl) rfl (Rg.nil (Rx.seq (Cd.ret (Rx.pastR (Rx.inr (Rx.pastR (Rx.pastR (Rx.inr (Rx.pastR (Rx.ret1 rfl rfl fun w hm_ => (⟨by rw [circF_16 h0_ c2 (circ_hit hG hx6 (by rw [← hj]; exact hy) (.inl ((lag_neg hS.lk' (hlm.trans (by rw [List.take_of_length_le (by omega)]; rfl))).1 c13)))], hm_.below⟩)))))))))))))
                · replace c13 := of_decide_eq_false c13
                  refine Cd.skip (Rx.seq (Cd.region (Rg.val (Val.move rfl) rfl (Rg.val (Val.move rfl) rfl (Rg.val (Val.addN rfl rfl (by have := linksF_len hK hV; unfold in64; omega)) rfl (Rg.val (Val.assign rfl) rfl (Rg.nil (Rx.inb (Rx.seq (Cd.region (Rg.val (Val.move rfl) rfl (Rg.val (Val.addN rfl rfl (by have := linksF_len hK hV; unfold in64; omega)) rfl (Rg.val (Val.assign rfl) rfl (Rg.nil ?_))))))))))))))
                  refine Rx.meet (q + 1, g + m) ⟨⟨by omega, circ_next hG hx6 (by rw [← hj]; exact hy) ((lag_neg hS.lk' (hlm.trans (by rw [List.take_of_length_le (by omega)]; rfl))).2 c13) c7, by omega⟩, by show cs.length - (q + 1) < cs.length - q; omega⟩ ⟨rfl, rfl, rfl, rfl, trivial⟩ ⟨rfl, rfl, trivial⟩
        · replace c4 := of_decide_eq_false c4
          refine Cd.exit (Rx.pastE (Rx.pastE (Rx.hit (Rx.seq (Cd.seq (Cd.seq (Cd.region (Rg.val (Val.move rfl) rfl (Rg.val (Val.leq rfl rfl) rfl (Rg.nil (Rx.seq (Cd.cond rfl (fun c14 => ?_) (fun c14 => ?_)))))))))))))
          · replace c14 := of_decide_eq_true c14
            refine Cd.seq (Cd.region (Rg.val (Val.assign rfl) rfl (Rg.nil (Rx.seq (Cd.ret (Rx.pastR (Rx.ret1 rfl rfl fun w hm_ => (⟨by rw [circF_16 h0_ c2 ((circ_end hG (by omega)).trans (decide_eq_false (by omega)))], hm_.below⟩))))))))
          · replace c14 := of_decide_eq_false c14
            refine Cd.skip (Rx.seq (Cd.seq (Cd.region (Rg.val (Val.assign rfl) rfl (Rg.nil (Rx.seq (Cd.ret (Rx.ret1 rfl rfl fun w hm_ => (⟨by rw [circF_0 h0_ c2 ((circ_end hG (by omega)).trans (decide_eq_true (by omega)))], hm_.below⟩)))))))))

end Go.Proofs.Ytdmkedbmoboamaa
