/- Walks of functions of the program: what each returns, told by plain functions. -/
import Derived.Test.YtdmkedbmoboamaaA4
import Derived.Test.YtdmkedbmoboamaaPO
namespace Go.Proofs.Ytdmkedbmoboamaa
open Go.Kx Go.RowKit
set_option maxRecDepth 100000
set_option linter.unusedVariables false
set_option linter.unusedSimpArgs false
set_option linter.unnecessarySimpa false
set_option linter.constructorNameAsVariable false
theorem sortedV_calls {b : Nat} {a : Option Addr} {cap : Nat} {xs : List Int} {w w1 : World} (hR : Rdb w a 1 encI xs) (hl : xs.length ≤ 1000) (hm1 : Mem w [(5, blk b [.slice a xs.length cap] 62)] w1) :
    Calls Try.prog 64 #[.func (.func 108) #[] #[.pointer (some ⟨b, 0, none⟩)]] w1 fun e w' => ∃ p : Option Addr × Nat, True ∧ e = .returned (.slice p.1 (sortI xs).length p.2) ∧ Turns (packR [(5, blk b [.slice a xs.length cap] 62)]) w1 (packR [(2, rowL 3 1 encI p.1 p.2 (sortI xs))]) w' :=
  (sorted_calls 108 [.pointer (some ⟨b, 0, none⟩)] (blk b [.slice a xs.length cap] 62) (okV xs) (fun ys => ys = xs) w en108 (values1_iter b a cap xs w hR (by omega)) (fun pre x h => by have := (List.getElem?_eq_some_iff.1 h.2).1; omega) w1 hm1 (fun ys h => by subst h; omega)).mono fun e w' ⟨p, h1, h2, h3⟩ => by
    have e1 : p = (p.1, p.2.1, xs) := by rw [← h1]
    rw [e1] at h2 h3
    exact ⟨(p.1, p.2.1), trivial, by rw [h2]; simp [sortI], h3⟩
theorem chkO_e {J : Jb} {os : List Rw} (h : ¬ chkF J = 0) : chkO J os = chkF J := by unfold chkO; rw [if_neg h]
theorem chkO_17 {J : Jb} {os : List Rw} (h0 : chkF J = 0) (h1 : ¬ (os.length : Int) = (J.gs.length : Int)) : chkO J os = 17 := by unfold chkO; rw [if_pos h0, if_neg h1]
theorem chkO_2 {J : Jb} {os : List Rw} (h0 : chkF J = 0) (h1 : (os.length : Int) = (J.gs.length : Int)) (h2 : badR J 0 os = true) : chkO J os = 2 := by unfold chkO; rw [if_pos h0, if_pos h1, if_pos h2]
theorem chkO_0 {J : Jb} {os : List Rw} (h0 : chkF J = 0) (h1 : (os.length : Int) = (J.gs.length : Int)) (h2 : badR J 0 os = false) : chkO J os = 0 := by unfold chkO; rw [if_pos h0, if_pos h1, h2]; rfl
theorem bad_now {J : Jb} {os : List Rw} {i : Nat} {x : Rw} {b : Bool} (hG : b = badR J i (os.drop i)) (h : os[i]? = some x) (hn : ¬ sortI x.xs = memF i 0 J.ts) : b = true := by rw [hG, dropc h, badR, if_neg hn]
theorem bad_next {J : Jb} {os : List Rw} {i : Nat} {x : Rw} {b : Bool} (hG : b = badR J i (os.drop i)) (h : os[i]? = some x) (hn : sortI x.xs = memF i 0 J.ts) : b = badR J ((i + 1 : Nat) : Int) (os.drop (i + 1)) := by rw [hG, dropc h, badR, if_pos hn]; rfl
theorem bad_end {J : Jb} {os : List Rw} {i : Nat} {b : Bool} (hG : b = badR J i (os.drop i)) (h : ¬ (i : Int) < (os.length : Int)) : b = false := by rw [hG, drop_all h]; rfl
theorem CheckOrder_gives (J : Jb) (ao : Option Addr) (co : Nat) (os : List Rw) (w : World) (hJ : JobAt w J) (hO : OrdAt w ao os) (hw : os.length ≤ 1000 ∧ ∀ r ∈ os, r.xs.length ≤ 1000) : Gives Try.prog 19 #[.agg #[.slice J.ta J.ts.length J.tc, .slice J.aa J.ls.length J.ac, .slice J.ga J.gs.length J.gc], .slice ao os.length co] w (.int .i64 (chkO J os)) := by
  refine calls_of (vs := [.agg #[.slice J.ta J.ts.length J.tc, .slice J.aa J.ls.length J.ac, .slice J.ga J.gs.length J.gc], .slice ao os.length co]) Try.func19 rfl rfl rfl ?_
  show Cd _ _ _ _ _ [(0, .agg #[.slice J.ta J.ts.length J.tc, .slice J.aa J.ls.length J.ac, .slice J.ga J.gs.length J.gc]), (1, .slice ao os.length co)] []
  refine Cd.seq (Cd.region (Rg.eff (Eff.box 1 rfl rfl) rfl fun b1 _ => (Rg.val (Val.assign rfl) rfl (Rg.nil (Rx.seq (Cd.seq (Cd.seq (Cd.region (Rg.val (Val.loadAll (l := 1) rfl rfl ag26 rfl) rfl (Rg.eff (Eff.give rfl rfl en17 rfl (fun w hm => Check_gives J w (Mem.job hm hJ))) rfl fun _ _ => (Rg.val (Val.assign rfl) rfl (Rg.nil (Rx.seq (Cd.seq (Cd.region (Rg.val (Val.move rfl) rfl (Rg.val (Val.neq rfl rfl) rfl (Rg.nil (Rx.seq (Cd.cond rfl (fun c1 => ?_) (fun c1 => ?_)))))))))))))))))))))
  · replace c1 := bnot_t c1
    replace c1 := of_decide_eq_false c1
    refine Cd.seq (Cd.region (Rg.val (Val.move rfl) rfl (Rg.val (Val.assign rfl) rfl (Rg.nil (Rx.seq (Cd.ret (Rx.pastR (Rx.ret1 rfl rfl fun w hm_ => (⟨by rw [chkO_e c1], hm_.below⟩)))))))))
  · replace c1 := bnot_f c1
    replace c1 := of_decide_eq_true c1
    have hK := JobOk.of c1
    have hn := hK.nts.2
    refine Cd.skip (Rx.seq (Cd.seq (Cd.seq (Cd.region (Rg.val (Val.move rfl) rfl (Rg.val (Val.len Try.underlying27 rfl) rfl (Rg.val (Val.fa rfl (fa26_2 _ _)) rfl (Rg.val (Val.load (l := 1) rfl rfl sc24 rfl) rfl (Rg.val (Val.len Try.underlying24 rfl) rfl (Rg.val (Val.neq rfl rfl) rfl (Rg.nil (Rx.seq (Cd.cond rfl (fun c2 => ?_) (fun c2 => ?_))))))))))))))
    · replace c2 := bnot_t c2
      replace c2 := of_decide_eq_false c2
      refine Cd.seq (Cd.region (Rg.val (Val.assign rfl) rfl (Rg.nil (Rx.seq (Cd.ret (Rx.pastR (Rx.ret1 rfl rfl fun w hm_ => (⟨by rw [chkO_17 c1 c2], hm_.below⟩))))))))
    · replace c2 := bnot_f c2
      replace c2 := of_decide_eq_true c2
      refine Cd.skip (Rx.seq (Cd.seq (Cd.seq (Cd.region (Rg.val (Val.move rfl) rfl (Rg.val (Val.len Try.underlying27 rfl) rfl (Rg.val (Val.move rfl) rfl (Rg.nil (Rx.seq (Cd.block ?_))))))))))
      refine Cd.loop (A := Nat) (fun i : Nat => i ≤ os.length ∧ badR J 0 os = badR J i (os.drop i))
          (fun i : Nat => [(2, .pointer (some ⟨b1, 0, none⟩)), (19, .slice ao os.length co), (20, .int .i64 (os.length : Int)), (21, .int .i64 (i : Int))])
          (fun i : Nat => [(1, blk b1 [.slice J.ta J.ts.length J.tc, .slice J.aa J.ls.length J.ac, .slice J.ga J.gs.length J.gc] 26)])
          (fun i : Nat => os.length - i) 0 ?_ ⟨rfl, rfl, rfl, rfl, trivial⟩ ⟨rfl, trivial⟩ ?_
      · exact ⟨Nat.zero_le _, rfl⟩
      · rintro i ⟨hi, hG⟩
        show Cd _ _ _ _ _ [(2, .pointer (some ⟨b1, 0, none⟩)), (19, .slice ao os.length co), (20, .int .i64 (os.length : Int)), (21, .int .i64 (i : Int))] [(1, blk b1 [.slice J.ta J.ts.length J.tc, .slice J.aa J.ls.length J.ac, .slice J.ga J.gs.length J.gc] 26)]
        refine Cd.seq (Cd.region (Rg.val (Val.lss rfl rfl) rfl (Rg.nil (Rx.seq (Cd.seq (Cd.cond rfl (fun c3 => ?_) (fun c3 => ?_)))))))
        · replace c3 := of_decide_eq_true c3
          refine Cd.skip (Rx.seq (Cd.seq (Cd.block (Cd.seq (Cd.region (Rg.val (Val.move rfl) rfl ?_))))))
          obtain ⟨x4, hx5⟩ : ∃ x, os[i]? = some x := ⟨_, List.getElem?_eq_getElem (by omega)⟩
          have hl_x4 := hw.2 _ (List.mem_of_getElem? hx5)
          refine Rg.val (Val.ide Try.underlying27 sz62 rfl rfl hO.rds (by first | rfl | omega | (simp; done)) hx5 (Nat.le_refl _)) rfl (Rg.val (Val.loadE (k := 0) rfl sc62 hO.rds hx5 rfl) rfl (Rg.val (Val.assign rfl) rfl (Rg.val (Val.assign rfl) rfl (Rg.nil (Rx.seq (Cd.seq (Cd.draw [(1, blk b1 [.slice J.ta J.ts.length J.tc, .slice J.aa J.ls.length J.ac, .slice J.ga J.gs.length J.gc] 26)] mixed rfl (Dr.take 0 rfl (by kernel_rfl) (Val.move rfl) rfl ⟨rfl, trivial⟩ (Dr.take 3 rfl (by kernel_rfl) (Val.loadAll (l := 1) rfl rfl ag26 rfl) rfl ⟨rfl, trivial⟩ (Dr.take 4 rfl (by kernel_rfl) (Val.move rfl) rfl ⟨rfl, trivial⟩ (Dr.one 1 (by kernel_rfl) rfl (Eff.made (Bs := fun b_ => [(5, blk b_ [.slice x4.a x4.xs.length x4.cap] 62)]) rfl rfl en65 rfl (fun _ => rfl) (fun w hm => values_calls _ _ x4.xs w)) rfl (fun _ _ => ⟨rfl, trivial⟩) fun b6 hb6 => (Dr.one 2 (by kernel_rfl) rfl (Eff.over (Bs := [(5, blk b6 [.slice x4.a x4.xs.length x4.cap] 62)]) (B0 := [(1, blk b1 [.slice J.ta J.ts.length J.tc, .slice J.aa J.ls.length J.ac, .slice J.ga J.gs.length J.gc] 26)]) rfl rfl en64 rfl ⟨rfl, trivial⟩ ⟨rfl, trivial⟩ rfl (fun _ => rfl) (fun w hm => sortedV_calls (hO.row _ (List.mem_of_getElem? hx5)) (by omega) (hm.weak ⟨rfl, trivial⟩))) rfl (fun _ _ => ⟨rfl, trivial⟩) fun p7 hp7 => (Dr.one 5 (by kernel_rfl) rfl (Eff.call rfl rfl en66 rfl (fun w hm => RowPost.mem 1031 hm (members_calls J (i : Int) w (Mem.job hm hJ) hn))) rfl (fun _ _ => ⟨rfl, trivial⟩) fun pd31 _ => (Dr.one 6 (by kernel_rfl) rfl (Eff.give rfl rfl en63 rfl (fun w hm => equal_gives _ _ _ _ _ _ w (Rdb.of_row (l := 2) hm rfl (fun _ => rfl)) (by rw [show (sortI _).length = _ from by simp [sortI]; rfl]; omega) (Rdb.of_row (l := 1031) hm rfl (fun _ => rfl)))) rfl (fun _ _ => ⟨rfl, trivial⟩) fun _ _ => (Dr.take 7 rfl (by kernel_rfl) (Val.not rfl) rfl ⟨rfl, trivial⟩ (Dr.done (by kernel_rfl) (Rx.seq (Cd.cond rfl (fun c8 => ?_) (fun c8 => ?_)))))))))))))))))))
          · replace c8 := bnot_t c8
            replace c8 := of_decide_eq_false c8
            refine Cd.seq (Cd.region (Rg.val (Val.assign rfl) rfl (Rg.nil (Rx.seq (Cd.ret (Rx.inr (Rx.pastR (Rx.pastR (Rx.inr (Rx.pastR (Rx.ret1 rfl rfl fun w hm_ => (⟨by rw [chkO_2 c1 c2 (bad_now hG hx5 (by simpa using c8))], hm_.below⟩))))))))))))
          · replace c8 := bnot_f c8
            replace c8 := of_decide_eq_true c8
            refine Cd.skip (Rx.inb (Rx.seq (Cd.region (Rg.val (Val.addN rfl rfl (by unfold in64; omega)) rfl (Rg.val (Val.move rfl) rfl (Rg.nil ?_))))))
            refine Rx.meet (i + 1) ⟨⟨by omega, bad_next hG hx5 (by simpa using c8)⟩, by show os.length - (i + 1) < os.length - i; omega⟩ ⟨rfl, rfl, rfl, rfl, trivial⟩ ⟨rfl, trivial⟩
        · replace c3 := of_decide_eq_false c3
          refine Cd.exit (Rx.pastE (Rx.pastE (Rx.hit (Rx.seq (Cd.seq (Cd.region (Rg.val (Val.assign rfl) rfl (Rg.nil (Rx.seq (Cd.ret (Rx.ret1 rfl rfl fun w hm_ => (⟨by rw [chkO_0 c1 c2 (bad_end hG (by omega))], hm_.below⟩))))))))))))

theorem pos_next {P : Nat → Prop} {k : Nat} (hP : ∀ j, j < k → P j) (h : P k) : ∀ j, j < k + 1 → P j := fun j hj => by
  rcases Nat.lt_or_ge j k with h1 | h1
  · exact hP j h1
  · have : j = k := by omega
    rw [this]; exact h
theorem hasT_gives {a : Option Addr} {cap k : Nat} {xs : List Int} {x : Int} {w : World} (hR : Rdb w a 1 encI (xs.take k)) (hk : k ≤ xs.length) (hl : xs.length ≤ 1000) : Gives Try.prog 68 #[.slice a k cap, .int .i64 x] w (.bool ((xs.take k).any fun y => decide (y = x))) := by
  have h := has_gives a cap (xs.take k) x w hR (by rw [List.length_take]; omega)
  rw [show (xs.take k).length = k from by rw [List.length_take]; omega] at h
  exact h
theorem rCheckOrder_gives (J : Jb) (ao : Option Addr) (co : Nat) (os : List Rw) (w : World) (hJ : JobAt w J) (hO : OrdAt w ao os) (hw : os.length ≤ 1000 ∧ ∀ r ∈ os, r.xs.length ≤ 1000) : Gives Try.prog 20 #[.agg #[.slice J.ta J.ts.length J.tc, .slice J.aa J.ls.length J.ac, .slice J.ga J.gs.length J.gc], .slice ao os.length co] w (.int .i64 (chkO J os)) := by
  refine calls_of (vs := [.agg #[.slice J.ta J.ts.length J.tc, .slice J.aa J.ls.length J.ac, .slice J.ga J.gs.length J.gc], .slice ao os.length co]) Try.func20 rfl rfl rfl ?_
  show Cd _ _ _ _ _ [(0, .agg #[.slice J.ta J.ts.length J.tc, .slice J.aa J.ls.length J.ac, .slice J.ga J.gs.length J.gc]), (1, .slice ao os.length co)] []
  refine Cd.seq (Cd.region (Rg.eff (Eff.box 1 rfl rfl) rfl fun b1 _ => (Rg.val (Val.assign rfl) rfl (Rg.nil (Rx.seq (Cd.seq (Cd.region (Rg.val (Val.loadAll (l := 1) rfl rfl ag26 rfl) rfl (Rg.eff (Eff.give rfl rfl en18 rfl (fun w hm => rCheck_gives J w (Mem.job hm hJ))) rfl fun _ _ => (Rg.val (Val.assign rfl) rfl (Rg.nil (Rx.seq (Cd.seq (Cd.seq (Cd.region (Rg.val (Val.move rfl) rfl (Rg.val (Val.neq rfl rfl) rfl (Rg.nil (Rx.seq (Cd.cond rfl (fun c1 => ?_) (fun c1 => ?_)))))))))))))))))))))
  · replace c1 := bnot_t c1
    replace c1 := of_decide_eq_false c1
    refine Cd.seq (Cd.region (Rg.val (Val.move rfl) rfl (Rg.val (Val.assign rfl) rfl (Rg.nil (Rx.seq (Cd.ret (Rx.pastR (Rx.ret1 rfl rfl fun w hm_ => (⟨by rw [chkO_e c1], hm_.below⟩)))))))))
  · replace c1 := bnot_f c1
    replace c1 := of_decide_eq_true c1
    have hK := JobOk.of c1
    have hn := hK.nts.2
    refine Cd.skip (Rx.seq (Cd.seq (Cd.seq (Cd.region (Rg.val (Val.move rfl) rfl (Rg.val (Val.len Try.underlying27 rfl) rfl (Rg.val (Val.fa rfl (fa26_2 _ _)) rfl (Rg.val (Val.load (l := 1) rfl rfl sc24 rfl) rfl (Rg.val (Val.len Try.underlying24 rfl) rfl (Rg.val (Val.neq rfl rfl) rfl (Rg.nil (Rx.seq (Cd.cond rfl (fun c2 => ?_) (fun c2 => ?_))))))))))))))
    · replace c2 := bnot_t c2
      replace c2 := of_decide_eq_false c2
      refine Cd.seq (Cd.region (Rg.val (Val.assign rfl) rfl (Rg.nil (Rx.seq (Cd.ret (Rx.pastR (Rx.ret1 rfl rfl fun w hm_ => (⟨by rw [chkO_17 c1 c2], hm_.below⟩))))))))
    · replace c2 := bnot_f c2
      replace c2 := of_decide_eq_true c2
      refine Cd.skip (Rx.seq (Cd.seq (Cd.seq (Cd.region (Rg.val (Val.assign rfl) rfl (Rg.nil (Rx.seq (Cd.block ?_))))))))
      refine Cd.loop (A := Nat) (fun i : Nat => i ≤ os.length ∧ badR J 0 os = badR J i (os.drop i))
          (fun i : Nat => [(1, .slice ao os.length co), (2, .pointer (some ⟨b1, 0, none⟩)), (6, .int .i64 (i : Int))])
          (fun i : Nat => [(1, blk b1 [.slice J.ta J.ts.length J.tc, .slice J.aa J.ls.length J.ac, .slice J.ga J.gs.length J.gc] 26)])
          (fun i : Nat => os.length - i) 0 ?_ ⟨rfl, rfl, rfl, trivial⟩ ⟨rfl, trivial⟩ ?_
      · exact ⟨Nat.zero_le _, rfl⟩
      · rintro i ⟨hi, hG⟩
        show Cd _ _ _ _ _ [(1, .slice ao os.length co), (2, .pointer (some ⟨b1, 0, none⟩)), (6, .int .i64 (i : Int))] [(1, blk b1 [.slice J.ta J.ts.length J.tc, .slice J.aa J.ls.length J.ac, .slice J.ga J.gs.length J.gc] 26)]
        refine Cd.seq (Cd.seq (Cd.region (Rg.val (Val.move rfl) rfl (Rg.val (Val.move rfl) rfl (Rg.val (Val.len Try.underlying27 rfl) rfl (Rg.val (Val.lss rfl rfl) rfl (Rg.nil (Rx.seq (Cd.cond rfl (fun c3 => ?_) (fun c3 => ?_))))))))))
        · replace c3 := of_decide_eq_true c3
          refine Cd.skip (Rx.seq (Cd.seq (Cd.block (Cd.seq (Cd.seq (Cd.draw [(1, blk b1 [.slice J.ta J.ts.length J.tc, .slice J.aa J.ls.length J.ac, .slice J.ga J.gs.length J.gc] 26)] mixed rfl (Dr.take 0 rfl (by kernel_rfl) (Val.move rfl) rfl ⟨rfl, trivial⟩ (Dr.take 1 rfl (by kernel_rfl) (Val.move rfl) rfl ⟨rfl, trivial⟩ ?_))))))))
          obtain ⟨x4, hx5⟩ : ∃ x, os[i]? = some x := ⟨_, List.getElem?_eq_getElem (by omega)⟩
          have hl_x4 := hw.2 _ (List.mem_of_getElem? hx5)
          refine Dr.take 2 rfl (by kernel_rfl) (Val.ide Try.underlying27 sz62 rfl rfl hO.rds (by first | rfl | omega | (simp; done)) hx5 (Nat.le_refl _)) rfl ⟨rfl, trivial⟩ (Dr.take 3 rfl (by kernel_rfl) (Val.loadE (k := 0) rfl sc62 hO.rds hx5 rfl) rfl ⟨rfl, trivial⟩ (Dr.take 4 rfl (by kernel_rfl) (Val.len Try.underlying62 rfl) rfl ⟨rfl, trivial⟩ (Dr.take 5 rfl (by kernel_rfl) (Val.loadAll (l := 1) rfl rfl ag26 rfl) rfl ⟨rfl, trivial⟩ (Dr.take 6 rfl (by kernel_rfl) (Val.move rfl) rfl ⟨rfl, trivial⟩ (Dr.one 7 (by kernel_rfl) rfl (Eff.give rfl rfl en67 rfl (fun w hm => count_gives J (i : Int) w (Mem.job hm hJ) hn)) rfl (fun _ _ => ⟨rfl, trivial⟩) fun _ _ => (Dr.take 8 rfl (by kernel_rfl) (Val.neq rfl rfl) rfl ⟨rfl, trivial⟩ (Dr.done (by kernel_rfl) (Rx.seq (Cd.cond rfl (fun c6 => ?_) (fun c6 => ?_))))))))))
          · replace c6 := bnot_t c6
            replace c6 := of_decide_eq_false c6
            refine Cd.seq (Cd.region (Rg.val (Val.assign rfl) rfl (Rg.nil (Rx.seq (Cd.ret (Rx.pastR (Rx.inr (Rx.pastR (Rx.pastR (Rx.inr (Rx.pastR (Rx.ret1 rfl rfl fun w hm_ => (⟨by rw [chkO_2 c1 c2 (bad_now hG hx5 (fun h_ => c6 (by rw [row_len h_])))], hm_.below⟩)))))))))))))
          · replace c6 := bnot_f c6
            replace c6 := of_decide_eq_true c6
            refine Cd.skip (Rx.seq (Cd.seq (Cd.region (Rg.val (Val.assign rfl) rfl (Rg.nil (Rx.seq (Cd.block ?_)))))))
            refine Cd.loop (A := Nat) (fun k : Nat => k ≤ x4.xs.length ∧ ∀ j, j < k → okPos J i x4.xs j)
                (fun k : Nat => [(1, .slice ao os.length co), (2, .pointer (some ⟨b1, 0, none⟩)), (6, .int .i64 (i : Int)), (7, .int .i64 (k : Int))])
                (fun k : Nat => [(1, blk b1 [.slice J.ta J.ts.length J.tc, .slice J.aa J.ls.length J.ac, .slice J.ga J.gs.length J.gc] 26)])
                (fun k : Nat => x4.xs.length - k) 0 ?_ ⟨rfl, rfl, rfl, rfl, trivial⟩ ⟨rfl, trivial⟩ ?_
            · exact ⟨Nat.zero_le _, fun j hj => absurd hj (by omega)⟩
            · rintro k ⟨hk, hP⟩
              show Cd _ _ _ _ _ [(1, .slice ao os.length co), (2, .pointer (some ⟨b1, 0, none⟩)), (6, .int .i64 (i : Int)), (7, .int .i64 (k : Int))] [(1, blk b1 [.slice J.ta J.ts.length J.tc, .slice J.aa J.ls.length J.ac, .slice J.ga J.gs.length J.gc] 26)]
              refine Cd.seq (Cd.seq (Cd.region (Rg.val (Val.move rfl) rfl (Rg.val (Val.move rfl) rfl (Rg.val (Val.move rfl) rfl (Rg.val (Val.ide Try.underlying27 sz62 rfl rfl hO.rds (by first | rfl | omega | (simp; done)) hx5 (Nat.le_refl _)) rfl (Rg.val (Val.loadE (k := 0) rfl sc62 hO.rds hx5 rfl) rfl (Rg.val (Val.len Try.underlying62 rfl) rfl (Rg.val (Val.lss rfl rfl) rfl (Rg.nil (Rx.seq (Cd.cond rfl (fun c7 => ?_) (fun c7 => ?_)))))))))))))
              · replace c7 := of_decide_eq_true c7
                refine Cd.skip (Rx.seq (Cd.seq (Cd.block (Cd.seq (Cd.region (Rg.val (Val.move rfl) rfl (Rg.val (Val.move rfl) rfl (Rg.val (Val.ide Try.underlying27 sz62 rfl rfl hO.rds (by first | rfl | omega | (simp; done)) hx5 (Nat.le_refl _)) rfl (Rg.val (Val.loadE (k := 0) rfl sc62 hO.rds hx5 rfl) rfl (Rg.val (Val.move rfl) rfl ?_))))))))))
                obtain ⟨x8, hx9⟩ : ∃ x, x4.xs[k]? = some x := ⟨_, List.getElem?_eq_getElem (by omega)⟩
                refine Rg.val (Val.ide Try.underlying62 sz3 rfl rfl (hO.row _ (List.mem_of_getElem? hx5)) (by first | rfl | omega | (simp; done)) hx9 (Nat.le_refl _)) rfl (Rg.val (Val.loadE (k := 0) rfl sc3 (hO.row _ (List.mem_of_getElem? hx5)) hx9 rfl) rfl (Rg.val (Val.assign rfl) rfl (Rg.nil (Rx.seq (Cd.seq (Cd.region (Rg.val (Val.move rfl) rfl (Rg.val (Val.lss rfl rfl) rfl (Rg.val (Val.move rfl) rfl (Rg.split 53 rfl (fun c10 => ?_) (fun c10 => ?_)))))))))))
                · replace c10 := of_decide_eq_true c10
                  refine Rg.off rfl rfl rfl rfl (Rg.off rfl rfl rfl rfl (Rg.off rfl rfl rfl rfl (Rg.off rfl rfl rfl rfl (Rg.off rfl rfl rfl rfl (Rg.val (Val.pickT rfl rfl) rfl (Rg.val (Val.move rfl) rfl (Rg.off rfl rfl rfl rfl (Rg.off rfl rfl rfl rfl (Rg.off rfl rfl rfl rfl (Rg.off rfl rfl rfl rfl (Rg.off rfl rfl rfl rfl (Rg.off rfl rfl rfl rfl (Rg.off rfl rfl rfl rfl (Rg.off rfl rfl rfl rfl (Rg.val (Val.pickT rfl rfl) rfl (Rg.val (Val.move rfl) rfl (Rg.off rfl rfl rfl rfl (Rg.off rfl rfl rfl rfl (Rg.off rfl rfl rfl rfl (Rg.off rfl rfl rfl rfl (Rg.off rfl rfl rfl rfl (Rg.off rfl rfl rfl rfl (Rg.off rfl rfl rfl rfl (Rg.off rfl rfl rfl rfl (Rg.val (Val.pickT rfl rfl) rfl (Rg.nil (Rx.seq (Cd.yes rfl (Cd.seq (Cd.region (Rg.val (Val.assign rfl) rfl (Rg.nil (Rx.seq (Cd.ret (Rx.inr (Rx.pastR (Rx.pastR (Rx.inr (Rx.inr ?_)))))))))))))))))))))))))))))))))))))))
                  refine Rx.pastR (Rx.pastR (Rx.inr (Rx.pastR (Rx.ret1 rfl rfl fun w hm_ => (⟨by rw [chkO_2 c1 c2 (bad_now hG hx5 (fun h_ => (by obtain ⟨y_, h1_, h2_, h3_, h4_⟩ := row_pos h_ (j := k) (by omega); rw [hx9] at h1_; injection h1_ with h1_; subst h1_; first | omega)))], hm_.below⟩)))))
                · replace c10 := of_decide_eq_false c10
                  refine Rg.on rfl rfl rfl (Rg.val (Val.move rfl) rfl (Rg.on rfl rfl rfl (Rg.val (Val.fa rfl (fa26_0 _ _)) rfl (Rg.on rfl rfl rfl (Rg.val (Val.load (l := 1) rfl rfl sc22 rfl) rfl (Rg.on rfl rfl rfl (Rg.val (Val.len Try.underlying22 rfl) rfl (Rg.on rfl rfl rfl (Rg.val (Val.geq rfl rfl) rfl (Rg.val (Val.pickF rfl rfl) rfl (Rg.val (Val.move rfl) rfl (Rg.split 60 rfl (fun c11 => ?_) (fun c11 => ?_)))))))))))))
                  · replace c11 := of_decide_eq_true c11
                    refine Rg.off rfl rfl rfl rfl (Rg.off rfl rfl rfl rfl (Rg.off rfl rfl rfl rfl (Rg.off rfl rfl rfl rfl (Rg.off rfl rfl rfl rfl (Rg.off rfl rfl rfl rfl (Rg.off rfl rfl rfl rfl (Rg.off rfl rfl rfl rfl (Rg.val (Val.pickT rfl rfl) rfl (Rg.val (Val.move rfl) rfl (Rg.off rfl rfl rfl rfl (Rg.off rfl rfl rfl rfl (Rg.off rfl rfl rfl rfl (Rg.off rfl rfl rfl rfl (Rg.off rfl rfl rfl rfl (Rg.off rfl rfl rfl rfl (Rg.off rfl rfl rfl rfl (Rg.off rfl rfl rfl rfl (Rg.val (Val.pickT rfl rfl) rfl (Rg.nil (Rx.seq (Cd.yes rfl (Cd.seq (Cd.region (Rg.val (Val.assign rfl) rfl (Rg.nil (Rx.seq (Cd.ret (Rx.inr (Rx.pastR (Rx.pastR (Rx.inr (Rx.inr (Rx.pastR (Rx.pastR (Rx.inr (Rx.pastR (Rx.ret1 rfl rfl fun w hm_ => (⟨by rw [chkO_2 c1 c2 (bad_now hG hx5 (fun h_ => (by obtain ⟨y_, h1_, h2_, h3_, h4_⟩ := row_pos h_ (j := k) (by omega); rw [hx9] at h1_; injection h1_ with h1_; subst h1_; first | omega)))], hm_.below⟩))))))))))))))))))))))))))))))))))))))
                  · replace c11 := of_decide_eq_false c11
                    refine Rg.on rfl rfl rfl (Rg.val (Val.fa rfl (fa26_0 _ _)) rfl (Rg.on rfl rfl rfl (Rg.val (Val.load (l := 1) rfl rfl sc22 rfl) rfl (Rg.on rfl rfl rfl (Rg.val (Val.move rfl) rfl (Rg.on rfl rfl rfl ?_))))))
                    obtain ⟨x12, hx13⟩ : ∃ x, J.ts[(Int.toNat x8)]? = some x := ⟨_, List.getElem?_eq_getElem (by omega)⟩
                    refine Rg.val (Val.ide Try.underlying22 sz57 rfl rfl hJ.rts (by first | rfl | omega | (simp; done)) hx13 (Nat.le_refl _)) rfl (Rg.on rfl rfl rfl (Rg.val (Val.fae (k := 2) rfl (hJ.rts.ne hx13) fa57_2) rfl (Rg.on rfl rfl rfl (Rg.val (Val.loadE (k := 2) rfl sc3 hJ.rts hx13 rfl) rfl (Rg.on rfl rfl rfl (Rg.val (Val.move rfl) rfl (Rg.on rfl rfl rfl (Rg.val (Val.neq rfl rfl) rfl (Rg.val (Val.pickF rfl rfl) rfl (Rg.val (Val.move rfl) rfl (Rg.split 70 rfl (fun c14 => ?_) (fun c14 => ?_))))))))))))
                    · replace c14 := bnot_t c14
                      replace c14 := of_decide_eq_false c14
                      refine Rg.off rfl rfl rfl rfl (Rg.off rfl rfl rfl rfl (Rg.off rfl rfl rfl rfl (Rg.off rfl rfl rfl rfl (Rg.off rfl rfl rfl rfl (Rg.off rfl rfl rfl rfl (Rg.off rfl rfl rfl rfl (Rg.off rfl rfl rfl rfl (Rg.val (Val.pickT rfl rfl) rfl (Rg.nil (Rx.seq (Cd.yes rfl (Cd.seq (Cd.region (Rg.val (Val.assign rfl) rfl (Rg.nil (Rx.seq (Cd.ret (Rx.inr (Rx.pastR (Rx.pastR (Rx.inr (Rx.inr (Rx.pastR (Rx.pastR (Rx.inr (Rx.pastR (Rx.ret1 rfl rfl fun w hm_ => (⟨by rw [chkO_2 c1 c2 (bad_now hG hx5 (fun h_ => (by obtain ⟨y_, h1_, h2_, h3_, h4_⟩ := row_pos h_ (j := k) (by omega); rw [hx9] at h1_; injection h1_ with h1_; subst h1_; first | omega | (obtain ⟨u_, hu_, ht_⟩ := h3_; rw [hx13] at hu_; injection hu_ with hu_; subst hu_; contradiction) | (rw [h4_] at *; contradiction) | (simp_all))))], hm_.below⟩))))))))))))))))))))))))))))
                    · replace c14 := bnot_f c14
                      replace c14 := of_decide_eq_true c14
                      refine Rg.on rfl rfl rfl (Rg.val (Val.move rfl) rfl (Rg.on rfl rfl rfl (Rg.val (Val.move rfl) rfl (Rg.on rfl rfl rfl (Rg.val (Val.ide Try.underlying27 sz62 rfl rfl hO.rds (by first | rfl | omega | (simp; done)) hx5 (Nat.le_refl _)) rfl (Rg.on rfl rfl rfl (Rg.val (Val.loadE (k := 0) rfl sc62 hO.rds hx5 rfl) rfl (Rg.on rfl rfl rfl (Rg.val (Val.move rfl) rfl (Rg.on rfl rfl rfl (Rg.val (Val.sliceHi (h := k) Try.underlying62 sz3 rfl rfl (by first | rfl | omega | (simp; done)) (by have := (hO.cp _ (List.mem_of_getElem? hx5)); omega)) rfl (Rg.on rfl rfl rfl (Rg.val (Val.move rfl) rfl (Rg.on rfl rfl rfl (Rg.eff (Eff.give rfl rfl en68 rfl (fun w hm => hasT_gives (Rdb.take (hm.rdb (hO.row _ (List.mem_of_getElem? hx5))) k) (by omega) (by omega))) rfl fun _ _ => (Rg.val (Val.pickF rfl rfl) rfl (Rg.nil (Rx.seq (Cd.cond rfl (fun c15 => ?_) (fun c15 => ?_))))))))))))))))))))
                      · refine Cd.seq (Cd.region (Rg.val (Val.assign rfl) rfl (Rg.nil (Rx.seq (Cd.ret (Rx.inr (Rx.pastR (Rx.pastR (Rx.inr (Rx.inr (Rx.pastR (Rx.pastR (Rx.inr (Rx.pastR (Rx.ret1 rfl rfl fun w hm_ => (⟨by rw [chkO_2 c1 c2 (bad_now hG hx5 (fun h_ => (by obtain ⟨y_, h1_, h2_, h3_, h4_⟩ := row_pos h_ (j := k) (by omega); rw [hx9] at h1_; injection h1_ with h1_; subst h1_; first | omega | (obtain ⟨u_, hu_, ht_⟩ := h3_; rw [hx13] at hu_; injection hu_ with hu_; subst hu_; contradiction) | (rw [h4_] at *; contradiction) | (simp_all))))], hm_.below⟩))))))))))))))))
                      · refine Cd.skip (Rx.inb (Rx.seq (Cd.region (Rg.val (Val.move rfl) rfl (Rg.val (Val.addN rfl rfl (by unfold in64; omega)) rfl (Rg.val (Val.assign rfl) rfl (Rg.nil ?_)))))))
                        refine Rx.meet (k + 1) ⟨⟨by omega, pos_next hP ⟨x8, hx9, by omega, ⟨x12, hx13, c14⟩, c15⟩⟩, by show x4.xs.length - (k + 1) < x4.xs.length - k; omega⟩ ⟨rfl, rfl, rfl, rfl, trivial⟩ ⟨rfl, trivial⟩
              · replace c7 := of_decide_eq_false c7
                refine Cd.exit (Rx.pastE (Rx.pastE (Rx.hit (Rx.inb (Rx.seq (Cd.region (Rg.val (Val.move rfl) rfl (Rg.val (Val.addN rfl rfl (by unfold in64; omega)) rfl (Rg.val (Val.assign rfl) rfl (Rg.nil ?_))))))))))
                refine Rx.meet (i + 1) ⟨⟨by omega, bad_next hG hx5 (row_good (by omega) (fun j hj => hP j (by omega)))⟩, by show os.length - (i + 1) < os.length - i; omega⟩ ⟨rfl, rfl, rfl, trivial⟩ ⟨rfl, trivial⟩
        · replace c3 := of_decide_eq_false c3
          refine Cd.exit (Rx.pastE (Rx.pastE (Rx.hit (Rx.seq (Cd.seq (Cd.region (Rg.val (Val.assign rfl) rfl (Rg.nil (Rx.seq (Cd.ret (Rx.ret1 rfl rfl fun w hm_ => (⟨by rw [chkO_0 c1 c2 (bad_end hG (by omega))], hm_.below⟩))))))))))))

end Go.Proofs.Ytdmkedbmoboamaa
