/- Walks of functions of the program: what each returns, told by plain functions. -/
import Derived.Test.YtdmkedbmoboamaaA17
import Derived.Test.YtdmkedbmoboamaaPZ
namespace Go.Proofs.Ytdmkedbmoboamaa
open Go.Kx Go.RowKit
set_option maxRecDepth 100000
set_option linter.unusedVariables false
set_option linter.unusedSimpArgs false
set_option linter.unnecessarySimpa false
set_option linter.constructorNameAsVariable false
theorem index_gives (a : Option Addr) (cap : Nat) (xs : List Int) (x : Int) (w : World) (hR : Rdb w a 1 encI xs) (hlen : xs.length ≤ 9223372036854775807) : Gives Try.prog 118 #[.slice a xs.length cap, .int .i64 x] w (.int .i64 (idxF (fun y => decide (y = x)) xs)) := by
  refine calls_of (vs := [.slice a xs.length cap, .int .i64 x]) Try.func118 rfl rfl rfl ?_
  show Cd _ _ _ _ _ [(0, .slice a xs.length cap), (1, .int .i64 x)] []
  refine Cd.seq (Cd.region (Rg.val (Val.assign rfl) rfl (Rg.nil (Rx.seq (Cd.seq (Cd.seq (Cd.region (Rg.val (Val.move rfl) rfl (Rg.val (Val.len Try.underlying62 rfl) rfl (Rg.val (Val.move rfl) rfl (Rg.nil (Rx.seq (Cd.block ?_)))))))))))))
  refine Cd.loop (A := Nat) (fun i : Nat => i ≤ xs.length ∧ (xs.take i).all (fun z => !(fun y => decide (y = x)) z) = true)
      (fun i : Nat => [(0, .slice a xs.length cap), (1, .int .i64 x), (7, .int .i64 (xs.length : Int)), (8, .int .i64 (i : Int))])
      (fun i : Nat => [])
      (fun i : Nat => xs.length - i) 0 ?_ ⟨rfl, rfl, rfl, rfl, trivial⟩ trivial ?_
  · exact ⟨by omega, rfl⟩
  · rintro i ⟨hi, hall⟩
    show Cd _ _ _ _ _ [(0, .slice a xs.length cap), (1, .int .i64 x), (7, .int .i64 (xs.length : Int)), (8, .int .i64 (i : Int))] []
    refine Cd.seq (Cd.region (Rg.val (Val.lss rfl rfl) rfl (Rg.nil (Rx.seq (Cd.seq (Cd.cond rfl (fun c1 => ?_) (fun c1 => ?_)))))))
    · replace c1 := of_decide_eq_true c1
      refine Cd.skip (Rx.seq (Cd.seq (Cd.block (Cd.seq (Cd.region (Rg.val (Val.move rfl) rfl (Rg.val (Val.assign rfl) rfl (Rg.nil (Rx.seq (Cd.seq (Cd.region (Rg.val (Val.move rfl) rfl (Rg.val (Val.move rfl) rfl (Rg.val (Val.move rfl) rfl ?_))))))))))))))
      obtain ⟨x2, hx3⟩ : ∃ x, xs[i]? = some x := ⟨_, List.getElem?_eq_getElem (by omega)⟩
      refine Rg.val (Val.ide Try.underlying62 sz3 rfl rfl hR (by first | rfl | omega | (simp; done)) hx3 (Nat.le_refl _)) rfl (Rg.val (Val.loadE (k := 0) rfl sc3 hR hx3 rfl) rfl (Rg.val (Val.eql rfl rfl) rfl (Rg.nil (Rx.seq (Cd.cond rfl (fun c4 => ?_) (fun c4 => ?_))))))
      · replace c4 := of_decide_eq_true c4
        refine Cd.seq (Cd.region (Rg.val (Val.move rfl) rfl (Rg.val (Val.assign rfl) rfl (Rg.nil (Rx.seq (Cd.ret (Rx.inr (Rx.pastR (Rx.pastR (Rx.inr (Rx.pastR (Rx.ret1 rfl rfl fun w hm_ => (⟨by rw [idxF_at hx3 hall (by simp [c4])], hm_.below⟩)))))))))))))
      · replace c4 := of_decide_eq_false c4
        refine Cd.skip (Rx.inb (Rx.seq (Cd.region (Rg.val (Val.addN rfl rfl (by unfold in64; omega)) rfl (Rg.val (Val.move rfl) rfl (Rg.nil ?_))))))
        refine Rx.meet (i + 1) ⟨⟨by omega, all_snoc hx3 hall (by simp; exact fun h_ => c4 h_.symm)⟩, by omega⟩ ⟨rfl, rfl, rfl, rfl, trivial⟩ trivial
    · replace c1 := of_decide_eq_false c1
      refine Cd.exit (Rx.pastE (Rx.pastE (Rx.hit (Rx.seq (Cd.seq (Cd.region (Rg.val (Val.assign rfl) rfl (Rg.nil (Rx.seq (Cd.ret (Rx.ret1 rfl rfl fun w hm_ => (⟨by rw [idxF_none (by rw [List.take_of_length_le (by omega)] at hall; exact hall)], hm_.below⟩))))))))))))

theorem contains_gives (a : Option Addr) (cap : Nat) (xs : List Int) (x : Int) (w : World) (hR : Rdb w a 1 encI xs) (hlen : xs.length ≤ 9223372036854775807) : Gives Try.prog 87 #[.slice a xs.length cap, .int .i64 x] w (.bool (xs.any fun y => decide (y = x))) := by
  refine calls_of (vs := [.slice a xs.length cap, .int .i64 x]) Try.func87 rfl rfl rfl ?_
  show Cd _ _ _ _ _ [(0, .slice a xs.length cap), (1, .int .i64 x)] []
  refine Cd.seq (Cd.region (Rg.val (Val.assign rfl) rfl (Rg.nil (Rx.seq (Cd.seq (Cd.region (Rg.val (Val.move rfl) rfl (Rg.val (Val.move rfl) rfl (Rg.eff (Eff.give rfl rfl en118 rfl (fun w hm => index_gives _ _ _ _ w (hm.rdb hR) hlen)) rfl fun _ _ => (Rg.val (Val.geq rfl rfl) rfl (Rg.val (Val.assign rfl) rfl (Rg.nil (Rx.seq (Cd.ret (Rx.ret1 rfl rfl fun w hm_ => (⟨by rw [idxF_any], hm_.below⟩))))))))))))))))

theorem containsT_gives {a : Option Addr} {cap k : Nat} {xs : List Int} {x : Int} {w : World} (hR : Rdb w a 1 encI (xs.take k)) (hk : k ≤ xs.length) (hl : xs.length ≤ 1000) : Gives Try.prog 87 #[.slice a k cap, .int .i64 x] w (.bool ((xs.take k).any fun y => decide (y = x))) := by
  have h := contains_gives a cap (xs.take k) x w hR (by rw [List.length_take]; omega)
  rw [show (xs.take k).length = k from by rw [List.length_take]; omega] at h
  exact h
theorem lstep_same {x y : Int} {o : Option Int} {a : Af} (h : a.p ≠ x ∨ a.q ≠ y ∨ (o.isSome = true ∧ ¬ o.getD 0 < a.lag)) : lstep x y o a = o := by
  unfold lstep
  split
  · rename_i h1
    split
    · rename_i h2
      rcases h with h | h | ⟨h, h3⟩
      · exact absurd h1 h
      · exact absurd h2 h
      · cases o with
        | none => cases h
        | some m => simp at h3 ⊢; omega
    · rfl
  · rfl
theorem lstep_new {x y : Int} {o : Option Int} {a : Af} (h1 : a.p = x) (h2 : a.q = y) (h : o.isSome = false ∨ o.getD 0 < a.lag) : lstep x y o a = some a.lag := by
  unfold lstep
  rw [if_pos h1, if_pos h2]
  cases o with
  | none => rfl
  | some m =>
    rcases h with h | h
    · cases h
    · simp at h ⊢; omega
theorem lag_next {L : List Af} {x y : Int} {o o' : Option Int} {c : Nat} {a : Af} (h : lagF L x y = (L.drop c).foldl (lstep x y) o) (ha : L[c]? = some a) (e : lstep x y o a = o') : lagF L x y = (L.drop (c + 1)).foldl (lstep x y) o' := by
  rw [h, dropc ha, List.foldl_cons, e]
theorem lag_end {L : List Af} {x y : Int} {o : Option Int} {c : Nat} (h : lagF L x y = (L.drop c).foldl (lstep x y) o) (hc : ¬ (c : Int) < (L.length : Int)) : lagF L x y = o := by
  rw [h, drop_all hc]; rfl
theorem opt_get {o : Option Int} (h : o.isSome = true) : o = some (o.getD 0) := by
  cases o with
  | none => cases h
  | some m => rfl
theorem opt_none {o : Option Int} (h : o.isSome = false) : o = none := by
  cases o with
  | none => rfl
  | some m => cases h
theorem CheckCircle_gives (J : Jb) (ao : Option Addr) (co : Nat) (os : List Rw) (ca : Option Addr) (cc : Nat) (cs : List Int) (w : World) (hJ : JobAt w J) (hO : OrdAt w ao os) (hw : os.length ≤ 1000 ∧ ∀ r ∈ os, r.xs.length ≤ 1000) (hC : Rdb w ca 1 encI cs) (hcc : cs.length ≤ cc) (hcl : cs.length ≤ 9223372036854775807) : Gives Try.prog 38 #[.agg #[.slice J.ta J.ts.length J.tc, .slice J.aa J.ls.length J.ac, .slice J.ga J.gs.length J.gc], .slice ao os.length co, .slice ca cs.length cc] w (.int .i64 (circF J os cs)) := by
  refine calls_of (vs := [.agg #[.slice J.ta J.ts.length J.tc, .slice J.aa J.ls.length J.ac, .slice J.ga J.gs.length J.gc], .slice ao os.length co, .slice ca cs.length cc]) Try.func38 rfl rfl rfl ?_
  show Cd _ _ _ _ _ [(0, .agg #[.slice J.ta J.ts.length J.tc, .slice J.aa J.ls.length J.ac, .slice J.ga J.gs.length J.gc]), (1, .slice ao os.length co), (2, .slice ca cs.length cc)] []
  refine Cd.seq (Cd.region (Rg.eff (Eff.box 1 rfl rfl) rfl fun b1 _ => (Rg.val (Val.assign rfl) rfl (Rg.nil (Rx.seq (Cd.seq (Cd.seq (Cd.region (Rg.val (Val.loadAll (l := 1) rfl rfl ag26 rfl) rfl (Rg.val (Val.move rfl) rfl (Rg.eff (Eff.give rfl rfl en19 rfl (fun w hm => CheckOrder_gives J _ _ os w (Mem.job hm hJ) (Mem.ord hm hO) hw)) rfl fun _ _ => (Rg.val (Val.assign rfl) rfl (Rg.nil (Rx.seq (Cd.seq (Cd.region (Rg.val (Val.move rfl) rfl (Rg.val (Val.neq rfl rfl) rfl (Rg.nil (Rx.seq (Cd.cond rfl (fun c1 => ?_) (fun c1 => ?_))))))))))))))))))))))
  · replace c1 := bnot_t c1
    replace c1 := of_decide_eq_false c1
    refine Cd.seq (Cd.region (Rg.val (Val.move rfl) rfl (Rg.val (Val.assign rfl) rfl (Rg.nil (Rx.seq (Cd.ret (Rx.pastR (Rx.ret1 rfl rfl fun w hm_ => (⟨by rw [circF_e c1], hm_.below⟩)))))))))
  · replace c1 := bnot_f c1
    replace c1 := of_decide_eq_true c1
    obtain ⟨hK, hV, _⟩ := OrdOk.of c1
    have hS := sound_of hK hV
    have h0_ := c1
    refine Cd.skip (Rx.seq (Cd.seq (Cd.seq (Cd.region (Rg.val (Val.move rfl) rfl (Rg.val (Val.len Try.underlying62 rfl) rfl (Rg.val (Val.gtr rfl rfl) rfl (Rg.nil (Rx.seq (Cd.cond rfl (fun c2 => ?_) (fun c2 => ?_)))))))))))
    · replace c2 := of_decide_eq_true c2
      refine Cd.seq (Cd.region (Rg.val (Val.assign rfl) rfl (Rg.nil (Rx.seq (Cd.ret (Rx.pastR (Rx.ret1 rfl rfl fun w hm_ => (⟨by rw [circF_6 h0_ c2], hm_.below⟩))))))))
    · replace c2 := of_decide_eq_false c2
      refine Cd.skip (Rx.seq (Cd.seq (Cd.region (Rg.val (Val.loadAll (l := 1) rfl rfl ag26 rfl) rfl (Rg.val (Val.move rfl) rfl (Rg.eff (Eff.call rfl rfl en50 rfl (fun w hm => RowPost.mem 2 hm (links_calls J _ _ os w (Mem.job hm hJ) (Mem.ord hm hO) hK hV))) rfl fun p3 _ => (Rg.val (Val.assign rfl) rfl (Rg.nil (Rx.seq (Cd.seq (Cd.region (Rg.val (Val.assign rfl) rfl (Rg.nil (Rx.seq (Cd.seq (Cd.seq (Cd.region (Rg.val (Val.move rfl) rfl (Rg.val (Val.len Try.underlying62 rfl) rfl (Rg.val (Val.move rfl) rfl (Rg.nil (Rx.seq (Cd.block ?_)))))))))))))))))))))))
      refine Cd.loop (A := Nat × Int) (fun pr_ : Nat × Int => match pr_ with | (q, g) => q ≤ cs.length ∧ circB (linksF J os) cs [] 0 cs = circB (linksF J os) cs (cs.take q) g (cs.drop q) ∧ (-((q : Int) * 2097152) ≤ g ∧ g ≤ (q : Int) * 2097152))
          (fun pr_ : Nat × Int => match pr_ with | (q, g) => [(2, .slice ca cs.length cc), (8, .slice p3.1 (linksF J os).length p3.2), (9, .int .i64 g), (29, .slice ca cs.length cc), (30, .int .i64 (cs.length : Int)), (31, .int .i64 (q : Int))])
          (fun pr_ : Nat × Int => match pr_ with | (q, g) => [(1, blk b1 [.slice J.ta J.ts.length J.tc, .slice J.aa J.ls.length J.ac, .slice J.ga J.gs.length J.gc] 26), (2, rowL 38 3 encAf p3.1 p3.2 (linksF J os))])
          (fun pr_ : Nat × Int => match pr_ with | (q, g) => cs.length - q) (0, 0) ?_ ⟨rfl, rfl, rfl, rfl, rfl, rfl, trivial⟩ ⟨rfl, rfl, trivial⟩ ?_
      · exact ⟨Nat.zero_le _, rfl, by omega⟩
      · rintro ⟨q, g⟩ ⟨hq, hG, hgb⟩
        show Cd _ _ _ _ _ [(2, .slice ca cs.length cc), (8, .slice p3.1 (linksF J os).length p3.2), (9, .int .i64 g), (29, .slice ca cs.length cc), (30, .int .i64 (cs.length : Int)), (31, .int .i64 (q : Int))] [(1, blk b1 [.slice J.ta J.ts.length J.tc, .slice J.aa J.ls.length J.ac, .slice J.ga J.gs.length J.gc] 26), (2, rowL 38 3 encAf p3.1 p3.2 (linksF J os))]
        refine Cd.seq (Cd.region (Rg.val (Val.lss rfl rfl) rfl (Rg.nil (Rx.seq (Cd.seq (Cd.cond rfl (fun c4 => ?_) (fun c4 => ?_)))))))
        · replace c4 := of_decide_eq_true c4
          refine Cd.skip (Rx.seq (Cd.seq (Cd.block (Cd.seq (Cd.region (Rg.val (Val.move rfl) rfl ?_))))))
          obtain ⟨x5, hx6⟩ : ∃ x, cs[q]? = some x := ⟨_, List.getElem?_eq_getElem (by omega)⟩
          refine Rg.val (Val.ide Try.underlying62 sz3 rfl rfl hC (by first | rfl | omega | (simp; done)) hx6 (Nat.le_refl _)) rfl (Rg.val (Val.loadE (k := 0) rfl sc3 hC hx6 rfl) rfl (Rg.val (Val.assign rfl) rfl (Rg.val (Val.assign rfl) rfl (Rg.nil (Rx.seq (Cd.seq (Cd.region (Rg.val (Val.move rfl) rfl (Rg.val (Val.move rfl) rfl (Rg.val (Val.addN rfl rfl (by have := linksF_len hK hV; unfold in64; omega)) rfl (Rg.val (Val.move rfl) rfl (Rg.val (Val.len Try.underlying62 rfl) rfl ?_))))))))))))
          obtain ⟨j, hj, hj2, hje⟩ := rem_next (q := q) (n := cs.length) (by omega)
          refine Rg.val (Val.as (Val.rem rfl rfl (by show (cs.length : Int) ≠ 0; omega)) (congrArg (Value.int .i64) hje)) rfl ?_
          obtain ⟨x7, hx8⟩ : ∃ x, cs[j]? = some x := ⟨_, List.getElem?_eq_getElem (by omega)⟩
          refine Rg.val (Val.ide Try.underlying62 sz3 rfl rfl hC (by first | rfl | omega | (simp; done)) hx8 (Nat.le_refl _)) rfl (Rg.val (Val.loadE (k := 0) rfl sc3 hC hx8 rfl) rfl (Rg.val (Val.assign rfl) rfl (Rg.nil (Rx.seq (Cd.seq (Cd.region (Rg.val (Val.assign rfl) rfl (Rg.val (Val.assign rfl) rfl (Rg.nil (Rx.seq (Cd.seq (Cd.seq (Cd.region (Rg.val (Val.move rfl) rfl (Rg.val (Val.len Try.underlying23 rfl) rfl (Rg.val (Val.move rfl) rfl (Rg.nil (Rx.seq (Cd.block ?_)))))))))))))))))))
          refine Cd.loop (A := Nat × Option Int) (fun pr_ : Nat × Option Int => match pr_ with | (c, o) => c ≤ (linksF J os).length ∧ lagF (linksF J os) x5 x7 = ((linksF J os).drop c).foldl (lstep x5 x7) o ∧ ∀ m, o = some m → -2097152 ≤ m ∧ m ≤ 2097152)
              (fun pr_ : Nat × Option Int => match pr_ with | (c, o) => [(2, .slice ca cs.length cc), (8, .slice p3.1 (linksF J os).length p3.2), (9, .int .i64 g), (10, .int .i64 (q : Int)), (11, .int .i64 x5), (12, .int .i64 x7), (13, .int .i64 (o.getD 0)), (14, .bool o.isSome), (29, .slice ca cs.length cc), (30, .int .i64 (cs.length : Int)), (31, .int .i64 (q : Int)), (44, .slice p3.1 (linksF J os).length p3.2), (45, .int .i64 ((linksF J os).length : Int)), (46, .int .i64 (c : Int))])
              (fun pr_ : Nat × Option Int => match pr_ with | (c, o) => [(1, blk b1 [.slice J.ta J.ts.length J.tc, .slice J.aa J.ls.length J.ac, .slice J.ga J.gs.length J.gc] 26), (2, rowL 38 3 encAf p3.1 p3.2 (linksF J os))])
              (fun pr_ : Nat × Option Int => match pr_ with | (c, o) => (linksF J os).length - c) (0, none) ?_ ⟨rfl, rfl, rfl, rfl, rfl, rfl, rfl, rfl, rfl, rfl, rfl, rfl, rfl, rfl, trivial⟩ ⟨rfl, rfl, trivial⟩ ?_
          · exact ⟨Nat.zero_le _, rfl, fun m h_ => by cases h_⟩
          · rintro ⟨c, o⟩ ⟨hc, hl2, hob⟩
            show Cd _ _ _ _ _ [(2, .slice ca cs.length cc), (8, .slice p3.1 (linksF J os).length p3.2), (9, .int .i64 g), (10, .int .i64 (q : Int)), (11, .int .i64 x5), (12, .int .i64 x7), (13, .int .i64 (o.getD 0)), (14, .bool o.isSome), (29, .slice ca cs.length cc), (30, .int .i64 (cs.length : Int)), (31, .int .i64 (q : Int)), (44, .slice p3.1 (linksF J os).length p3.2), (45, .int .i64 ((linksF J os).length : Int)), (46, .int .i64 (c : Int))] [(1, blk b1 [.slice J.ta J.ts.length J.tc, .slice J.aa J.ls.length J.ac, .slice J.ga J.gs.length J.gc] 26), (2, rowL 38 3 encAf p3.1 p3.2 (linksF J os))]
            refine Cd.seq (Cd.region (Rg.val (Val.lss rfl rfl) rfl (Rg.nil (Rx.seq (Cd.seq (Cd.cond rfl (fun c9 => ?_) (fun c9 => ?_)))))))
            · replace c9 := of_decide_eq_true c9
              refine Cd.skip (Rx.seq (Cd.seq (Cd.block (Cd.seq (Cd.region ?_)))))
              obtain ⟨x10, hx11⟩ : ∃ x, (linksF J os)[c]? = some x := ⟨_, List.getElem?_eq_getElem (by omega)⟩
              have hk_x10 := (hS.lk _ (List.mem_of_getElem? hx11)).2.2
              refine Rg.val (Val.ideRow 2 Try.underlying23 sz38 rfl rfl rfl rfl (by first | rfl | omega | (simp; done)) hx11) rfl (Rg.val (Val.loadRowA 2 rfl ag38 rfl (fun _ => rfl) hx11) rfl (Rg.eff (Eff.alloc 3 zv38 rfl) rfl fun b3 _ => (Rg.eff (Eff.storeAll (l := 3) sz38 rfl rfl rfl rfl rfl rfl) rfl fun _ _ => (Rg.nil (Rx.seq (Cd.seq (Cd.region (Rg.val (Val.fa rfl (fa38_0 _ _)) rfl (Rg.val (Val.load (l := 3) rfl rfl sc3 rfl) rfl (Rg.val (Val.move rfl) rfl (Rg.val (Val.eql rfl rfl) rfl (Rg.val (Val.move rfl) rfl (Rg.split 54 rfl (fun c12 => ?_) (fun c12 => ?_))))))))))))))
              · replace c12 := of_decide_eq_true c12
                refine Rg.on rfl rfl rfl (Rg.val (Val.fa rfl (fa38_1 _ _)) rfl (Rg.on rfl rfl rfl (Rg.val (Val.load (l := 3) rfl rfl sc3 rfl) rfl (Rg.on rfl rfl rfl (Rg.val (Val.move rfl) rfl (Rg.on rfl rfl rfl (Rg.val (Val.eql rfl rfl) rfl (Rg.val (Val.pickT rfl rfl) rfl (Rg.val (Val.move rfl) rfl (Rg.split 60 rfl (fun c13 => ?_) (fun c13 => ?_)))))))))))
                · replace c13 := of_decide_eq_true c13
                  refine Rg.on rfl rfl rfl (Rg.val (Val.move rfl) rfl (Rg.on rfl rfl rfl (Rg.val (Val.not rfl) rfl (Rg.on rfl rfl rfl (Rg.val (Val.move rfl) rfl (Rg.split 63 rfl (fun c14 => ?_) (fun c14 => ?_)))))))
                  · replace c14 := bnot_t c14
                    refine Rg.off rfl rfl rfl rfl (Rg.off rfl rfl rfl rfl (Rg.off rfl rfl rfl rfl (Rg.off rfl rfl rfl rfl (Rg.on rfl rfl rfl (Rg.val (Val.pickT rfl rfl) rfl (Rg.val (Val.pickT rfl rfl) rfl (Rg.nil (Rx.seq (Cd.yes rfl (Cd.region (Rg.val (Val.fa rfl (fa38_2 _ _)) rfl (Rg.val (Val.load (l := 3) rfl rfl sc2 rfl) rfl (Rg.val (Val.assign rfl) rfl (Rg.val (Val.assign rfl) rfl (Rg.nil (Rx.inb (Rx.seq (Cd.region (Rg.val (Val.addN rfl rfl (by have := linksF_len hK hV; unfold in64; omega)) rfl (Rg.val (Val.move rfl) rfl (Rg.nil ?_)))))))))))))))))))))
                    refine Rx.meet (c + 1, some x10.lag) ⟨⟨by omega, lag_next hl2 hx11 (lstep_new c12 c13 (.inl c14)), fun m h_ => by injection h_ with h_; have := hk_x10; omega⟩, by show (linksF J os).length - (c + 1) < (linksF J os).length - c; omega⟩ ⟨rfl, rfl, rfl, rfl, rfl, rfl, rfl, rfl, rfl, rfl, rfl, rfl, rfl, rfl, trivial⟩ ⟨rfl, rfl, trivial⟩
                  · replace c14 := bnot_f c14
                    have hob_ := hob _ (opt_get c14)
                    refine Rg.on rfl rfl rfl (Rg.val (Val.fa rfl (fa38_2 _ _)) rfl (Rg.on rfl rfl rfl (Rg.val (Val.load (l := 3) rfl rfl sc2 rfl) rfl (Rg.on rfl rfl rfl (Rg.val (Val.move rfl) rfl (Rg.on rfl rfl rfl (Rg.val (Val.gtr rfl rfl) rfl (Rg.on rfl rfl rfl (Rg.val (Val.pickF rfl rfl) rfl (Rg.val (Val.pickT rfl rfl) rfl (Rg.nil (Rx.seq (Cd.cond rfl (fun c15 => ?_) (fun c15 => ?_))))))))))))))
                    · replace c15 := of_decide_eq_true c15
                      refine Cd.region (Rg.val (Val.fa rfl (fa38_2 _ _)) rfl (Rg.val (Val.load (l := 3) rfl rfl sc2 rfl) rfl (Rg.val (Val.assign rfl) rfl (Rg.val (Val.assign rfl) rfl (Rg.nil (Rx.inb (Rx.seq (Cd.region (Rg.val (Val.addN rfl rfl (by have := linksF_len hK hV; unfold in64; omega)) rfl (Rg.val (Val.move rfl) rfl (Rg.nil ?_)))))))))))
                      refine Rx.meet (c + 1, some x10.lag) ⟨⟨by omega, lag_next hl2 hx11 (lstep_new c12 c13 (.inr c15)), fun m h_ => by injection h_ with h_; have := hk_x10; omega⟩, by show (linksF J os).length - (c + 1) < (linksF J os).length - c; omega⟩ ⟨rfl, rfl, rfl, rfl, rfl, rfl, rfl, rfl, rfl, rfl, rfl, rfl, rfl, rfl, trivial⟩ ⟨rfl, rfl, trivial⟩
                    · replace c15 := of_decide_eq_false c15
                      refine Cd.skip (Rx.inb (Rx.seq (Cd.region (Rg.val (Val.addN rfl rfl (by have := linksF_len hK hV; unfold in64; omega)) rfl (Rg.val (Val.move rfl) rfl (Rg.nil ?_))))))
                      refine Rx.meet (c + 1, o) ⟨⟨by omega, lag_next hl2 hx11 (lstep_same (.inr (.inr ⟨c14, c15⟩))), hob⟩, by show (linksF J os).length - (c + 1) < (linksF J os).length - c; omega⟩ ⟨rfl, rfl, rfl, rfl, rfl, rfl, rfl, rfl, rfl, rfl, rfl, rfl, rfl, rfl, trivial⟩ ⟨rfl, rfl, trivial⟩
                · replace c13 := of_decide_eq_false c13
                  refine Rg.off rfl rfl rfl rfl (Rg.off rfl rfl rfl rfl (Rg.off rfl rfl rfl rfl (Rg.off rfl rfl rfl rfl (Rg.off rfl rfl rfl rfl (Rg.off rfl rfl rfl rfl (Rg.off rfl rfl rfl rfl (Rg.off rfl rfl rfl rfl (Rg.val (Val.pickF rfl rfl) rfl (Rg.nil (Rx.seq (Cd.no rfl (Cd.skip (Rx.inb (Rx.seq (Cd.region (Rg.val (Val.addN rfl rfl (by have := linksF_len hK hV; unfold in64; omega)) rfl (Rg.val (Val.move rfl) rfl (Rg.nil ?_))))))))))))))))))
                  refine Rx.meet (c + 1, o) ⟨⟨by omega, lag_next hl2 hx11 (lstep_same (.inr (.inl c13))), hob⟩, by show (linksF J os).length - (c + 1) < (linksF J os).length - c; omega⟩ ⟨rfl, rfl, rfl, rfl, rfl, rfl, rfl, rfl, rfl, rfl, rfl, rfl, rfl, rfl, trivial⟩ ⟨rfl, rfl, trivial⟩
              · replace c12 := of_decide_eq_false c12
                refine Rg.off rfl rfl rfl rfl (Rg.off rfl rfl rfl rfl (Rg.off rfl rfl rfl rfl (Rg.off rfl rfl rfl rfl (Rg.val (Val.pickF rfl rfl) rfl (Rg.val (Val.move rfl) rfl (Rg.off rfl rfl rfl rfl (Rg.off rfl rfl rfl rfl (Rg.off rfl rfl rfl rfl (Rg.off rfl rfl rfl rfl (Rg.off rfl rfl rfl rfl (Rg.off rfl rfl rfl rfl (Rg.off rfl rfl rfl rfl (Rg.off rfl rfl rfl rfl (Rg.val (Val.pickF rfl rfl) rfl (Rg.nil (Rx.seq (Cd.no rfl (Cd.skip (Rx.inb (Rx.seq (Cd.region (Rg.val (Val.addN rfl rfl (by have := linksF_len hK hV; unfold in64; omega)) rfl (Rg.val (Val.move rfl) rfl (Rg.nil ?_))))))))))))))))))))))))
                refine Rx.meet (c + 1, o) ⟨⟨by omega, lag_next hl2 hx11 (lstep_same (.inl c12)), hob⟩, by show (linksF J os).length - (c + 1) < (linksF J os).length - c; omega⟩ ⟨rfl, rfl, rfl, rfl, rfl, rfl, rfl, rfl, rfl, rfl, rfl, rfl, rfl, rfl, trivial⟩ ⟨rfl, rfl, trivial⟩
            · replace c9 := of_decide_eq_false c9
              refine Cd.exit (Rx.pastE (Rx.pastE (Rx.hit (Rx.seq (Cd.seq (Cd.seq (Cd.region (Rg.val (Val.move rfl) rfl (Rg.val (Val.not rfl) rfl (Rg.val (Val.move rfl) rfl (Rg.split 75 rfl (fun c16 => ?_) (fun c16 => ?_))))))))))))
              · replace c16 := bnot_t c16
                refine Rg.off rfl rfl rfl rfl (Rg.off rfl rfl rfl rfl (Rg.off rfl rfl rfl rfl (Rg.off rfl rfl rfl rfl (Rg.off rfl rfl rfl rfl (Rg.val (Val.pickT rfl rfl) rfl (Rg.nil (Rx.seq (Cd.yes rfl (Cd.seq (Cd.region (Rg.val (Val.assign rfl) rfl (Rg.nil (Rx.seq (Cd.ret (Rx.pastR (Rx.inr (Rx.pastR (Rx.pastR (Rx.inr (Rx.pastR (Rx.ret1 rfl rfl fun w hm_ => (⟨by rw [circF_16 h0_ c2 (circ_hit hG hx6 (by rw [← hj]; exact hx8) (.inl ((lag_end hl2 (by omega)).trans (opt_none c16))))], hm_.below⟩))))))))))))))))))))))
              · replace c16 := bnot_f c16
                have hob_ := hob _ (opt_get c16)
                refine Rg.on rfl rfl rfl (Rg.val (Val.move rfl) rfl (Rg.on rfl rfl rfl (Rg.val (Val.move rfl) rfl (Rg.on rfl rfl rfl (Rg.val (Val.sliceHi (h := q) Try.underlying62 sz3 rfl rfl (by first | rfl | omega | (simp; done)) (by have := hcc; omega)) rfl (Rg.on rfl rfl rfl (Rg.val (Val.move rfl) rfl (Rg.on rfl rfl rfl (Rg.eff (Eff.give rfl rfl en87 rfl (fun w hm => containsT_gives (Rdb.take (hm.rdb hC) q) (by omega) (by omega))) rfl fun _ _ => (Rg.val (Val.pickF rfl rfl) rfl (Rg.nil (Rx.seq (Cd.cond rfl (fun c17 => ?_) (fun c17 => ?_))))))))))))))
                · refine Cd.seq (Cd.region (Rg.val (Val.assign rfl) rfl (Rg.nil (Rx.seq (Cd.ret (Rx.pastR (Rx.inr (Rx.pastR (Rx.pastR (Rx.inr (Rx.pastR (Rx.ret1 rfl rfl fun w hm_ => (⟨by rw [circF_16 h0_ c2 (circ_hit hG hx6 (by rw [← hj]; exact hx8) (.inr c17))], hm_.below⟩)))))))))))))
                · refine Cd.skip (Rx.seq (Cd.region (Rg.val (Val.move rfl) rfl (Rg.val (Val.move rfl) rfl (Rg.val (Val.addN rfl rfl (by have := linksF_len hK hV; unfold in64; omega)) rfl (Rg.val (Val.assign rfl) rfl (Rg.nil (Rx.inb (Rx.seq (Cd.region (Rg.val (Val.addN rfl rfl (by have := linksF_len hK hV; unfold in64; omega)) rfl (Rg.val (Val.move rfl) rfl (Rg.nil ?_)))))))))))))
                  refine Rx.meet (q + 1, g + (o.getD 0)) ⟨⟨by omega, circ_next hG hx6 (by rw [← hj]; exact hx8) ((lag_end hl2 (by omega)).trans (opt_get c16)) c17, by have := hob _ (opt_get c16); omega⟩, by show cs.length - (q + 1) < cs.length - q; omega⟩ ⟨rfl, rfl, rfl, rfl, rfl, rfl, trivial⟩ ⟨rfl, rfl, trivial⟩
        · replace c4 := of_decide_eq_false c4
          refine Cd.exit (Rx.pastE (Rx.pastE (Rx.hit (Rx.seq (Cd.seq (Cd.seq (Cd.region (Rg.val (Val.move rfl) rfl (Rg.val (Val.leq rfl rfl) rfl (Rg.nil (Rx.seq (Cd.cond rfl (fun c18 => ?_) (fun c18 => ?_)))))))))))))
          · replace c18 := of_decide_eq_true c18
            refine Cd.seq (Cd.region (Rg.val (Val.assign rfl) rfl (Rg.nil (Rx.seq (Cd.ret (Rx.pastR (Rx.ret1 rfl rfl fun w hm_ => (⟨by rw [circF_16 h0_ c2 ((circ_end hG (by omega)).trans (decide_eq_false (by omega)))], hm_.below⟩))))))))
          · replace c18 := of_decide_eq_false c18
            refine Cd.skip (Rx.seq (Cd.seq (Cd.region (Rg.val (Val.assign rfl) rfl (Rg.nil (Rx.seq (Cd.ret (Rx.ret1 rfl rfl fun w hm_ => (⟨by rw [circF_0 h0_ c2 ((circ_end hG (by omega)).trans (decide_eq_true (by omega)))], hm_.below⟩)))))))))

end Go.Proofs.Ytdmkedbmoboamaa
