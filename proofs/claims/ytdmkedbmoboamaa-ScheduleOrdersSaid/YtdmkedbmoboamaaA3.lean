/- Walks of functions of the program: what each returns, told by plain functions. -/
import Derived.Test.YtdmkedbmoboamaaA2
import Derived.Test.YtdmkedbmoboamaaKxM
namespace Go.Proofs.Ytdmkedbmoboamaa
open Go.Kx Go.RowKit
set_option maxRecDepth 100000
set_option linter.unusedVariables false
set_option linter.unusedSimpArgs false
set_option linter.unnecessarySimpa false
set_option linter.constructorNameAsVariable false
theorem ones_I : ∀ y, ∀ u ∈ encI y, u.oneCell' = true := fun y u hu => by simp [encI] at hu; subst hu; rfl
theorem ones_A : ∀ y, ∀ u ∈ encAf y, u.oneCell' = true := fun y u hu => by
  simp [encAf] at hu
  rcases hu with rfl | rfl | rfl <;> rfl
theorem mkf2 : makeFact Try.prog 2 (.int .i64 0) 8 := by show _ = _; kernel_rfl
theorem mkf3 : makeFact Try.prog 3 (.int .i64 0) 8 := by show _ = _; kernel_rfl
/-- The places, from i on, of the tasks of a team. -/
def memF (k : Int) : Int → List Tk → List Int
  | _, [] => []
  | i, t :: r => if t.team = k then i :: memF k (i + 1) r else memF k (i + 1) r
theorem memF_le (k : Int) : ∀ (i : Int) (ts : List Tk), (memF k i ts).length ≤ ts.length
  | _, [] => by simp [memF]
  | i, t :: r => by
    have := memF_le k (i + 1) r
    simp only [memF]; split <;> simp <;> omega
theorem memF_drop {k : Int} {ts : List Tk} {i : Nat} {x : Tk} {o r : List Int} (hG : r = o ++ memF k i (ts.drop i)) (h : ts[i]? = some x) : (x.team = k → r = (o ++ [(i : Int)]) ++ memF k ((i + 1 : Nat) : Int) (ts.drop (i + 1))) ∧ (¬ x.team = k → r = o ++ memF k ((i + 1 : Nat) : Int) (ts.drop (i + 1))) := by
  rw [dropc h] at hG
  constructor
  · intro e; rw [hG, memF, if_pos e, List.append_assoc]; rfl
  · intro e; rw [hG, memF, if_neg e]; rfl
structure OrdAt (W : World) (ao : Option Addr) (os : List Rw) : Prop where
  rds : Rdb W ao 1 encRw os
  row : ∀ r ∈ os, Rdb W r.a 1 encI r.xs
  lo : os.length ≤ 9223372036854775807
  lr : ∀ r ∈ os, r.xs.length ≤ 9223372036854775807
  cp : ∀ r ∈ os, r.xs.length ≤ r.cap
theorem Mem.ord {W w : World} {B : List (Nat × Res)} {ao : Option Addr} {os : List Rw} (hm : Mem W B w) (h : OrdAt W ao os) : OrdAt w ao os := ⟨hm.rdb h.rds, fun r hr => hm.rdb (h.row r hr), h.lo, h.lr, h.cp⟩
theorem OrdAt.below {W w : World} {ao : Option Addr} {os : List Rw} (h : OrdAt W ao os) (hb : Below W.heap.size W w) : OrdAt w ao os := ⟨Rdb.below h.rds hb, fun r hr => Rdb.below (h.row r hr) hb, h.lo, h.lr, h.cp⟩
theorem Rdb.nil_of {W : World} {a : Option Addr} {sz : Nat} {α : Type} {enc : α → List Value} {xs : List α} (h : Rdb W a sz enc xs) (ha : a.isNone = true) : xs = [] := by
  cases xs with
  | nil => rfl
  | cons x r =>
    obtain ⟨b, off, rfl, _⟩ := h 0 x rfl
    cases ha
theorem members_calls.bsl_0 (y0 : Int) (w : World) : (Instr.buildSlice 62 1 #[(0, .int .i64 y0)]).run Try.prog w = .ok (.slice (some ⟨w.heap.size, 0, none⟩) 1 1) (w.alloc (.cells #[.int .i64 y0] 3)) := by kernel_rfl
open members_calls in
theorem members_calls (J : Jb) (k : Int) (w : World) (hJ : JobAt w J) (hn : J.ts.length ≤ 24) : Calls Try.prog 66 #[.agg #[.slice J.ta J.ts.length J.tc, .slice J.aa J.ls.length J.ac, .slice J.ga J.gs.length J.gc], .int .i64 k] w (RowPost w 3 1 encI (memF k 0 J.ts) fun a_ c_ => .slice a_ (memF k 0 J.ts).length c_) := by
  refine calls_of (vs := [.agg #[.slice J.ta J.ts.length J.tc, .slice J.aa J.ls.length J.ac, .slice J.ga J.gs.length J.gc], .int .i64 k]) Try.func66 rfl rfl rfl ?_
  show Cd _ _ _ _ _ [(0, .agg #[.slice J.ta J.ts.length J.tc, .slice J.aa J.ls.length J.ac, .slice J.ga J.gs.length J.gc]), (1, .int .i64 k)] []
  refine Cd.seq (Cd.region (Rg.eff (Eff.box 1 rfl rfl) rfl fun b1 _ => (Rg.val (Val.assign rfl) rfl (Rg.nil (Rx.seq (Cd.seq (Cd.region (Rg.val (Val.assign rfl) rfl (Rg.nil (Rx.seq (Cd.seq (Cd.seq (Cd.region (Rg.val (Val.fa rfl (fa26_0 _ _)) rfl (Rg.val (Val.load (l := 1) rfl rfl sc22 rfl) rfl (Rg.val (Val.len Try.underlying22 rfl) rfl (Rg.val (Val.move rfl) rfl (Rg.nil (Rx.seq (Cd.block (Cd.gain (fun w hm => Mem.nilRow 500 3 1 encI hm) ?_)))))))))))))))))))))
  refine Cd.loop (A := Nat × Option Addr × Nat × List Int) (fun pr_ : Nat × Option Addr × Nat × List Int => match pr_ with | (i, ar, cr, o) => i ≤ J.ts.length ∧ memF k 0 J.ts = o ++ memF k i (J.ts.drop i) ∧ o.length ≤ i)
      (fun pr_ : Nat × Option Addr × Nat × List Int => match pr_ with | (i, ar, cr, o) => [(1, .int .i64 k), (4, .slice none 0 0), (5, .slice ar o.length cr), (9, .slice J.ta J.ts.length J.tc), (10, .int .i64 (J.ts.length : Int)), (11, .int .i64 (i : Int))])
      (fun pr_ : Nat × Option Addr × Nat × List Int => match pr_ with | (i, ar, cr, o) => [(1, blk b1 [.slice J.ta J.ts.length J.tc, .slice J.aa J.ls.length J.ac, .slice J.ga J.gs.length J.gc] 26), (500, rowL 3 1 encI ar cr o)])
      (fun pr_ : Nat × Option Addr × Nat × List Int => match pr_ with | (i, ar, cr, o) => J.ts.length - i) (0, none, 0, []) ?_ ⟨rfl, rfl, rfl, rfl, rfl, rfl, trivial⟩ ⟨rfl, rfl, trivial⟩ ?_
  · exact ⟨by omega, rfl, Nat.le_refl _⟩
  · rintro ⟨i, ar, cr, o⟩ ⟨hi, hG, hol⟩
    show Cd _ _ _ _ _ [(1, .int .i64 k), (4, .slice none 0 0), (5, .slice ar o.length cr), (9, .slice J.ta J.ts.length J.tc), (10, .int .i64 (J.ts.length : Int)), (11, .int .i64 (i : Int))] [(1, blk b1 [.slice J.ta J.ts.length J.tc, .slice J.aa J.ls.length J.ac, .slice J.ga J.gs.length J.gc] 26), (500, rowL 3 1 encI ar cr o)]
    refine Cd.seq (Cd.region (Rg.val (Val.lss rfl rfl) rfl (Rg.nil (Rx.seq (Cd.seq (Cd.cond rfl (fun c1 => ?_) (fun c1 => ?_)))))))
    · replace c1 := of_decide_eq_true c1
      refine Cd.skip (Rx.seq (Cd.seq (Cd.block (Cd.seq (Cd.region (Rg.val (Val.move rfl) rfl ?_))))))
      obtain ⟨x2, hx3⟩ : ∃ x, J.ts[i]? = some x := ⟨_, List.getElem?_eq_getElem (by omega)⟩
      refine Rg.val (Val.ide Try.underlying22 sz57 rfl rfl hJ.rts (by first | rfl | omega | (simp; done)) hx3 (Nat.le_refl _)) rfl (Rg.val (Val.loadEA rfl ag57 hJ.rts hx3) rfl (Rg.eff (Eff.alloc 2 zv57 rfl) rfl fun b2 _ => (Rg.val (Val.assign rfl) rfl (Rg.eff (Eff.storeAll (l := 2) sz57 rfl rfl rfl rfl rfl rfl) rfl fun _ _ => (Rg.nil (Rx.seq (Cd.seq (Cd.region (Rg.val (Val.fa rfl (fa57_2 _ _)) rfl (Rg.val (Val.load (l := 2) rfl rfl sc3 rfl) rfl (Rg.val (Val.move rfl) rfl (Rg.val (Val.eql rfl rfl) rfl (Rg.nil (Rx.seq (Cd.cond rfl (fun c4 => ?_) (fun c4 => ?_))))))))))))))))
      · replace c4 := of_decide_eq_true c4
        refine Cd.region (Rg.val (Val.move rfl) rfl (Rg.val (Val.move rfl) rfl (Rg.eff (Eff.buildSlice (cs := [.int .i64 (i : Int)]) 3 rfl (fun w => (bsl_0 _) w) rfl) rfl fun b3 _ => (Rg.eff (Eff.append (enc := encI) (ys := [(i : Int)]) (bytes := 8) 500 Try.underlying62 (by kernel_rfl) rfl rfl rfl rfl (fun w hm => hm.news (l := 3) rfl rfl) (fun _ => rfl) ones_I (by simp only [List.length_cons, List.length_nil, maxLen]; omega) rfl) rfl fun p5 _ => (Rg.val (Val.assign rfl) rfl (Rg.nil (Rx.inb (Rx.seq (Cd.region (Rg.val (Val.addN rfl rfl (by unfold in64; omega)) rfl (Rg.val (Val.move rfl) rfl (Rg.nil ?_))))))))))))
        refine Rx.meet (i + 1, p5.1, p5.2, (o ++ [(i : Int)])) ⟨⟨by omega, (memF_drop hG hx3).1 c4, by first | omega | (simp only [List.length_append, List.length_cons, List.length_nil]; omega)⟩, by show J.ts.length - (i + 1) < J.ts.length - i; omega⟩ ⟨rfl, rfl, rfl, rfl, rfl, rfl, trivial⟩ ⟨rfl, rfl, trivial⟩
      · replace c4 := of_decide_eq_false c4
        refine Cd.skip (Rx.inb (Rx.seq (Cd.region (Rg.val (Val.addN rfl rfl (by unfold in64; omega)) rfl (Rg.val (Val.move rfl) rfl (Rg.nil ?_))))))
        refine Rx.meet (i + 1, ar, cr, o) ⟨⟨by omega, (memF_drop hG hx3).2 c4, by first | omega | (simp only [List.length_append, List.length_cons, List.length_nil]; omega)⟩, by show J.ts.length - (i + 1) < J.ts.length - i; omega⟩ ⟨rfl, rfl, rfl, rfl, rfl, rfl, trivial⟩ ⟨rfl, rfl, trivial⟩
    · replace c1 := of_decide_eq_false c1
      refine Cd.exit (Rx.pastE (Rx.pastE (Rx.hit (Rx.seq (Cd.seq (Cd.region (Rg.val (Val.move rfl) rfl (Rg.val (Val.assign rfl) rfl (Rg.nil (Rx.seq (Cd.ret (Rx.ret1 rfl rfl fun w hm_ => ((by have hG_ := hG; rw [drop_all (by omega), memF, List.append_nil] at hG_; rw [hG_]; exact RowPost.row 500 hm_ rfl rfl))))))))))))))

theorem count_gives (J : Jb) (k : Int) (w : World) (hJ : JobAt w J) (hn : J.ts.length ≤ 24) : Gives Try.prog 67 #[.agg #[.slice J.ta J.ts.length J.tc, .slice J.aa J.ls.length J.ac, .slice J.ga J.gs.length J.gc], .int .i64 k] w (.int .i64 ((memF k 0 J.ts).length : Int)) := by
  refine calls_of (vs := [.agg #[.slice J.ta J.ts.length J.tc, .slice J.aa J.ls.length J.ac, .slice J.ga J.gs.length J.gc], .int .i64 k]) Try.func67 rfl rfl rfl ?_
  show Cd _ _ _ _ _ [(0, .agg #[.slice J.ta J.ts.length J.tc, .slice J.aa J.ls.length J.ac, .slice J.ga J.gs.length J.gc]), (1, .int .i64 k)] []
  refine Cd.seq (Cd.region (Rg.eff (Eff.box 1 rfl rfl) rfl fun b1 _ => (Rg.val (Val.assign rfl) rfl (Rg.nil (Rx.seq (Cd.seq (Cd.region (Rg.val (Val.assign rfl) rfl (Rg.nil (Rx.seq (Cd.seq (Cd.seq (Cd.region (Rg.val (Val.assign rfl) rfl (Rg.nil (Rx.seq (Cd.block ?_)))))))))))))))))
  refine Cd.loop (A := Nat × Int) (fun pr_ : Nat × Int => match pr_ with | (i, c) => i ≤ J.ts.length ∧ ((memF k 0 J.ts).length : Int) = c + ((memF k i (J.ts.drop i)).length : Int) ∧ 0 ≤ c ∧ c ≤ i)
      (fun pr_ : Nat × Int => match pr_ with | (i, c) => [(1, .int .i64 k), (2, .pointer (some ⟨b1, 0, none⟩)), (4, .int .i64 0), (5, .int .i64 c), (6, .int .i64 (i : Int))])
      (fun pr_ : Nat × Int => match pr_ with | (i, c) => [(1, blk b1 [.slice J.ta J.ts.length J.tc, .slice J.aa J.ls.length J.ac, .slice J.ga J.gs.length J.gc] 26)])
      (fun pr_ : Nat × Int => match pr_ with | (i, c) => J.ts.length - i) (0, 0) ?_ ⟨rfl, rfl, rfl, rfl, rfl, trivial⟩ ⟨rfl, trivial⟩ ?_
  · exact ⟨by omega, by simp, by omega, by omega⟩
  · rintro ⟨i, c⟩ ⟨hi, hG, hc0, hc1⟩
    show Cd _ _ _ _ _ [(1, .int .i64 k), (2, .pointer (some ⟨b1, 0, none⟩)), (4, .int .i64 0), (5, .int .i64 c), (6, .int .i64 (i : Int))] [(1, blk b1 [.slice J.ta J.ts.length J.tc, .slice J.aa J.ls.length J.ac, .slice J.ga J.gs.length J.gc] 26)]
    refine Cd.seq (Cd.seq (Cd.region (Rg.val (Val.move rfl) rfl (Rg.val (Val.fa rfl (fa26_0 _ _)) rfl (Rg.val (Val.load (l := 1) rfl rfl sc22 rfl) rfl (Rg.val (Val.len Try.underlying22 rfl) rfl (Rg.val (Val.lss rfl rfl) rfl (Rg.nil (Rx.seq (Cd.cond rfl (fun c1 => ?_) (fun c1 => ?_)))))))))))
    · replace c1 := of_decide_eq_true c1
      refine Cd.skip (Rx.seq (Cd.seq (Cd.block (Cd.seq (Cd.region (Rg.val (Val.fa rfl (fa26_0 _ _)) rfl (Rg.val (Val.load (l := 1) rfl rfl sc22 rfl) rfl (Rg.val (Val.move rfl) rfl ?_))))))))
      obtain ⟨x2, hx3⟩ : ∃ x, J.ts[i]? = some x := ⟨_, List.getElem?_eq_getElem (by omega)⟩
      refine Rg.val (Val.ide Try.underlying22 sz57 rfl rfl hJ.rts (by first | rfl | omega | (simp; done)) hx3 (Nat.le_refl _)) rfl (Rg.val (Val.fae (k := 2) rfl (hJ.rts.ne hx3) fa57_2) rfl (Rg.val (Val.loadE (k := 2) rfl sc3 hJ.rts hx3 rfl) rfl (Rg.val (Val.move rfl) rfl (Rg.val (Val.eql rfl rfl) rfl (Rg.nil (Rx.seq (Cd.cond rfl (fun c4 => ?_) (fun c4 => ?_))))))))
      · replace c4 := of_decide_eq_true c4
        refine Cd.region (Rg.val (Val.move rfl) rfl (Rg.val (Val.addN rfl rfl (by unfold in64; omega)) rfl (Rg.val (Val.assign rfl) rfl (Rg.nil (Rx.inb (Rx.seq (Cd.region (Rg.val (Val.move rfl) rfl (Rg.val (Val.addN rfl rfl (by unfold in64; omega)) rfl (Rg.val (Val.assign rfl) rfl (Rg.nil ?_)))))))))))
        refine Rx.meet (i + 1, c + 1) ⟨⟨by omega, by have hG_ := hG; rw [dropc hx3, memF, if_pos c4] at hG_; (try simp only [List.length_cons] at hG_); rw [show ((i + 1 : Nat) : Int) = (i : Int) + 1 from by omega]; omega, by omega, by omega⟩, by show J.ts.length - (i + 1) < J.ts.length - i; omega⟩ ⟨rfl, rfl, rfl, rfl, rfl, trivial⟩ ⟨rfl, trivial⟩
      · replace c4 := of_decide_eq_false c4
        refine Cd.skip (Rx.inb (Rx.seq (Cd.region (Rg.val (Val.move rfl) rfl (Rg.val (Val.addN rfl rfl (by unfold in64; omega)) rfl (Rg.val (Val.assign rfl) rfl (Rg.nil ?_)))))))
        refine Rx.meet (i + 1, c) ⟨⟨by omega, by have hG_ := hG; rw [dropc hx3, memF, if_neg c4] at hG_; (try simp only [List.length_cons] at hG_); rw [show ((i + 1 : Nat) : Int) = (i : Int) + 1 from by omega]; omega, by omega, by omega⟩, by show J.ts.length - (i + 1) < J.ts.length - i; omega⟩ ⟨rfl, rfl, rfl, rfl, rfl, trivial⟩ ⟨rfl, trivial⟩
    · replace c1 := of_decide_eq_false c1
      refine Cd.exit (Rx.pastE (Rx.pastE (Rx.hit (Rx.seq (Cd.seq (Cd.region (Rg.val (Val.move rfl) rfl (Rg.val (Val.assign rfl) rfl (Rg.nil (Rx.seq (Cd.ret (Rx.ret1 rfl rfl fun w hm_ => (⟨by have hG_ := hG; rw [drop_all (by omega), memF] at hG_; rw [hG_]; simp, hm_.below⟩)))))))))))))

theorem has_gives (a : Option Addr) (cap : Nat) (xs : List Int) (x : Int) (w : World) (hR : Rdb w a 1 encI xs) (hlen : xs.length ≤ 9223372036854775807) : Gives Try.prog 68 #[.slice a xs.length cap, .int .i64 x] w (.bool (xs.any fun y => decide (y = x))) := by
  refine calls_of (vs := [.slice a xs.length cap, .int .i64 x]) Try.func68 rfl rfl rfl ?_
  show Cd _ _ _ _ _ [(0, .slice a xs.length cap), (1, .int .i64 x)] []
  refine Cd.seq (Cd.region (Rg.val (Val.assign rfl) rfl (Rg.nil (Rx.seq (Cd.seq (Cd.seq (Cd.region (Rg.val (Val.assign rfl) rfl (Rg.nil (Rx.seq (Cd.block ?_)))))))))))
  refine Cd.loop (A := Nat) (fun i : Nat => i ≤ xs.length ∧ xs.any (fun y => decide (y = x)) = (xs.drop i).any (fun y => decide (y = x)))
      (fun i : Nat => [(0, .slice a xs.length cap), (1, .int .i64 x), (5, .int .i64 (i : Int))])
      (fun i : Nat => [])
      (fun i : Nat => xs.length - i) 0 ?_ ⟨rfl, rfl, rfl, trivial⟩ trivial ?_
  · exact ⟨Nat.zero_le _, rfl⟩
  · rintro i ⟨hi_i, hG_i⟩
    show Cd _ _ _ _ _ [(0, .slice a xs.length cap), (1, .int .i64 x), (5, .int .i64 (i : Int))] []
    refine Cd.seq (Cd.seq (Cd.region (Rg.val (Val.move rfl) rfl (Rg.val (Val.move rfl) rfl (Rg.val (Val.len Try.underlying62 rfl) rfl (Rg.val (Val.lss rfl rfl) rfl (Rg.nil (Rx.seq (Cd.cond rfl (fun c1 => ?_) (fun c1 => ?_))))))))))
    · replace c1 := of_decide_eq_true c1
      refine Cd.skip (Rx.seq (Cd.seq (Cd.block (Cd.seq (Cd.region (Rg.val (Val.move rfl) rfl (Rg.val (Val.move rfl) rfl ?_)))))))
      obtain ⟨x2, hx3⟩ : ∃ x, xs[i]? = some x := ⟨_, List.getElem?_eq_getElem (by omega)⟩
      refine Rg.val (Val.ide Try.underlying62 sz3 rfl rfl hR (by first | rfl | omega | (simp; done)) hx3 (Nat.le_refl _)) rfl (Rg.val (Val.loadE (k := 0) rfl sc3 hR hx3 rfl) rfl (Rg.val (Val.move rfl) rfl (Rg.val (Val.eql rfl rfl) rfl (Rg.nil (Rx.seq (Cd.cond rfl (fun c4 => ?_) (fun c4 => ?_)))))))
      · replace c4 := of_decide_eq_true c4
        refine Cd.seq (Cd.region (Rg.val (Val.assign rfl) rfl (Rg.nil (Rx.seq (Cd.ret (Rx.inr (Rx.pastR (Rx.pastR (Rx.inr (Rx.pastR (Rx.ret1 rfl rfl fun w hm_ => (⟨by rw [any_hit hG_i hx3 (by simp [*])], hm_.below⟩))))))))))))
      · replace c4 := of_decide_eq_false c4
        refine Cd.skip (Rx.inb (Rx.seq (Cd.region (Rg.val (Val.move rfl) rfl (Rg.val (Val.addN rfl rfl (by unfold in64; omega)) rfl (Rg.val (Val.assign rfl) rfl (Rg.nil ?_)))))))
        refine Rx.meet (i + 1) ⟨⟨by omega, any_drop hG_i hx3 (by simp [*])⟩, by show xs.length - (i + 1) < xs.length - i; omega⟩ ⟨rfl, rfl, rfl, trivial⟩ trivial
    · replace c1 := of_decide_eq_false c1
      refine Cd.exit (Rx.pastE (Rx.pastE (Rx.hit (Rx.seq (Cd.seq (Cd.region (Rg.val (Val.assign rfl) rfl (Rg.nil (Rx.seq (Cd.ret (Rx.ret1 rfl rfl fun w hm_ => (⟨by rw [any_end hG_i (by omega)], hm_.below⟩))))))))))))

theorem cloneA_calls.bsl_0  (w : World) : (Instr.buildSlice 23 0 #[]).run Try.prog w = .ok (.slice (some ⟨w.heap.size, 0, none⟩) 0 0) (w.alloc (.cells #[] 38)) := by kernel_rfl
open cloneA_calls in
theorem cloneA_calls (a : Option Addr) (cap : Nat) (xs : List Af) (w : World) (hR : Rdb w a 3 encAf xs) (hb : xs.length ≤ 1000000) : Calls Try.prog 102 #[.slice a xs.length cap] w (RowPost w 38 3 encAf xs fun a_ c_ => .slice a_ xs.length c_) := by
  refine calls_of (vs := [.slice a xs.length cap]) Try.func102 rfl rfl rfl ?_
  show Cd _ _ _ _ _ [(0, .slice a xs.length cap)] []
  refine Cd.seq (Cd.region (Rg.val (Val.assign rfl) rfl (Rg.nil (Rx.seq (Cd.seq (Cd.seq (Cd.region (Rg.val (Val.move rfl) rfl (Rg.val (Val.eqNil Try.underlying23 rfl rfl) rfl (Rg.nil (Rx.seq (Cd.cond rfl (fun c1 => ?_) (fun c1 => ?_)))))))))))))
  · refine Cd.seq (Cd.region (Rg.val (Val.assign rfl) rfl (Rg.nil (Rx.seq (Cd.ret (Rx.pastR (Rx.ret1 rfl rfl fun w hm_ => ((RowPost.none hm_.below (Rdb.nil_of hR c1) (by rw [Rdb.nil_of hR c1]; rfl))))))))))
  · refine Cd.skip (Rx.seq (Cd.seq (Cd.region (Rg.eff (Eff.buildSlice (cs := []) 1 rfl (fun w => (bsl_0) w) rfl) rfl fun b1 _ => (Rg.val (Val.move rfl) rfl (Rg.gain (fun w hm => hm.rowOf (l := 1) (e := 38) (sz := 3) (enc := encAf) (xs := ([] : List Af)) (cap := 0) rfl rfl (fun _ => rfl) rfl (by decide)) (Rg.eff (Eff.appendSl (enc := encAf) (ys := xs) (bytes := 24) 1 Try.underlying23 (by kernel_rfl) rfl rfl rfl rfl rfl rfl (fun w hm => (hm.rdb hR)) (fun _ => rfl) ones_A (by simp only [List.length_nil, List.length_take, List.length_drop, maxLen]; omega) rfl) rfl fun p2 _ => (Rg.val (Val.assign rfl) rfl (Rg.nil (Rx.seq (Cd.ret (Rx.ret1 rfl rfl fun w hm_ => ((RowPost.row 1 hm_ rfl rfl))))))))))))))

def getM (ts : List Tk) (a : Int) : Int := match ts[a.toNat]? with
  | some t => t.m
  | none => 0
theorem getM_of {ts : List Tk} {a : Int} {t : Tk} (h : ts[a.toNat]? = some t) : getM ts a = t.m := by unfold getM; rw [h]
def pairF (ts : List Tk) (g : Int) : List Int → List Af
  | [] => []
  | a :: r => match r with
    | [] => []
    | b :: _ => ⟨a, b, getM ts a + g⟩ :: pairF ts g r
def linkR (ts : List Tk) : List Int → List Rw → List Af
  | g :: gs, r :: rs => pairF ts g r.xs ++ linkR ts gs rs
  | _, _ => []
def linksF (J : Jb) (os : List Rw) : List Af := J.ls ++ linkR J.ts J.gs os
theorem pairF_at {ts : List Tk} {g : Int} {xs : List Int} {k : Nat} {a b : Int} {t : Tk} (h1 : xs[k]? = some a) (h2 : xs[k + 1]? = some b) (ht : ts[a.toNat]? = some t) : pairF ts g (xs.drop k) = ⟨a, b, t.m + g⟩ :: pairF ts g (xs.drop (k + 1)) := by
  rw [dropc h1, dropc h2, pairF, getM_of ht]
theorem pairF_end {ts : List Tk} {g : Int} {xs : List Int} {k : Nat} (h : ¬ (k : Int) + 1 < (xs.length : Int)) : pairF ts g (xs.drop k) = [] := by
  match hd : xs.drop k with
  | [] => rfl
  | [a] => rfl
  | a :: b :: r =>
    have := congrArg List.length hd
    simp at this; omega
structure JobOk (J : Jb) : Prop where
  nts : 1 ≤ J.ts.length ∧ J.ts.length ≤ 24
  nls : J.ls.length ≤ 96
  ngs : J.gs.length ≤ 6
  tk : ∀ t ∈ J.ts, (0 ≤ t.m ∧ t.m ≤ 10080) ∧ winF 0 t.ws = true ∧ (-1 ≤ t.team ∧ t.team < J.gs.length) ∧ t.ws.length ≤ 32
  lk : ∀ a ∈ J.ls, (0 ≤ a.p ∧ a.p < J.ts.length) ∧ (0 ≤ a.q ∧ a.q < J.ts.length) ∧ a.p ≠ a.q ∧ -1048576 ≤ a.lag ∧ a.lag ≤ 1048576
  tg : ∀ g ∈ J.gs, 0 ≤ g ∧ g ≤ 1048576
theorem any_no {α : Type} {xs : List α} {p : α → Bool} (h : ¬ xs.any p = true) : ∀ x ∈ xs, p x = false := fun x hx => by
  cases hp : p x with
  | false => rfl
  | true => exact absurd (List.any_eq_true.2 ⟨x, hx, hp⟩) h
theorem JobOk.of {J : Jb} (h : chkF J = 0) : JobOk J := by
  unfold chkF at h
  split at h
  · cases h
  · split at h
    · cases h
    · split at h
      · cases h
      · split at h
        · cases h
        · split at h
          · cases h
          · split at h
            · cases h
            · split at h
              · cases h
              · split at h
                · cases h
                · rename_i h1 h2 h3 h4 h5 h6 h7 h8
                  refine ⟨by omega, by omega, by omega, fun t ht => ?_, fun a ha => ?_, fun g hg => ?_⟩
                  · have e := any_no h6 t ht
                    have e2 := any_no h4 t ht
                    unfold taskBad at e
                    split at e
                    · cases e
                    · split at e
                      · cases e
                      · split at e
                        · cases e
                        · rename_i g1 g2 g3
                          have g4 := of_decide_eq_false e
                          have g1' := between_iff.1 (by simpa using g1)
                          refine ⟨g1', by simpa using g2, by omega, ?_⟩
                          have := of_decide_eq_false e2; omega
                  · have e := any_no h7 a ha
                    unfold linkBad at e
                    split at e
                    · cases e
                    · rename_i g1
                      have g2 := between_iff.1 (by simpa using e)
                      omega
                  · have e := any_no h8 g hg
                    exact between_iff.1 (by simpa [teamBad] using e)
structure OrdOk (J : Jb) (os : List Rw) : Prop where
  len : os.length = J.gs.length
  row : ∀ r ∈ os, r.xs.length ≤ 24
  mem : ∀ r ∈ os, ∀ x ∈ r.xs, 0 ≤ x ∧ x < J.ts.length
theorem pairF_len (ts : List Tk) (g : Int) : ∀ xs : List Int, (pairF ts g xs).length ≤ xs.length
  | [] => by simp [pairF]
  | [a] => by simp [pairF]
  | a :: b :: r => by
    have := pairF_len ts g (b :: r)
    rw [pairF]; simp only [List.length_cons] at *; omega
theorem linkR_len {ts : List Tk} : ∀ {gs : List Int} {os : List Rw}, (∀ r ∈ os, r.xs.length ≤ 24) → (linkR ts gs os).length ≤ 24 * gs.length
  | [], _, _ => by simp [linkR]
  | g :: gs, [], _ => by simp [linkR]
  | g :: gs, r :: os, h => by
    have h1 := pairF_len ts g r.xs
    have h2 := h r (by simp)
    have h3 := linkR_len (ts := ts) (gs := gs) (os := os) fun r hr => h r (by simp [hr])
    rw [linkR, List.length_append, List.length_cons]; omega
theorem linksF_len {J : Jb} {os : List Rw} (hK : JobOk J) (hO : OrdOk J os) : (linksF J os).length ≤ 240 := by
  have := linkR_len (ts := J.ts) (gs := J.gs) hO.row
  have := hK.nls
  have := hK.ngs
  unfold linksF; rw [List.length_append]; omega
theorem links_calls.bld_0 (y0 : Int) (y1 : Int) (y2 : Int) (w : World) : (Instr.build 38 #[(0, .int .i64 y0), (1, .int .i64 y1), (2, .int .i64 y2)]).run Try.prog w = .ok (.agg #[.int .i64 y0, .int .i64 y1, .int .i64 y2]) w := by kernel_rfl
theorem links_calls.bsl_1 (y0 : Int) (y1 : Int) (y2 : Int) (w : World) : (Instr.buildSlice 23 1 #[(0, .agg #[.int .i64 y0, .int .i64 y1, .int .i64 y2])]).run Try.prog w = .ok (.slice (some ⟨w.heap.size, 0, none⟩) 1 1) (w.alloc (.cells #[.int .i64 y0, .int .i64 y1, .int .i64 y2] 38)) := by kernel_rfl
open links_calls in
theorem links_calls (J : Jb) (ao : Option Addr) (co : Nat) (os : List Rw) (w : World) (hJ : JobAt w J) (hO : OrdAt w ao os) (hK : JobOk J) (hV : OrdOk J os) : Calls Try.prog 50 #[.agg #[.slice J.ta J.ts.length J.tc, .slice J.aa J.ls.length J.ac, .slice J.ga J.gs.length J.gc], .slice ao os.length co] w (RowPost w 38 3 encAf (linksF J os) fun a_ c_ => .slice a_ (linksF J os).length c_) := by
  refine calls_of (vs := [.agg #[.slice J.ta J.ts.length J.tc, .slice J.aa J.ls.length J.ac, .slice J.ga J.gs.length J.gc], .slice ao os.length co]) Try.func50 rfl rfl rfl ?_
  show Cd _ _ _ _ _ [(0, .agg #[.slice J.ta J.ts.length J.tc, .slice J.aa J.ls.length J.ac, .slice J.ga J.gs.length J.gc]), (1, .slice ao os.length co)] []
  refine Cd.seq (Cd.region (Rg.eff (Eff.box 1 rfl rfl) rfl fun b1 _ => (Rg.val (Val.assign rfl) rfl (Rg.nil (Rx.seq (Cd.seq (Cd.region (Rg.val (Val.fa rfl (fa26_1 _ _)) rfl (Rg.val (Val.load (l := 1) rfl rfl sc23 rfl) rfl (Rg.eff (Eff.call rfl rfl en102 rfl (fun w hm => RowPost.mem 2 hm (cloneA_calls _ _ _ w (hm.rdb hJ.rls) (by have := hK.nls; omega)))) rfl fun p1 _ => (Rg.val (Val.assign rfl) rfl (Rg.nil (Rx.seq (Cd.seq (Cd.seq (Cd.region (Rg.val (Val.move rfl) rfl (Rg.val (Val.len Try.underlying27 rfl) rfl (Rg.val (Val.move rfl) rfl (Rg.nil (Rx.seq (Cd.block ?_))))))))))))))))))))))
  refine Cd.loop (A := Nat × Option Addr × Nat × List Af) (fun pr_ : Nat × Option Addr × Nat × List Af => match pr_ with | (i, ar, cr, o) => i ≤ os.length ∧ linksF J os = o ++ linkR J.ts (J.gs.drop i) (os.drop i))
      (fun pr_ : Nat × Option Addr × Nat × List Af => match pr_ with | (i, ar, cr, o) => [(2, .pointer (some ⟨b1, 0, none⟩)), (4, .slice none 0 0), (5, .slice ar o.length cr), (12, .slice ao os.length co), (13, .int .i64 (os.length : Int)), (14, .int .i64 (i : Int))])
      (fun pr_ : Nat × Option Addr × Nat × List Af => match pr_ with | (i, ar, cr, o) => [(1, blk b1 [.slice J.ta J.ts.length J.tc, .slice J.aa J.ls.length J.ac, .slice J.ga J.gs.length J.gc] 26), (2, rowL 38 3 encAf ar cr o)])
      (fun pr_ : Nat × Option Addr × Nat × List Af => match pr_ with | (i, ar, cr, o) => os.length - i) (0, p1.1, p1.2, J.ls) ?_ ⟨rfl, rfl, rfl, rfl, rfl, rfl, trivial⟩ ⟨rfl, rfl, trivial⟩ ?_
  · exact ⟨by omega, rfl⟩
  · rintro ⟨i, ar, cr, o⟩ ⟨hi, hG⟩
    show Cd _ _ _ _ _ [(2, .pointer (some ⟨b1, 0, none⟩)), (4, .slice none 0 0), (5, .slice ar o.length cr), (12, .slice ao os.length co), (13, .int .i64 (os.length : Int)), (14, .int .i64 (i : Int))] [(1, blk b1 [.slice J.ta J.ts.length J.tc, .slice J.aa J.ls.length J.ac, .slice J.ga J.gs.length J.gc] 26), (2, rowL 38 3 encAf ar cr o)]
    refine Cd.seq (Cd.region (Rg.val (Val.lss rfl rfl) rfl (Rg.nil (Rx.seq (Cd.seq (Cd.cond rfl (fun c2 => ?_) (fun c2 => ?_)))))))
    · replace c2 := of_decide_eq_true c2
      refine Cd.skip (Rx.seq (Cd.seq (Cd.block (Cd.seq (Cd.region (Rg.val (Val.move rfl) rfl ?_))))))
      obtain ⟨x3, hx4⟩ : ∃ x, os[i]? = some x := ⟨_, List.getElem?_eq_getElem (by have := hV.len; omega)⟩
      have hr_x3 := hV.row _ (List.mem_of_getElem? hx4)
      have hm_x3 := hV.mem _ (List.mem_of_getElem? hx4)
      refine Rg.val (Val.ide Try.underlying27 sz62 rfl rfl hO.rds (by first | rfl | omega | (simp; done)) hx4 (Nat.le_refl _)) rfl (Rg.val (Val.loadE (k := 0) rfl sc62 hO.rds hx4 rfl) rfl (Rg.val (Val.assign rfl) rfl (Rg.val (Val.assign rfl) rfl (Rg.nil (Rx.seq (Cd.seq (Cd.region (Rg.val (Val.assign rfl) rfl (Rg.nil (Rx.seq (Cd.block ?_)))))))))))
      obtain ⟨x5, hx6⟩ : ∃ x, J.gs[i]? = some x := ⟨_, List.getElem?_eq_getElem (by have := hV.len; omega)⟩
      have hk_x5 := hK.tg _ (List.mem_of_getElem? hx6)
      refine Cd.loop (A := Nat × Option Addr × Nat × List Af) (fun pr_ : Nat × Option Addr × Nat × List Af => match pr_ with | (k, ar2, cr2, o2) => k ≤ x3.xs.length ∧ linksF J os = o2 ++ (pairF J.ts x5 (x3.xs.drop k) ++ linkR J.ts (J.gs.drop (i + 1)) (os.drop (i + 1))))
          (fun pr_ : Nat × Option Addr × Nat × List Af => match pr_ with | (k, ar2, cr2, o2) => [(2, .pointer (some ⟨b1, 0, none⟩)), (4, .slice none 0 0), (5, .slice ar2 o2.length cr2), (6, .int .i64 (i : Int)), (7, .slice x3.a x3.xs.length x3.cap), (8, .int .i64 ((k : Int) + 1)), (12, .slice ao os.length co), (13, .int .i64 (os.length : Int)), (14, .int .i64 (i : Int))])
          (fun pr_ : Nat × Option Addr × Nat × List Af => match pr_ with | (k, ar2, cr2, o2) => [(1, blk b1 [.slice J.ta J.ts.length J.tc, .slice J.aa J.ls.length J.ac, .slice J.ga J.gs.length J.gc] 26), (2, rowL 38 3 encAf ar2 cr2 o2)])
          (fun pr_ : Nat × Option Addr × Nat × List Af => match pr_ with | (k, ar2, cr2, o2) => x3.xs.length - k) (0, ar, cr, o) ?_ ⟨rfl, rfl, rfl, rfl, rfl, rfl, rfl, rfl, rfl, trivial⟩ ⟨rfl, rfl, trivial⟩ ?_
      · exact ⟨Nat.zero_le _, by rw [hG, dropc hx6, dropc hx4]; rfl⟩
      · rintro ⟨k, ar2, cr2, o2⟩ ⟨hk2, hG2⟩
        show Cd _ _ _ _ _ [(2, .pointer (some ⟨b1, 0, none⟩)), (4, .slice none 0 0), (5, .slice ar2 o2.length cr2), (6, .int .i64 (i : Int)), (7, .slice x3.a x3.xs.length x3.cap), (8, .int .i64 ((k : Int) + 1)), (12, .slice ao os.length co), (13, .int .i64 (os.length : Int)), (14, .int .i64 (i : Int))] [(1, blk b1 [.slice J.ta J.ts.length J.tc, .slice J.aa J.ls.length J.ac, .slice J.ga J.gs.length J.gc] 26), (2, rowL 38 3 encAf ar2 cr2 o2)]
        refine Cd.seq (Cd.seq (Cd.region (Rg.val (Val.move rfl) rfl (Rg.val (Val.move rfl) rfl (Rg.val (Val.len Try.underlying62 rfl) rfl (Rg.val (Val.lss rfl rfl) rfl (Rg.nil (Rx.seq (Cd.cond rfl (fun c7 => ?_) (fun c7 => ?_))))))))))
        · replace c7 := of_decide_eq_true c7
          refine Cd.skip (Rx.seq (Cd.seq (Cd.block (Cd.draw [(1, blk b1 [.slice J.ta J.ts.length J.tc, .slice J.aa J.ls.length J.ac, .slice J.ga J.gs.length J.gc] 26)] mixed rfl (Dr.take 0 rfl (by kernel_rfl) (Val.move rfl) rfl ⟨rfl, trivial⟩ (Dr.take 1 rfl (by kernel_rfl) (Val.move rfl) rfl ⟨rfl, trivial⟩ (Dr.take 2 rfl (by kernel_rfl) (Val.move rfl) rfl ⟨rfl, trivial⟩ (Dr.take 3 rfl (by kernel_rfl) (Val.subN rfl rfl (by have := hJ.lts; have := hO.lo; unfold in64; omega)) rfl ⟨rfl, trivial⟩ ?_))))))))
          obtain ⟨x8, hx9⟩ : ∃ x, x3.xs[k]? = some x := ⟨_, List.getElem?_eq_getElem (by have := hV.len; omega)⟩
          have hk_x8 := hm_x3 _ (List.mem_of_getElem? hx9)
          refine Dr.take 4 rfl (by kernel_rfl) (Val.ide Try.underlying62 sz3 rfl rfl (hO.row _ (List.mem_of_getElem? hx4)) (by first | rfl | omega | (simp; done)) hx9 (Nat.le_refl _)) rfl ⟨rfl, trivial⟩ (Dr.take 5 rfl (by kernel_rfl) (Val.loadE (k := 0) rfl sc3 (hO.row _ (List.mem_of_getElem? hx4)) hx9 rfl) rfl ⟨rfl, trivial⟩ (Dr.take 6 rfl (by kernel_rfl) (Val.move rfl) rfl ⟨rfl, trivial⟩ (Dr.take 7 rfl (by kernel_rfl) (Val.move rfl) rfl ⟨rfl, trivial⟩ ?_)))
          obtain ⟨x10, hx11⟩ : ∃ x, x3.xs[(k + 1)]? = some x := ⟨_, List.getElem?_eq_getElem (by have := hV.len; omega)⟩
          have hk_x10 := hm_x3 _ (List.mem_of_getElem? hx11)
          refine Dr.take 8 rfl (by kernel_rfl) (Val.ide Try.underlying62 sz3 rfl rfl (hO.row _ (List.mem_of_getElem? hx4)) (by first | rfl | omega | (simp; done)) hx11 (Nat.le_refl _)) rfl ⟨rfl, trivial⟩ (Dr.take 9 rfl (by kernel_rfl) (Val.loadE (k := 0) rfl sc3 (hO.row _ (List.mem_of_getElem? hx4)) hx11 rfl) rfl ⟨rfl, trivial⟩ (Dr.take 10 rfl (by kernel_rfl) (Val.fa rfl (fa26_0 _ _)) rfl ⟨rfl, trivial⟩ (Dr.take 11 rfl (by kernel_rfl) (Val.load (l := 1) rfl rfl sc22 rfl) rfl ⟨rfl, trivial⟩ (Dr.take 12 rfl (by kernel_rfl) (Val.move rfl) rfl ⟨rfl, trivial⟩ (Dr.take 13 rfl (by kernel_rfl) (Val.move rfl) rfl ⟨rfl, trivial⟩ (Dr.take 14 rfl (by kernel_rfl) (Val.subN rfl rfl (by have := hJ.lts; have := hO.lo; unfold in64; omega)) rfl ⟨rfl, trivial⟩ (Dr.take 15 rfl (by kernel_rfl) (Val.ide Try.underlying62 sz3 rfl rfl (hO.row _ (List.mem_of_getElem? hx4)) (by first | rfl | omega | (simp; done)) hx9 (Nat.le_refl _)) rfl ⟨rfl, trivial⟩ (Dr.take 16 rfl (by kernel_rfl) (Val.loadE (k := 0) rfl sc3 (hO.row _ (List.mem_of_getElem? hx4)) hx9 rfl) rfl ⟨rfl, trivial⟩ ?_))))))))
          obtain ⟨x12, hx13⟩ : ∃ x, J.ts[(Int.toNat x8)]? = some x := ⟨_, List.getElem?_eq_getElem (by have := hV.len; omega)⟩
          have hk_x12 := hK.tk _ (List.mem_of_getElem? hx13)
          refine Dr.take 17 rfl (by kernel_rfl) (Val.ide Try.underlying22 sz57 rfl rfl hJ.rts (by first | rfl | omega | (simp; done)) hx13 (Nat.le_refl _)) rfl ⟨rfl, trivial⟩ (Dr.take 18 rfl (by kernel_rfl) (Val.fae (k := 0) rfl (hJ.rts.ne hx13) fa57_0) rfl ⟨rfl, trivial⟩ (Dr.take 19 rfl (by kernel_rfl) (Val.loadE (k := 0) rfl sc2 hJ.rts hx13 rfl) rfl ⟨rfl, trivial⟩ (Dr.take 20 rfl (by kernel_rfl) (Val.fa rfl (fa26_2 _ _)) rfl ⟨rfl, trivial⟩ (Dr.take 21 rfl (by kernel_rfl) (Val.load (l := 1) rfl rfl sc24 rfl) rfl ⟨rfl, trivial⟩ (Dr.take 22 rfl (by kernel_rfl) (Val.move rfl) rfl ⟨rfl, trivial⟩ (Dr.take 23 rfl (by kernel_rfl) (Val.ide Try.underlying24 sz2 rfl rfl hJ.rgs (by first | rfl | omega | (simp; done)) hx6 (Nat.le_refl _)) rfl ⟨rfl, trivial⟩ (Dr.take 24 rfl (by kernel_rfl) (Val.loadE (k := 0) rfl sc2 hJ.rgs hx6 rfl) rfl ⟨rfl, trivial⟩ (Dr.take 25 rfl (by kernel_rfl) (Val.addN rfl rfl (by have := hJ.lts; have := hO.lo; unfold in64; omega)) rfl ⟨rfl, trivial⟩ (Dr.take 26 rfl (by kernel_rfl) (Val.build rfl (bld_0 _ _ _)) rfl ⟨rfl, trivial⟩ (Dr.one 27 (by kernel_rfl) rfl (Eff.buildSlice (cs := [.int .i64 x8, .int .i64 x10, .int .i64 (x12.m + x5)]) 1052 rfl (fun w => (bsl_1 _ _ _) w) rfl) rfl (fun _ _ => ⟨rfl, trivial⟩) fun b1052 _ => (Dr.one 28 (by kernel_rfl) rfl (Eff.append (enc := encAf) (ys := [(Af.mk x8 x10 (x12.m + x5))]) (bytes := 24) 2 Try.underlying23 (by kernel_rfl) rfl rfl rfl rfl (fun w hm => hm.news (l := 1052) rfl rfl) (fun _ => rfl) ones_A (by have hl_ := congrArg List.length hG2; have := linksF_len hK hV; simp only [List.length_append, List.length_cons, List.length_nil, maxLen] at *; omega) rfl) rfl (fun _ _ => ⟨rfl, trivial⟩) fun pd53 _ => (Dr.take 29 rfl (by kernel_rfl) (Val.assign rfl) rfl ⟨rfl, trivial⟩ (Dr.done (by kernel_rfl) (Rx.inb (Rx.seq (Cd.region (Rg.val (Val.move rfl) rfl (Rg.val (Val.addN rfl rfl (by have := hJ.lts; have := hO.lo; unfold in64; omega)) rfl (Rg.val (Val.assign rfl) rfl (Rg.nil ?_))))))))))))))))))))
          refine Rx.meet (k + 1, pd53.1, pd53.2, (o2 ++ [(Af.mk x8 x10 (x12.m + x5))])) ⟨⟨by omega, by rw [hG2, pairF_at hx9 hx11 hx13, List.append_assoc]; rfl⟩, by show x3.xs.length - (k + 1) < x3.xs.length - k; omega⟩ ⟨rfl, rfl, rfl, rfl, rfl, rfl, rfl, rfl, rfl, trivial⟩ ⟨rfl, rfl, trivial⟩
        · replace c7 := of_decide_eq_false c7
          refine Cd.exit (Rx.pastE (Rx.pastE (Rx.hit (Rx.inb (Rx.seq (Cd.region (Rg.val (Val.addN rfl rfl (by have := hJ.lts; have := hO.lo; unfold in64; omega)) rfl (Rg.val (Val.move rfl) rfl (Rg.nil ?_)))))))))
          refine Rx.meet (i + 1, ar2, cr2, o2) ⟨⟨by omega, by rw [hG2, pairF_end (by omega), List.nil_append]⟩, by show os.length - (i + 1) < os.length - i; omega⟩ ⟨rfl, rfl, rfl, rfl, rfl, rfl, trivial⟩ ⟨rfl, rfl, trivial⟩
    · replace c2 := of_decide_eq_false c2
      refine Cd.exit (Rx.pastE (Rx.pastE (Rx.hit (Rx.seq (Cd.seq (Cd.region (Rg.val (Val.move rfl) rfl (Rg.val (Val.assign rfl) rfl (Rg.nil (Rx.seq (Cd.ret (Rx.ret1 rfl rfl fun w hm_ => ((by have hG_ := hG; rw [drop_all (xs := os) (by omega), show linkR J.ts (J.gs.drop i) [] = [] from by cases J.gs.drop i <;> rfl, List.append_nil] at hG_; rw [hG_]; exact RowPost.row 2 hm_ rfl rfl))))))))))))))

theorem rlinks_calls.bsl_0  (w : World) : (Instr.buildSlice 23 0 #[]).run Try.prog w = .ok (.slice (some ⟨w.heap.size, 0, none⟩) 0 0) (w.alloc (.cells #[] 38)) := by kernel_rfl
theorem rlinks_calls.bld_1 (y0 : Int) (y1 : Int) (y2 : Int) (w : World) : (Instr.build 38 #[(0, .int .i64 y0), (1, .int .i64 y1), (2, .int .i64 y2)]).run Try.prog w = .ok (.agg #[.int .i64 y0, .int .i64 y1, .int .i64 y2]) w := by kernel_rfl
theorem rlinks_calls.bsl_2 (y0 : Int) (y1 : Int) (y2 : Int) (w : World) : (Instr.buildSlice 23 1 #[(0, .agg #[.int .i64 y0, .int .i64 y1, .int .i64 y2])]).run Try.prog w = .ok (.slice (some ⟨w.heap.size, 0, none⟩) 1 1) (w.alloc (.cells #[.int .i64 y0, .int .i64 y1, .int .i64 y2] 38)) := by kernel_rfl
open rlinks_calls in
theorem rlinks_calls (J : Jb) (ao : Option Addr) (co : Nat) (os : List Rw) (w : World) (hJ : JobAt w J) (hO : OrdAt w ao os) (hK : JobOk J) (hV : OrdOk J os) : Calls Try.prog 51 #[.agg #[.slice J.ta J.ts.length J.tc, .slice J.aa J.ls.length J.ac, .slice J.ga J.gs.length J.gc], .slice ao os.length co] w (RowPost w 38 3 encAf (linksF J os) fun a_ c_ => .slice a_ (linksF J os).length c_) := by
  refine calls_of (vs := [.agg #[.slice J.ta J.ts.length J.tc, .slice J.aa J.ls.length J.ac, .slice J.ga J.gs.length J.gc], .slice ao os.length co]) Try.func51 rfl rfl rfl ?_
  show Cd _ _ _ _ _ [(0, .agg #[.slice J.ta J.ts.length J.tc, .slice J.aa J.ls.length J.ac, .slice J.ga J.gs.length J.gc]), (1, .slice ao os.length co)] []
  refine Cd.seq (Cd.region (Rg.eff (Eff.box 1 rfl rfl) rfl fun b1 _ => (Rg.val (Val.assign rfl) rfl (Rg.nil (Rx.seq (Cd.seq (Cd.region (Rg.eff (Eff.buildSlice (cs := []) 2 rfl (fun w => (bsl_0) w) rfl) rfl fun b2 _ => (Rg.val (Val.fa rfl (fa26_1 _ _)) rfl (Rg.val (Val.load (l := 1) rfl rfl sc23 rfl) rfl (Rg.gain (fun w hm => hm.rowOf (l := 2) (e := 38) (sz := 3) (enc := encAf) (xs := ([] : List Af)) (cap := 0) rfl rfl (fun _ => rfl) rfl (by decide)) (Rg.eff (Eff.appendSl (enc := encAf) (ys := J.ls) (bytes := 24) 2 Try.underlying23 (by kernel_rfl) rfl rfl rfl rfl rfl rfl (fun w hm => (hm.rdb hJ.rls)) (fun _ => rfl) ones_A (by have := hK.nls; simp only [List.length_nil, maxLen]; omega) rfl) rfl fun p1 _ => (Rg.val (Val.assign rfl) rfl (Rg.nil (Rx.seq (Cd.seq (Cd.seq (Cd.region (Rg.val (Val.assign rfl) rfl (Rg.nil (Rx.seq (Cd.block ?_))))))))))))))))))))))
  refine Cd.loop (A := Nat × Option Addr × Nat × List Af) (fun pr_ : Nat × Option Addr × Nat × List Af => match pr_ with | (i, ar, cr, o) => i ≤ os.length ∧ linksF J os = o ++ linkR J.ts (J.gs.drop i) (os.drop i))
      (fun pr_ : Nat × Option Addr × Nat × List Af => match pr_ with | (i, ar, cr, o) => [(1, .slice ao os.length co), (2, .pointer (some ⟨b1, 0, none⟩)), (4, .slice none 0 0), (5, .slice ar o.length cr), (6, .int .i64 (i : Int))])
      (fun pr_ : Nat × Option Addr × Nat × List Af => match pr_ with | (i, ar, cr, o) => [(1, blk b1 [.slice J.ta J.ts.length J.tc, .slice J.aa J.ls.length J.ac, .slice J.ga J.gs.length J.gc] 26), (2, rowL 38 3 encAf ar cr o)])
      (fun pr_ : Nat × Option Addr × Nat × List Af => match pr_ with | (i, ar, cr, o) => os.length - i) (0, p1.1, p1.2, J.ls) ?_ ⟨rfl, rfl, rfl, rfl, rfl, trivial⟩ ⟨rfl, rfl, trivial⟩ ?_
  · exact ⟨by omega, rfl⟩
  · rintro ⟨i, ar, cr, o⟩ ⟨hi, hG⟩
    show Cd _ _ _ _ _ [(1, .slice ao os.length co), (2, .pointer (some ⟨b1, 0, none⟩)), (4, .slice none 0 0), (5, .slice ar o.length cr), (6, .int .i64 (i : Int))] [(1, blk b1 [.slice J.ta J.ts.length J.tc, .slice J.aa J.ls.length J.ac, .slice J.ga J.gs.length J.gc] 26), (2, rowL 38 3 encAf ar cr o)]
    refine Cd.seq (Cd.seq (Cd.region (Rg.val (Val.move rfl) rfl (Rg.val (Val.move rfl) rfl (Rg.val (Val.len Try.underlying27 rfl) rfl (Rg.val (Val.lss rfl rfl) rfl (Rg.nil (Rx.seq (Cd.cond rfl (fun c2 => ?_) (fun c2 => ?_))))))))))
    · replace c2 := of_decide_eq_true c2
      refine Cd.skip (Rx.seq (Cd.seq (Cd.block (Cd.seq (Cd.region (Rg.val (Val.assign rfl) rfl (Rg.nil (Rx.seq (Cd.block ?_)))))))))
      obtain ⟨x3, hx4⟩ : ∃ x, os[i]? = some x := ⟨_, List.getElem?_eq_getElem (by have := hV.len; omega)⟩
      have hr_x3 := hV.row _ (List.mem_of_getElem? hx4)
      have hm_x3 := hV.mem _ (List.mem_of_getElem? hx4)
      obtain ⟨x5, hx6⟩ : ∃ x, J.gs[i]? = some x := ⟨_, List.getElem?_eq_getElem (by have := hV.len; omega)⟩
      have hk_x5 := hK.tg _ (List.mem_of_getElem? hx6)
      refine Cd.loop (A := Nat × Option Addr × Nat × List Af) (fun pr_ : Nat × Option Addr × Nat × List Af => match pr_ with | (k, ar2, cr2, o2) => k ≤ x3.xs.length ∧ linksF J os = o2 ++ (pairF J.ts x5 (x3.xs.drop k) ++ linkR J.ts (J.gs.drop (i + 1)) (os.drop (i + 1))))
          (fun pr_ : Nat × Option Addr × Nat × List Af => match pr_ with | (k, ar2, cr2, o2) => [(1, .slice ao os.length co), (2, .pointer (some ⟨b1, 0, none⟩)), (4, .slice none 0 0), (5, .slice ar2 o2.length cr2), (6, .int .i64 (i : Int)), (7, .int .i64 (k : Int))])
          (fun pr_ : Nat × Option Addr × Nat × List Af => match pr_ with | (k, ar2, cr2, o2) => [(1, blk b1 [.slice J.ta J.ts.length J.tc, .slice J.aa J.ls.length J.ac, .slice J.ga J.gs.length J.gc] 26), (2, rowL 38 3 encAf ar2 cr2 o2)])
          (fun pr_ : Nat × Option Addr × Nat × List Af => match pr_ with | (k, ar2, cr2, o2) => x3.xs.length - k) (0, ar, cr, o) ?_ ⟨rfl, rfl, rfl, rfl, rfl, rfl, trivial⟩ ⟨rfl, rfl, trivial⟩ ?_
      · exact ⟨Nat.zero_le _, by rw [hG, dropc hx6, dropc hx4]; rfl⟩
      · rintro ⟨k, ar2, cr2, o2⟩ ⟨hk2, hG2⟩
        show Cd _ _ _ _ _ [(1, .slice ao os.length co), (2, .pointer (some ⟨b1, 0, none⟩)), (4, .slice none 0 0), (5, .slice ar2 o2.length cr2), (6, .int .i64 (i : Int)), (7, .int .i64 (k : Int))] [(1, blk b1 [.slice J.ta J.ts.length J.tc, .slice J.aa J.ls.length J.ac, .slice J.ga J.gs.length J.gc] 26), (2, rowL 38 3 encAf ar2 cr2 o2)]
        refine Cd.seq (Cd.seq (Cd.region (Rg.val (Val.move rfl) rfl (Rg.val (Val.addN rfl rfl (by have := hJ.lts; have := hO.lo; unfold in64; omega)) rfl (Rg.val (Val.move rfl) rfl (Rg.val (Val.move rfl) rfl (Rg.val (Val.ide Try.underlying27 sz62 rfl rfl hO.rds (by first | rfl | omega | (simp; done)) hx4 (Nat.le_refl _)) rfl (Rg.val (Val.loadE (k := 0) rfl sc62 hO.rds hx4 rfl) rfl (Rg.val (Val.len Try.underlying62 rfl) rfl (Rg.val (Val.lss rfl rfl) rfl (Rg.nil (Rx.seq (Cd.cond rfl (fun c7 => ?_) (fun c7 => ?_))))))))))))))
        · replace c7 := of_decide_eq_true c7
          refine Cd.skip (Rx.seq (Cd.seq (Cd.block (Cd.seq (Cd.region (Rg.val (Val.move rfl) rfl (Rg.val (Val.move rfl) rfl (Rg.val (Val.ide Try.underlying27 sz62 rfl rfl hO.rds (by first | rfl | omega | (simp; done)) hx4 (Nat.le_refl _)) rfl (Rg.val (Val.loadE (k := 0) rfl sc62 hO.rds hx4 rfl) rfl (Rg.val (Val.move rfl) rfl ?_))))))))))
          obtain ⟨x8, hx9⟩ : ∃ x, x3.xs[k]? = some x := ⟨_, List.getElem?_eq_getElem (by have := hV.len; omega)⟩
          have hk_x8 := hm_x3 _ (List.mem_of_getElem? hx9)
          refine Rg.val (Val.ide Try.underlying62 sz3 rfl rfl (hO.row _ (List.mem_of_getElem? hx4)) (by first | rfl | omega | (simp; done)) hx9 (Nat.le_refl _)) rfl (Rg.val (Val.loadE (k := 0) rfl sc3 (hO.row _ (List.mem_of_getElem? hx4)) hx9 rfl) rfl (Rg.val (Val.assign rfl) rfl (Rg.nil (Rx.seq (Cd.draw [(1, blk b1 [.slice J.ta J.ts.length J.tc, .slice J.aa J.ls.length J.ac, .slice J.ga J.gs.length J.gc] 26)] mixed rfl (Dr.take 0 rfl (by kernel_rfl) (Val.move rfl) rfl ⟨rfl, trivial⟩ (Dr.take 1 rfl (by kernel_rfl) (Val.move rfl) rfl ⟨rfl, trivial⟩ (Dr.take 2 rfl (by kernel_rfl) (Val.move rfl) rfl ⟨rfl, trivial⟩ (Dr.take 3 rfl (by kernel_rfl) (Val.move rfl) rfl ⟨rfl, trivial⟩ (Dr.take 4 rfl (by kernel_rfl) (Val.ide Try.underlying27 sz62 rfl rfl hO.rds (by first | rfl | omega | (simp; done)) hx4 (Nat.le_refl _)) rfl ⟨rfl, trivial⟩ (Dr.take 5 rfl (by kernel_rfl) (Val.loadE (k := 0) rfl sc62 hO.rds hx4 rfl) rfl ⟨rfl, trivial⟩ (Dr.take 6 rfl (by kernel_rfl) (Val.move rfl) rfl ⟨rfl, trivial⟩ (Dr.take 7 rfl (by kernel_rfl) (Val.addN rfl rfl (by have := hJ.lts; have := hO.lo; unfold in64; omega)) rfl ⟨rfl, trivial⟩ ?_)))))))))))))
          obtain ⟨x10, hx11⟩ : ∃ x, x3.xs[(k + 1)]? = some x := ⟨_, List.getElem?_eq_getElem (by have := hV.len; omega)⟩
          have hk_x10 := hm_x3 _ (List.mem_of_getElem? hx11)
          refine Dr.take 8 rfl (by kernel_rfl) (Val.ide Try.underlying62 sz3 rfl rfl (hO.row _ (List.mem_of_getElem? hx4)) (by first | rfl | omega | (simp; done)) hx11 (Nat.le_refl _)) rfl ⟨rfl, trivial⟩ (Dr.take 9 rfl (by kernel_rfl) (Val.loadE (k := 0) rfl sc3 (hO.row _ (List.mem_of_getElem? hx4)) hx11 rfl) rfl ⟨rfl, trivial⟩ (Dr.take 10 rfl (by kernel_rfl) (Val.fa rfl (fa26_0 _ _)) rfl ⟨rfl, trivial⟩ (Dr.take 11 rfl (by kernel_rfl) (Val.load (l := 1) rfl rfl sc22 rfl) rfl ⟨rfl, trivial⟩ (Dr.take 12 rfl (by kernel_rfl) (Val.move rfl) rfl ⟨rfl, trivial⟩ ?_))))
          obtain ⟨x12, hx13⟩ : ∃ x, J.ts[(Int.toNat x8)]? = some x := ⟨_, List.getElem?_eq_getElem (by have := hV.len; omega)⟩
          have hk_x12 := hK.tk _ (List.mem_of_getElem? hx13)
          refine Dr.take 13 rfl (by kernel_rfl) (Val.ide Try.underlying22 sz57 rfl rfl hJ.rts (by first | rfl | omega | (simp; done)) hx13 (Nat.le_refl _)) rfl ⟨rfl, trivial⟩ (Dr.take 14 rfl (by kernel_rfl) (Val.fae (k := 0) rfl (hJ.rts.ne hx13) fa57_0) rfl ⟨rfl, trivial⟩ (Dr.take 15 rfl (by kernel_rfl) (Val.loadE (k := 0) rfl sc2 hJ.rts hx13 rfl) rfl ⟨rfl, trivial⟩ (Dr.take 16 rfl (by kernel_rfl) (Val.fa rfl (fa26_2 _ _)) rfl ⟨rfl, trivial⟩ (Dr.take 17 rfl (by kernel_rfl) (Val.load (l := 1) rfl rfl sc24 rfl) rfl ⟨rfl, trivial⟩ (Dr.take 18 rfl (by kernel_rfl) (Val.move rfl) rfl ⟨rfl, trivial⟩ (Dr.take 19 rfl (by kernel_rfl) (Val.ide Try.underlying24 sz2 rfl rfl hJ.rgs (by first | rfl | omega | (simp; done)) hx6 (Nat.le_refl _)) rfl ⟨rfl, trivial⟩ (Dr.take 20 rfl (by kernel_rfl) (Val.loadE (k := 0) rfl sc2 hJ.rgs hx6 rfl) rfl ⟨rfl, trivial⟩ (Dr.take 21 rfl (by kernel_rfl) (Val.addN rfl rfl (by have := hJ.lts; have := hO.lo; unfold in64; omega)) rfl ⟨rfl, trivial⟩ (Dr.take 22 rfl (by kernel_rfl) (Val.build rfl (bld_1 _ _ _)) rfl ⟨rfl, trivial⟩ (Dr.one 23 (by kernel_rfl) rfl (Eff.buildSlice (cs := [.int .i64 x8, .int .i64 x10, .int .i64 (x12.m + x5)]) 1059 rfl (fun w => (bsl_2 _ _ _) w) rfl) rfl (fun _ _ => ⟨rfl, trivial⟩) fun b1059 _ => (Dr.one 24 (by kernel_rfl) rfl (Eff.append (enc := encAf) (ys := [(Af.mk x8 x10 (x12.m + x5))]) (bytes := 24) 2 Try.underlying23 (by kernel_rfl) rfl rfl rfl rfl (fun w hm => hm.news (l := 1059) rfl rfl) (fun _ => rfl) ones_A (by have hl_ := congrArg List.length hG2; have := linksF_len hK hV; simp only [List.length_append, List.length_cons, List.length_nil, maxLen] at *; omega) rfl) rfl (fun _ _ => ⟨rfl, trivial⟩) fun pd60 _ => (Dr.take 25 rfl (by kernel_rfl) (Val.assign rfl) rfl ⟨rfl, trivial⟩ (Dr.done (by kernel_rfl) (Rx.inb (Rx.seq (Cd.region (Rg.val (Val.move rfl) rfl (Rg.val (Val.addN rfl rfl (by have := hJ.lts; have := hO.lo; unfold in64; omega)) rfl (Rg.val (Val.assign rfl) rfl (Rg.nil ?_))))))))))))))))))))
          refine Rx.meet (k + 1, pd60.1, pd60.2, (o2 ++ [(Af.mk x8 x10 (x12.m + x5))])) ⟨⟨by omega, by rw [hG2, pairF_at hx9 hx11 hx13, List.append_assoc]; rfl⟩, by show x3.xs.length - (k + 1) < x3.xs.length - k; omega⟩ ⟨rfl, rfl, rfl, rfl, rfl, rfl, trivial⟩ ⟨rfl, rfl, trivial⟩
        · replace c7 := of_decide_eq_false c7
          refine Cd.exit (Rx.pastE (Rx.pastE (Rx.hit (Rx.inb (Rx.seq (Cd.region (Rg.val (Val.move rfl) rfl (Rg.val (Val.addN rfl rfl (by have := hJ.lts; have := hO.lo; unfold in64; omega)) rfl (Rg.val (Val.assign rfl) rfl (Rg.nil ?_))))))))))
          refine Rx.meet (i + 1, ar2, cr2, o2) ⟨⟨by omega, by rw [hG2, pairF_end (by omega), List.nil_append]⟩, by show os.length - (i + 1) < os.length - i; omega⟩ ⟨rfl, rfl, rfl, rfl, rfl, trivial⟩ ⟨rfl, rfl, trivial⟩
    · replace c2 := of_decide_eq_false c2
      refine Cd.exit (Rx.pastE (Rx.pastE (Rx.hit (Rx.seq (Cd.seq (Cd.region (Rg.val (Val.move rfl) rfl (Rg.val (Val.assign rfl) rfl (Rg.nil (Rx.seq (Cd.ret (Rx.ret1 rfl rfl fun w hm_ => ((by have hG_ := hG; rw [drop_all (xs := os) (by omega), show linkR J.ts (J.gs.drop i) [] = [] from by cases J.gs.drop i <;> rfl, List.append_nil] at hG_; rw [hG_]; exact RowPost.row 2 hm_ rfl rfl))))))))))))))

end Go.Proofs.Ytdmkedbmoboamaa
