/- Walks of functions of the program: what each returns, told by plain functions. -/
import Derived.Test.YtdmkedbmoboamaaB2
import Derived.Test.YtdmkedbmoboamaaA15
namespace Go.Proofs.Ytdmkedbmoboamaa
open Go.Kx Go.RowKit
set_option maxRecDepth 100000
set_option linter.unusedVariables false
set_option linter.unusedSimpArgs false
set_option linter.unnecessarySimpa false
set_option linter.constructorNameAsVariable false
theorem cloneI_calls.bsl_0  (w : World) : (Instr.buildSlice 24 0 #[]).run Try.prog w = .ok (.slice (some ⟨w.heap.size, 0, none⟩) 0 0) (w.alloc (.cells #[] 2)) := by kernel_rfl
open cloneI_calls in
theorem cloneI_calls (a : Option Addr) (cap : Nat) (xs : List Int) (w : World) (hR : Rdb w a 1 encI xs) (hb : xs.length ≤ 1000000) : Calls Try.prog 98 #[.slice a xs.length cap] w (RowPost w 2 1 encI xs fun a_ c_ => .slice a_ xs.length c_) := by
  refine calls_of (vs := [.slice a xs.length cap]) Try.func98 rfl rfl rfl ?_
  show Cd _ _ _ _ _ [(0, .slice a xs.length cap)] []
  refine Cd.seq (Cd.region (Rg.val (Val.assign rfl) rfl (Rg.nil (Rx.seq (Cd.seq (Cd.seq (Cd.region (Rg.val (Val.move rfl) rfl (Rg.val (Val.eqNil Try.underlying24 rfl rfl) rfl (Rg.nil (Rx.seq (Cd.cond rfl (fun c1 => ?_) (fun c1 => ?_)))))))))))))
  · refine Cd.seq (Cd.region (Rg.val (Val.assign rfl) rfl (Rg.nil (Rx.seq (Cd.ret (Rx.pastR (Rx.ret1 rfl rfl fun w hm_ => ((RowPost.none hm_.below (Rdb.nil_of hR c1) (by rw [Rdb.nil_of hR c1]; rfl))))))))))
  · refine Cd.skip (Rx.seq (Cd.seq (Cd.region (Rg.eff (Eff.buildSlice (cs := []) 1 rfl (fun w => (bsl_0) w) rfl) rfl fun b1 _ => (Rg.val (Val.move rfl) rfl (Rg.gain (fun w hm => hm.rowOf (l := 1) (e := 2) (sz := 1) (enc := encI) (xs := ([] : List Int)) (cap := 0) rfl rfl (fun _ => rfl) rfl (by decide)) (Rg.eff (Eff.appendSl (enc := encI) (ys := xs) (bytes := 8) 1 Try.underlying24 (by kernel_rfl) rfl rfl rfl rfl rfl rfl (fun w hm => (hm.rdb hR)) (fun _ => rfl) ones_I (by simp only [List.length_nil, List.length_take, List.length_drop, maxLen]; omega) rfl) rfl fun p2 _ => (Rg.val (Val.assign rfl) rfl (Rg.nil (Rx.seq (Cd.ret (Rx.ret1 rfl rfl fun w hm_ => ((RowPost.row 1 hm_ rfl rfl))))))))))))))

/-- Lists compared, place by place. -/
def cmpL : List Int → List Int → Int
  | [], ys => if ys = [] then 0 else -1
  | x :: r, ys => match ys with
    | [] => 1
    | y :: s => if cmpI x y = 0 then cmpL r s else cmpI x y
def lastT (xs : List Int) : Int := xs.getD (xs.length - 1) 0
/-- One crew's times before another's. -/
def befL (xs ys : List Int) : Bool := decide (orI (cmpI (lastT xs) (lastT ys)) (cmpL xs ys) < 0)
theorem lastT_at {xs : List Int} {k : Int} {x : Int} (hk : k = (xs.length : Int) - 1) (h : xs[k.toNat]? = some x) : lastT xs = x := by
  have : xs.length - 1 = k.toNat := by omega
  unfold lastT
  rw [this]; simp [List.getD, h]
theorem cmpL_next {xs ys : List Int} {i : Nat} {x y c : Int} (hG : c = cmpL (xs.drop i) (ys.drop i)) (hx : xs[i]? = some x) (hy : ys[i]? = some y) : (cmpI x y = 0 → c = cmpL (xs.drop (i + 1)) (ys.drop (i + 1))) ∧ (¬ cmpI x y = 0 → c = cmpI x y) := by
  rw [dropc hx, dropc hy, cmpL] at hG
  exact ⟨fun h => by rw [if_pos h] at hG; exact hG, fun h => by rw [if_neg h] at hG; exact hG⟩
theorem cmpL_1 {xs ys : List Int} {i : Nat} {x c : Int} (hG : c = cmpL (xs.drop i) (ys.drop i)) (hx : xs[i]? = some x) (hy : (ys.length : Int) ≤ i) : c = 1 := by
  rw [hG, dropc hx, List.drop_eq_nil_of_le (by omega : ys.length ≤ i), cmpL]
theorem cmpL_end {xs ys : List Int} {i : Nat} {c : Int} (hi : i ≤ xs.length) (hG : c = cmpL (xs.drop i) (ys.drop i)) (hx : ¬ (i : Int) < (xs.length : Int)) : c = if (xs.length : Int) < (ys.length : Int) then -1 else 0 := by
  rw [hG, drop_all hx, cmpL]
  by_cases h : (xs.length : Int) < (ys.length : Int)
  · rw [if_pos h, if_neg]
    intro e
    have := congrArg List.length e
    rw [List.length_drop, List.length_nil] at this
    omega
  · rw [if_neg h, if_pos (List.drop_eq_nil_of_le (by omega))]
/-- The definition's order, place by place. -/
def lessL : List Int → List Int → Bool
  | [], _ => false
  | x :: r, ys => match ys with
    | [] => false
    | y :: s => if x = y then lessL r s else decide (x < y)
theorem lessL_next {xs ys : List Int} {i : Nat} {x y : Int} {c : Bool} (hG : c = lessL (xs.drop i) (ys.drop i)) (hx : xs[i]? = some x) (hy : ys[i]? = some y) : (x = y → c = lessL (xs.drop (i + 1)) (ys.drop (i + 1))) ∧ (¬ x = y → c = decide (x < y)) := by
  rw [dropc hx, dropc hy, lessL] at hG
  exact ⟨fun h => by rw [if_pos h] at hG; exact hG, fun h => by rw [if_neg h] at hG; exact hG⟩
theorem lessL_end {xs ys : List Int} {i : Nat} {c : Bool} (hG : c = lessL (xs.drop i) (ys.drop i)) (hx : ¬ (i : Int) < (xs.length : Int)) : c = false := by
  rw [hG, drop_all hx, lessL]
theorem compare_gives (sa : Option Addr) (sc : Nat) (ss : List Int) (sa2 : Option Addr) (sd2 : Nat) (s2 : List Int) (w : World) (hSs : Rdb w sa 1 encI ss) (hsl : ss.length ≤ 9223372036854775807) (hSs2 : Rdb w sa2 1 encI s2) (hsl2 : s2.length ≤ 9223372036854775807) : Gives Try.prog 127 #[.slice sa ss.length sc, .slice sa2 s2.length sd2] w (.int .i64 (cmpL ss s2)) := by
  refine calls_of (vs := [.slice sa ss.length sc, .slice sa2 s2.length sd2]) Try.func127 rfl rfl rfl ?_
  show Cd _ _ _ _ _ [(0, .slice sa ss.length sc), (1, .slice sa2 s2.length sd2)] []
  refine Cd.seq (Cd.region (Rg.val (Val.assign rfl) rfl (Rg.nil (Rx.seq (Cd.seq (Cd.seq (Cd.region (Rg.val (Val.move rfl) rfl (Rg.val (Val.len Try.underlying24 rfl) rfl (Rg.val (Val.move rfl) rfl (Rg.nil (Rx.seq (Cd.block ?_)))))))))))))
  refine Cd.loop (A := Nat) (fun i : Nat => i ≤ ss.length ∧ cmpL ss s2 = cmpL (ss.drop i) (s2.drop i))
      (fun i : Nat => [(0, .slice sa ss.length sc), (1, .slice sa2 s2.length sd2), (9, .slice sa ss.length sc), (10, .int .i64 (ss.length : Int)), (11, .int .i64 (i : Int))])
      (fun i : Nat => [])
      (fun i : Nat => ss.length - i) 0 ?_ ⟨rfl, rfl, rfl, rfl, rfl, trivial⟩ trivial ?_
  · exact ⟨Nat.zero_le _, rfl⟩
  · rintro i ⟨hi, hG⟩
    show Cd _ _ _ _ _ [(0, .slice sa ss.length sc), (1, .slice sa2 s2.length sd2), (9, .slice sa ss.length sc), (10, .int .i64 (ss.length : Int)), (11, .int .i64 (i : Int))] []
    refine Cd.seq (Cd.region (Rg.val (Val.lss rfl rfl) rfl (Rg.nil (Rx.seq (Cd.seq (Cd.cond rfl (fun c1 => ?_) (fun c1 => ?_)))))))
    · replace c1 := of_decide_eq_true c1
      refine Cd.skip (Rx.seq (Cd.seq (Cd.block (Cd.seq (Cd.region (Rg.val (Val.move rfl) rfl ?_))))))
      obtain ⟨x2, hx3⟩ : ∃ x, ss[i]? = some x := ⟨_, List.getElem?_eq_getElem (by omega)⟩
      refine Rg.val (Val.ide Try.underlying24 sz2 rfl rfl hSs (by first | rfl | omega | (simp; done)) hx3 (Nat.le_refl _)) rfl (Rg.val (Val.loadE (k := 0) rfl sc2 hSs hx3 rfl) rfl (Rg.val (Val.assign rfl) rfl (Rg.val (Val.assign rfl) rfl (Rg.nil (Rx.seq (Cd.seq (Cd.seq (Cd.region (Rg.val (Val.move rfl) rfl (Rg.val (Val.move rfl) rfl (Rg.val (Val.len Try.underlying24 rfl) rfl (Rg.val (Val.geq rfl rfl) rfl (Rg.nil (Rx.seq (Cd.cond rfl (fun c4 => ?_) (fun c4 => ?_))))))))))))))))
      · replace c4 := of_decide_eq_true c4
        refine Cd.seq (Cd.region (Rg.val (Val.assign rfl) rfl (Rg.nil (Rx.seq (Cd.ret (Rx.pastR (Rx.inr (Rx.pastR (Rx.pastR (Rx.inr (Rx.pastR (Rx.ret1 rfl rfl fun w hm_ => (⟨by rw [cmpL_1 hG hx3 (by omega)], hm_.below⟩)))))))))))))
      · replace c4 := of_decide_eq_false c4
        refine Cd.skip (Rx.seq (Cd.seq (Cd.region (Rg.val (Val.move rfl) rfl (Rg.val (Val.move rfl) rfl ?_)))))
        obtain ⟨x5, hx6⟩ : ∃ x, s2[i]? = some x := ⟨_, List.getElem?_eq_getElem (by omega)⟩
        refine Rg.val (Val.ide Try.underlying24 sz2 rfl rfl hSs2 (by first | rfl | omega | (simp; done)) hx6 (Nat.le_refl _)) rfl (Rg.val (Val.loadE (k := 0) rfl sc2 hSs2 hx6 rfl) rfl (Rg.val (Val.assign rfl) rfl (Rg.nil (Rx.seq (Cd.seq (Cd.region (Rg.val (Val.move rfl) rfl (Rg.val (Val.move rfl) rfl (Rg.eff (Eff.give rfl rfl en79 rfl (fun w hm => cmp_gives _ _ w)) rfl fun _ _ => (Rg.val (Val.assign rfl) rfl (Rg.nil (Rx.seq (Cd.seq (Cd.region (Rg.val (Val.move rfl) rfl (Rg.val (Val.neq rfl rfl) rfl (Rg.nil (Rx.seq (Cd.cond rfl (fun c7 => ?_) (fun c7 => ?_))))))))))))))))))))
        · replace c7 := bnot_t c7
          replace c7 := of_decide_eq_false c7
          refine Cd.seq (Cd.region (Rg.val (Val.move rfl) rfl (Rg.val (Val.assign rfl) rfl (Rg.nil (Rx.seq (Cd.ret (Rx.inr (Rx.pastR (Rx.pastR (Rx.inr (Rx.pastR (Rx.ret1 rfl rfl fun w hm_ => (⟨by rw [(cmpL_next hG hx3 hx6).2 c7], hm_.below⟩)))))))))))))
        · replace c7 := bnot_f c7
          replace c7 := of_decide_eq_true c7
          refine Cd.skip (Rx.inb (Rx.seq (Cd.region (Rg.val (Val.addN rfl rfl (by unfold in64; omega)) rfl (Rg.val (Val.move rfl) rfl (Rg.nil ?_))))))
          refine Rx.meet (i + 1) ⟨⟨by omega, (cmpL_next hG hx3 hx6).1 c7⟩, by show ss.length - (i + 1) < ss.length - i; omega⟩ ⟨rfl, rfl, rfl, rfl, rfl, trivial⟩ trivial
    · replace c1 := of_decide_eq_false c1
      refine Cd.exit (Rx.pastE (Rx.pastE (Rx.hit (Rx.seq (Cd.seq (Cd.seq (Cd.region (Rg.val (Val.move rfl) rfl (Rg.val (Val.len Try.underlying24 rfl) rfl (Rg.val (Val.move rfl) rfl (Rg.val (Val.len Try.underlying24 rfl) rfl (Rg.val (Val.lss rfl rfl) rfl (Rg.nil (Rx.seq (Cd.cond rfl (fun c8 => ?_) (fun c8 => ?_))))))))))))))))
      · replace c8 := of_decide_eq_true c8
        refine Cd.seq (Cd.region (Rg.val (Val.assign rfl) rfl (Rg.nil (Rx.seq (Cd.ret (Rx.pastR (Rx.ret1 rfl rfl fun w hm_ => (⟨by rw [cmpL_end hi hG (by omega), if_pos c8], hm_.below⟩))))))))
      · replace c8 := of_decide_eq_false c8
        refine Cd.skip (Rx.seq (Cd.seq (Cd.region (Rg.val (Val.assign rfl) rfl (Rg.nil (Rx.seq (Cd.ret (Rx.ret1 rfl rfl fun w hm_ => (⟨by rw [cmpL_end hi hG (by omega), if_neg c8], hm_.below⟩)))))))))

theorem before_int_gives.bsl_0 (y0 : Int) (y1 : Int) (w : World) : (Instr.buildSlice 62 2 #[(0, .int .i64 y0), (1, .int .i64 y1)]).run Try.prog w = .ok (.slice (some ⟨w.heap.size, 0, none⟩) 2 2) (w.alloc (.cells #[.int .i64 y0, .int .i64 y1] 3)) := by kernel_rfl
open before_int_gives in
theorem before_int_gives (sa : Option Addr) (sc : Nat) (ss : List Int) (sa2 : Option Addr) (sd2 : Nat) (s2 : List Int) (w : World) (hSs : Rdb w sa 1 encI ss) (hsl : ss.length ≤ 9223372036854775807) (hSs2 : Rdb w sa2 1 encI s2) (hsl2 : s2.length ≤ 9223372036854775807) (hn0 : 0 < ss.length) (hne : ss.length = s2.length) : Gives Try.prog 97 #[.slice sa ss.length sc, .slice sa2 s2.length sd2] w (.bool (befL ss s2)) := by
  refine calls_of (vs := [.slice sa ss.length sc, .slice sa2 s2.length sd2]) Try.func97 rfl rfl rfl ?_
  show Cd _ _ _ _ _ [(0, .slice sa ss.length sc), (1, .slice sa2 s2.length sd2)] []
  refine Cd.seq (Cd.region (Rg.val (Val.assign rfl) rfl (Rg.nil (Rx.seq (Cd.seq (Cd.region (Rg.val (Val.move rfl) rfl (Rg.val (Val.len Try.underlying24 rfl) rfl (Rg.val (Val.subN rfl rfl (by unfold in64; omega)) rfl (Rg.val (Val.assign rfl) rfl (Rg.nil (Rx.seq (Cd.seq (Cd.draw [] mixed rfl (Dr.take 0 rfl (by kernel_rfl) (Val.move rfl) rfl trivial (Dr.take 1 rfl (by kernel_rfl) (Val.move rfl) rfl trivial ?_))))))))))))))))
  obtain ⟨x1, hx2⟩ : ∃ x, ss[(Int.toNat ((ss.length : Int) - 1))]? = some x := ⟨_, List.getElem?_eq_getElem (by omega)⟩
  refine Dr.take 2 rfl (by kernel_rfl) (Val.ide Try.underlying24 sz2 rfl rfl hSs (by first | rfl | omega | (simp; done)) hx2 (Nat.le_refl _)) rfl trivial (Dr.take 3 rfl (by kernel_rfl) (Val.loadE (k := 0) rfl sc2 hSs hx2 rfl) rfl trivial (Dr.take 4 rfl (by kernel_rfl) (Val.move rfl) rfl trivial (Dr.take 5 rfl (by kernel_rfl) (Val.move rfl) rfl trivial ?_)))
  obtain ⟨x3, hx4⟩ : ∃ x, s2[(Int.toNat ((ss.length : Int) - 1))]? = some x := ⟨_, List.getElem?_eq_getElem (by omega)⟩
  refine Dr.take 6 rfl (by kernel_rfl) (Val.ide Try.underlying24 sz2 rfl rfl hSs2 (by first | rfl | omega | (simp; done)) hx4 (Nat.le_refl _)) rfl trivial (Dr.take 7 rfl (by kernel_rfl) (Val.loadE (k := 0) rfl sc2 hSs2 hx4 rfl) rfl trivial (Dr.take 9 rfl (by kernel_rfl) (Val.move rfl) rfl trivial (Dr.take 10 rfl (by kernel_rfl) (Val.move rfl) rfl trivial (Dr.one 8 (by kernel_rfl) rfl (Eff.give rfl rfl en79 rfl (fun w hm => cmp_gives _ _ w)) rfl (fun _ _ => trivial) fun _ _ => (Dr.one 11 (by kernel_rfl) rfl (Eff.give rfl rfl en127 rfl (fun w hm => compare_gives _ _ _ _ _ _ w (hm.rdb hSs) hsl (hm.rdb hSs2) hsl2)) rfl (fun _ _ => trivial) fun _ _ => (Dr.one 12 (by kernel_rfl) rfl (Eff.buildSlice (cs := [.int .i64 (cmpI x1 x3), .int .i64 (cmpL ss s2)]) 1021 rfl (fun w => (bsl_0 _ _) w) rfl) rfl (fun _ _ => trivial) fun b1021 _ => (Dr.gain (fun w hm => hm.rowOf (l := 1021) (e := 3) (sz := 1) (enc := encI) (xs := [cmpI x1 x3, cmpL ss s2]) (cap := 2) rfl rfl (fun _ => rfl) rfl (by decide)) (Dr.one 13 (by kernel_rfl) rfl (Eff.give rfl rfl en78 rfl (fun w hm => or_gives (some ⟨b1021, 0, none⟩) 2 ([cmpI x1 x3, cmpL ss s2]) w (Rdb.of_row (l := 1021) hm rfl (fun _ => rfl)) (by simp))) rfl (fun _ _ => trivial) fun _ _ => (Dr.take 14 rfl (by kernel_rfl) (Val.lss rfl rfl) rfl trivial (Dr.take 15 rfl (by kernel_rfl) (Val.assign rfl) rfl trivial (Dr.done (by kernel_rfl) (Rx.seq (Cd.ret (Rx.ret1 rfl rfl fun w hm_ => (⟨congrArg (fun z => Ending.returned (.bool z)) (by unfold befL; rw [orL2, lastT_at rfl hx2, lastT_at (by omega) hx4]), hm_.below⟩)))))))))))))))

theorem less_gives (sa : Option Addr) (sc : Nat) (ss : List Int) (sa2 : Option Addr) (sd2 : Nat) (s2 : List Int) (w : World) (hSs : Rdb w sa 1 encI ss) (hsl : ss.length ≤ 9223372036854775807) (hSs2 : Rdb w sa2 1 encI s2) (hsl2 : s2.length ≤ 9223372036854775807) (hne : ss.length = s2.length) : Gives Try.prog 101 #[.slice sa ss.length sc, .slice sa2 s2.length sd2] w (.bool (lessL ss s2)) := by
  refine calls_of (vs := [.slice sa ss.length sc, .slice sa2 s2.length sd2]) Try.func101 rfl rfl rfl ?_
  show Cd _ _ _ _ _ [(0, .slice sa ss.length sc), (1, .slice sa2 s2.length sd2)] []
  refine Cd.seq (Cd.region (Rg.val (Val.assign rfl) rfl (Rg.nil (Rx.seq (Cd.seq (Cd.seq (Cd.region (Rg.val (Val.assign rfl) rfl (Rg.nil (Rx.seq (Cd.block ?_)))))))))))
  refine Cd.loop (A := Nat) (fun i : Nat => i ≤ ss.length ∧ lessL ss s2 = lessL (ss.drop i) (s2.drop i))
      (fun i : Nat => [(0, .slice sa ss.length sc), (1, .slice sa2 s2.length sd2), (5, .int .i64 (i : Int))])
      (fun i : Nat => [])
      (fun i : Nat => ss.length - i) 0 ?_ ⟨rfl, rfl, rfl, trivial⟩ trivial ?_
  · exact ⟨Nat.zero_le _, rfl⟩
  · rintro i ⟨hi, hG⟩
    show Cd _ _ _ _ _ [(0, .slice sa ss.length sc), (1, .slice sa2 s2.length sd2), (5, .int .i64 (i : Int))] []
    refine Cd.seq (Cd.seq (Cd.region (Rg.val (Val.move rfl) rfl (Rg.val (Val.move rfl) rfl (Rg.val (Val.len Try.underlying24 rfl) rfl (Rg.val (Val.lss rfl rfl) rfl (Rg.nil (Rx.seq (Cd.cond rfl (fun c1 => ?_) (fun c1 => ?_))))))))))
    · replace c1 := of_decide_eq_true c1
      refine Cd.skip (Rx.seq (Cd.seq (Cd.block (Cd.seq (Cd.draw [] mixed rfl (Dr.take 0 rfl (by kernel_rfl) (Val.move rfl) rfl trivial (Dr.take 1 rfl (by kernel_rfl) (Val.move rfl) rfl trivial ?_)))))))
      obtain ⟨x2, hx3⟩ : ∃ x, ss[i]? = some x := ⟨_, List.getElem?_eq_getElem (by omega)⟩
      refine Dr.take 2 rfl (by kernel_rfl) (Val.ide Try.underlying24 sz2 rfl rfl hSs (by first | rfl | omega | (simp; done)) hx3 (Nat.le_refl _)) rfl trivial (Dr.take 3 rfl (by kernel_rfl) (Val.loadE (k := 0) rfl sc2 hSs hx3 rfl) rfl trivial (Dr.take 4 rfl (by kernel_rfl) (Val.move rfl) rfl trivial (Dr.take 5 rfl (by kernel_rfl) (Val.move rfl) rfl trivial ?_)))
      obtain ⟨x4, hx5⟩ : ∃ x, s2[i]? = some x := ⟨_, List.getElem?_eq_getElem (by omega)⟩
      refine Dr.take 6 rfl (by kernel_rfl) (Val.ide Try.underlying24 sz2 rfl rfl hSs2 (by first | rfl | omega | (simp; done)) hx5 (Nat.le_refl _)) rfl trivial (Dr.take 7 rfl (by kernel_rfl) (Val.loadE (k := 0) rfl sc2 hSs2 hx5 rfl) rfl trivial (Dr.take 8 rfl (by kernel_rfl) (Val.neq rfl rfl) rfl trivial (Dr.done (by kernel_rfl) (Rx.seq (Cd.cond rfl (fun c6 => ?_) (fun c6 => ?_))))))
      · replace c6 := bnot_t c6
        replace c6 := of_decide_eq_false c6
        refine Cd.seq (Cd.draw [] mixed rfl (Dr.take 0 rfl (by kernel_rfl) (Val.move rfl) rfl trivial (Dr.take 1 rfl (by kernel_rfl) (Val.move rfl) rfl trivial (Dr.take 2 rfl (by kernel_rfl) (Val.ide Try.underlying24 sz2 rfl rfl hSs (by first | rfl | omega | (simp; done)) hx3 (Nat.le_refl _)) rfl trivial (Dr.take 3 rfl (by kernel_rfl) (Val.loadE (k := 0) rfl sc2 hSs hx3 rfl) rfl trivial (Dr.take 4 rfl (by kernel_rfl) (Val.move rfl) rfl trivial (Dr.take 5 rfl (by kernel_rfl) (Val.move rfl) rfl trivial (Dr.take 6 rfl (by kernel_rfl) (Val.ide Try.underlying24 sz2 rfl rfl hSs2 (by first | rfl | omega | (simp; done)) hx5 (Nat.le_refl _)) rfl trivial (Dr.take 7 rfl (by kernel_rfl) (Val.loadE (k := 0) rfl sc2 hSs2 hx5 rfl) rfl trivial (Dr.take 8 rfl (by kernel_rfl) (Val.lss rfl rfl) rfl trivial (Dr.take 9 rfl (by kernel_rfl) (Val.assign rfl) rfl trivial (Dr.done (by kernel_rfl) (Rx.seq (Cd.ret (Rx.inr (Rx.pastR (Rx.pastR (Rx.inr (Rx.pastR (Rx.ret1 rfl rfl fun w hm_ => (⟨by rw [(lessL_next hG hx3 hx5).2 c6], hm_.below⟩)))))))))))))))))))))
      · replace c6 := bnot_f c6
        replace c6 := of_decide_eq_true c6
        refine Cd.skip (Rx.inb (Rx.seq (Cd.region (Rg.val (Val.move rfl) rfl (Rg.val (Val.addN rfl rfl (by unfold in64; omega)) rfl (Rg.val (Val.assign rfl) rfl (Rg.nil ?_)))))))
        refine Rx.meet (i + 1) ⟨⟨by omega, (lessL_next hG hx3 hx5).1 c6⟩, by show ss.length - (i + 1) < ss.length - i; omega⟩ ⟨rfl, rfl, rfl, trivial⟩ trivial
    · replace c1 := of_decide_eq_false c1
      refine Cd.exit (Rx.pastE (Rx.pastE (Rx.hit (Rx.seq (Cd.seq (Cd.region (Rg.val (Val.assign rfl) rfl (Rg.nil (Rx.seq (Cd.ret (Rx.ret1 rfl rfl fun w hm_ => (⟨by rw [lessL_end hG (by omega)], hm_.below⟩))))))))))))

def hugeL (l : Lg) : Bool := decide ((40 : Int) < (l.ws.length : Int))
def heavyF (gs : List Lg) : Bool := if (20 : Int) < (gs.length : Int) then true else if (7 : Int) < (gs.length : Int) ∧ (gs.length : Int) ≤ 12 then true else gs.any hugeL
theorem heavy_7 {gs : List Lg} {most rest start : Int} (h : heavyF gs = false) (hc : crewF gs most rest start = 0) : gs.length ≤ 7 := by
  have h1 := (CrewOk.of hc).n
  unfold heavyF at h
  split at h
  · cases h
  · split at h
    · cases h
    · omega
theorem heavy_gives (ga : Option Addr) (gc : Nat) (gs : List Lg) (w : World) (hL : LegAt w ga gs) : Gives Try.prog 44 #[.slice ga gs.length gc] w (.bool (heavyF gs)) := by
  refine calls_of (vs := [.slice ga gs.length gc]) Try.func44 rfl rfl rfl ?_
  show Cd _ _ _ _ _ [(0, .slice ga gs.length gc)] []
  refine Cd.seq (Cd.region (Rg.val (Val.assign rfl) rfl (Rg.nil (Rx.seq (Cd.seq (Cd.seq (Cd.region (Rg.val (Val.move rfl) rfl (Rg.val (Val.len Try.underlying74 rfl) rfl (Rg.val (Val.gtr rfl rfl) rfl (Rg.val (Val.move rfl) rfl (Rg.split 7 rfl (fun c1 => ?_) (fun c1 => ?_)))))))))))))
  · replace c1 := of_decide_eq_true c1
    refine Rg.off rfl rfl rfl rfl (Rg.off rfl rfl rfl rfl (Rg.off rfl rfl rfl rfl (Rg.off rfl rfl rfl rfl (Rg.off rfl rfl rfl rfl (Rg.off rfl rfl rfl rfl (Rg.off rfl rfl rfl rfl (Rg.off rfl rfl rfl rfl (Rg.val (Val.pickT rfl rfl) rfl (Rg.nil (Rx.seq (Cd.yes rfl (Cd.seq (Cd.region (Rg.val (Val.assign rfl) rfl (Rg.nil (Rx.seq (Cd.ret (Rx.pastR (Rx.ret1 rfl rfl fun w hm_ => (⟨by unfold heavyF; first | rw [if_pos (by omega)] | rw [if_neg (by omega), if_pos (by omega)], hm_.below⟩))))))))))))))))))))
  · replace c1 := of_decide_eq_false c1
    refine Rg.on rfl rfl rfl (Rg.val (Val.move rfl) rfl (Rg.on rfl rfl rfl (Rg.val (Val.len Try.underlying74 rfl) rfl (Rg.on rfl rfl rfl (Rg.val (Val.gtr rfl rfl) rfl (Rg.on rfl rfl rfl (Rg.val (Val.move rfl) rfl (Rg.split 11 rfl (fun c2 => ?_) (fun c2 => ?_)))))))))
    · replace c2 := of_decide_eq_true c2
      refine Rg.on rfl rfl rfl (Rg.val (Val.move rfl) rfl (Rg.on rfl rfl rfl (Rg.val (Val.len Try.underlying74 rfl) rfl (Rg.on rfl rfl rfl (Rg.val (Val.leq rfl rfl) rfl (Rg.on rfl rfl rfl (Rg.val (Val.pickT rfl rfl) rfl (Rg.val (Val.pickF rfl rfl) rfl (Rg.nil (Rx.seq (Cd.cond rfl (fun c3 => ?_) (fun c3 => ?_))))))))))))
      · replace c3 := of_decide_eq_true c3
        refine Cd.seq (Cd.region (Rg.val (Val.assign rfl) rfl (Rg.nil (Rx.seq (Cd.ret (Rx.pastR (Rx.ret1 rfl rfl fun w hm_ => (⟨by unfold heavyF; first | rw [if_pos (by omega)] | rw [if_neg (by omega), if_pos (by omega)], hm_.below⟩))))))))
      · replace c3 := of_decide_eq_false c3
        refine Cd.skip (Rx.seq (Cd.seq (Cd.seq (Cd.region (Rg.val (Val.assign rfl) rfl (Rg.nil (Rx.seq (Cd.block ?_))))))))
        refine Cd.loop (A := Nat) (fun i : Nat => i ≤ gs.length ∧ gs.any hugeL = (gs.drop i).any hugeL)
            (fun i : Nat => [(0, .slice ga gs.length gc), (3, .int .i64 (i : Int))])
            (fun i : Nat => [])
            (fun i : Nat => gs.length - i) 0 ?_ ⟨rfl, rfl, trivial⟩ trivial ?_
        · exact ⟨Nat.zero_le _, rfl⟩
        · rintro i ⟨hi_i, hG_i⟩
          show Cd _ _ _ _ _ [(0, .slice ga gs.length gc), (3, .int .i64 (i : Int))] []
          refine Cd.seq (Cd.seq (Cd.region (Rg.val (Val.move rfl) rfl (Rg.val (Val.move rfl) rfl (Rg.val (Val.len Try.underlying74 rfl) rfl (Rg.val (Val.lss rfl rfl) rfl (Rg.nil (Rx.seq (Cd.cond rfl (fun c4 => ?_) (fun c4 => ?_))))))))))
          · replace c4 := of_decide_eq_true c4
            refine Cd.skip (Rx.seq (Cd.seq (Cd.block (Cd.seq (Cd.region (Rg.val (Val.move rfl) rfl (Rg.val (Val.move rfl) rfl ?_)))))))
            obtain ⟨x5, hx6⟩ : ∃ x, gs[i]? = some x := ⟨_, List.getElem?_eq_getElem (by omega)⟩
            refine Rg.val (Val.ide Try.underlying74 sz132 rfl rfl hL.rds (by first | rfl | omega | (simp; done)) hx6 (Nat.le_refl _)) rfl (Rg.val (Val.fae (k := 1) rfl (hL.rds.ne hx6) fa132_1) rfl (Rg.val (Val.loadE (k := 1) rfl sc28 hL.rds hx6 rfl) rfl (Rg.val (Val.len Try.underlying28 rfl) rfl (Rg.val (Val.gtr rfl rfl) rfl (Rg.nil (Rx.seq (Cd.cond rfl (fun c7 => ?_) (fun c7 => ?_))))))))
            · replace c7 := of_decide_eq_true c7
              have he_ := any_hit hG_i hx6 (by simp [hugeL, *])
              clear hG_i
              refine Cd.seq (Cd.region (Rg.val (Val.assign rfl) rfl (Rg.nil (Rx.seq (Cd.ret (Rx.inr (Rx.pastR (Rx.pastR (Rx.inr (Rx.pastR (Rx.ret1 rfl rfl fun w hm_ => (⟨by unfold heavyF; rw [if_neg (by omega), if_neg (by omega), he_], hm_.below⟩))))))))))))
            · replace c7 := of_decide_eq_false c7
              refine Cd.skip (Rx.inb (Rx.seq (Cd.region (Rg.val (Val.move rfl) rfl (Rg.val (Val.addN rfl rfl (by have := hL.lg; unfold in64; omega)) rfl (Rg.val (Val.assign rfl) rfl (Rg.nil ?_)))))))
              refine Rx.meet (i + 1) ⟨⟨by omega, any_drop hG_i hx6 (by simp [hugeL, *])⟩, by show gs.length - (i + 1) < gs.length - i; omega⟩ ⟨rfl, rfl, trivial⟩ trivial
          · replace c4 := of_decide_eq_false c4
            have he_ := any_end hG_i c4
            clear hG_i
            refine Cd.exit (Rx.pastE (Rx.pastE (Rx.hit (Rx.seq (Cd.seq (Cd.region (Rg.val (Val.assign rfl) rfl (Rg.nil (Rx.seq (Cd.ret (Rx.ret1 rfl rfl fun w hm_ => (⟨by unfold heavyF; rw [if_neg (by omega), if_neg (by omega), he_], hm_.below⟩))))))))))))
    · replace c2 := of_decide_eq_false c2
      refine Rg.off rfl rfl rfl rfl (Rg.off rfl rfl rfl rfl (Rg.off rfl rfl rfl rfl (Rg.on rfl rfl rfl (Rg.val (Val.pickF rfl rfl) rfl (Rg.val (Val.pickF rfl rfl) rfl (Rg.nil (Rx.seq (Cd.no rfl (Cd.skip (Rx.seq (Cd.seq (Cd.seq (Cd.region (Rg.val (Val.assign rfl) rfl (Rg.nil (Rx.seq (Cd.block ?_)))))))))))))))))
      refine Cd.loop (A := Nat) (fun i : Nat => i ≤ gs.length ∧ gs.any hugeL = (gs.drop i).any hugeL)
          (fun i : Nat => [(0, .slice ga gs.length gc), (3, .int .i64 (i : Int))])
          (fun i : Nat => [])
          (fun i : Nat => gs.length - i) 0 ?_ ⟨rfl, rfl, trivial⟩ trivial ?_
      · exact ⟨Nat.zero_le _, rfl⟩
      · rintro i ⟨hi_i, hG_i⟩
        show Cd _ _ _ _ _ [(0, .slice ga gs.length gc), (3, .int .i64 (i : Int))] []
        refine Cd.seq (Cd.seq (Cd.region (Rg.val (Val.move rfl) rfl (Rg.val (Val.move rfl) rfl (Rg.val (Val.len Try.underlying74 rfl) rfl (Rg.val (Val.lss rfl rfl) rfl (Rg.nil (Rx.seq (Cd.cond rfl (fun c8 => ?_) (fun c8 => ?_))))))))))
        · replace c8 := of_decide_eq_true c8
          refine Cd.skip (Rx.seq (Cd.seq (Cd.block (Cd.seq (Cd.region (Rg.val (Val.move rfl) rfl (Rg.val (Val.move rfl) rfl ?_)))))))
          obtain ⟨x9, hx10⟩ : ∃ x, gs[i]? = some x := ⟨_, List.getElem?_eq_getElem (by omega)⟩
          refine Rg.val (Val.ide Try.underlying74 sz132 rfl rfl hL.rds (by first | rfl | omega | (simp; done)) hx10 (Nat.le_refl _)) rfl (Rg.val (Val.fae (k := 1) rfl (hL.rds.ne hx10) fa132_1) rfl (Rg.val (Val.loadE (k := 1) rfl sc28 hL.rds hx10 rfl) rfl (Rg.val (Val.len Try.underlying28 rfl) rfl (Rg.val (Val.gtr rfl rfl) rfl (Rg.nil (Rx.seq (Cd.cond rfl (fun c11 => ?_) (fun c11 => ?_))))))))
          · replace c11 := of_decide_eq_true c11
            have he_ := any_hit hG_i hx10 (by simp [hugeL, *])
            clear hG_i
            refine Cd.seq (Cd.region (Rg.val (Val.assign rfl) rfl (Rg.nil (Rx.seq (Cd.ret (Rx.inr (Rx.pastR (Rx.pastR (Rx.inr (Rx.pastR (Rx.ret1 rfl rfl fun w hm_ => (⟨by unfold heavyF; rw [if_neg (by omega), if_neg (by omega), he_], hm_.below⟩))))))))))))
          · replace c11 := of_decide_eq_false c11
            refine Cd.skip (Rx.inb (Rx.seq (Cd.region (Rg.val (Val.move rfl) rfl (Rg.val (Val.addN rfl rfl (by have := hL.lg; unfold in64; omega)) rfl (Rg.val (Val.assign rfl) rfl (Rg.nil ?_)))))))
            refine Rx.meet (i + 1) ⟨⟨by omega, any_drop hG_i hx10 (by simp [hugeL, *])⟩, by show gs.length - (i + 1) < gs.length - i; omega⟩ ⟨rfl, rfl, trivial⟩ trivial
        · replace c8 := of_decide_eq_false c8
          have he_ := any_end hG_i c8
          clear hG_i
          refine Cd.exit (Rx.pastE (Rx.pastE (Rx.hit (Rx.seq (Cd.seq (Cd.region (Rg.val (Val.assign rfl) rfl (Rg.nil (Rx.seq (Cd.ret (Rx.ret1 rfl rfl fun w hm_ => (⟨by unfold heavyF; rw [if_neg (by omega), if_neg (by omega), he_], hm_.below⟩))))))))))))

end Go.Proofs.Ytdmkedbmoboamaa
