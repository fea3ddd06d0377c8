/- Walks of functions of the program: what each returns, told by plain functions. -/
import Derived.Test.YtdmkedbmoboamaaA15
namespace Go.Proofs.Ytdmkedbmoboamaa
open Go.Kx Go.RowKit
set_option maxRecDepth 100000
set_option linter.unusedVariables false
set_option linter.unusedSimpArgs false
set_option linter.unnecessarySimpa false
set_option linter.constructorNameAsVariable false
def facS : Nat → Nat → Int → Int
  | 0, _, q => q
  | m + 1, j, q => facS m (j + 1) (Min.min (q * (j : Int)) 5041)
/-- The product of the factorials of the teams' counts, at most 5041. -/
def manyF (J : Jb) : Nat → Nat → Int → Int
  | 0, _, r => r
  | m + 1, k, r => manyF J m (k + 1) (facS ((memF (k : Int) 0 J.ts).length - 1) 2 r)
theorem fac_next {n j : Nat} {q : Int} (h : (j : Int) ≤ (n : Int)) : facS (n + 1 - j) j q = facS (n + 1 - (j + 1)) (j + 1) (Min.min (q * (j : Int)) 5041) := by
  rw [show n + 1 - j = (n + 1 - (j + 1)) + 1 from by omega]; rfl
theorem fac_end {n j : Nat} {q : Int} (h : ¬ (j : Int) ≤ (n : Int)) : facS (n + 1 - j) j q = q := by
  rw [show n + 1 - j = 0 from by omega]; rfl
theorem many_next {J : Jb} {i : Nat} {r q : Int} (h : (i : Int) < (J.gs.length : Int)) (e : q = facS ((memF (i : Int) 0 J.ts).length - 1) 2 r) : manyF J (J.gs.length - i) i r = manyF J (J.gs.length - (i + 1)) (i + 1) q := by
  rw [show J.gs.length - i = (J.gs.length - (i + 1)) + 1 from by omega, e]; rfl
theorem many_end {J : Jb} {i : Nat} {r : Int} (h : ¬ (i : Int) < (J.gs.length : Int)) : manyF J (J.gs.length - i) i r = r := by
  rw [show J.gs.length - i = 0 from by omega]; rfl
theorem mul_bd {q : Int} {j : Nat} (h1 : 1 ≤ q ∧ q ≤ 5041) (h2 : 2 ≤ j ∧ j ≤ 30) : 1 ≤ q * (j : Int) ∧ q * (j : Int) ≤ 151230 := by
  have a := Int.mul_le_mul h1.2 (show (j : Int) ≤ 30 by omega) (by omega) (by omega)
  have b := Int.mul_le_mul h1.1 (show (1 : Int) ≤ (j : Int) by omega) (by omega) (by omega)
  omega
theorem many_gives (J : Jb) (w : World) (hJ : JobAt w J) (hn : J.ts.length ≤ 24) : Gives Try.prog 32 #[.agg #[.slice J.ta J.ts.length J.tc, .slice J.aa J.ls.length J.ac, .slice J.ga J.gs.length J.gc]] w (.int .i64 (manyF J J.gs.length 0 1)) := by
  refine calls_of (vs := [.agg #[.slice J.ta J.ts.length J.tc, .slice J.aa J.ls.length J.ac, .slice J.ga J.gs.length J.gc]]) Try.func32 rfl rfl rfl ?_
  show Cd _ _ _ _ _ [(0, .agg #[.slice J.ta J.ts.length J.tc, .slice J.aa J.ls.length J.ac, .slice J.ga J.gs.length J.gc])] []
  refine Cd.seq (Cd.region (Rg.eff (Eff.box 1 rfl rfl) rfl fun b1 _ => (Rg.val (Val.assign rfl) rfl (Rg.nil (Rx.seq (Cd.seq (Cd.region (Rg.val (Val.assign rfl) rfl (Rg.nil (Rx.seq (Cd.seq (Cd.seq (Cd.region (Rg.val (Val.assign rfl) rfl (Rg.nil (Rx.seq (Cd.block ?_)))))))))))))))))
  refine Cd.loop (A := Nat × Int) (fun pr_ : Nat × Int => match pr_ with | (i, r) => i ≤ J.gs.length ∧ manyF J (J.gs.length - i) i r = manyF J J.gs.length 0 1 ∧ 1 ≤ r ∧ r ≤ 5041)
      (fun pr_ : Nat × Int => match pr_ with | (i, r) => [(1, .pointer (some ⟨b1, 0, none⟩)), (2, .int .i64 0), (3, .int .i64 r), (4, .int .i64 (i : Int))])
      (fun pr_ : Nat × Int => match pr_ with | (i, r) => [(1, blk b1 [.slice J.ta J.ts.length J.tc, .slice J.aa J.ls.length J.ac, .slice J.ga J.gs.length J.gc] 26)])
      (fun pr_ : Nat × Int => match pr_ with | (i, r) => J.gs.length - i) (0, 1) ?_ ⟨rfl, rfl, rfl, rfl, trivial⟩ ⟨rfl, trivial⟩ ?_
  · exact ⟨by omega, rfl, by omega, by omega⟩
  · rintro ⟨i, r⟩ ⟨hi, hG, hrb⟩
    show Cd _ _ _ _ _ [(1, .pointer (some ⟨b1, 0, none⟩)), (2, .int .i64 0), (3, .int .i64 r), (4, .int .i64 (i : Int))] [(1, blk b1 [.slice J.ta J.ts.length J.tc, .slice J.aa J.ls.length J.ac, .slice J.ga J.gs.length J.gc] 26)]
    refine Cd.seq (Cd.seq (Cd.region (Rg.val (Val.move rfl) rfl (Rg.val (Val.fa rfl (fa26_2 _ _)) rfl (Rg.val (Val.load (l := 1) rfl rfl sc24 rfl) rfl (Rg.val (Val.len Try.underlying24 rfl) rfl (Rg.val (Val.lss rfl rfl) rfl (Rg.nil (Rx.seq (Cd.cond rfl (fun c1 => ?_) (fun c1 => ?_)))))))))))
    · replace c1 := of_decide_eq_true c1
      refine Cd.skip (Rx.seq (Cd.seq (Cd.block (Cd.seq (Cd.region (Rg.val (Val.assign rfl) rfl (Rg.nil (Rx.seq (Cd.block ?_)))))))))
      refine Cd.loop (A := Nat × Int) (fun pr_ : Nat × Int => match pr_ with | (j, q) => 2 ≤ j ∧ j ≤ 25 ∧ facS ((memF (i : Int) 0 J.ts).length + 1 - j) j q = facS ((memF (i : Int) 0 J.ts).length - 1) 2 r ∧ 1 ≤ q ∧ q ≤ 5041)
          (fun pr_ : Nat × Int => match pr_ with | (j, q) => [(1, .pointer (some ⟨b1, 0, none⟩)), (2, .int .i64 0), (3, .int .i64 q), (4, .int .i64 (i : Int)), (5, .int .i64 (j : Int))])
          (fun pr_ : Nat × Int => match pr_ with | (j, q) => [(1, blk b1 [.slice J.ta J.ts.length J.tc, .slice J.aa J.ls.length J.ac, .slice J.ga J.gs.length J.gc] 26)])
          (fun pr_ : Nat × Int => match pr_ with | (j, q) => (memF (i : Int) 0 J.ts).length + 1 - j) (2, r) ?_ ⟨rfl, rfl, rfl, rfl, rfl, trivial⟩ ⟨rfl, trivial⟩ ?_
      · exact ⟨by omega, by omega, rfl, by omega, by omega⟩
      · rintro ⟨j, q⟩ ⟨hj2, hj25, hq, hqb⟩
        show Cd _ _ _ _ _ [(1, .pointer (some ⟨b1, 0, none⟩)), (2, .int .i64 0), (3, .int .i64 q), (4, .int .i64 (i : Int)), (5, .int .i64 (j : Int))] [(1, blk b1 [.slice J.ta J.ts.length J.tc, .slice J.aa J.ls.length J.ac, .slice J.ga J.gs.length J.gc] 26)]
        refine Cd.seq (Cd.seq (Cd.region (Rg.val (Val.move rfl) rfl (Rg.val (Val.loadAll (l := 1) rfl rfl ag26 rfl) rfl (Rg.val (Val.move rfl) rfl (Rg.eff (Eff.give rfl rfl en67 rfl (fun w hm => count_gives J (i : Int) w (Mem.job hm hJ) hn)) rfl fun _ _ => (Rg.val (Val.leq rfl rfl) rfl (Rg.nil (Rx.seq (Cd.cond rfl (fun c2 => ?_) (fun c2 => ?_)))))))))))
        · replace c2 := of_decide_eq_true c2
          refine Cd.skip (Rx.seq (Cd.seq (Cd.block (Cd.region (Rg.val (Val.move rfl) rfl (Rg.val (Val.move rfl) rfl (Rg.val (Val.mulN rfl rfl (by have := mul_bd hqb ⟨hj2, by omega⟩; unfold in64; omega)) rfl (Rg.val (Val.min rfl rfl) rfl (Rg.val (Val.assign rfl) rfl (Rg.nil (Rx.inb (Rx.seq (Cd.region (Rg.val (Val.move rfl) rfl (Rg.val (Val.addN rfl rfl (by have := hJ.lgs; unfold in64; omega)) rfl (Rg.val (Val.assign rfl) rfl (Rg.nil ?_)))))))))))))))))
          refine Rx.meet (j + 1, Min.min (q * (j : Int)) 5041) ⟨⟨by omega, by have := memF_le (i : Int) 0 J.ts; omega, (fac_next c2).symm.trans hq, by have := mul_bd hqb ⟨by omega, by omega⟩; omega, by omega⟩, by show (memF (i : Int) 0 J.ts).length + 1 - (j + 1) < (memF (i : Int) 0 J.ts).length + 1 - j; omega⟩ ⟨rfl, rfl, rfl, rfl, rfl, trivial⟩ ⟨rfl, trivial⟩
        · replace c2 := of_decide_eq_false c2
          refine Cd.exit (Rx.pastE (Rx.pastE (Rx.hit (Rx.inb (Rx.seq (Cd.region (Rg.val (Val.move rfl) rfl (Rg.val (Val.addN rfl rfl (by have := hJ.lgs; unfold in64; omega)) rfl (Rg.val (Val.assign rfl) rfl (Rg.nil ?_))))))))))
          refine Rx.meet (i + 1, q) ⟨⟨by omega, (many_next c1 ((fac_end c2).symm.trans hq)).symm.trans hG, hqb⟩, by show J.gs.length - (i + 1) < J.gs.length - i; omega⟩ ⟨rfl, rfl, rfl, rfl, trivial⟩ ⟨rfl, trivial⟩
    · replace c1 := of_decide_eq_false c1
      refine Cd.exit (Rx.pastE (Rx.pastE (Rx.hit (Rx.seq (Cd.seq (Cd.region (Rg.val (Val.move rfl) rfl (Rg.val (Val.assign rfl) rfl (Rg.nil (Rx.seq (Cd.ret (Rx.ret1 rfl rfl fun w hm_ => (⟨by rw [← hG, many_end c1], hm_.below⟩)))))))))))))

/-- When the last task ends. -/
def endF (e : Int) : List Int → List Tk → Int
  | s :: ss, t :: ts => endF (Max.max e (s + t.m)) ss ts
  | _, _ => e
theorem end_nil {e : Int} {ss : List Int} {ts : List Tk} {i : Nat} (h : ss.length ≤ i) : endF e (ss.drop i) (ts.drop i) = e := by
  rw [List.drop_eq_nil_of_le h, endF]
  intros; contradiction
theorem end_next {e s : Int} {t : Tk} {ss : List Int} {ts : List Tk} {i : Nat} (h1 : ss[i]? = some s) (h2 : ts[i]? = some t) : endF e (ss.drop i) (ts.drop i) = endF (Max.max e (s + t.m)) (ss.drop (i + 1)) (ts.drop (i + 1)) := by
  rw [dropc h1, dropc h2, endF]
theorem ends_gives (J : Jb) (sa : Option Addr) (sc : Nat) (ss : List Int) (w : World) (hJ : JobAt w J) (hSs : Rdb w sa 1 encI ss) (hsl : ss.length ≤ 9223372036854775807) (hss : ss.length = J.ts.length) (hsb : ∀ x ∈ ss, 0 ≤ x ∧ x ≤ 1099511627776) (hmb : ∀ t ∈ J.ts, 0 ≤ t.m ∧ t.m ≤ 10080) : Gives Try.prog 34 #[.agg #[.slice J.ta J.ts.length J.tc, .slice J.aa J.ls.length J.ac, .slice J.ga J.gs.length J.gc], .slice sa ss.length sc] w (.int .i64 (endF 0 ss J.ts)) := by
  refine calls_of (vs := [.agg #[.slice J.ta J.ts.length J.tc, .slice J.aa J.ls.length J.ac, .slice J.ga J.gs.length J.gc], .slice sa ss.length sc]) Try.func34 rfl rfl rfl ?_
  show Cd _ _ _ _ _ [(0, .agg #[.slice J.ta J.ts.length J.tc, .slice J.aa J.ls.length J.ac, .slice J.ga J.gs.length J.gc]), (1, .slice sa ss.length sc)] []
  refine Cd.seq (Cd.region (Rg.eff (Eff.box 1 rfl rfl) rfl fun b1 _ => (Rg.val (Val.assign rfl) rfl (Rg.nil (Rx.seq (Cd.seq (Cd.region (Rg.val (Val.assign rfl) rfl (Rg.nil (Rx.seq (Cd.seq (Cd.seq (Cd.region (Rg.val (Val.assign rfl) rfl (Rg.nil (Rx.seq (Cd.block ?_)))))))))))))))))
  refine Cd.loop (A := Nat × Int) (fun pr_ : Nat × Int => match pr_ with | (i, e) => i ≤ ss.length ∧ endF e (ss.drop i) (J.ts.drop i) = endF 0 ss J.ts ∧ 0 ≤ e ∧ e ≤ 1099511637856)
      (fun pr_ : Nat × Int => match pr_ with | (i, e) => [(1, .slice sa ss.length sc), (2, .pointer (some ⟨b1, 0, none⟩)), (4, .int .i64 0), (5, .int .i64 e), (6, .int .i64 (i : Int))])
      (fun pr_ : Nat × Int => match pr_ with | (i, e) => [(1, blk b1 [.slice J.ta J.ts.length J.tc, .slice J.aa J.ls.length J.ac, .slice J.ga J.gs.length J.gc] 26)])
      (fun pr_ : Nat × Int => match pr_ with | (i, e) => ss.length - i) (0, 0) ?_ ⟨rfl, rfl, rfl, rfl, rfl, trivial⟩ ⟨rfl, trivial⟩ ?_
  · exact ⟨by omega, rfl, by omega, by omega⟩
  · rintro ⟨i, e⟩ ⟨hi, hG, heb⟩
    show Cd _ _ _ _ _ [(1, .slice sa ss.length sc), (2, .pointer (some ⟨b1, 0, none⟩)), (4, .int .i64 0), (5, .int .i64 e), (6, .int .i64 (i : Int))] [(1, blk b1 [.slice J.ta J.ts.length J.tc, .slice J.aa J.ls.length J.ac, .slice J.ga J.gs.length J.gc] 26)]
    refine Cd.seq (Cd.seq (Cd.region (Rg.val (Val.move rfl) rfl (Rg.val (Val.move rfl) rfl (Rg.val (Val.len Try.underlying24 rfl) rfl (Rg.val (Val.lss rfl rfl) rfl (Rg.nil (Rx.seq (Cd.cond rfl (fun c1 => ?_) (fun c1 => ?_))))))))))
    · replace c1 := of_decide_eq_true c1
      refine Cd.skip (Rx.seq (Cd.seq (Cd.block (Cd.draw [(1, blk b1 [.slice J.ta J.ts.length J.tc, .slice J.aa J.ls.length J.ac, .slice J.ga J.gs.length J.gc] 26)] mixed rfl (Dr.take 0 rfl (by kernel_rfl) (Val.move rfl) rfl ⟨rfl, trivial⟩ (Dr.take 1 rfl (by kernel_rfl) (Val.move rfl) rfl ⟨rfl, trivial⟩ (Dr.take 2 rfl (by kernel_rfl) (Val.move rfl) rfl ⟨rfl, trivial⟩ ?_)))))))
      obtain ⟨x2, hx3⟩ : ∃ x, ss[i]? = some x := ⟨_, List.getElem?_eq_getElem (by omega)⟩
      have hs_x2 := hsb _ (List.mem_of_getElem? hx3)
      refine Dr.take 3 rfl (by kernel_rfl) (Val.ide Try.underlying24 sz2 rfl rfl hSs (by first | rfl | omega | (simp; done)) hx3 (Nat.le_refl _)) rfl ⟨rfl, trivial⟩ (Dr.take 4 rfl (by kernel_rfl) (Val.loadE (k := 0) rfl sc2 hSs hx3 rfl) rfl ⟨rfl, trivial⟩ (Dr.take 5 rfl (by kernel_rfl) (Val.fa rfl (fa26_0 _ _)) rfl ⟨rfl, trivial⟩ (Dr.take 6 rfl (by kernel_rfl) (Val.load (l := 1) rfl rfl sc22 rfl) rfl ⟨rfl, trivial⟩ (Dr.take 7 rfl (by kernel_rfl) (Val.move rfl) rfl ⟨rfl, trivial⟩ ?_))))
      obtain ⟨x4, hx5⟩ : ∃ x, J.ts[i]? = some x := ⟨_, List.getElem?_eq_getElem (by omega)⟩
      have ht_x4 := hmb _ (List.mem_of_getElem? hx5)
      refine Dr.take 8 rfl (by kernel_rfl) (Val.ide Try.underlying22 sz57 rfl rfl hJ.rts (by first | rfl | omega | (simp; done)) hx5 (Nat.le_refl _)) rfl ⟨rfl, trivial⟩ (Dr.take 9 rfl (by kernel_rfl) (Val.fae (k := 0) rfl (hJ.rts.ne hx5) fa57_0) rfl ⟨rfl, trivial⟩ (Dr.take 10 rfl (by kernel_rfl) (Val.loadE (k := 0) rfl sc2 hJ.rts hx5 rfl) rfl ⟨rfl, trivial⟩ (Dr.take 11 rfl (by kernel_rfl) (Val.addN rfl rfl (by have := hJ.lts; unfold in64; omega)) rfl ⟨rfl, trivial⟩ (Dr.take 12 rfl (by kernel_rfl) (Val.max rfl rfl) rfl ⟨rfl, trivial⟩ (Dr.take 13 rfl (by kernel_rfl) (Val.assign rfl) rfl ⟨rfl, trivial⟩ (Dr.done (by kernel_rfl) (Rx.inb (Rx.seq (Cd.region (Rg.val (Val.move rfl) rfl (Rg.val (Val.addN rfl rfl (by have := hJ.lts; unfold in64; omega)) rfl (Rg.val (Val.assign rfl) rfl (Rg.nil ?_)))))))))))))
      refine Rx.meet (i + 1, Max.max e (x2 + x4.m)) ⟨⟨by omega, (end_next hx3 hx5).symm.trans hG, by omega⟩, by show ss.length - (i + 1) < ss.length - i; omega⟩ ⟨rfl, rfl, rfl, rfl, rfl, trivial⟩ ⟨rfl, trivial⟩
    · replace c1 := of_decide_eq_false c1
      refine Cd.exit (Rx.pastE (Rx.pastE (Rx.hit (Rx.seq (Cd.seq (Cd.region (Rg.val (Val.move rfl) rfl (Rg.val (Val.assign rfl) rfl (Rg.nil (Rx.seq (Cd.ret (Rx.ret1 rfl rfl fun w hm_ => (⟨by rw [← hG, end_nil (by omega)], hm_.below⟩)))))))))))))

end Go.Proofs.Ytdmkedbmoboamaa
