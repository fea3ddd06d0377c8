/- Walks of functions of the program: what each returns, told by plain functions. -/
import Derived.Test.YtdmkedbmoboamaaA14
import Derived.Test.YtdmkedbmoboamaaPW
namespace Go.Proofs.Ytdmkedbmoboamaa
open Go.Kx Go.RowKit
set_option maxRecDepth 100000
set_option linter.unusedVariables false
set_option linter.unusedSimpArgs false
set_option linter.unnecessarySimpa false
set_option linter.constructorNameAsVariable false
theorem before_gives (J : Jb) (sa : Option Addr) (sc : Nat) (ss : List Int) (a b : Int) (w : World) (hJ : JobAt w J) (hSs : Rdb w sa 1 encI ss) (hsl : ss.length ≤ 9223372036854775807) (hsn : ss.length = J.ts.length) (ha : 0 ≤ a ∧ a < J.ts.length) (hb : 0 ≤ b ∧ b < J.ts.length) : Gives Try.prog 80 #[.agg #[.slice J.ta J.ts.length J.tc, .slice J.aa J.ls.length J.ac, .slice J.ga J.gs.length J.gc], .slice sa ss.length sc, .int .i64 a, .int .i64 b] w (.bool (befF J ss a b)) := by
  refine calls_of (vs := [.agg #[.slice J.ta J.ts.length J.tc, .slice J.aa J.ls.length J.ac, .slice J.ga J.gs.length J.gc], .slice sa ss.length sc, .int .i64 a, .int .i64 b]) Try.func80 rfl rfl rfl ?_
  show Cd _ _ _ _ _ [(0, .agg #[.slice J.ta J.ts.length J.tc, .slice J.aa J.ls.length J.ac, .slice J.ga J.gs.length J.gc]), (1, .slice sa ss.length sc), (2, .int .i64 a), (3, .int .i64 b)] []
  refine Cd.seq (Cd.region (Rg.eff (Eff.box 1 rfl rfl) rfl fun b1 _ => (Rg.val (Val.assign rfl) rfl (Rg.nil (Rx.seq (Cd.seq (Cd.seq (Cd.draw [(1, blk b1 [.slice J.ta J.ts.length J.tc, .slice J.aa J.ls.length J.ac, .slice J.ga J.gs.length J.gc] 26)] mixed rfl (Dr.take 0 rfl (by kernel_rfl) (Val.move rfl) rfl ⟨rfl, trivial⟩ (Dr.take 1 rfl (by kernel_rfl) (Val.move rfl) rfl ⟨rfl, trivial⟩ ?_))))))))))
  obtain ⟨x1, hx2⟩ : ∃ x, ss[(Int.toNat a)]? = some x := ⟨_, List.getElem?_eq_getElem (by omega)⟩
  refine Dr.take 2 rfl (by kernel_rfl) (Val.ide Try.underlying24 sz2 rfl rfl hSs (by first | rfl | omega | (simp; done)) hx2 (Nat.le_refl _)) rfl ⟨rfl, trivial⟩ (Dr.take 3 rfl (by kernel_rfl) (Val.loadE (k := 0) rfl sc2 hSs hx2 rfl) rfl ⟨rfl, trivial⟩ (Dr.take 4 rfl (by kernel_rfl) (Val.move rfl) rfl ⟨rfl, trivial⟩ (Dr.take 5 rfl (by kernel_rfl) (Val.move rfl) rfl ⟨rfl, trivial⟩ ?_)))
  obtain ⟨x3, hx4⟩ : ∃ x, ss[(Int.toNat b)]? = some x := ⟨_, List.getElem?_eq_getElem (by omega)⟩
  refine Dr.take 6 rfl (by kernel_rfl) (Val.ide Try.underlying24 sz2 rfl rfl hSs (by first | rfl | omega | (simp; done)) hx4 (Nat.le_refl _)) rfl ⟨rfl, trivial⟩ (Dr.take 7 rfl (by kernel_rfl) (Val.loadE (k := 0) rfl sc2 hSs hx4 rfl) rfl ⟨rfl, trivial⟩ (Dr.take 8 rfl (by kernel_rfl) (Val.neq rfl rfl) rfl ⟨rfl, trivial⟩ (Dr.done (by kernel_rfl) (Rx.seq (Cd.cond rfl (fun c5 => ?_) (fun c5 => ?_))))))
  · replace c5 := bnot_t c5
    replace c5 := of_decide_eq_false c5
    refine Cd.seq (Cd.draw [(1, blk b1 [.slice J.ta J.ts.length J.tc, .slice J.aa J.ls.length J.ac, .slice J.ga J.gs.length J.gc] 26)] mixed rfl (Dr.take 0 rfl (by kernel_rfl) (Val.move rfl) rfl ⟨rfl, trivial⟩ (Dr.take 1 rfl (by kernel_rfl) (Val.move rfl) rfl ⟨rfl, trivial⟩ (Dr.take 2 rfl (by kernel_rfl) (Val.ide Try.underlying24 sz2 rfl rfl hSs (by first | rfl | omega | (simp; done)) hx2 (Nat.le_refl _)) rfl ⟨rfl, trivial⟩ (Dr.take 3 rfl (by kernel_rfl) (Val.loadE (k := 0) rfl sc2 hSs hx2 rfl) rfl ⟨rfl, trivial⟩ (Dr.take 4 rfl (by kernel_rfl) (Val.move rfl) rfl ⟨rfl, trivial⟩ (Dr.take 5 rfl (by kernel_rfl) (Val.move rfl) rfl ⟨rfl, trivial⟩ (Dr.take 6 rfl (by kernel_rfl) (Val.ide Try.underlying24 sz2 rfl rfl hSs (by first | rfl | omega | (simp; done)) hx4 (Nat.le_refl _)) rfl ⟨rfl, trivial⟩ (Dr.take 7 rfl (by kernel_rfl) (Val.loadE (k := 0) rfl sc2 hSs hx4 rfl) rfl ⟨rfl, trivial⟩ (Dr.take 8 rfl (by kernel_rfl) (Val.lss rfl rfl) rfl ⟨rfl, trivial⟩ (Dr.take 9 rfl (by kernel_rfl) (Val.assign rfl) rfl ⟨rfl, trivial⟩ (Dr.done (by kernel_rfl) (Rx.seq (Cd.ret (Rx.pastR (Rx.ret1 rfl rfl fun w hm_ => (⟨congrArg (fun z => Ending.returned (.bool z)) (by unfold befF; rw [at_of hx2, at_of hx4]; rw [if_neg c5]), hm_.below⟩)))))))))))))))))
  · replace c5 := bnot_f c5
    replace c5 := of_decide_eq_true c5
    refine Cd.skip (Rx.seq (Cd.seq (Cd.seq (Cd.draw [(1, blk b1 [.slice J.ta J.ts.length J.tc, .slice J.aa J.ls.length J.ac, .slice J.ga J.gs.length J.gc] 26)] mixed rfl (Dr.take 0 rfl (by kernel_rfl) (Val.fa rfl (fa26_0 _ _)) rfl ⟨rfl, trivial⟩ (Dr.take 1 rfl (by kernel_rfl) (Val.load (l := 1) rfl rfl sc22 rfl) rfl ⟨rfl, trivial⟩ (Dr.take 2 rfl (by kernel_rfl) (Val.move rfl) rfl ⟨rfl, trivial⟩ ?_)))))))
    obtain ⟨x6, hx7⟩ : ∃ x, J.ts[(Int.toNat a)]? = some x := ⟨_, List.getElem?_eq_getElem (by omega)⟩
    refine Dr.take 3 rfl (by kernel_rfl) (Val.ide Try.underlying22 sz57 rfl rfl hJ.rts (by first | rfl | omega | (simp; done)) hx7 (Nat.le_refl _)) rfl ⟨rfl, trivial⟩ (Dr.take 4 rfl (by kernel_rfl) (Val.fae (k := 0) rfl (hJ.rts.ne hx7) fa57_0) rfl ⟨rfl, trivial⟩ (Dr.take 5 rfl (by kernel_rfl) (Val.loadE (k := 0) rfl sc2 hJ.rts hx7 rfl) rfl ⟨rfl, trivial⟩ (Dr.take 6 rfl (by kernel_rfl) (Val.fa rfl (fa26_0 _ _)) rfl ⟨rfl, trivial⟩ (Dr.take 7 rfl (by kernel_rfl) (Val.load (l := 1) rfl rfl sc22 rfl) rfl ⟨rfl, trivial⟩ (Dr.take 8 rfl (by kernel_rfl) (Val.move rfl) rfl ⟨rfl, trivial⟩ ?_)))))
    obtain ⟨x8, hx9⟩ : ∃ x, J.ts[(Int.toNat b)]? = some x := ⟨_, List.getElem?_eq_getElem (by omega)⟩
    refine Dr.take 9 rfl (by kernel_rfl) (Val.ide Try.underlying22 sz57 rfl rfl hJ.rts (by first | rfl | omega | (simp; done)) hx9 (Nat.le_refl _)) rfl ⟨rfl, trivial⟩ (Dr.take 10 rfl (by kernel_rfl) (Val.fae (k := 0) rfl (hJ.rts.ne hx9) fa57_0) rfl ⟨rfl, trivial⟩ (Dr.take 11 rfl (by kernel_rfl) (Val.loadE (k := 0) rfl sc2 hJ.rts hx9 rfl) rfl ⟨rfl, trivial⟩ (Dr.take 12 rfl (by kernel_rfl) (Val.neq rfl rfl) rfl ⟨rfl, trivial⟩ (Dr.done (by kernel_rfl) (Rx.seq (Cd.cond rfl (fun c10 => ?_) (fun c10 => ?_)))))))
    · replace c10 := bnot_t c10
      replace c10 := of_decide_eq_false c10
      refine Cd.seq (Cd.draw [(1, blk b1 [.slice J.ta J.ts.length J.tc, .slice J.aa J.ls.length J.ac, .slice J.ga J.gs.length J.gc] 26)] mixed rfl (Dr.take 0 rfl (by kernel_rfl) (Val.fa rfl (fa26_0 _ _)) rfl ⟨rfl, trivial⟩ (Dr.take 1 rfl (by kernel_rfl) (Val.load (l := 1) rfl rfl sc22 rfl) rfl ⟨rfl, trivial⟩ (Dr.take 2 rfl (by kernel_rfl) (Val.move rfl) rfl ⟨rfl, trivial⟩ (Dr.take 3 rfl (by kernel_rfl) (Val.ide Try.underlying22 sz57 rfl rfl hJ.rts (by first | rfl | omega | (simp; done)) hx7 (Nat.le_refl _)) rfl ⟨rfl, trivial⟩ (Dr.take 4 rfl (by kernel_rfl) (Val.fae (k := 0) rfl (hJ.rts.ne hx7) fa57_0) rfl ⟨rfl, trivial⟩ (Dr.take 5 rfl (by kernel_rfl) (Val.loadE (k := 0) rfl sc2 hJ.rts hx7 rfl) rfl ⟨rfl, trivial⟩ (Dr.take 6 rfl (by kernel_rfl) (Val.fa rfl (fa26_0 _ _)) rfl ⟨rfl, trivial⟩ (Dr.take 7 rfl (by kernel_rfl) (Val.load (l := 1) rfl rfl sc22 rfl) rfl ⟨rfl, trivial⟩ (Dr.take 8 rfl (by kernel_rfl) (Val.move rfl) rfl ⟨rfl, trivial⟩ (Dr.take 9 rfl (by kernel_rfl) (Val.ide Try.underlying22 sz57 rfl rfl hJ.rts (by first | rfl | omega | (simp; done)) hx9 (Nat.le_refl _)) rfl ⟨rfl, trivial⟩ (Dr.take 10 rfl (by kernel_rfl) (Val.fae (k := 0) rfl (hJ.rts.ne hx9) fa57_0) rfl ⟨rfl, trivial⟩ (Dr.take 11 rfl (by kernel_rfl) (Val.loadE (k := 0) rfl sc2 hJ.rts hx9 rfl) rfl ⟨rfl, trivial⟩ (Dr.take 12 rfl (by kernel_rfl) (Val.lss rfl rfl) rfl ⟨rfl, trivial⟩ (Dr.take 13 rfl (by kernel_rfl) (Val.assign rfl) rfl ⟨rfl, trivial⟩ (Dr.done (by kernel_rfl) (Rx.seq (Cd.ret (Rx.pastR (Rx.ret1 rfl rfl fun w hm_ => (⟨congrArg (fun z => Ending.returned (.bool z)) (by unfold befF; rw [at_of hx2, at_of hx4, getM_of hx7, getM_of hx9]; rw [if_pos c5, if_neg c10]), hm_.below⟩)))))))))))))))))))))
    · replace c10 := bnot_f c10
      replace c10 := of_decide_eq_true c10
      refine Cd.skip (Rx.seq (Cd.seq (Cd.region (Rg.val (Val.move rfl) rfl (Rg.val (Val.move rfl) rfl (Rg.val (Val.lss rfl rfl) rfl (Rg.val (Val.assign rfl) rfl (Rg.nil (Rx.seq (Cd.ret (Rx.ret1 rfl rfl fun w hm_ => (⟨congrArg (fun z => Ending.returned (.bool z)) (by unfold befF; rw [at_of hx2, at_of hx4, getM_of hx7, getM_of hx9]; rw [if_pos c5, if_pos c10]), hm_.below⟩))))))))))))

theorem same_ints {xs ys : List Int} (hl : xs.length = ys.length) (h : ∀ j x y, j < xs.length → xs[j]? = some x → ys[j]? = some y → x = y) : xs = ys := by
  refine List.ext_getElem? fun k => ?_
  by_cases hk : k < xs.length
  · have e1 := List.getElem?_eq_getElem hk
    have e2 := List.getElem?_eq_getElem (l := ys) (i := k) (by omega)
    rw [e1, e2, h k _ _ hk e1 e2]
  · rw [List.getElem?_eq_none (by omega), List.getElem?_eq_none (by omega)]
theorem same_next {xs ys : List Int} {i : Nat} {x y : Int} (h : ∀ j x y, j < i → xs[j]? = some x → ys[j]? = some y → x = y) (hx : xs[i]? = some x) (hy : ys[i]? = some y) (e : x = y) : ∀ j x y, j < i + 1 → xs[j]? = some x → ys[j]? = some y → x = y := fun j u v hj hu hv => by
  by_cases e2 : j = i
  · subst e2; rw [hx] at hu; rw [hy] at hv; injection hu with hu; injection hv with hv; omega
  · exact h j u v (by omega) hu hv
theorem same_rows {os o2 : List Rw} (hl : os.length = o2.length) (h : ∀ j r s, j < os.length → os[j]? = some r → o2[j]? = some s → r.xs = s.xs) : os.map Rw.xs = o2.map Rw.xs := by
  refine List.ext_getElem? fun k => ?_
  rw [List.getElem?_map, List.getElem?_map]
  by_cases hk : k < os.length
  · have e1 := List.getElem?_eq_getElem hk
    have e2 := List.getElem?_eq_getElem (l := o2) (i := k) (by omega)
    rw [e1, e2, Option.map_some, Option.map_some, h k _ _ hk e1 e2]
  · rw [List.getElem?_eq_none (by omega), List.getElem?_eq_none (by omega)]
theorem rows_at {os o2 : List Rw} (h : os.map Rw.xs = o2.map Rw.xs) {i : Nat} {r s : Rw} (hr : os[i]? = some r) (hs : o2[i]? = some s) : r.xs = s.xs := map_at h hr hs
theorem rows_next {os o2 : List Rw} {i : Nat} {x y : Rw} (h : ∀ j r s, j < i → os[j]? = some r → o2[j]? = some s → r.xs = s.xs) (hx : os[i]? = some x) (hy : o2[i]? = some y) (e : x.xs = y.xs) : ∀ j r s, j < i + 1 → os[j]? = some r → o2[j]? = some s → r.xs = s.xs := fun j u v hj hu hv => by
  by_cases e2 : j = i
  · subst e2; rw [hx] at hu; rw [hy] at hv; injection hu with hu; injection hv with hv; subst hu hv; exact e
  · exact h j u v (by omega) hu hv
theorem longs_gives (sa : Option Addr) (sc : Nat) (ss : List Int) (sa2 : Option Addr) (sd2 : Nat) (s2 : List Int) (w : World) (hSs : Rdb w sa 1 encI ss) (hsl : ss.length ≤ 9223372036854775807) (hSs2 : Rdb w sa2 1 encI s2) (hsl2 : s2.length ≤ 9223372036854775807) : Gives Try.prog 30 #[.slice sa ss.length sc, .slice sa2 s2.length sd2] w (.bool (decide (ss = s2))) := by
  refine calls_of (vs := [.slice sa ss.length sc, .slice sa2 s2.length sd2]) Try.func30 rfl rfl rfl ?_
  show Cd _ _ _ _ _ [(0, .slice sa ss.length sc), (1, .slice sa2 s2.length sd2)] []
  refine Cd.seq (Cd.region (Rg.val (Val.assign rfl) rfl (Rg.nil (Rx.seq (Cd.seq (Cd.seq (Cd.region (Rg.val (Val.move rfl) rfl (Rg.val (Val.len Try.underlying24 rfl) rfl (Rg.val (Val.move rfl) rfl (Rg.val (Val.len Try.underlying24 rfl) rfl (Rg.val (Val.neq rfl rfl) rfl (Rg.nil (Rx.seq (Cd.cond rfl (fun c1 => ?_) (fun c1 => ?_))))))))))))))))
  · replace c1 := bnot_t c1
    replace c1 := of_decide_eq_false c1
    refine Cd.seq (Cd.region (Rg.val (Val.assign rfl) rfl (Rg.nil (Rx.seq (Cd.ret (Rx.pastR (Rx.ret1 rfl rfl fun w hm_ => (⟨by rw [decide_eq_false (fun h_ => by have e_ := congrArg List.length h_; omega)], hm_.below⟩))))))))
  · replace c1 := bnot_f c1
    replace c1 := of_decide_eq_true c1
    refine Cd.skip (Rx.seq (Cd.seq (Cd.seq (Cd.region (Rg.val (Val.assign rfl) rfl (Rg.nil (Rx.seq (Cd.block ?_))))))))
    refine Cd.loop (A := Nat) (fun i : Nat => i ≤ ss.length ∧ ∀ j x y, j < i → ss[j]? = some x → s2[j]? = some y → x = y)
        (fun i : Nat => [(0, .slice sa ss.length sc), (1, .slice sa2 s2.length sd2), (5, .int .i64 (i : Int))])
        (fun i : Nat => [])
        (fun i : Nat => ss.length - i) 0 ?_ ⟨rfl, rfl, rfl, trivial⟩ trivial ?_
    · exact ⟨Nat.zero_le _, fun j x y h => absurd h (by omega)⟩
    · rintro i ⟨hi, hE⟩
      show Cd _ _ _ _ _ [(0, .slice sa ss.length sc), (1, .slice sa2 s2.length sd2), (5, .int .i64 (i : Int))] []
      refine Cd.seq (Cd.seq (Cd.region (Rg.val (Val.move rfl) rfl (Rg.val (Val.move rfl) rfl (Rg.val (Val.len Try.underlying24 rfl) rfl (Rg.val (Val.lss rfl rfl) rfl (Rg.nil (Rx.seq (Cd.cond rfl (fun c2 => ?_) (fun c2 => ?_))))))))))
      · replace c2 := of_decide_eq_true c2
        refine Cd.skip (Rx.seq (Cd.seq (Cd.block (Cd.seq (Cd.draw [] mixed rfl (Dr.take 0 rfl (by kernel_rfl) (Val.move rfl) rfl trivial (Dr.take 1 rfl (by kernel_rfl) (Val.move rfl) rfl trivial ?_)))))))
        obtain ⟨x3, hx4⟩ : ∃ x, ss[i]? = some x := ⟨_, List.getElem?_eq_getElem (by omega)⟩
        refine Dr.take 2 rfl (by kernel_rfl) (Val.ide Try.underlying24 sz2 rfl rfl hSs (by first | rfl | omega | (simp; done)) hx4 (Nat.le_refl _)) rfl trivial (Dr.take 3 rfl (by kernel_rfl) (Val.loadE (k := 0) rfl sc2 hSs hx4 rfl) rfl trivial (Dr.take 4 rfl (by kernel_rfl) (Val.move rfl) rfl trivial (Dr.take 5 rfl (by kernel_rfl) (Val.move rfl) rfl trivial ?_)))
        obtain ⟨x5, hx6⟩ : ∃ x, s2[i]? = some x := ⟨_, List.getElem?_eq_getElem (by omega)⟩
        refine Dr.take 6 rfl (by kernel_rfl) (Val.ide Try.underlying24 sz2 rfl rfl hSs2 (by first | rfl | omega | (simp; done)) hx6 (Nat.le_refl _)) rfl trivial (Dr.take 7 rfl (by kernel_rfl) (Val.loadE (k := 0) rfl sc2 hSs2 hx6 rfl) rfl trivial (Dr.take 8 rfl (by kernel_rfl) (Val.neq rfl rfl) rfl trivial (Dr.done (by kernel_rfl) (Rx.seq (Cd.cond rfl (fun c7 => ?_) (fun c7 => ?_))))))
        · replace c7 := bnot_t c7
          replace c7 := of_decide_eq_false c7
          refine Cd.seq (Cd.region (Rg.val (Val.assign rfl) rfl (Rg.nil (Rx.seq (Cd.ret (Rx.inr (Rx.pastR (Rx.pastR (Rx.inr (Rx.pastR (Rx.ret1 rfl rfl fun w hm_ => (⟨by rw [decide_eq_false (fun h_ => c7 (by have e_ := hx4; rw [h_, hx6] at e_; injection e_ with e_; exact e_.symm))], hm_.below⟩))))))))))))
        · replace c7 := bnot_f c7
          replace c7 := of_decide_eq_true c7
          refine Cd.skip (Rx.inb (Rx.seq (Cd.region (Rg.val (Val.move rfl) rfl (Rg.val (Val.addN rfl rfl (by unfold in64; omega)) rfl (Rg.val (Val.assign rfl) rfl (Rg.nil ?_)))))))
          refine Rx.meet (i + 1) ⟨⟨by omega, same_next hE hx4 hx6 c7⟩, by show ss.length - (i + 1) < ss.length - i; omega⟩ ⟨rfl, rfl, rfl, trivial⟩ trivial
      · replace c2 := of_decide_eq_false c2
        refine Cd.exit (Rx.pastE (Rx.pastE (Rx.hit (Rx.seq (Cd.seq (Cd.region (Rg.val (Val.assign rfl) rfl (Rg.nil (Rx.seq (Cd.ret (Rx.ret1 rfl rfl fun w hm_ => (⟨by rw [decide_eq_true (same_ints (by omega) (fun j x y hj => hE j x y (by omega)))], hm_.below⟩))))))))))))

theorem sameRows_gives (ao : Option Addr) (co : Nat) (os : List Rw) (ao2 : Option Addr) (co2 : Nat) (o2 : List Rw) (w : World) (hO : OrdAt w ao os) (hO2 : OrdAt w ao2 o2) : Gives Try.prog 29 #[.slice ao os.length co, .slice ao2 o2.length co2] w (.bool (decide (os.map Rw.xs = o2.map Rw.xs))) := by
  refine calls_of (vs := [.slice ao os.length co, .slice ao2 o2.length co2]) Try.func29 rfl rfl rfl ?_
  show Cd _ _ _ _ _ [(0, .slice ao os.length co), (1, .slice ao2 o2.length co2)] []
  refine Cd.seq (Cd.region (Rg.val (Val.assign rfl) rfl (Rg.nil (Rx.seq (Cd.seq (Cd.seq (Cd.region (Rg.val (Val.move rfl) rfl (Rg.val (Val.len Try.underlying27 rfl) rfl (Rg.val (Val.move rfl) rfl (Rg.val (Val.len Try.underlying27 rfl) rfl (Rg.val (Val.neq rfl rfl) rfl (Rg.nil (Rx.seq (Cd.cond rfl (fun c1 => ?_) (fun c1 => ?_))))))))))))))))
  · replace c1 := bnot_t c1
    replace c1 := of_decide_eq_false c1
    refine Cd.seq (Cd.region (Rg.val (Val.assign rfl) rfl (Rg.nil (Rx.seq (Cd.ret (Rx.pastR (Rx.ret1 rfl rfl fun w hm_ => (⟨by rw [decide_eq_false (fun h_ => by have e_ := congrArg List.length h_; simp only [List.length_map] at e_; omega)], hm_.below⟩))))))))
  · replace c1 := bnot_f c1
    replace c1 := of_decide_eq_true c1
    refine Cd.skip (Rx.seq (Cd.seq (Cd.seq (Cd.region (Rg.val (Val.assign rfl) rfl (Rg.nil (Rx.seq (Cd.block ?_))))))))
    refine Cd.loop (A := Nat) (fun i : Nat => i ≤ os.length ∧ ∀ j r s, j < i → os[j]? = some r → o2[j]? = some s → r.xs = s.xs)
        (fun i : Nat => [(0, .slice ao os.length co), (1, .slice ao2 o2.length co2), (5, .int .i64 (i : Int))])
        (fun i : Nat => [])
        (fun i : Nat => os.length - i) 0 ?_ ⟨rfl, rfl, rfl, trivial⟩ trivial ?_
    · exact ⟨Nat.zero_le _, fun j r s h => absurd h (by omega)⟩
    · rintro i ⟨hi, hE⟩
      show Cd _ _ _ _ _ [(0, .slice ao os.length co), (1, .slice ao2 o2.length co2), (5, .int .i64 (i : Int))] []
      refine Cd.seq (Cd.seq (Cd.region (Rg.val (Val.move rfl) rfl (Rg.val (Val.move rfl) rfl (Rg.val (Val.len Try.underlying27 rfl) rfl (Rg.val (Val.lss rfl rfl) rfl (Rg.nil (Rx.seq (Cd.cond rfl (fun c2 => ?_) (fun c2 => ?_))))))))))
      · replace c2 := of_decide_eq_true c2
        refine Cd.skip (Rx.seq (Cd.seq (Cd.block (Cd.seq (Cd.seq (Cd.draw [] mixed rfl (Dr.take 0 rfl (by kernel_rfl) (Val.move rfl) rfl trivial (Dr.take 1 rfl (by kernel_rfl) (Val.move rfl) rfl trivial ?_))))))))
        obtain ⟨x3, hx4⟩ : ∃ x, os[i]? = some x := ⟨_, List.getElem?_eq_getElem (by omega)⟩
        have hl_x3 := hO.lr _ (List.mem_of_getElem? hx4)
        refine Dr.take 2 rfl (by kernel_rfl) (Val.ide Try.underlying27 sz62 rfl rfl hO.rds (by first | rfl | omega | (simp; done)) hx4 (Nat.le_refl _)) rfl trivial (Dr.take 3 rfl (by kernel_rfl) (Val.loadE (k := 0) rfl sc62 hO.rds hx4 rfl) rfl trivial (Dr.take 4 rfl (by kernel_rfl) (Val.len Try.underlying62 rfl) rfl trivial (Dr.take 5 rfl (by kernel_rfl) (Val.move rfl) rfl trivial (Dr.take 6 rfl (by kernel_rfl) (Val.move rfl) rfl trivial ?_))))
        obtain ⟨x5, hx6⟩ : ∃ x, o2[i]? = some x := ⟨_, List.getElem?_eq_getElem (by omega)⟩
        have hl_x5 := hO2.lr _ (List.mem_of_getElem? hx6)
        refine Dr.take 7 rfl (by kernel_rfl) (Val.ide Try.underlying27 sz62 rfl rfl hO2.rds (by first | rfl | omega | (simp; done)) hx6 (Nat.le_refl _)) rfl trivial (Dr.take 8 rfl (by kernel_rfl) (Val.loadE (k := 0) rfl sc62 hO2.rds hx6 rfl) rfl trivial (Dr.take 9 rfl (by kernel_rfl) (Val.len Try.underlying62 rfl) rfl trivial (Dr.take 10 rfl (by kernel_rfl) (Val.neq rfl rfl) rfl trivial (Dr.done (by kernel_rfl) (Rx.seq (Cd.cond rfl (fun c7 => ?_) (fun c7 => ?_)))))))
        · replace c7 := bnot_t c7
          replace c7 := of_decide_eq_false c7
          refine Cd.seq (Cd.region (Rg.val (Val.assign rfl) rfl (Rg.nil (Rx.seq (Cd.ret (Rx.pastR (Rx.inr (Rx.pastR (Rx.pastR (Rx.inr (Rx.pastR (Rx.ret1 rfl rfl fun w hm_ => (⟨by rw [decide_eq_false (fun h_ => by have e_ := congrArg List.length (rows_at h_ hx4 hx6); omega)], hm_.below⟩)))))))))))))
        · replace c7 := bnot_f c7
          replace c7 := of_decide_eq_true c7
          refine Cd.skip (Rx.seq (Cd.seq (Cd.region (Rg.val (Val.assign rfl) rfl (Rg.nil (Rx.seq (Cd.block ?_)))))))
          refine Cd.loop (A := Nat) (fun k : Nat => k ≤ x3.xs.length ∧ ∀ j u v, j < k → x3.xs[j]? = some u → x5.xs[j]? = some v → u = v)
              (fun k : Nat => [(0, .slice ao os.length co), (1, .slice ao2 o2.length co2), (5, .int .i64 (i : Int)), (6, .int .i64 (k : Int))])
              (fun k : Nat => [])
              (fun k : Nat => x3.xs.length - k) 0 ?_ ⟨rfl, rfl, rfl, rfl, trivial⟩ trivial ?_
          · exact ⟨Nat.zero_le _, fun j u v h => absurd h (by omega)⟩
          · rintro k ⟨hk, hF⟩
            show Cd _ _ _ _ _ [(0, .slice ao os.length co), (1, .slice ao2 o2.length co2), (5, .int .i64 (i : Int)), (6, .int .i64 (k : Int))] []
            refine Cd.seq (Cd.seq (Cd.region (Rg.val (Val.move rfl) rfl (Rg.val (Val.move rfl) rfl (Rg.val (Val.move rfl) rfl (Rg.val (Val.ide Try.underlying27 sz62 rfl rfl hO.rds (by first | rfl | omega | (simp; done)) hx4 (Nat.le_refl _)) rfl (Rg.val (Val.loadE (k := 0) rfl sc62 hO.rds hx4 rfl) rfl (Rg.val (Val.len Try.underlying62 rfl) rfl (Rg.val (Val.lss rfl rfl) rfl (Rg.nil (Rx.seq (Cd.cond rfl (fun c8 => ?_) (fun c8 => ?_)))))))))))))
            · replace c8 := of_decide_eq_true c8
              refine Cd.skip (Rx.seq (Cd.seq (Cd.block (Cd.seq (Cd.draw [] mixed rfl (Dr.take 0 rfl (by kernel_rfl) (Val.move rfl) rfl trivial (Dr.take 1 rfl (by kernel_rfl) (Val.move rfl) rfl trivial (Dr.take 2 rfl (by kernel_rfl) (Val.ide Try.underlying27 sz62 rfl rfl hO.rds (by first | rfl | omega | (simp; done)) hx4 (Nat.le_refl _)) rfl trivial (Dr.take 3 rfl (by kernel_rfl) (Val.loadE (k := 0) rfl sc62 hO.rds hx4 rfl) rfl trivial (Dr.take 4 rfl (by kernel_rfl) (Val.move rfl) rfl trivial ?_))))))))))
              obtain ⟨x9, hx10⟩ : ∃ x, x3.xs[k]? = some x := ⟨_, List.getElem?_eq_getElem (by omega)⟩
              refine Dr.take 5 rfl (by kernel_rfl) (Val.ide Try.underlying62 sz3 rfl rfl (hO.row _ (List.mem_of_getElem? hx4)) (by first | rfl | omega | (simp; done)) hx10 (Nat.le_refl _)) rfl trivial (Dr.take 6 rfl (by kernel_rfl) (Val.loadE (k := 0) rfl sc3 (hO.row _ (List.mem_of_getElem? hx4)) hx10 rfl) rfl trivial (Dr.take 7 rfl (by kernel_rfl) (Val.move rfl) rfl trivial (Dr.take 8 rfl (by kernel_rfl) (Val.move rfl) rfl trivial (Dr.take 9 rfl (by kernel_rfl) (Val.ide Try.underlying27 sz62 rfl rfl hO2.rds (by first | rfl | omega | (simp; done)) hx6 (Nat.le_refl _)) rfl trivial (Dr.take 10 rfl (by kernel_rfl) (Val.loadE (k := 0) rfl sc62 hO2.rds hx6 rfl) rfl trivial (Dr.take 11 rfl (by kernel_rfl) (Val.move rfl) rfl trivial ?_))))))
              obtain ⟨x11, hx12⟩ : ∃ x, x5.xs[k]? = some x := ⟨_, List.getElem?_eq_getElem (by omega)⟩
              refine Dr.take 12 rfl (by kernel_rfl) (Val.ide Try.underlying62 sz3 rfl rfl (hO2.row _ (List.mem_of_getElem? hx6)) (by first | rfl | omega | (simp; done)) hx12 (Nat.le_refl _)) rfl trivial (Dr.take 13 rfl (by kernel_rfl) (Val.loadE (k := 0) rfl sc3 (hO2.row _ (List.mem_of_getElem? hx6)) hx12 rfl) rfl trivial (Dr.take 14 rfl (by kernel_rfl) (Val.neq rfl rfl) rfl trivial (Dr.done (by kernel_rfl) (Rx.seq (Cd.cond rfl (fun c13 => ?_) (fun c13 => ?_))))))
              · replace c13 := bnot_t c13
                replace c13 := of_decide_eq_false c13
                refine Cd.seq (Cd.region (Rg.val (Val.assign rfl) rfl (Rg.nil (Rx.seq (Cd.ret (Rx.inr (Rx.pastR (Rx.pastR (Rx.inr (Rx.inr (Rx.pastR (Rx.pastR (Rx.inr (Rx.pastR (Rx.ret1 rfl rfl fun w hm_ => (⟨by rw [decide_eq_false (fun h_ => c13 (by have e_ := hx10; rw [rows_at h_ hx4 hx6, hx12] at e_; injection e_ with e_; exact e_.symm))], hm_.below⟩))))))))))))))))
              · replace c13 := bnot_f c13
                replace c13 := of_decide_eq_true c13
                refine Cd.skip (Rx.inb (Rx.seq (Cd.region (Rg.val (Val.move rfl) rfl (Rg.val (Val.addN rfl rfl (by have := hO.lo; unfold in64; omega)) rfl (Rg.val (Val.assign rfl) rfl (Rg.nil ?_)))))))
                refine Rx.meet (k + 1) ⟨⟨by omega, same_next hF hx10 hx12 c13⟩, by show x3.xs.length - (k + 1) < x3.xs.length - k; omega⟩ ⟨rfl, rfl, rfl, rfl, trivial⟩ trivial
            · replace c8 := of_decide_eq_false c8
              refine Cd.exit (Rx.pastE (Rx.pastE (Rx.hit (Rx.inb (Rx.seq (Cd.region (Rg.val (Val.move rfl) rfl (Rg.val (Val.addN rfl rfl (by have := hO.lo; unfold in64; omega)) rfl (Rg.val (Val.assign rfl) rfl (Rg.nil ?_))))))))))
              refine Rx.meet (i + 1) ⟨⟨by omega, rows_next hE hx4 hx6 (same_ints (by omega) (fun j u v hj => hF j u v (by omega)))⟩, by show os.length - (i + 1) < os.length - i; omega⟩ ⟨rfl, rfl, rfl, trivial⟩ trivial
      · replace c2 := of_decide_eq_false c2
        refine Cd.exit (Rx.pastE (Rx.pastE (Rx.hit (Rx.seq (Cd.seq (Cd.region (Rg.val (Val.assign rfl) rfl (Rg.nil (Rx.seq (Cd.ret (Rx.ret1 rfl rfl fun w hm_ => (⟨by rw [decide_eq_true (same_rows (by omega) (fun j u v hj => hE j u v (by omega)))], hm_.below⟩))))))))))))

end Go.Proofs.Ytdmkedbmoboamaa
