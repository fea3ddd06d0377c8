/- Walks of functions of the program: what each returns, told by plain functions. -/
import Derived.Test.YtdmkedbmoboamaaA8
import Derived.Test.YtdmkedbmoboamaaPC
namespace Go.Proofs.Ytdmkedbmoboamaa
open Go.Kx Go.RowKit
set_option maxRecDepth 100000
set_option linter.unusedVariables false
set_option linter.unusedSimpArgs false
set_option linter.unnecessarySimpa false
set_option linter.constructorNameAsVariable false
/-- A list turned round from both ends, up to places i and j. -/
def RevI {α : Type} (xs ys : List α) (i : Nat) (j : Int) : Prop := ys.length = xs.length ∧ j = (xs.length : Int) - 1 - (i : Int) ∧ (i : Int) ≤ j + 2 ∧ ∀ k, k < xs.length → ys[k]? = if k < i ∨ xs.length ≤ k + i then xs[xs.length - 1 - k]? else xs[k]?
theorem RevI.start {α : Type} {xs : List α} : RevI xs xs 0 ((xs.length : Int) - 1) := ⟨rfl, by omega, by omega, fun k hk => by rw [if_neg (by omega)]⟩
theorem RevI.next {α : Type} {xs ys : List α} {i : Nat} {j : Int} (h : RevI xs ys i j) (hij : (i : Int) < j) {x y : α} (hx : ys[i]? = some x) (hy : ys[j.toNat]? = some y) : RevI xs ((ys.set i y).set j.toNat x) (i + 1) (j - 1) := by
  obtain ⟨h1, h2, h3, h4⟩ := h
  refine ⟨by simpa using h1, by omega, by omega, fun k hk => ?_⟩
  rw [List.getElem?_set]
  split
  · rename_i e
    rw [if_pos (by simp; omega), if_pos (by omega), ← hx, h4 i (by omega), if_neg (by omega)]
    congr 1; omega
  · rename_i e
    rw [List.getElem?_set]
    split
    · rename_i e2
      rw [if_pos (by omega), if_pos (by omega), ← hy, h4 j.toNat (by omega), if_neg (by omega)]
      congr 1; omega
    · rename_i e2
      rw [h4 k hk]
      by_cases hc : k < i ∨ xs.length ≤ k + i
      · rw [if_pos hc, if_pos (by omega)]
      · rw [if_neg hc, if_neg (by omega)]
theorem RevI.next' {α : Type} {xs ys : List α} {i : Nat} {j : Int} (h : RevI xs ys i j) (hij : (i : Int) < j) {x y : α} (hx : ys[i]? = some x) (hy : ys[j.toNat]? = some y) : RevI xs ((ys.set j.toNat x).set i y) (i + 1) (j - 1) := by
  rw [List.set_comm _ _ (by omega)]; exact h.next hij hx hy
theorem RevI.done {α : Type} {xs ys : List α} {i : Nat} {j : Int} (h : RevI xs ys i j) (hij : ¬ (i : Int) < j) : ys = xs.reverse := by
  obtain ⟨h1, h2, h3, h4⟩ := h
  refine List.ext_getElem? fun k => ?_
  by_cases hk : k < xs.length
  · rw [h4 k hk, List.getElem?_reverse hk]
    split
    · rfl
    · congr 1; omega
  · rw [List.getElem?_eq_none (by omega), List.getElem?_eq_none (by simp; omega)]
theorem reverseI_calls (a : Option Addr) (cap : Nat) (xs : List Int) (w : World) (hlen : xs.length ≤ 9223372036854775807) (w1 : World) (hm1 : Mem w [(2, rowL 3 1 encI a cap xs)] w1) : Calls Try.prog 121 #[.slice a xs.length cap] w1 fun e w' => e = .returned (.tuple #[]) ∧ Turns (packR [(2, rowL 3 1 encI a cap xs)]) w1 (packR [(2, rowL 3 1 encI a cap xs.reverse)]) w' := by
  refine calls_in (vs := [.slice a xs.length cap]) Try.func121 rfl rfl rfl (Mem.enter 0 hm1 rfl) ?_
  show Cd _ _ _ _ _ [(0, .slice a xs.length cap)] [(0, restOf w.heap.size w1 (packR [(2, rowL 3 1 encI a cap xs)])), (2, rowL 3 1 encI a cap xs)]
  refine Cd.seq (Cd.region (Rg.val (Val.move rfl) rfl (Rg.val (Val.len Try.underlying62 rfl) rfl (Rg.val (Val.subN rfl rfl (by unfold in64; omega)) rfl (Rg.val (Val.assign rfl) rfl (Rg.val (Val.assign rfl) rfl (Rg.nil (Rx.seq (Cd.block ?_)))))))))
  refine Cd.loop (A := Nat × Int × List Int) (fun pr_ : Nat × Int × List Int => match pr_ with | (i, j, ys) => RevI xs ys i j)
      (fun pr_ : Nat × Int × List Int => match pr_ with | (i, j, ys) => [(0, .slice a xs.length cap), (2, .int .i64 (i : Int)), (3, .int .i64 j)])
      (fun pr_ : Nat × Int × List Int => match pr_ with | (i, j, ys) => [(0, restOf w.heap.size w1 (packR [(2, rowL 3 1 encI a cap xs)])), (2, rowL 3 1 encI a cap ys)])
      (fun pr_ : Nat × Int × List Int => match pr_ with | (i, j, ys) => (j + 1).toNat) (0, (xs.length : Int) - 1, xs) ?_ ⟨rfl, rfl, rfl, trivial⟩ ⟨rfl, rfl, trivial⟩ ?_
  · exact RevI.start
  · rintro ⟨i, j, ys⟩ hI
    show Cd _ _ _ _ _ [(0, .slice a xs.length cap), (2, .int .i64 (i : Int)), (3, .int .i64 j)] [(0, restOf w.heap.size w1 (packR [(2, rowL 3 1 encI a cap xs)])), (2, rowL 3 1 encI a cap ys)]
    have hI_ := hI
    obtain ⟨hy1, hy2, hy3, _⟩ := hI_
    refine Cd.seq (Cd.seq (Cd.region (Rg.val (Val.move rfl) rfl (Rg.val (Val.move rfl) rfl (Rg.val (Val.lss rfl rfl) rfl (Rg.nil (Rx.seq (Cd.cond rfl (fun c1 => ?_) (fun c1 => ?_)))))))))
    · replace c1 := of_decide_eq_true c1
      refine Cd.skip (Rx.seq (Cd.seq (Cd.block (Cd.draw [(0, restOf w.heap.size w1 (packR [(2, rowL 3 1 encI a cap xs)]))] mixed rfl (Dr.take 0 rfl (by kernel_rfl) (Val.move rfl) rfl ⟨rfl, trivial⟩ (Dr.take 1 rfl (by kernel_rfl) (Val.move rfl) rfl ⟨rfl, trivial⟩ (Dr.take 2 rfl (by kernel_rfl) (Val.move rfl) rfl ⟨rfl, trivial⟩ (Dr.take 3 rfl (by kernel_rfl) (Val.move rfl) rfl ⟨rfl, trivial⟩ (Dr.take 4 rfl (by kernel_rfl) (Val.move rfl) rfl ⟨rfl, trivial⟩ (Dr.take 5 rfl (by kernel_rfl) (Val.move rfl) rfl ⟨rfl, trivial⟩ (Dr.take 8 rfl (by kernel_rfl) (Val.move rfl) rfl ⟨rfl, trivial⟩ (Dr.take 9 rfl (by kernel_rfl) (Val.move rfl) rfl ⟨rfl, trivial⟩ ?_))))))))))))
      obtain ⟨x2, hx3⟩ : ∃ x, ys[(Int.toNat j)]? = some x := ⟨_, List.getElem?_eq_getElem (by first | omega | (simp; omega))⟩
      obtain ⟨x4, hx5⟩ : ∃ x, ys[i]? = some x := ⟨_, List.getElem?_eq_getElem (by first | omega | (simp; omega))⟩
      refine Dr.two 6 10 (by kernel_rfl) rfl rfl (Val.eff (Val.ideRow 2 Try.underlying62 sz3 rfl (by first | omega | (simp; omega)) rfl rfl (by first | rfl | omega | (simp; done)) hx3) rfl) rfl (fun _ _ => ⟨rfl, trivial⟩) (Val.eff (Val.ideRow 2 Try.underlying62 sz3 rfl (by first | omega | (simp; omega)) rfl rfl (by first | rfl | omega | (simp; done)) hx5) rfl) rfl (fun _ _ => ⟨rfl, trivial⟩) (fun _ _ => ?_) (fun _ _ => ?_)
      · refine Dr.two 7 10 (by kernel_rfl) rfl rfl (Val.eff (Val.loadRow (k := 0) 2 rfl sc3 rfl (fun _ => rfl) hx3 rfl) rfl) rfl (fun _ _ => ⟨rfl, trivial⟩) (Val.eff (Val.ideRow 2 Try.underlying62 sz3 rfl (by first | omega | (simp; omega)) rfl rfl (by first | rfl | omega | (simp; done)) hx5) rfl) rfl (fun _ _ => ⟨rfl, trivial⟩) (fun _ _ => ?_) (fun _ _ => ?_)
        · refine Dr.one 10 (by kernel_rfl) rfl (Val.eff (Val.ideRow 2 Try.underlying62 sz3 rfl (by first | omega | (simp; omega)) rfl rfl (by first | rfl | omega | (simp; done)) hx5) rfl) rfl (fun _ _ => ⟨rfl, trivial⟩) fun _ _ => (Dr.one 11 (by kernel_rfl) rfl (Val.eff (Val.loadRow (k := 0) 2 rfl sc3 rfl (fun _ => rfl) hx5 rfl) rfl) rfl (fun _ _ => ⟨rfl, trivial⟩) fun _ _ => (Dr.one 12 (by kernel_rfl) rfl (Val.eff (Val.ideRow 2 Try.underlying62 sz3 rfl (by first | omega | (simp; omega)) rfl rfl (by first | rfl | omega | (simp; done)) hx5) rfl) rfl (fun _ _ => ⟨rfl, trivial⟩) fun _ _ => (Dr.one 13 (by kernel_rfl) rfl (Eff.storeRow (k := 0) (u' := x2) 2 sz3 rfl rfl rfl rfl (fun _ => rfl) hx5 rfl rfl) rfl (fun _ _ => ⟨rfl, trivial⟩) fun _ _ => ?_)))
          have hx6 := set_at (u' := x2) hx5
          obtain ⟨x7, hx8⟩ : ∃ x, (ys.set i x2)[(Int.toNat j)]? = some x := ⟨_, List.getElem?_eq_getElem (by first | omega | (simp; omega))⟩
          refine Dr.one 14 (by kernel_rfl) rfl (Val.eff (Val.ideRow 2 Try.underlying62 sz3 rfl (by first | omega | (simp; omega)) rfl rfl (by first | rfl | omega | (simp; done)) hx8) rfl) rfl (fun _ _ => ⟨rfl, trivial⟩) fun _ _ => (Dr.one 15 (by kernel_rfl) rfl (Eff.storeRow (k := 0) (u' := x4) 2 sz3 rfl rfl rfl rfl (fun _ => rfl) hx8 rfl rfl) rfl (fun _ _ => ⟨rfl, trivial⟩) fun _ _ => ?_)
          have hx9 := set_at (u' := x4) hx8
          refine Dr.done (by kernel_rfl) (Rx.inb (Rx.seq (Cd.region (Rg.val (Val.move rfl) rfl (Rg.val (Val.addN rfl rfl (by unfold in64; omega)) rfl (Rg.val (Val.move rfl) rfl (Rg.val (Val.subN rfl rfl (by unfold in64; omega)) rfl (Rg.val (Val.assign rfl) rfl (Rg.val (Val.assign rfl) rfl (Rg.nil ?_))))))))))
          refine Rx.meet (i + 1, j - 1, ((ys.set i x2).set (Int.toNat j) x4)) ⟨hI.next (by omega) hx5 hx3, by show (j - 1 + 1).toNat < (j + 1).toNat; omega⟩ ⟨rfl, rfl, rfl, trivial⟩ ⟨rfl, rfl, trivial⟩
        · refine Dr.two 7 11 (by kernel_rfl) rfl rfl (Val.eff (Val.loadRow (k := 0) 2 rfl sc3 rfl (fun _ => rfl) hx3 rfl) rfl) rfl (fun _ _ => ⟨rfl, trivial⟩) (Val.eff (Val.loadRow (k := 0) 2 rfl sc3 rfl (fun _ => rfl) hx5 rfl) rfl) rfl (fun _ _ => ⟨rfl, trivial⟩) (fun _ _ => ?_) (fun _ _ => ?_)
          · refine Dr.one 11 (by kernel_rfl) rfl (Val.eff (Val.loadRow (k := 0) 2 rfl sc3 rfl (fun _ => rfl) hx5 rfl) rfl) rfl (fun _ _ => ⟨rfl, trivial⟩) fun _ _ => (Dr.one 12 (by kernel_rfl) rfl (Val.eff (Val.ideRow 2 Try.underlying62 sz3 rfl (by first | omega | (simp; omega)) rfl rfl (by first | rfl | omega | (simp; done)) hx5) rfl) rfl (fun _ _ => ⟨rfl, trivial⟩) fun _ _ => (Dr.one 13 (by kernel_rfl) rfl (Eff.storeRow (k := 0) (u' := x2) 2 sz3 rfl rfl rfl rfl (fun _ => rfl) hx5 rfl rfl) rfl (fun _ _ => ⟨rfl, trivial⟩) fun _ _ => ?_))
            have hx10 := set_at (u' := x2) hx5
            obtain ⟨x11, hx12⟩ : ∃ x, (ys.set i x2)[(Int.toNat j)]? = some x := ⟨_, List.getElem?_eq_getElem (by first | omega | (simp; omega))⟩
            refine Dr.one 14 (by kernel_rfl) rfl (Val.eff (Val.ideRow 2 Try.underlying62 sz3 rfl (by first | omega | (simp; omega)) rfl rfl (by first | rfl | omega | (simp; done)) hx12) rfl) rfl (fun _ _ => ⟨rfl, trivial⟩) fun _ _ => (Dr.one 15 (by kernel_rfl) rfl (Eff.storeRow (k := 0) (u' := x4) 2 sz3 rfl rfl rfl rfl (fun _ => rfl) hx12 rfl rfl) rfl (fun _ _ => ⟨rfl, trivial⟩) fun _ _ => ?_)
            have hx13 := set_at (u' := x4) hx12
            refine Dr.done (by kernel_rfl) (Rx.inb (Rx.seq (Cd.region (Rg.val (Val.move rfl) rfl (Rg.val (Val.addN rfl rfl (by unfold in64; omega)) rfl (Rg.val (Val.move rfl) rfl (Rg.val (Val.subN rfl rfl (by unfold in64; omega)) rfl (Rg.val (Val.assign rfl) rfl (Rg.val (Val.assign rfl) rfl (Rg.nil ?_))))))))))
            refine Rx.meet (i + 1, j - 1, ((ys.set i x2).set (Int.toNat j) x4)) ⟨hI.next (by omega) hx5 hx3, by show (j - 1 + 1).toNat < (j + 1).toNat; omega⟩ ⟨rfl, rfl, rfl, trivial⟩ ⟨rfl, rfl, trivial⟩
          · refine Dr.one 7 (by kernel_rfl) rfl (Val.eff (Val.loadRow (k := 0) 2 rfl sc3 rfl (fun _ => rfl) hx3 rfl) rfl) rfl (fun _ _ => ⟨rfl, trivial⟩) fun _ _ => (Dr.one 12 (by kernel_rfl) rfl (Val.eff (Val.ideRow 2 Try.underlying62 sz3 rfl (by first | omega | (simp; omega)) rfl rfl (by first | rfl | omega | (simp; done)) hx5) rfl) rfl (fun _ _ => ⟨rfl, trivial⟩) fun _ _ => (Dr.one 13 (by kernel_rfl) rfl (Eff.storeRow (k := 0) (u' := x2) 2 sz3 rfl rfl rfl rfl (fun _ => rfl) hx5 rfl rfl) rfl (fun _ _ => ⟨rfl, trivial⟩) fun _ _ => ?_))
            have hx14 := set_at (u' := x2) hx5
            obtain ⟨x15, hx16⟩ : ∃ x, (ys.set i x2)[(Int.toNat j)]? = some x := ⟨_, List.getElem?_eq_getElem (by first | omega | (simp; omega))⟩
            refine Dr.one 14 (by kernel_rfl) rfl (Val.eff (Val.ideRow 2 Try.underlying62 sz3 rfl (by first | omega | (simp; omega)) rfl rfl (by first | rfl | omega | (simp; done)) hx16) rfl) rfl (fun _ _ => ⟨rfl, trivial⟩) fun _ _ => (Dr.one 15 (by kernel_rfl) rfl (Eff.storeRow (k := 0) (u' := x4) 2 sz3 rfl rfl rfl rfl (fun _ => rfl) hx16 rfl rfl) rfl (fun _ _ => ⟨rfl, trivial⟩) fun _ _ => ?_)
            have hx17 := set_at (u' := x4) hx16
            refine Dr.done (by kernel_rfl) (Rx.inb (Rx.seq (Cd.region (Rg.val (Val.move rfl) rfl (Rg.val (Val.addN rfl rfl (by unfold in64; omega)) rfl (Rg.val (Val.move rfl) rfl (Rg.val (Val.subN rfl rfl (by unfold in64; omega)) rfl (Rg.val (Val.assign rfl) rfl (Rg.val (Val.assign rfl) rfl (Rg.nil ?_))))))))))
            refine Rx.meet (i + 1, j - 1, ((ys.set i x2).set (Int.toNat j) x4)) ⟨hI.next (by omega) hx5 hx3, by show (j - 1 + 1).toNat < (j + 1).toNat; omega⟩ ⟨rfl, rfl, rfl, trivial⟩ ⟨rfl, rfl, trivial⟩
      · refine Dr.two 6 11 (by kernel_rfl) rfl rfl (Val.eff (Val.ideRow 2 Try.underlying62 sz3 rfl (by first | omega | (simp; omega)) rfl rfl (by first | rfl | omega | (simp; done)) hx3) rfl) rfl (fun _ _ => ⟨rfl, trivial⟩) (Val.eff (Val.loadRow (k := 0) 2 rfl sc3 rfl (fun _ => rfl) hx5 rfl) rfl) rfl (fun _ _ => ⟨rfl, trivial⟩) (fun _ _ => ?_) (fun _ _ => ?_)
        · refine Dr.two 7 11 (by kernel_rfl) rfl rfl (Val.eff (Val.loadRow (k := 0) 2 rfl sc3 rfl (fun _ => rfl) hx3 rfl) rfl) rfl (fun _ _ => ⟨rfl, trivial⟩) (Val.eff (Val.loadRow (k := 0) 2 rfl sc3 rfl (fun _ => rfl) hx5 rfl) rfl) rfl (fun _ _ => ⟨rfl, trivial⟩) (fun _ _ => ?_) (fun _ _ => ?_)
          · refine Dr.one 11 (by kernel_rfl) rfl (Val.eff (Val.loadRow (k := 0) 2 rfl sc3 rfl (fun _ => rfl) hx5 rfl) rfl) rfl (fun _ _ => ⟨rfl, trivial⟩) fun _ _ => (Dr.one 12 (by kernel_rfl) rfl (Val.eff (Val.ideRow 2 Try.underlying62 sz3 rfl (by first | omega | (simp; omega)) rfl rfl (by first | rfl | omega | (simp; done)) hx5) rfl) rfl (fun _ _ => ⟨rfl, trivial⟩) fun _ _ => (Dr.one 13 (by kernel_rfl) rfl (Eff.storeRow (k := 0) (u' := x2) 2 sz3 rfl rfl rfl rfl (fun _ => rfl) hx5 rfl rfl) rfl (fun _ _ => ⟨rfl, trivial⟩) fun _ _ => ?_))
            have hx18 := set_at (u' := x2) hx5
            obtain ⟨x19, hx20⟩ : ∃ x, (ys.set i x2)[(Int.toNat j)]? = some x := ⟨_, List.getElem?_eq_getElem (by first | omega | (simp; omega))⟩
            refine Dr.one 14 (by kernel_rfl) rfl (Val.eff (Val.ideRow 2 Try.underlying62 sz3 rfl (by first | omega | (simp; omega)) rfl rfl (by first | rfl | omega | (simp; done)) hx20) rfl) rfl (fun _ _ => ⟨rfl, trivial⟩) fun _ _ => (Dr.one 15 (by kernel_rfl) rfl (Eff.storeRow (k := 0) (u' := x4) 2 sz3 rfl rfl rfl rfl (fun _ => rfl) hx20 rfl rfl) rfl (fun _ _ => ⟨rfl, trivial⟩) fun _ _ => ?_)
            have hx21 := set_at (u' := x4) hx20
            refine Dr.done (by kernel_rfl) (Rx.inb (Rx.seq (Cd.region (Rg.val (Val.move rfl) rfl (Rg.val (Val.addN rfl rfl (by unfold in64; omega)) rfl (Rg.val (Val.move rfl) rfl (Rg.val (Val.subN rfl rfl (by unfold in64; omega)) rfl (Rg.val (Val.assign rfl) rfl (Rg.val (Val.assign rfl) rfl (Rg.nil ?_))))))))))
            refine Rx.meet (i + 1, j - 1, ((ys.set i x2).set (Int.toNat j) x4)) ⟨hI.next (by omega) hx5 hx3, by show (j - 1 + 1).toNat < (j + 1).toNat; omega⟩ ⟨rfl, rfl, rfl, trivial⟩ ⟨rfl, rfl, trivial⟩
          · refine Dr.one 7 (by kernel_rfl) rfl (Val.eff (Val.loadRow (k := 0) 2 rfl sc3 rfl (fun _ => rfl) hx3 rfl) rfl) rfl (fun _ _ => ⟨rfl, trivial⟩) fun _ _ => (Dr.one 12 (by kernel_rfl) rfl (Val.eff (Val.ideRow 2 Try.underlying62 sz3 rfl (by first | omega | (simp; omega)) rfl rfl (by first | rfl | omega | (simp; done)) hx5) rfl) rfl (fun _ _ => ⟨rfl, trivial⟩) fun _ _ => (Dr.one 13 (by kernel_rfl) rfl (Eff.storeRow (k := 0) (u' := x2) 2 sz3 rfl rfl rfl rfl (fun _ => rfl) hx5 rfl rfl) rfl (fun _ _ => ⟨rfl, trivial⟩) fun _ _ => ?_))
            have hx22 := set_at (u' := x2) hx5
            obtain ⟨x23, hx24⟩ : ∃ x, (ys.set i x2)[(Int.toNat j)]? = some x := ⟨_, List.getElem?_eq_getElem (by first | omega | (simp; omega))⟩
            refine Dr.one 14 (by kernel_rfl) rfl (Val.eff (Val.ideRow 2 Try.underlying62 sz3 rfl (by first | omega | (simp; omega)) rfl rfl (by first | rfl | omega | (simp; done)) hx24) rfl) rfl (fun _ _ => ⟨rfl, trivial⟩) fun _ _ => (Dr.one 15 (by kernel_rfl) rfl (Eff.storeRow (k := 0) (u' := x4) 2 sz3 rfl rfl rfl rfl (fun _ => rfl) hx24 rfl rfl) rfl (fun _ _ => ⟨rfl, trivial⟩) fun _ _ => ?_)
            have hx25 := set_at (u' := x4) hx24
            refine Dr.done (by kernel_rfl) (Rx.inb (Rx.seq (Cd.region (Rg.val (Val.move rfl) rfl (Rg.val (Val.addN rfl rfl (by unfold in64; omega)) rfl (Rg.val (Val.move rfl) rfl (Rg.val (Val.subN rfl rfl (by unfold in64; omega)) rfl (Rg.val (Val.assign rfl) rfl (Rg.val (Val.assign rfl) rfl (Rg.nil ?_))))))))))
            refine Rx.meet (i + 1, j - 1, ((ys.set i x2).set (Int.toNat j) x4)) ⟨hI.next (by omega) hx5 hx3, by show (j - 1 + 1).toNat < (j + 1).toNat; omega⟩ ⟨rfl, rfl, rfl, trivial⟩ ⟨rfl, rfl, trivial⟩
        · refine Dr.one 6 (by kernel_rfl) rfl (Val.eff (Val.ideRow 2 Try.underlying62 sz3 rfl (by first | omega | (simp; omega)) rfl rfl (by first | rfl | omega | (simp; done)) hx3) rfl) rfl (fun _ _ => ⟨rfl, trivial⟩) fun _ _ => (Dr.one 7 (by kernel_rfl) rfl (Val.eff (Val.loadRow (k := 0) 2 rfl sc3 rfl (fun _ => rfl) hx3 rfl) rfl) rfl (fun _ _ => ⟨rfl, trivial⟩) fun _ _ => (Dr.one 12 (by kernel_rfl) rfl (Val.eff (Val.ideRow 2 Try.underlying62 sz3 rfl (by first | omega | (simp; omega)) rfl rfl (by first | rfl | omega | (simp; done)) hx5) rfl) rfl (fun _ _ => ⟨rfl, trivial⟩) fun _ _ => (Dr.one 13 (by kernel_rfl) rfl (Eff.storeRow (k := 0) (u' := x2) 2 sz3 rfl rfl rfl rfl (fun _ => rfl) hx5 rfl rfl) rfl (fun _ _ => ⟨rfl, trivial⟩) fun _ _ => ?_)))
          have hx26 := set_at (u' := x2) hx5
          obtain ⟨x27, hx28⟩ : ∃ x, (ys.set i x2)[(Int.toNat j)]? = some x := ⟨_, List.getElem?_eq_getElem (by first | omega | (simp; omega))⟩
          refine Dr.one 14 (by kernel_rfl) rfl (Val.eff (Val.ideRow 2 Try.underlying62 sz3 rfl (by first | omega | (simp; omega)) rfl rfl (by first | rfl | omega | (simp; done)) hx28) rfl) rfl (fun _ _ => ⟨rfl, trivial⟩) fun _ _ => (Dr.one 15 (by kernel_rfl) rfl (Eff.storeRow (k := 0) (u' := x4) 2 sz3 rfl rfl rfl rfl (fun _ => rfl) hx28 rfl rfl) rfl (fun _ _ => ⟨rfl, trivial⟩) fun _ _ => ?_)
          have hx29 := set_at (u' := x4) hx28
          refine Dr.done (by kernel_rfl) (Rx.inb (Rx.seq (Cd.region (Rg.val (Val.move rfl) rfl (Rg.val (Val.addN rfl rfl (by unfold in64; omega)) rfl (Rg.val (Val.move rfl) rfl (Rg.val (Val.subN rfl rfl (by unfold in64; omega)) rfl (Rg.val (Val.assign rfl) rfl (Rg.val (Val.assign rfl) rfl (Rg.nil ?_))))))))))
          refine Rx.meet (i + 1, j - 1, ((ys.set i x2).set (Int.toNat j) x4)) ⟨hI.next (by omega) hx5 hx3, by show (j - 1 + 1).toNat < (j + 1).toNat; omega⟩ ⟨rfl, rfl, rfl, trivial⟩ ⟨rfl, rfl, trivial⟩
    · replace c1 := of_decide_eq_false c1
      refine Cd.exit (Rx.pastE (Rx.pastE (Rx.hit (Rx.end0 rfl fun w hm_ => (⟨rfl, by have h_ := Turns.of_mem (Bs' := [(2, rowL 3 1 encI a cap ys)]) hm1.below hm_ (q := 0) rfl (.of ⟨rfl, trivial⟩) rfl; rw [hI.done (by omega)] at h_; exact h_⟩)))))

/-- What a search for circles hands back. -/
def CircR (n : Nat) (L : List Af) (a : Option Addr) (c : List Int) : Prop := (a = none ∧ c = [] ∧ ∃ π, Pot L π) ∨ (a.isSome = true ∧ PosC n L c)
theorem OnC.le {n : Nat} {gp : Nat → Nat} {by_ : List Int} {v : Int} {m : Nat} (h : OnC n gp by_ v m) : m ≤ n := by
  have := nodup_ints (n := n) h.nodup fun x hx => by
    obtain ⟨j, _, rfl⟩ := List.mem_map.1 hx
    exact (h.inn j).1
  simpa [orb] using this
theorem orb_len (by_ : List Int) (v : Int) (k : Nat) : (orb by_ v k).length = k := by simp [orb]
theorem circle_calls.bsl_0 (y0 : Int) (w : World) : (Instr.buildSlice 62 1 #[(0, .int .i64 y0)]).run Try.prog w = .ok (.slice (some ⟨w.heap.size, 0, none⟩) 1 1) (w.alloc (.cells #[.int .i64 y0] 3)) := by kernel_rfl
open circle_calls in
theorem circle_calls (n : Nat) (a : Option Addr) (cap : Nat) (L : List Af) (w : World) (hR : Rdb w a 3 encAf L) (hlk : Lk n L) (hL : L.length ≤ 240) (hn : n ≤ 24) : Calls Try.prog 89 #[.int .i64 (n : Int), .slice a L.length cap] w fun e w' => ∃ p : Option Addr × Nat × List Int, CircR n L p.1 p.2.2 ∧ e = .returned (.slice p.1 p.2.2.length p.2.1) ∧ Mem w [(61, rowL 3 1 encI p.1 p.2.1 p.2.2)] w' := by
  refine calls_of (vs := [.int .i64 (n : Int), .slice a L.length cap]) Try.func89 rfl rfl rfl ?_
  show Cd _ _ _ _ _ [(0, .int .i64 (n : Int)), (1, .slice a L.length cap)] []
  refine Cd.seq (Cd.region (Rg.val (Val.assign rfl) rfl (Rg.nil (Rx.seq (Cd.seq (Cd.region (Rg.val (Val.move rfl) rfl (Rg.eff (Eff.makeRow (m := n) (u := (0 : Int)) (enc := encI) 51 Try.underlying24 mkf2 rfl rfl rfl (by first | rfl | omega | (simp; done)) rfl (by simp only [maxLen]; omega) rfl) rfl fun b51 _ => (Rg.val (Val.assign rfl) rfl (Rg.nil (Rx.seq (Cd.seq (Cd.region (Rg.val (Val.move rfl) rfl (Rg.eff (Eff.makeRow (m := n) (u := (0 : Int)) (enc := encI) 52 Try.underlying62 mkf3 rfl rfl rfl (by first | rfl | omega | (simp; done)) rfl (by simp only [maxLen]; omega) rfl) rfl fun b52 _ => (Rg.val (Val.assign rfl) rfl (Rg.nil (Rx.seq (Cd.seq (Cd.region (Rg.val (Val.assign rfl) rfl (Rg.nil (Rx.seq (Cd.seq (Cd.seq (Cd.region (Rg.val (Val.move rfl) rfl (Rg.val (Val.addN rfl rfl (by unfold in64; omega)) rfl (Rg.val (Val.move rfl) rfl (Rg.nil (Rx.seq (Cd.block ?_))))))))))))))))))))))))))))))))
  refine Cd.loop (A := Nat × Int × List Int × List Int × (Nat → Int) × (Nat → Nat) × (Nat → Nat) × Nat) (fun pr_ : Nat × Int × List Int × List Int × (Nat → Int) × (Nat → Nat) × (Nat → Nat) × Nat => match pr_ with | (ps, last1, far1, by1, gl1, gt1, gp1, k1) => ps ≤ n + 1 ∧ FarR n L ps last1 far1 by1 gl1 gt1 gp1 k1)
      (fun pr_ : Nat × Int × List Int × List Int × (Nat → Int) × (Nat → Nat) × (Nat → Nat) × Nat => match pr_ with | (ps, last1, far1, by1, gl1, gt1, gp1, k1) => [(0, .int .i64 (n : Int)), (1, .slice a L.length cap), (5, .slice (some ⟨b51, 0, none⟩) n n), (6, .slice (some ⟨b52, 0, none⟩) n n), (7, .int .i64 last1), (18, .int .i64 ((n : Int) + 1)), (19, .int .i64 (ps : Int))])
      (fun pr_ : Nat × Int × List Int × List Int × (Nat → Int) × (Nat → Nat) × (Nat → Nat) × Nat => match pr_ with | (ps, last1, far1, by1, gl1, gt1, gp1, k1) => [(51, rowL 2 1 encI (some ⟨b51, 0, none⟩) n far1), (52, rowL 3 1 encI (some ⟨b52, 0, none⟩) n by1)])
      (fun pr_ : Nat × Int × List Int × List Int × (Nat → Int) × (Nat → Nat) × (Nat → Nat) × Nat => match pr_ with | (ps, last1, far1, by1, gl1, gt1, gp1, k1) => n + 1 - ps) (0, -1, List.replicate n 0, List.replicate n 0, fun _ => 0, fun _ => 0, fun _ => 0, 0) ?_ ⟨rfl, rfl, rfl, rfl, rfl, rfl, rfl, trivial⟩ ⟨rfl, rfl, trivial⟩ ?_
  · exact ⟨Nat.zero_le _, FarR.start⟩
  · rintro ⟨ps, last1, far1, by1, gl1, gt1, gp1, k1⟩ ⟨hps, hF⟩
    show Cd _ _ _ _ _ [(0, .int .i64 (n : Int)), (1, .slice a L.length cap), (5, .slice (some ⟨b51, 0, none⟩) n n), (6, .slice (some ⟨b52, 0, none⟩) n n), (7, .int .i64 last1), (18, .int .i64 ((n : Int) + 1)), (19, .int .i64 (ps : Int))] [(51, rowL 2 1 encI (some ⟨b51, 0, none⟩) n far1), (52, rowL 3 1 encI (some ⟨b52, 0, none⟩) n by1)]
    refine Cd.seq (Cd.region (Rg.val (Val.lss rfl rfl) rfl (Rg.nil (Rx.seq (Cd.seq (Cd.cond rfl (fun c1 => ?_) (fun c1 => ?_)))))))
    · replace c1 := of_decide_eq_true c1
      refine Cd.skip (Rx.seq (Cd.seq (Cd.block (Cd.seq (Cd.region (Rg.val (Val.assign rfl) rfl (Rg.nil (Rx.seq (Cd.seq (Cd.seq (Cd.region (Rg.val (Val.move rfl) rfl (Rg.val (Val.len Try.underlying23 rfl) rfl (Rg.val (Val.move rfl) rfl (Rg.nil (Rx.seq (Cd.block ?_)))))))))))))))))
      refine Cd.loop (A := Nat × Int × List Int × List Int × (Nat → Int) × (Nat → Nat) × (Nat → Nat) × Nat) (fun pr_ : Nat × Int × List Int × List Int × (Nat → Int) × (Nat → Nat) × (Nat → Nat) × Nat => match pr_ with | (c, last2, far2, by2, gl2, gt2, gp2, k2) => c ≤ L.length ∧ FarP n L ps c last2 far2 by2 gl2 gt2 gp2 k2)
          (fun pr_ : Nat × Int × List Int × List Int × (Nat → Int) × (Nat → Nat) × (Nat → Nat) × Nat => match pr_ with | (c, last2, far2, by2, gl2, gt2, gp2, k2) => [(0, .int .i64 (n : Int)), (1, .slice a L.length cap), (5, .slice (some ⟨b51, 0, none⟩) n n), (6, .slice (some ⟨b52, 0, none⟩) n n), (7, .int .i64 last2), (18, .int .i64 ((n : Int) + 1)), (19, .int .i64 (ps : Int)), (21, .slice a L.length cap), (22, .int .i64 (L.length : Int)), (23, .int .i64 (c : Int))])
          (fun pr_ : Nat × Int × List Int × List Int × (Nat → Int) × (Nat → Nat) × (Nat → Nat) × Nat => match pr_ with | (c, last2, far2, by2, gl2, gt2, gp2, k2) => [(51, rowL 2 1 encI (some ⟨b51, 0, none⟩) n far2), (52, rowL 3 1 encI (some ⟨b52, 0, none⟩) n by2)])
          (fun pr_ : Nat × Int × List Int × List Int × (Nat → Int) × (Nat → Nat) × (Nat → Nat) × Nat => match pr_ with | (c, last2, far2, by2, gl2, gt2, gp2, k2) => L.length - c) (0, -1, far1, by1, gl1, gt1, gp1, k1) ?_ ⟨rfl, rfl, rfl, rfl, rfl, rfl, rfl, rfl, rfl, rfl, trivial⟩ ⟨rfl, rfl, trivial⟩ ?_
      · exact ⟨Nat.zero_le _, hF.pass⟩
      · rintro ⟨c, last2, far2, by2, gl2, gt2, gp2, k2⟩ ⟨hc2, hP⟩
        show Cd _ _ _ _ _ [(0, .int .i64 (n : Int)), (1, .slice a L.length cap), (5, .slice (some ⟨b51, 0, none⟩) n n), (6, .slice (some ⟨b52, 0, none⟩) n n), (7, .int .i64 last2), (18, .int .i64 ((n : Int) + 1)), (19, .int .i64 (ps : Int)), (21, .slice a L.length cap), (22, .int .i64 (L.length : Int)), (23, .int .i64 (c : Int))] [(51, rowL 2 1 encI (some ⟨b51, 0, none⟩) n far2), (52, rowL 3 1 encI (some ⟨b52, 0, none⟩) n by2)]
        have hck := hP.ck
        have hlf := hP.fi.lf
        have hlb := hP.fi.lb
        refine Cd.seq (Cd.region (Rg.val (Val.lss rfl rfl) rfl (Rg.nil (Rx.seq (Cd.seq (Cd.cond rfl (fun c2 => ?_) (fun c2 => ?_)))))))
        · replace c2 := of_decide_eq_true c2
          refine Cd.skip (Rx.seq (Cd.seq (Cd.block (Cd.seq (Cd.region ?_)))))
          obtain ⟨x3, hx4⟩ : ∃ x, L[c]? = some x := ⟨_, List.getElem?_eq_getElem (by first | omega | (simp; omega))⟩
          have hk_x3 := hlk _ (List.mem_of_getElem? hx4)
          refine Rg.val (Val.ide Try.underlying23 sz38 rfl rfl hR (by first | rfl | omega | (simp; done)) hx4 (Nat.le_refl _)) rfl (Rg.val (Val.loadEA rfl ag38 hR hx4) rfl (Rg.eff (Eff.alloc 11 zv38 rfl) rfl fun b11 _ => (Rg.eff (Eff.storeAll (l := 11) sz38 rfl rfl rfl rfl rfl rfl) rfl fun _ _ => (Rg.nil (Rx.seq (Cd.seq (Cd.draw [(51, rowL 2 1 encI (some ⟨b51, 0, none⟩) n far2), (52, rowL 3 1 encI (some ⟨b52, 0, none⟩) n by2), (11, blk b11 [.int .i64 x3.p, .int .i64 x3.q, .int .i64 x3.lag] 38)] mixed rfl (Dr.take 0 rfl (by kernel_rfl) (Val.move rfl) rfl ⟨rfl, rfl, rfl, trivial⟩ (Dr.take 1 rfl (by kernel_rfl) (Val.fa rfl (fa38_0 _ _)) rfl ⟨rfl, rfl, rfl, trivial⟩ (Dr.take 2 rfl (by kernel_rfl) (Val.load (l := 11) rfl rfl sc3 rfl) rfl ⟨rfl, rfl, rfl, trivial⟩ ?_))))))))))
          obtain ⟨x5, hx6⟩ : ∃ x, far2[(Int.toNat x3.p)]? = some x := ⟨_, List.getElem?_eq_getElem (by first | omega | (simp; omega))⟩
          have hb_x5 := hP.fi.pos _ (List.mem_of_getElem? hx6)
          refine Dr.take 3 rfl (by kernel_rfl) (Val.ideRow 51 Try.underlying24 sz2 rfl (by first | omega | (simp; omega)) rfl rfl (by first | rfl | omega | (simp; done)) hx6) rfl ⟨rfl, rfl, rfl, trivial⟩ (Dr.take 4 rfl (by kernel_rfl) (Val.loadRow (k := 0) 51 rfl sc2 rfl (fun _ => rfl) hx6 rfl) rfl ⟨rfl, rfl, rfl, trivial⟩ (Dr.take 5 rfl (by kernel_rfl) (Val.fa rfl (fa38_2 _ _)) rfl ⟨rfl, rfl, rfl, trivial⟩ (Dr.take 6 rfl (by kernel_rfl) (Val.load (l := 11) rfl rfl sc2 rfl) rfl ⟨rfl, rfl, rfl, trivial⟩ (Dr.take 7 rfl (by kernel_rfl) (Val.addN rfl rfl (by unfold in64; omega)) rfl ⟨rfl, rfl, rfl, trivial⟩ (Dr.take 8 rfl (by kernel_rfl) (Val.assign rfl) rfl ⟨rfl, rfl, rfl, trivial⟩ (Dr.done (by kernel_rfl) (Rx.seq (Cd.seq (Cd.region (Rg.val (Val.move rfl) rfl (Rg.val (Val.move rfl) rfl (Rg.val (Val.fa rfl (fa38_1 _ _)) rfl (Rg.val (Val.load (l := 11) rfl rfl sc3 rfl) rfl ?_)))))))))))))
          obtain ⟨x7, hx8⟩ : ∃ x, far2[(Int.toNat x3.q)]? = some x := ⟨_, List.getElem?_eq_getElem (by first | omega | (simp; omega))⟩
          have hb_x7 := hP.fi.pos _ (List.mem_of_getElem? hx8)
          refine Rg.val (Val.ideRow 51 Try.underlying24 sz2 rfl (by first | omega | (simp; omega)) rfl rfl (by first | rfl | omega | (simp; done)) hx8) rfl (Rg.val (Val.loadRow (k := 0) 51 rfl sc2 rfl (fun _ => rfl) hx8 rfl) rfl (Rg.val (Val.gtr rfl rfl) rfl (Rg.nil (Rx.seq (Cd.cond rfl (fun c9 => ?_) (fun c9 => ?_))))))
          · replace c9 := of_decide_eq_true c9
            refine Cd.draw [(11, blk b11 [.int .i64 x3.p, .int .i64 x3.q, .int .i64 x3.lag] 38)] mixed rfl (Dr.take 0 rfl (by kernel_rfl) (Val.move rfl) rfl ⟨rfl, trivial⟩ (Dr.take 1 rfl (by kernel_rfl) (Val.fa rfl (fa38_1 _ _)) rfl ⟨rfl, trivial⟩ (Dr.take 2 rfl (by kernel_rfl) (Val.load (l := 11) rfl rfl sc3 rfl) rfl ⟨rfl, trivial⟩ (Dr.take 3 rfl (by kernel_rfl) (Val.move rfl) rfl ⟨rfl, trivial⟩ (Dr.take 4 rfl (by kernel_rfl) (Val.fa rfl (fa38_1 _ _)) rfl ⟨rfl, trivial⟩ (Dr.take 5 rfl (by kernel_rfl) (Val.load (l := 11) rfl rfl sc3 rfl) rfl ⟨rfl, trivial⟩ (Dr.take 6 rfl (by kernel_rfl) (Val.move rfl) rfl ⟨rfl, trivial⟩ (Dr.take 7 rfl (by kernel_rfl) (Val.fa rfl (fa38_0 _ _)) rfl ⟨rfl, trivial⟩ (Dr.take 8 rfl (by kernel_rfl) (Val.load (l := 11) rfl rfl sc3 rfl) rfl ⟨rfl, trivial⟩ (Dr.take 9 rfl (by kernel_rfl) (Val.fa rfl (fa38_1 _ _)) rfl ⟨rfl, trivial⟩ (Dr.take 10 rfl (by kernel_rfl) (Val.load (l := 11) rfl rfl sc3 rfl) rfl ⟨rfl, trivial⟩ (Dr.one 11 (by kernel_rfl) rfl (Val.eff (Val.ideRow 51 Try.underlying24 sz2 rfl (by first | omega | (simp; omega)) rfl rfl (by first | rfl | omega | (simp; done)) hx8) rfl) rfl (fun _ _ => ⟨rfl, trivial⟩) fun _ _ => (Dr.one 12 (by kernel_rfl) rfl (Eff.storeRow (k := 0) (u' := (x5 + x3.lag)) 51 sz2 rfl rfl rfl rfl (fun _ => rfl) hx8 rfl rfl) rfl (fun _ _ => ⟨rfl, trivial⟩) fun _ _ => ?_)))))))))))))
            have hx10 := set_at (u' := (x5 + x3.lag)) hx8
            obtain ⟨x11, hx12⟩ : ∃ x, by2[(Int.toNat x3.q)]? = some x := ⟨_, List.getElem?_eq_getElem (by first | omega | (simp; omega))⟩
            refine Dr.one 13 (by kernel_rfl) rfl (Val.eff (Val.ideRow 52 Try.underlying62 sz3 rfl (by first | omega | (simp; omega)) rfl rfl (by first | rfl | omega | (simp; done)) hx12) rfl) rfl (fun _ _ => ⟨rfl, trivial⟩) fun _ _ => (Dr.one 14 (by kernel_rfl) rfl (Eff.storeRow (k := 0) (u' := x3.p) 52 sz3 rfl rfl rfl rfl (fun _ => rfl) hx12 rfl rfl) rfl (fun _ _ => ⟨rfl, trivial⟩) fun _ _ => ?_)
            have hx13 := set_at (u' := x3.p) hx12
            refine Dr.take 15 rfl (by kernel_rfl) (Val.assign rfl) rfl ⟨rfl, trivial⟩ (Dr.done (by kernel_rfl) (Rx.inb (Rx.seq (Cd.region (Rg.val (Val.addN rfl rfl (by unfold in64; omega)) rfl (Rg.val (Val.move rfl) rfl (Rg.nil ?_)))))))
            have h9 := hP.upd hlk hx4 (by rw [at_of hx8, at_of hx6]; exact c9)
            rw [at_of hx6] at h9
            refine Rx.meet (c + 1, x3.q, (far2.set (Int.toNat x3.q) (x5 + x3.lag)), (by2.set (Int.toNat x3.q) x3.p), _, _, _, _) ⟨⟨by omega, h9⟩, by show L.length - (c + 1) < L.length - c; omega⟩ ⟨rfl, rfl, rfl, rfl, rfl, rfl, rfl, rfl, rfl, rfl, trivial⟩ ⟨rfl, rfl, trivial⟩
          · replace c9 := of_decide_eq_false c9
            refine Cd.skip (Rx.inb (Rx.seq (Cd.region (Rg.val (Val.addN rfl rfl (by unfold in64; omega)) rfl (Rg.val (Val.move rfl) rfl (Rg.nil ?_))))))
            refine Rx.meet (c + 1, last2, far2, by2, gl2, gt2, gp2, k2) ⟨⟨by omega, hP.skip hx4 (by rw [at_of hx8, at_of hx6]; exact c9)⟩, by show L.length - (c + 1) < L.length - c; omega⟩ ⟨rfl, rfl, rfl, rfl, rfl, rfl, rfl, rfl, rfl, rfl, trivial⟩ ⟨rfl, rfl, trivial⟩
        · replace c2 := of_decide_eq_false c2
          refine Cd.exit (Rx.pastE (Rx.pastE (Rx.hit (Rx.seq (Cd.seq (Cd.region (Rg.val (Val.move rfl) rfl (Rg.val (Val.lss rfl rfl) rfl (Rg.nil (Rx.seq (Cd.cond rfl (fun c14 => ?_) (fun c14 => ?_))))))))))))
          · replace c14 := of_decide_eq_true c14
            refine Cd.seq (Cd.region (Rg.val (Val.assign rfl) rfl (Rg.nil (Rx.seq (Cd.ret (Rx.inr (Rx.pastR (Rx.pastR (Rx.inr (Rx.pastR (Rx.ret1 rfl rfl fun w hm_ => (⟨(none, 0, []), .inl ⟨rfl, rfl, hP.pot (by omega) c14⟩, rfl, (hm_.nilRow 61 3 1 encI).relabel 61 61 rfl⟩))))))))))))
          · replace c14 := of_decide_eq_false c14
            refine Cd.skip (Rx.inb (Rx.seq (Cd.region (Rg.val (Val.addN rfl rfl (by unfold in64; omega)) rfl (Rg.val (Val.move rfl) rfl (Rg.nil ?_))))))
            refine Rx.meet (ps + 1, last2, far2, by2, gl2, gt2, gp2, k2) ⟨⟨by omega, hP.rest hL (by omega) hc2 c14⟩, by show n + 1 - (ps + 1) < n + 1 - ps; omega⟩ ⟨rfl, rfl, rfl, rfl, rfl, rfl, rfl, trivial⟩ ⟨rfl, rfl, trivial⟩
    · replace c1 := of_decide_eq_false c1
      refine Cd.exit (Rx.pastE (Rx.pastE (Rx.hit (Rx.seq (Cd.seq (Cd.seq (Cd.region (Rg.val (Val.move rfl) rfl (Rg.val (Val.move rfl) rfl (Rg.nil (Rx.seq (Cd.block ?_))))))))))))
      have e1 : ps = n + 1 := by omega
      subst e1
      have hy1 := hF.yes (by omega)
      have hlb1 := hF.fi.lb
      have hW := hF.fi.walk hlk hy1.1 hy1.2
      refine Cd.loop (A := Nat × Int) (fun pr_ : Nat × Int => match pr_ with | (j, v) => j ≤ n ∧ v = itr by1 j last1)
          (fun pr_ : Nat × Int => match pr_ with | (j, v) => [(6, .slice (some ⟨b52, 0, none⟩) n n), (7, .int .i64 v), (59, .int .i64 (n : Int)), (60, .int .i64 (j : Int))])
          (fun pr_ : Nat × Int => match pr_ with | (j, v) => [(51, rowL 2 1 encI (some ⟨b51, 0, none⟩) n far1), (52, rowL 3 1 encI (some ⟨b52, 0, none⟩) n by1)])
          (fun pr_ : Nat × Int => match pr_ with | (j, v) => n - j) (0, last1) ?_ ⟨rfl, rfl, rfl, rfl, trivial⟩ ⟨rfl, rfl, trivial⟩ ?_
      · exact ⟨Nat.zero_le _, rfl⟩
      · rintro ⟨j, v⟩ ⟨hj, hv⟩
        show Cd _ _ _ _ _ [(6, .slice (some ⟨b52, 0, none⟩) n n), (7, .int .i64 v), (59, .int .i64 (n : Int)), (60, .int .i64 (j : Int))] [(51, rowL 2 1 encI (some ⟨b51, 0, none⟩) n far1), (52, rowL 3 1 encI (some ⟨b52, 0, none⟩) n by1)]
        have hvb : 0 ≤ v ∧ v < n := by rw [hv]; exact (hW j hj).1
        refine Cd.seq (Cd.region (Rg.val (Val.lss rfl rfl) rfl (Rg.nil (Rx.seq (Cd.seq (Cd.cond rfl (fun c15 => ?_) (fun c15 => ?_)))))))
        · replace c15 := of_decide_eq_true c15
          refine Cd.skip (Rx.seq (Cd.seq (Cd.block (Cd.region (Rg.val (Val.move rfl) rfl (Rg.val (Val.move rfl) rfl ?_))))))
          obtain ⟨x16, hx17⟩ : ∃ x, by1[(Int.toNat v)]? = some x := ⟨_, List.getElem?_eq_getElem (by first | omega | (simp; omega))⟩
          refine Rg.val (Val.ideRow 52 Try.underlying62 sz3 rfl (by first | omega | (simp; omega)) rfl rfl (by first | rfl | omega | (simp; done)) hx17) rfl (Rg.val (Val.loadRow (k := 0) 52 rfl sc3 rfl (fun _ => rfl) hx17 rfl) rfl (Rg.val (Val.assign rfl) rfl (Rg.nil (Rx.inb (Rx.seq (Cd.region (Rg.val (Val.addN rfl rfl (by unfold in64; omega)) rfl (Rg.val (Val.move rfl) rfl (Rg.nil ?_)))))))))
          refine Rx.meet (j + 1, x16) ⟨⟨by omega, by show _ = at_ by1 (itr by1 j last1); rw [← hv, at_of hx17]⟩, by show n - (j + 1) < n - j; omega⟩ ⟨rfl, rfl, rfl, rfl, trivial⟩ ⟨rfl, rfl, trivial⟩
        · replace c15 := of_decide_eq_false c15
          refine Cd.exit (Rx.pastE (Rx.pastE (Rx.hit (Rx.seq (Cd.seq (Cd.region (Rg.val (Val.move rfl) rfl (Rg.eff (Eff.buildSlice (cs := [.int .i64 v]) 2 rfl (fun w => (bsl_0 _) w) rfl) rfl fun b2 _ => (Rg.val (Val.assign rfl) rfl (Rg.nil (Rx.seq (Cd.seq (Cd.seq (Cd.region (Rg.val (Val.move rfl) rfl (Rg.val (Val.move rfl) rfl ?_))))))))))))))))
          obtain ⟨x18, hx19⟩ : ∃ x, by1[(Int.toNat v)]? = some x := ⟨_, List.getElem?_eq_getElem (by first | omega | (simp; omega))⟩
          refine Rg.val (Val.ideRow 52 Try.underlying62 sz3 rfl (by first | omega | (simp; omega)) rfl rfl (by first | rfl | omega | (simp; done)) hx19) rfl (Rg.val (Val.loadRow (k := 0) 52 rfl sc3 rfl (fun _ => rfl) hx19 rfl) rfl (Rg.val (Val.assign rfl) rfl (Rg.nil (Rx.seq (Cd.block (Cd.gain (fun w hm => hm.rowOf (l := 2) (e := 3) (sz := 1) (enc := encI) (xs := [v]) (cap := 1) rfl rfl (fun _ => rfl) rfl (by decide)) ?_))))))
          have e2 : v = itr by1 n last1 := by rw [hv, show j = n from by omega]
          obtain ⟨m, hC⟩ := hF.fi.onC hlk hy1.1 hy1.2
          rw [← e2] at hC
          have hmn := hC.le
          have hm0 := hC.m0
          refine Cd.loop (A := Nat × Int × Option Addr × Nat × List Int) (fun pr_ : Nat × Int × Option Addr × Nat × List Int => match pr_ with | (k, u, ar, cr, o) => 1 ≤ k ∧ k ≤ m ∧ o = orb by1 v k ∧ u = itr by1 k v)
              (fun pr_ : Nat × Int × Option Addr × Nat × List Int => match pr_ with | (k, u, ar, cr, o) => [(6, .slice (some ⟨b52, 0, none⟩) n n), (7, .int .i64 v), (11, .slice ar o.length cr), (12, .int .i64 u)])
              (fun pr_ : Nat × Int × Option Addr × Nat × List Int => match pr_ with | (k, u, ar, cr, o) => [(2, rowL 3 1 encI ar cr o), (51, rowL 2 1 encI (some ⟨b51, 0, none⟩) n far1), (52, rowL 3 1 encI (some ⟨b52, 0, none⟩) n by1)])
              (fun pr_ : Nat × Int × Option Addr × Nat × List Int => match pr_ with | (k, u, ar, cr, o) => m - k) (1, x18, (some ⟨b2, 0, none⟩), 1, [v]) ?_ ⟨rfl, rfl, rfl, rfl, trivial⟩ ⟨rfl, rfl, rfl, trivial⟩ ?_
          · exact ⟨Nat.le_refl _, hm0, rfl, (at_of hx19).symm⟩
          · rintro ⟨k, u, ar, cr, o⟩ ⟨hk1, hkm, ho, huk⟩
            show Cd _ _ _ _ _ [(6, .slice (some ⟨b52, 0, none⟩) n n), (7, .int .i64 v), (11, .slice ar o.length cr), (12, .int .i64 u)] [(2, rowL 3 1 encI ar cr o), (51, rowL 2 1 encI (some ⟨b51, 0, none⟩) n far1), (52, rowL 3 1 encI (some ⟨b52, 0, none⟩) n by1)]
            have hub : 0 ≤ u ∧ u < n := by rw [huk]; exact (hC.inn k).1
            have hol : o.length = k := by rw [ho, orb_len]
            refine Cd.seq (Cd.seq (Cd.region (Rg.val (Val.move rfl) rfl (Rg.val (Val.move rfl) rfl (Rg.val (Val.neq rfl rfl) rfl (Rg.nil (Rx.seq (Cd.cond rfl (fun c20 => ?_) (fun c20 => ?_)))))))))
            · replace c20 := bnot_t c20
              replace c20 := of_decide_eq_false c20
              refine Cd.skip (Rx.seq (Cd.seq (Cd.block (Cd.region (Rg.val (Val.move rfl) rfl (Rg.val (Val.move rfl) rfl (Rg.eff (Eff.buildSlice (cs := [.int .i64 u]) 12 rfl (fun w => (bsl_0 _) w) rfl) rfl fun b12 _ => (Rg.eff (Eff.append (enc := encI) (ys := [u]) (bytes := 8) 2 Try.underlying62 (by kernel_rfl) rfl rfl rfl rfl (fun w hm => hm.news (l := 12) rfl rfl) (fun _ => rfl) ones_I (by simp only [List.length_cons, List.length_nil, maxLen]; omega) rfl) rfl fun p21 _ => (Rg.val (Val.assign rfl) rfl (Rg.nil (Rx.inb (Rx.seq (Cd.region (Rg.val (Val.move rfl) rfl (Rg.val (Val.move rfl) rfl ?_)))))))))))))))
              obtain ⟨x22, hx23⟩ : ∃ x, by1[(Int.toNat u)]? = some x := ⟨_, List.getElem?_eq_getElem (by first | omega | (simp; omega))⟩
              refine Rg.val (Val.ideRow 52 Try.underlying62 sz3 rfl (by first | omega | (simp; omega)) rfl rfl (by first | rfl | omega | (simp; done)) hx23) rfl (Rg.val (Val.loadRow (k := 0) 52 rfl sc3 rfl (fun _ => rfl) hx23 rfl) rfl (Rg.val (Val.assign rfl) rfl (Rg.nil ?_)))
              have hlt_ : k < m := Nat.lt_of_le_of_ne hkm (fun e => c20 (by rw [huk, e]; exact hC.ret))
              refine Rx.meet (k + 1, x22, p21.1, p21.2, (o ++ [u])) ⟨⟨by omega, hlt_, by rw [orb_succ, ho, huk], by show _ = at_ by1 (itr by1 k v); rw [← huk, at_of hx23]⟩, by show m - (k + 1) < m - k; omega⟩ ⟨rfl, rfl, rfl, rfl, trivial⟩ ⟨rfl, rfl, rfl, trivial⟩
            · replace c20 := bnot_f c20
              replace c20 := of_decide_eq_true c20
              refine Cd.exit (Rx.pastE (Rx.pastE (Rx.hit (Rx.seq (Cd.seq (Cd.region (Rg.val (Val.move rfl) rfl (Rg.eff (Eff.over (A := Unit) (R := fun _ => True) (v := fun _ => .tuple #[]) (Bs := [(2, rowL 3 1 encI ar cr o)]) (Bs' := fun _ => [(2, rowL 3 1 encI ar cr o.reverse)]) (B0 := [(51, rowL 2 1 encI (some ⟨b51, 0, none⟩) n far1), (52, rowL 3 1 encI (some ⟨b52, 0, none⟩) n by1)]) rfl rfl en121 rfl ⟨rfl, trivial⟩ ⟨rfl, rfl, trivial⟩ rfl (fun _ => rfl) (fun w hm => (reverseI_calls _ _ o _ (by omega) _ (hm.weak ⟨rfl, trivial⟩)).mono fun _ _ ⟨h1, h2⟩ => ⟨(), trivial, h1, h2⟩)) rfl fun _ _ => (Rg.nil (Rx.seq (Cd.seq (Cd.region (Rg.val (Val.move rfl) rfl (Rg.val (Val.assign rfl) rfl (Rg.nil (Rx.seq (Cd.ret (Rx.ret1 rfl rfl fun w hm_ => ((by have hpos_ : PosC n L o.reverse := (by have e3 : k = m := (Nat.le_antisymm hkm (Nat.le_of_not_lt fun h_ => hC.first k h_ (by omega) (huk.symm.trans c20))); rw [ho, e3]; exact hC.posC hlk hF.fi); have hl_ : o.reverse.length = o.length := List.length_reverse; exact ⟨(ar, cr, o.reverse), .inr ⟨hm_.rowSome (l := 2) rfl hpos_.1, hpos_⟩, by rw [hl_], hm_.relabel 2 61 rfl⟩))))))))))))))))))))

end Go.Proofs.Ytdmkedbmoboamaa
