/- slices.Sort of whole numbers, the library's contract laid at this program: a slice of the call's own is sorted in its place. -/
import Derived.Shelf.SortM.Plain
import Derived.Shelf.SortM.SortNone
import Derived.Ground.SlgmProg
import Derived.Test.YtdmkedbmoboamaaA1
import Derived.Test.YtdmkedbmoboamaaKxM
namespace Go.Proofs.Ytdmkedbmoboamaa
open Go.Kx Go.RowKit Go.Sort Go.Shelf Go.Proofs
set_option linter.unusedVariables false
set_option linter.unusedSimpArgs false
set_option maxRecDepth 100000 in
shelf_lay_g SlLaysM.n5 Slgm 5 at Try 107 as mSort
def sortI (xs : List Int) : List Int := xs.mergeSort fun x y => decide (x ≤ y)
theorem flat_encI (xs : List Int) : xs.flatMap encI = xs.map (Value.int .i64) := by
  induction xs with
  | nil => rfl
  | cons x r ih => rw [List.flatMap_cons, ih]; rfl
theorem take_put (cur : Array Value) (ts : List Int) (h : ts.length ≤ cur.size) : (putCells (Value.int .i64) 0 ts.toArray cur).toList.take ts.length = ts.map (Value.int .i64) := by
  apply List.ext_getElem?
  intro j
  by_cases hj : j < ts.length
  · rw [List.getElem?_take_of_lt hj, Array.getElem?_toList]
    simp [putCells, hj, show j < cur.size by omega]
  · rw [List.getElem?_take_eq_none (by omega), List.getElem?_eq_none (by simp; omega)]
theorem sort_calls {W w : World} {a : Option Addr} {cap : Nat} {xs : List Int} (hm : Mem W [(2, rowL 3 1 encI a cap xs)] w) (hlen : xs.length ≤ 1000000) :
    Calls Try.prog 107 #[.slice a xs.length cap] w fun e w' => e = .returned (.tuple #[]) ∧ Turns (packR [(2, rowL 3 1 encI a cap xs)]) w (packR [(2, rowL 3 1 encI a cap (sortI xs))]) w' := by
  have hown : w.ownsRow 0 3 1 (.slice a xs.length cap) xs.length (xs.flatMap encI) := hm.holds 2 _ rfl
  have hsl : (sortI xs).length = xs.length := by simp [sortI]
  rcases hown.2 with ⟨hv, hn⟩ | ⟨g, c0, cur, hv, hbase, hg, h1, h2, h3, h4⟩
  · have hx : xs = [] := List.eq_nil_of_length_eq_zero hn
    subst hx
    refine (AnyM.slices_Sort_int_none mSort a cap w).mono ?_
    rintro e w' ⟨rfl, rfl⟩
    exact ⟨rfl, by rw [show sortI [] = [] from by simp [sortI]]; exact Turns.refl (hm.pack .rfl)⟩
  · injection hv with e1 e2 e3
    subst e1 e3
    have hgl : g < w.heap.size := (Array.getElem?_eq_some_iff.1 hg).1
    rw [flat_encI] at h4
    have hH : Holds (Value.int .i64) w g 0 xs.toArray := by
      intro j hj
      have hj' : j < xs.length := by simpa using hj
      refine ⟨?_, by simp [World.frozen?, hg]⟩
      have h5 : (cur.toList.take (xs.length * 1))[j]? = (xs.map (Value.int .i64))[j]? := by rw [h4]
      rw [Nat.mul_one, List.getElem?_take_of_lt hj'] at h5
      simp only [World.cell?, hg, Nat.zero_add]
      simp only [Option.isSome_none, Bool.false_eq_true, if_false]
      rw [← Array.getElem?_toList, h5]
      simp [hj']
    refine (AnyM.slices_Sort_int mSort g 0 cap xs w hH hgl (by omega)).mono ?_
    rintro e w' ⟨rfl, n, os, rfl⟩
    refine ⟨rfl, ?_⟩
    show Turns _ w _ (grow (putRow (Value.int .i64) (Sort.ahead w n) g 0 (sortI xs).toArray) os)
    have hsz : w.heap.size ≤ (grow (putRow (Value.int .i64) (Sort.ahead w n) g 0 (sortI xs).toArray) os).heap.size := by simp
    have own : ∀ k : Nat, (packR [(2, rowL 3 1 encI (some ⟨g, 0, none⟩) cap xs)]).own k ↔ k = g := fun k => by
      constructor
      · rintro ⟨l, r, hl, hk⟩
        by_cases e : 2 = l
        · subst e; rw [lkp_cons_eq] at hl; cases hl
          simpa [rowL, Value.ownBlock, eq_comm] using hk
        · rw [lkp_cons_ne _ _ e] at hl; simp [lkp] at hl
      · rintro rfl; exact ⟨2, _, rfl, by simp [rowL, Value.ownBlock]⟩
    have hb : (grow (putRow (Value.int .i64) (Sort.ahead w n) g 0 (sortI xs).toArray) os).heap[g]? = some (.cells (putCells (Value.int .i64) 0 (sortI xs).toArray cur) 3 (0, 0)) := by
      rw [heap_grow_old _ _ (by simpa using hgl)]
      simp [putRow, mapBlock, Sort.ahead, Array.getElem?_modify, hg, onCells]
    refine ⟨rfl, rfl, rfl, hsz, fun k hk hno => ?_, ⟨fun l r hl => ?_, fun l l' r r' e1 e2 hne => ?_⟩, fun k ⟨l, r, hl, hk⟩ => ?_⟩
    · rw [heap_grow_old _ _ (by simpa using hk)]
      have : g ≠ k := fun e => hno ((own k).2 e.symm)
      simp [putRow, mapBlock, Sort.ahead, Array.getElem?_modify, this]
    · by_cases e : 2 = l
      · subst e; rw [lkp_cons_eq] at hl; cases hl
        refine ⟨by rw [flat_encI]; simp, .inr ⟨g, cap, _, rfl, hbase, hb, by rw [hsl]; exact h1, h2, by simp [putCells, h3], ?_⟩⟩
        rw [flat_encI, Nat.mul_one]
        exact take_put cur _ (by rw [hsl, h3]; omega)
      · rw [lkp_cons_ne _ _ e] at hl; simp [lkp] at hl
    · by_cases a1 : 2 = l
      · by_cases a2 : 2 = l'
        · exact absurd (a1.symm.trans a2) hne
        · rw [lkp_cons_ne _ _ a2] at e2; simp [lkp] at e2
      · rw [lkp_cons_ne _ _ a1] at e1; simp [lkp] at e1
    · by_cases e : 2 = l
      · subst e; rw [lkp_cons_eq] at hl; cases hl
        exact .inl ((own k).2 (by simpa [rowL, Value.ownBlock, eq_comm] using hk))
      · rw [lkp_cons_ne _ _ e] at hl; simp [lkp] at hl
end Go.Proofs.Ytdmkedbmoboamaa
