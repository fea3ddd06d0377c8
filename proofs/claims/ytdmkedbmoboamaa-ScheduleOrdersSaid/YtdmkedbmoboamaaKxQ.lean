/- Slices opened whose elements lead on to slices of their own. No program is named here. -/
import Derived.Test.YtdmkedbmoboamaaKxR
namespace Go.Kx
set_option linter.unusedVariables false
set_option linter.unusedSimpArgs false
set_option linter.constructorNameAsVariable false
open Go.ChangeShapes Go.WideShapes Go.ChangeAt Go.RowKit Go.Deep
section
variable {H : Type} {enc : TypeId × Value → H} {P : Program}
/-- What a value of type t, read in memory, consists of, and what else holds of it there. -/
def DecQ (P : Program) (W : World) (t : TypeId) {α : Type} (en : α → List Value) (Q : α → Prop) : Prop := ∀ {H : Type} {enc : TypeId × Value → H} {n : Nat} {cs : List Value} {x : DataW H × List MemPlace}, DataW.trod enc P W 0 (fun _ => true) true n t cs = some x → ∃ u, cs = en u ∧ Q u
theorem open_rdb_cellsQ {W : World} {t e : TypeId} {α : Type} {en : α → List Value} {Q : α → Prop} {sz : Nat} {cs : List Value} {x : DataW H × List MemPlace} {fuel : Nat} (ht : P.underlying t = some (.slice e)) (hC : P.cellsOf e = sz) (hsz : Nat.blt 0 sz = true) (hlen : ∀ u, (en u).length = sz)
    (hdec : DecQ P W e en Q) (hf : DataW.trod enc P W 0 (fun _ => true) true fuel t cs = some x) : ∃ (a : Option Addr) (xs : List α) (cap : Nat), cs = [.slice a xs.length cap] ∧ xs.length ≤ cap ∧ cap ≤ maxLen ∧ Rdb W a sz en xs ∧ ∀ x ∈ xs, Q x := by
  have hsz' : 0 < sz := by simpa using hsz
  rcases open_slice ht hf with ⟨hc, _⟩ | ⟨a, len', cap', m, n, D, Pl, hc, _, hl, hm, hmm, _, hi⟩
  · exact ⟨none, [], 0, hc, by simp, by simp, fun i x h => by simp at h, fun x h => by simp at h⟩
  · subst hc
    have hmc : m = cap' := by simpa using hmm
    have key : ∀ i, i < len' → ∃ x : α, Q x ∧ ∀ j u, (en x)[j]? = some u → W.cell? (a.add (i * sz + j)) = some u := fun i hil => by
      obtain ⟨cs', h1, h2⟩ := hi i (by omega)
      rw [hC] at h1
      obtain ⟨u, rfl, hq⟩ := hdec h2
      obtain ⟨_, _, hat⟩ := World.cells?_some h1
      refine ⟨u, hq, fun j v hj => ?_⟩
      have hjl : j < sz := by rw [← hlen u]; exact (List.getElem?_eq_some_iff.1 hj).1
      have := hat j hjl
      rw [Go.Deep.add_add] at this
      rw [this, hj]
    obtain ⟨xs, hxl, hxs⟩ := pick_list len' key
    refine ⟨some a, xs, cap', by rw [hxl], by omega, hm, fun i x hx => ?_, fun x hx => ?_⟩
    · have h1 := (hxs i x hx).2
      have hil : i < len' := by rw [← hxl]; exact (List.getElem?_eq_some_iff.1 hx).1
      have hspot : a.spot = none := by
        obtain ⟨x0, hx0⟩ : ∃ x0, xs[0]? = some x0 := ⟨_, List.getElem?_eq_getElem (by omega)⟩
        have hu : 0 < (en x0).length := by rw [hlen]; exact hsz'
        have := (hxs 0 x0 hx0).2 0 _ (List.getElem?_eq_getElem hu)
        simpa [Addr.add] using World.cell?_spot this
      obtain ⟨b, off, spot⟩ := a
      simp only at hspot
      subst hspot
      refine ⟨b, off, rfl, hlen x, fun j u hj => ?_⟩
      have := h1 j u hj
      rwa [cell_add] at this
    · obtain ⟨i, hi'⟩ := List.mem_iff_getElem?.1 hx
      exact (hxs i x hi').1
theorem open_rdbQ {W : World} {t e : TypeId} {α : Type} {en : α → List Value} {Q : α → Prop} {sz : Nat} {v : Value} {d : DataW H} {p : List MemPlace} {r : Reach} {b0 : Nat} (ht : P.underlying t = some (.slice e)) (hC : P.cellsOf e = sz) (hsz : Nat.blt 0 sz = true) (hlen : ∀ u, (en u).length = sz)
    (hdec : DecQ P W e en Q) (hval : Value.okWide P W r b0 t v) (h : DataW.Trod enc P W 0 (fun _ => true) true t v d p) : ∃ (a : Option Addr) (xs : List α) (cap : Nat), v = .slice a xs.length cap ∧ xs.length ≤ cap ∧ cap ≤ maxLen ∧ Rdb W a sz en xs ∧ ∀ x ∈ xs, Q x := by
  obtain ⟨a0, len, cap, rfl⟩ := okWide_slice ht hval
  obtain ⟨fuel, hf⟩ := h
  obtain ⟨a, xs, c, hc, h1⟩ := open_rdb_cellsQ ht hC hsz hlen hdec hf
  simp only [Value.cells, List.cons.injEq, and_true] at hc
  exact ⟨a, xs, c, hc, h1⟩
theorem Dec.q {W : World} {t : TypeId} {α : Type} {en : α → List Value} (h : Dec P W t en) : DecQ P W t en (fun _ => True) := fun h1 => by
  obtain ⟨u, hu⟩ := h h1
  exact ⟨u, hu, trivial⟩
/-- One field of a struct that is read. -/
theorem field_at {W : World} {t : TypeId} {fs : Array Field} {n : Nat} {cs : List Value} {x : DataW H × List MemPlace} {base : Nat} {sp : Nat → Bool} {held : Bool} (ht : P.underlying t = some (.struct fs)) (h : DataW.trod enc P W base sp held n t cs = some x) :
    cs.length = P.cellsOf t ∧ ∃ n', ∀ (i : Nat) (f : Field), fs[i]? = some f → ∃ y, DataW.trod enc P W base sp held n' f.type ((cs.drop f.offset).take (P.cellsOf f.type)) = some y := by
  obtain ⟨xs, n', _, _, hcl, hxl, hx⟩ := DataW.trod_struct ht h
  refine ⟨hcl, n', fun i f hf => ?_⟩
  have hlt := (Array.getElem?_eq_some_iff.1 hf).1
  exact ⟨_, (hx i f hf).trans (List.getElem?_eq_getElem (by omega))⟩
end
end Go.Kx
