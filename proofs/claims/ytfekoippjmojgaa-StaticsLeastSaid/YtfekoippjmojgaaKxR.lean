/- From a walk to a row: arguments opened to plain lists and numbers; a law that answers true and turns nothing answers its row. No program is named here. -/
import Derived.Test.YtfekoippjmojgaaKxD
import Derived.ProofKit
import Derived.OpenShut
import Derived.Carry
import Derived.Deep.Slices
namespace Go.Kx
set_option linter.unusedVariables false
set_option linter.unusedSimpArgs false
set_option linter.constructorNameAsVariable false
open Go.ChangeShapes Go.WideShapes Go.ChangeAt Go.RowKit Go.Deep
section
variable {H : Type} {enc : TypeId × Value → H} {P : Program}
theorem trodAll_below (hl : laidOutB P = true) {W W' : World} (hb : Below W.heap.size W W') : ∀ {ts : List TypeId} {vs : List Value} {ds : List (DataW H)} {p : List MemPlace}, (∀ t ∈ ts, P.readableRec t = true ∧ t < P.types.size) →
    DataW.TrodAll enc P W 0 (fun _ => true) true ts vs ds p → (∀ x ∈ p, x.block < W.heap.size) → DataW.TrodAll enc P W' 0 (fun b => decide (b < W.heap.size)) true ts vs ds p
  | [], _, _, _, _, h, _ => by
    obtain ⟨rfl, rfl, rfl⟩ := trodAll_nil h
    exact trodAll_mk0
  | t :: ts, _, _, _, ht, h, hlt => by
    obtain ⟨v, vs1, d, ds1, a, b, rfl, rfl, rfl, h1, h2⟩ := trodAll_cons h
    obtain ⟨hr, hs⟩ := ht t (by simp)
    exact trodAll_cons_mk (Below.trod hl hr hs h1 hb fun x hx => hlt x (by simp [hx])) (trodAll_below hl hb (fun u hu => ht u (by simp [hu])) h2 fun x hx => hlt x (by simp [hx]))
theorem row_post (hl : laidOutB P = true) {f : Func} {s : ChangeSpec} {W W' : World} {args : Array Value} {ds gs : List (DataW H)} {before : List MemPlace} {t : TypeId}
    (hW : DataW.Whole enc P f.params.toList s.vars false W args.toList ds gs before) (hv : s.vars = []) (hb : Below W.heap.size W W') (hp : f.params.toList.all (fun t => P.readableRec t && decide (t < P.types.size)) = true)
    (hr : f.resultTypes = #[t]) (ht : P.underlying t = some .bool) (hfn : s.fn H (ds ++ gs) = { results := [.lit (.bool true)], args := ds }) : s.post enc P f false true false false W args (.bool true) W' := by
  have hlt := hW.lt
  have hW' := hW
  obtain ⟨p, q, hA, hV, rfl, _⟩ := hW'
  have hV0 := hV
  rw [hv] at hV0
  obtain ⟨rfl, rfl⟩ := trodVars_none hV0
  have h1 := trodAll_below hl hb (fun u hu => by simpa using List.all_eq_true.1 hp u hu) hA (fun x hx => hlt x (by simp [hx]))
  refine ⟨ds, [], p ++ [], [], p, [], hW, ?_, ?_, ?_, hb.frame _, fun h => by cases h⟩
  · rw [hfn, hr]
    exact trodAll_mk1 (shut_bool ht _)
  · rw [hfn]; exact h1
  · rw [hfn, hv]; rfl
/-! ### arguments opened -/
theorem pick_list {α : Type} {Q : Nat → α → Prop} : ∀ n, (∀ i, i < n → ∃ x, Q i x) → ∃ xs : List α, xs.length = n ∧ ∀ i x, xs[i]? = some x → Q i x
  | 0, _ => ⟨[], rfl, by simp⟩
  | n + 1, h => by
    obtain ⟨xs, hl, hq⟩ := pick_list n (fun i hi => h i (by omega))
    obtain ⟨x, hx⟩ := h n (by omega)
    refine ⟨xs ++ [x], by simp [hl], fun i y hy => ?_⟩
    by_cases hi : i < n
    · rw [List.getElem?_append_left (by omega)] at hy; exact hq i y hy
    · have hlt := (List.getElem?_eq_some_iff.1 hy).1
      simp at hlt
      have e : i = n := by omega
      subst e
      rw [List.getElem?_append_right (by omega), hl] at hy
      simp at hy
      subst hy; exact hx
/-- What a value of type t, read in memory, consists of. -/
def Dec (P : Program) (W : World) (t : TypeId) {α : Type} (en : α → List Value) : Prop := ∀ {H : Type} {enc : TypeId × Value → H} {n : Nat} {cs : List Value} {x : DataW H × List MemPlace}, DataW.trod enc P W 0 (fun _ => true) true n t cs = some x → ∃ u, cs = en u
theorem open_rdb {W : World} {t e : TypeId} {α : Type} {en : α → List Value} {sz : Nat} {v : Value} {d : DataW H} {p : List MemPlace} {r : Reach} {b0 : Nat} (ht : P.underlying t = some (.slice e)) (hC : P.cellsOf e = sz) (hsz : Nat.blt 0 sz = true) (hlen : ∀ u, (en u).length = sz)
    (hdec : Dec P W e en) (hval : Value.okWide P W r b0 t v) (h : DataW.Trod enc P W 0 (fun _ => true) true t v d p) : ∃ (a : Option Addr) (xs : List α) (cap : Nat), v = .slice a xs.length cap ∧ xs.length ≤ cap ∧ cap ≤ maxLen ∧ Rdb W a sz en xs := by
  have hsz' : 0 < sz := by simpa using hsz
  obtain ⟨a0, len, cap, rfl⟩ := okWide_slice ht hval
  obtain ⟨fuel, hf⟩ := h
  rcases open_slice ht hf with ⟨hc, _⟩ | ⟨a, len', cap', m, n, D, Pl, hc, _, hl, hm, hmm, _, hi⟩
  · simp only [Value.cells, List.cons.injEq, and_true, Value.slice.injEq] at hc
    obtain ⟨rfl, rfl, rfl⟩ := hc
    exact ⟨none, [], 0, rfl, by simp, by simp, fun i x h => by simp at h⟩
  · simp only [Value.cells, List.cons.injEq, and_true, Value.slice.injEq] at hc
    obtain ⟨rfl, rfl, rfl⟩ := hc
    have hmc : m = cap := by simpa using hmm
    have key : ∀ i, i < len → ∃ x : α, ∀ j u, (en x)[j]? = some u → W.cell? (a.add (i * sz + j)) = some u := fun i hil => by
      obtain ⟨cs', h1, h2⟩ := hi i (by omega)
      rw [hC] at h1
      obtain ⟨u, rfl⟩ := hdec h2
      obtain ⟨_, _, hat⟩ := World.cells?_some h1
      refine ⟨u, fun j v hj => ?_⟩
      have hjl : j < sz := by rw [← hlen u]; exact (List.getElem?_eq_some_iff.1 hj).1
      have := hat j hjl
      rw [Go.Deep.add_add] at this
      rw [this, hj]
    obtain ⟨xs, hxl, hxs⟩ := pick_list len key
    refine ⟨some a, xs, cap, by rw [hxl], by omega, hm, fun i x hx => ?_⟩
    have h1 := hxs i x hx
    have hil : i < len := by rw [← hxl]; exact (List.getElem?_eq_some_iff.1 hx).1
    -- the slice's own place has no spot, since its first cell is read
    have hspot : a.spot = none := by
      obtain ⟨x0, hx0⟩ : ∃ x0, xs[0]? = some x0 := ⟨_, List.getElem?_eq_getElem (by omega)⟩
      have hu : 0 < (en x0).length := by rw [hlen]; exact hsz'
      have := hxs 0 x0 hx0 0 _ (List.getElem?_eq_getElem hu)
      simpa [Addr.add] using World.cell?_spot this
    obtain ⟨b, off, spot⟩ := a
    simp only at hspot
    subst hspot
    refine ⟨b, off, rfl, hlen x, fun j u hj => ?_⟩
    have := h1 j u hj
    rwa [cell_add] at this
theorem open_rdb_cells {W : World} {t e : TypeId} {α : Type} {en : α → List Value} {sz : Nat} {cs : List Value} {x : DataW H × List MemPlace} {fuel : Nat} (ht : P.underlying t = some (.slice e)) (hC : P.cellsOf e = sz) (hsz : Nat.blt 0 sz = true) (hlen : ∀ u, (en u).length = sz)
    (hdec : Dec P W e en) (hf : DataW.trod enc P W 0 (fun _ => true) true fuel t cs = some x) : ∃ (a : Option Addr) (xs : List α) (cap : Nat), cs = [.slice a xs.length cap] ∧ xs.length ≤ cap ∧ cap ≤ maxLen ∧ Rdb W a sz en xs := by
  have hsz' : 0 < sz := by simpa using hsz
  rcases open_slice ht hf with ⟨hc, _⟩ | ⟨a, len', cap', m, n, D, Pl, hc, _, hl, hm, hmm, _, hi⟩
  · exact ⟨none, [], 0, hc, by simp, by simp, fun i x h => by simp at h⟩
  · subst hc
    have hmc : m = cap' := by simpa using hmm
    have key : ∀ i, i < len' → ∃ x : α, ∀ j u, (en x)[j]? = some u → W.cell? (a.add (i * sz + j)) = some u := fun i hil => by
      obtain ⟨cs', h1, h2⟩ := hi i (by omega)
      rw [hC] at h1
      obtain ⟨u, rfl⟩ := hdec h2
      obtain ⟨_, _, hat⟩ := World.cells?_some h1
      refine ⟨u, fun j v hj => ?_⟩
      have hjl : j < sz := by rw [← hlen u]; exact (List.getElem?_eq_some_iff.1 hj).1
      have := hat j hjl
      rw [Go.Deep.add_add] at this
      rw [this, hj]
    obtain ⟨xs, hxl, hxs⟩ := pick_list len' key
    refine ⟨some a, xs, cap', by rw [hxl], by omega, hm, fun i x hx => ?_⟩
    have h1 := hxs i x hx
    have hil : i < len' := by rw [← hxl]; exact (List.getElem?_eq_some_iff.1 hx).1
    -- the slice's own place has no spot, since its first cell is read
    have hspot : a.spot = none := by
      obtain ⟨x0, hx0⟩ : ∃ x0, xs[0]? = some x0 := ⟨_, List.getElem?_eq_getElem (by omega)⟩
      have hu : 0 < (en x0).length := by rw [hlen]; exact hsz'
      have := hxs 0 x0 hx0 0 _ (List.getElem?_eq_getElem hu)
      simpa [Addr.add] using World.cell?_spot this
    obtain ⟨b, off, spot⟩ := a
    simp only at hspot
    subst hspot
    refine ⟨b, off, rfl, hlen x, fun j u hj => ?_⟩
    have := h1 j u hj
    rwa [cell_add] at this
def intAt (P : Program) (t : TypeId) : Bool := match P.underlying t with
  | some (.int .i64) => true
  | _ => false
theorem intAt_spec {t : TypeId} (h : intAt P t = true) : P.underlying t = some (.int .i64) := by
  unfold intAt at h
  split at h
  · assumption
  · cases h
def intFields (P : Program) (fs : List Field) : Nat → Bool
  | i => match fs with
    | [] => true
    | f :: r => f.offset == i && P.cellsOf f.type == 1 && intAt P f.type && intFields P r (i + 1)
theorem intFields_at : ∀ {fs : List Field} {i j : Nat} {f : Field}, intFields P fs i = true → fs[j]? = some f → f.offset = i + j ∧ P.cellsOf f.type = 1 ∧ P.underlying f.type = some (.int .i64)
  | [], _, _, _, _, h => by simp at h
  | g :: r, i, 0, f, hf, h => by
    simp at h; subst h
    unfold intFields at hf
    simp only [Bool.and_eq_true, beq_iff_eq] at hf
    exact ⟨by omega, hf.1.1.2, intAt_spec hf.1.2⟩
  | g :: r, i, j + 1, f, hf, h => by
    unfold intFields at hf
    simp only [Bool.and_eq_true, beq_iff_eq] at hf
    obtain ⟨h1, h2, h3⟩ := intFields_at (i := i + 1) (j := j) hf.2 (by simpa using h)
    exact ⟨by omega, h2, h3⟩
/-- The cells of a struct of whole numbers. -/
theorem open_ints {W : World} {t : TypeId} {fs : Array Field} {n : Nat} {cs : List Value} {x : DataW H × List MemPlace} {base : Nat} {sp : Nat → Bool} {held : Bool} (ht : P.underlying t = some (.struct fs)) (hf : intFields P fs.toList 0 = true) (hC : P.cellsOf t = fs.size) (h : DataW.trod enc P W base sp held n t cs = some x) :
    ∃ ns : List Int, ns.length = fs.size ∧ cs = ns.map (.int .i64) ∧ ∀ i ∈ ns, (Lit.int .i64 i).wf = true := by
  obtain ⟨xs, n', _, _, hcl, hxl, hx⟩ := DataW.trod_struct ht h
  have key : ∀ i, i < fs.size → ∃ k : Int, cs[i]? = some (.int .i64 k) ∧ (Lit.int .i64 k).wf = true := fun i hi => by
    have hfi : fs[i]? = some fs[i] := Array.getElem?_eq_getElem hi
    obtain ⟨h1, h2, h3⟩ := intFields_at (j := i) (f := fs[i]) hf (by simp)
    have h4 := hx i _ hfi
    rw [List.getElem?_eq_getElem (show i < xs.length by omega), h2, h1, Nat.zero_add] at h4
    obtain ⟨k, hk, _, hw⟩ := DataW.trod_int h3 h4
    refine ⟨k, ?_, hw⟩
    have : ((cs.drop i).take 1)[0]? = some (Value.int .i64 k) := by rw [hk]; rfl
    simpa [List.getElem?_take, List.getElem?_drop] using this
  obtain ⟨ns, hl, hn⟩ := pick_list fs.size key
  refine ⟨ns, hl, ?_, fun k hk => ?_⟩
  · refine List.ext_getElem? fun i => ?_
    by_cases hi : i < fs.size
    · have hni : ns[i]? = some (ns[i]'(by omega)) := List.getElem?_eq_getElem (by omega)
      rw [(hn i _ hni).1, List.getElem?_map, hni]; rfl
    · rw [List.getElem?_eq_none (by omega), List.getElem?_eq_none (by simp; omega)]
  · obtain ⟨i, hi⟩ := List.mem_iff_getElem?.1 hk
    exact (hn i k hi).2
theorem open_array_ints {W : World} {t e : TypeId} {m n : Nat} {cs : List Value} {x : DataW H × List MemPlace} {base : Nat} {sp : Nat → Bool} {held : Bool} (ht : P.underlying t = some (.array m e)) (he : intAt P e = true) (hC : P.cellsOf e = 1) (hCt : P.cellsOf t = m) (h : DataW.trod enc P W base sp held n t cs = some x) :
    ∃ ns : List Int, ns.length = m ∧ cs = ns.map (.int .i64) := by
  obtain ⟨xs, n', _, _, hcl, hxl, hx⟩ := DataW.trod_array ht h
  rw [hCt] at hcl
  have key : ∀ i, i < m → ∃ k : Int, cs[i]? = some (.int .i64 k) := fun i hi => by
    have h4 := hx i hi
    rw [List.getElem?_eq_getElem (show i < xs.length by omega), hC, Nat.mul_one] at h4
    obtain ⟨k, hk, _⟩ := DataW.trod_int (intAt_spec he) h4
    refine ⟨k, ?_⟩
    have : ((cs.drop i).take 1)[0]? = some (Value.int .i64 k) := by rw [hk]; rfl
    simpa [List.getElem?_take, List.getElem?_drop] using this
  obtain ⟨ns, hnl, hn⟩ := pick_list m key
  refine ⟨ns, hnl, ?_⟩
  refine List.ext_getElem? fun i => ?_
  by_cases hi : i < m
  · have hni : ns[i]? = some (ns[i]'(by omega)) := List.getElem?_eq_getElem (by omega)
    rw [hn i _ hni, List.getElem?_map, hni]; rfl
  · rw [List.getElem?_eq_none (by omega), List.getElem?_eq_none (by simp; omega)]
theorem okWide_array' {W : World} {t e : TypeId} {m : Nat} {v : Value} {r : Reach} {b0 : Nat} (ht : P.underlying t = some (.array m e)) (h : Value.okWide P W r b0 t v) : ∃ cs, v = .agg cs := by
  simp only [Value.okWide, ht] at h
  obtain ⟨cs, h1, _⟩ := h
  exact ⟨cs, h1⟩
/-- A struct of whole numbers, by value. -/
theorem open_struct_val {W : World} {t : TypeId} {fs : Array Field} {v : Value} {d : DataW H} {p : List MemPlace} {r : Reach} {b0 : Nat} {m : Nat} (ht : P.underlying t = some (.struct fs)) (hf : intFields P fs.toList 0 = true) (hC : P.cellsOf t = fs.size) (hm : fs.size = m) (hval : Value.okWide P W r b0 t v) (h : DataW.Trod enc P W 0 (fun _ => true) true t v d p) :
    ∃ ns : List Int, ns.length = m ∧ v = .agg (ns.map (Value.int .i64)).toArray := by
  obtain ⟨cs, rfl, _⟩ := okWide_struct ht hval
  obtain ⟨n, hn⟩ := h
  obtain ⟨ns, hl, hc, _⟩ := open_ints ht hf hC hn
  exact ⟨ns, by omega, congrArg Value.agg (by rw [← hc]; simp [Value.cells])⟩
theorem open_array_val {W : World} {t e : TypeId} {m : Nat} {v : Value} {d : DataW H} {p : List MemPlace} {r : Reach} {b0 : Nat} (ht : P.underlying t = some (.array m e)) (he : intAt P e = true) (hC : P.cellsOf e = 1) (hCt : P.cellsOf t = m) (hval : Value.okWide P W r b0 t v) (h : DataW.Trod enc P W 0 (fun _ => true) true t v d p) :
    ∃ ns : List Int, ns.length = m ∧ v = .agg (ns.map (Value.int .i64)).toArray := by
  obtain ⟨cs, rfl⟩ := okWide_array' ht hval
  obtain ⟨n, hn⟩ := h
  obtain ⟨ns, hl, hc⟩ := open_array_ints ht he hC hCt hn
  exact ⟨ns, hl, congrArg Value.agg (by rw [← hc]; simp [Value.cells])⟩
theorem len2 {α : Type} {l : List α} (h : l.length = 2) : ∃ a b, l = [a, b] := by
  match l, h with
  | [a, b], _ => exact ⟨a, b, rfl⟩
theorem len3 {α : Type} {l : List α} (h : l.length = 3) : ∃ a b c, l = [a, b, c] := by
  match l, h with
  | [a, b, c], _ => exact ⟨a, b, c, rfl⟩
theorem len6 {α : Type} {l : List α} (h : l.length = 6) : ∃ a b c d e f, l = [a, b, c, d, e, f] := by
  match l, h with
  | [a, b, c, d, e, f], _ => exact ⟨a, b, c, d, e, f, rfl⟩
theorem dec_int {W : World} {t : TypeId} (h : intAt P t = true) : Dec P W t (fun i : Int => [Value.int .i64 i]) := fun h1 => by
  obtain ⟨n, hn, _⟩ := DataW.trod_int (intAt_spec h) h1
  exact ⟨n, hn⟩
end
end Go.Kx
