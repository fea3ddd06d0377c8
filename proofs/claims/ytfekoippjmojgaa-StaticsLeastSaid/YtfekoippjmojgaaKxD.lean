/- Rules for slices that the call builds itself, and for comparisons of arrays and structs. No program is named here. -/
import Derived.Test.YtfekoippjmojgaaKxC
import Derived.ChangeKeysEq
import Derived.Laws.Cover3
namespace Go.Kx
set_option linter.unusedVariables false
set_option linter.unusedSimpArgs false
set_option linter.constructorNameAsVariable false
open Go.RowKit
section
variable {P : Program}
/-! ### arrays and structs, compared -/
def EqV (P : Program) (d : Nat) (t : TypeId) (u v : Value) (r : Bool) : Prop := ∀ w, (Op.equalIn d t u v).run P w = .ok r w
def EqI (P : Program) (d : Nat) (e : TypeId) (c : Nat) (xs ys : Array Value) (is : List Nat) (r : Bool) : Prop := ∀ w, (Op.eqItems d e c xs ys is).run P w = .ok r w
def EqF (P : Program) (d : Nat) (xs ys : Array Value) (fs : List Field) (r : Bool) : Prop := ∀ w, (Op.eqFields d xs ys fs).run P w = .ok r w
theorem EqV.int {d : Nat} {t : TypeId} {k k' : IntKind} (h : P.underlying t = some (.int k')) (a b : Int) : EqV P (d + 1) t (.int k a) (.int k b) (decide (a = b)) := fun w => by
  rw [run_equalIn_int w d t k k' a b h, beq_dec]
theorem EqV.bool {d : Nat} {t : TypeId} (h : P.underlying t = some .bool) (a b : Bool) : EqV P (d + 1) t (.bool a) (.bool b) (a == b) := fun w => run_equalIn_bool w d t a b h
theorem EqI.nil {d : Nat} {e : TypeId} {c : Nat} {xs ys : Array Value} : EqI P d e c xs ys [] true := fun w => by simp [Op.eqItems]
theorem EqI.cons {d : Nat} {e : TypeId} {c i : Nat} {is : List Nat} {xs ys : Array Value} {a b : Value} {r r' : Bool} (p1 : ∀ w, (part e xs (i * c)).run P w = .ok a w) (p2 : ∀ w, (part e ys (i * c)).run P w = .ok b w) (h : EqV P d e a b r) (k : EqI P d e c xs ys is r') : EqI P d e c xs ys (i :: is) (r && r') := fun w => by
  simp only [Op.eqItems, Sem.run_bind, p1 w, p2 w, h w, Result.andThen_ok]
  cases r
  · simp
  · simpa using k w
theorem EqF.nil {d : Nat} {xs ys : Array Value} : EqF P d xs ys [] true := fun w => by simp [Op.eqFields]
theorem EqF.cons {d : Nat} {f : Field} {fs : List Field} {xs ys : Array Value} {a b : Value} {r r' : Bool} (hn : (f.name == "_") = false) (p1 : ∀ w, (part f.type xs f.offset).run P w = .ok a w) (p2 : ∀ w, (part f.type ys f.offset).run P w = .ok b w) (h : EqV P d f.type a b r) (k : EqF P d xs ys fs r') : EqF P d xs ys (f :: fs) (r && r') := fun w => by
  have hn' : f.name ≠ "_" := by simpa using hn
  simp only [Op.eqFields, hn', ne_eq, not_false_eq_true, if_true, Sem.run_bind, p1 w, p2 w, h w, Result.andThen_ok]
  cases r
  · simp
  · simpa using k w
theorem EqV.arr {d : Nat} {t e : TypeId} {m : Nat} {xs ys : Array Value} {r : Bool} {is : List Nat} {c : Nat} (hu : P.underlying t = some (.array m e)) (hi : (P.info? e).isSome = true) (hc : P.cellsOf e = c) (hr : List.range m = is) (h : EqI P d e c xs ys is r) : EqV P (d + 1) t (.agg xs) (.agg ys) r := fun w => by
  obtain ⟨i, hi⟩ := Option.isSome_iff_exists.1 hi
  subst hc; subst hr
  rw [run_equalIn_array w d xs ys hu hi]; exact h w
theorem EqV.str {d : Nat} {t : TypeId} {fs : List Field} {xs ys : Array Value} {r : Bool} (hu : P.underlying t = some (.struct (P.fieldsOf t))) (hf : (P.fieldsOf t).toList = fs) (hp : P.stoodInHeld t = false) (h : EqF P d xs ys fs r) : EqV P (d + 1) t (.agg xs) (.agg ys) r := fun w => by
  subst hf
  rw [run_equalIn_struct w d t xs ys hu hp]; exact h w
variable {W : World} {n : Cx} {T : List (Nat × Value)} {B : List (Nat × Res)} {dst : Option Tmp} {ty : TypeId} {pos : String} {aft : Array Edge} {g : Option (Nat × Bool)}
theorem Val.eqA {t t' : TypeId} {x y : Operand} {xs ys : Array Value} {r : Bool} (hx : opv T x = some (.agg xs)) (hy : opv T y = some (.agg ys)) (hg : P.eqGuardType P.depth t = false) (h : EqV P 10000 t (.agg xs) (.agg ys) r) : Val P W n ⟨dst, .binOp .eql t x y t', ty, pos, aft, g⟩ T B (.bool r) :=
  Val.cmp hx hy fun w => by
    have h1 : (Op.equal t (.agg xs) (.agg ys)).run P w = .ok r w := h w
    simp [eqGuard, hg, binOp, h1]
theorem Val.neA {t t' : TypeId} {x y : Operand} {xs ys : Array Value} {r : Bool} (hx : opv T x = some (.agg xs)) (hy : opv T y = some (.agg ys)) (hg : P.eqGuardType P.depth t = false) (h : EqV P 10000 t (.agg xs) (.agg ys) r) : Val P W n ⟨dst, .binOp .neq t x y t', ty, pos, aft, g⟩ T B (.bool (!r)) :=
  Val.cmp hx hy fun w => by
    have h1 : (Op.equal t (.agg xs) (.agg ys)).run P w = .ok r w := h w
    simp [eqGuard, hg, binOp, h1]
theorem Val.eqNil {t t' e : TypeId} {x y : Operand} {a : Option Addr} {l c : Nat} (hu : P.underlying t = some (.slice e)) (hx : opv T x = some (.slice a l c)) (hy : opv T y = some (.slice none 0 0)) : Val P W n ⟨dst, .binOp .eql t x y t', ty, pos, aft, g⟩ T B (.bool a.isNone) :=
  Val.cmp hx hy fun w => by
    simp [eqGuard, binOp, run_equal_slice_nil w t e a l c hu]
/-! ### a slice built from its elements -/
theorem Eff.buildSlice {d : Nat} {t e : TypeId} {len : Nat} {parts : List (Nat × Operand)} {ps : List (Nat × Value)} {cs : List Value} (l : Nat) (hp : opps T parts = some ps)
    (hb : ∀ w : World, (Instr.buildSlice t len ps.toArray).run P w = .ok (.slice (some ⟨w.heap.size, 0, none⟩) len len) (w.alloc (.cells cs.toArray e))) (hd : Nat.blt d n.n = true) :
    Eff P W n ⟨some d, .buildSlice t len parts.toArray, ty, pos, aft, g⟩ T B (fun _ : Nat => True) (fun b => (d, .slice (some ⟨b, 0, none⟩) len len) :: T) (fun b => (l, blk b cs e) :: B) := fun a w ht hm K Q hk => by
  have h1 := ht.evalps hp
  have hrun : (execOp a.eval ⟨some d, .buildSlice t len parts.toArray, ty, pos, aft, g⟩).run P w = .ok (.value (.slice (some ⟨w.heap.size, 0, none⟩) len len)) (w.alloc (.cells cs.toArray e)) := by
    simp only [execOp, List.map_toArray, h1, Sem.run_bind, hb w, Result.andThen_ok, Sem.run_pure]
  refine OpX.of_run (by intro c e; cases e) hrun ?_
  exact hk w.heap.size trivial _ _ (ht.put hd _) (hm.alloc l _ e)
/-- The cells of one element after another. -/
theorem flat_at {α : Type} {enc : α → List Value} {sz : Nat} (hs : ∀ x, (enc x).length = sz) : ∀ {xs : List α} {i : Nat} {x : α} {j : Nat} {u : Value}, xs[i]? = some x → (enc x)[j]? = some u → (xs.flatMap enc)[i * sz + j]? = some u
  | [], i, x, j, u, h, _ => by simp at h
  | y :: r, 0, x, j, u, h, hj => by
    simp at h; subst h
    have : j < (enc y).length := (List.getElem?_eq_some_iff.1 hj).1
    rw [List.flatMap_cons, Nat.zero_mul, Nat.zero_add, List.getElem?_append_left this]; exact hj
  | y :: r, i + 1, x, j, u, h, hj => by
    have := flat_at hs (xs := r) (i := i) (by simpa using h) hj
    rw [List.flatMap_cons, List.getElem?_append_right (by rw [hs, Nat.add_mul]; omega), hs, show (i + 1) * sz + j - sz = i * sz + j from by rw [Nat.add_mul]; omega]
    exact this
theorem Rdb.of_flat {w : World} {l b : Nat} {cs : List Value} {ct : TypeId} {α : Type} {enc : α → List Value} {xs : List α} {sz : Nat} (hm : Mem W B w) (hl : lkp B l = some (blk b cs ct)) (hs : ∀ x, (enc x).length = sz) (hcs : cs = xs.flatMap enc) : Rdb w (some ⟨b, 0, none⟩) sz enc xs := fun i x hx => by
  refine ⟨b, 0, rfl, hs x, fun j u hj => ?_⟩
  rw [Nat.zero_add, hm.cell hl, hcs]
  exact flat_at hs hx hj
/-- A call that hands back a new block. -/
theorem Mem.got {w w' : World} (h : Mem W B w) (hb : Below w.heap.size w w') (l b : Nat) {cs : List Value} {t : TypeId} (hn : w.heap.size ≤ b) (hc : w'.heap[b]? = some (.cells cs.toArray t (0, 0))) : Mem W ((l, blk b cs t) :: B) w' :=
  h.add hb l _ hc (fun k hk => by simp only [blk] at hk; omega)
end
end Go.Kx
