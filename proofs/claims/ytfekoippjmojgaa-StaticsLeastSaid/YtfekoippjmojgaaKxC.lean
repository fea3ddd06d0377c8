/- More rules of a walk: results that lie in cells, slices of an array, turns of one slot; sums and products that wrap. -/
import Derived.Test.YtfekoippjmojgaaKxB
namespace Go.Kx
set_option linter.unusedVariables false
set_option linter.unusedSimpArgs false
set_option linter.constructorNameAsVariable false
open Go.RowKit

section
variable {P : Program} {W : World} {n : Cx} {T : List (Nat × Value)} {B : List (Nat × Res)}

/-! results -/
def resOne (tmps : Array Value) : ResultVar → Sem Value
  | .tmp t => pure (tmps.getD t undef)
  | .cell a t => do loadVar t (← asAddr (tmps.getD a undef))
def RO (P : Program) (W : World) (n : Cx) (T : List (Nat × Value)) (B : List (Nat × Res)) (rs : List ResultVar) (vs : List Value) : Prop :=
  ∀ a w, Tm n T a → Mem W B w → (rs.mapM (resOne a.tmps)).run P w = .ok vs w
theorem RO.nil : RO P W n T B [] [] := fun a w _ _ => by simp
theorem RO.tmp {t : Tmp} {v : Value} {rs : List ResultVar} {vs : List Value} (hv : lkp T t = some v) (h : RO P W n T B rs vs) : RO P W n T B (.tmp t :: rs) (v :: vs) := fun a w ht hm => by
  have h1 : (resOne a.tmps (.tmp t)).run P w = .ok v w := by
    simp [resOne, Array.getD_eq_getD_getElem?, ht.val t v hv]
  simp [List.mapM_cons, h1, h a w ht hm]
theorem RO.cell {t : Tmp} {ty : TypeId} (l : Nat) {b : Nat} {cs : List Value} {ct : TypeId} {k : Nat} {rs : List ResultVar} {vs : List Value} (hv : lkp T t = some (.pointer (some ⟨b, 0, none⟩))) (hl : lkp B l = some (blk b cs ct)) (hs : aggn P ty k = true) (hk : cs.length = k) (h : RO P W n T B rs vs) : RO P W n T B (.cell t ty :: rs) (.agg cs.toArray :: vs) := fun a w ht hm => by
  subst hk
  have hld := run_loadVar_agg hs (ad := ⟨b, 0, none⟩) (w := w) fun j u hj => by rw [cell_add, Nat.zero_add, hm.cell hl]; exact hj
  have h1 : (resOne a.tmps (.cell t ty)).run P w = .ok (.agg cs.toArray) w := by
    simp [resOne, Array.getD_eq_getD_getElem?, ht.val t _ hv, asAddr, hld]
  simp [List.mapM_cons, h1, h a w ht hm]
theorem RO.cell1 {t : Tmp} {ty : TypeId} (l : Nat) {b : Nat} {v : Value} {ct : TypeId} {rs : List ResultVar} {vs : List Value} (hv : lkp T t = some (.pointer (some ⟨b, 0, none⟩))) (hl : lkp B l = some (blk b [v] ct)) (hs : scal P ty = true) (h : RO P W n T B rs vs) : RO P W n T B (.cell t ty :: rs) (v :: vs) := fun a w ht hm => by
  have hld := run_loadVar_scal hs (ad := ⟨b, 0, none⟩) (w := w) ((hm.cell hl 0).trans rfl)
  have h1 : (resOne a.tmps (.cell t ty)).run P w = .ok v w := by
    simp [resOne, Array.getD_eq_getD_getElem?, ht.val t _ hv, asAddr, hld]
  simp [List.mapM_cons, h1, h a w ht hm]
def wrapRes : List Value → Value
  | [v] => v
  | vs => .tuple vs.toArray
theorem wrapRes_eq (vs : List Value) : (if h : vs.toArray.size = 1 then vs.toArray[0] else .tuple vs.toArray) = wrapRes vs := by
  match vs with
  | [] => rfl
  | [v] => rfl
  | v :: u :: r => simp [wrapRes]
theorem Rx.retR {fn : Func} {R : Ending → World → Prop} {rs : List ResultVar} {vs : List Value} (hr : fn.results = rs.toArray) (h : RO P W n T B rs vs)
    (hR : ∀ w, Mem W B w → R (.returned (wrapRes vs)) w) (hds : n.ds = [] := by rfl) : Rx W n (bodyPost P fn R) .ret T B := fun a w ht hm =>
  bodyPost_ret (by
    have h1 := h a w ht hm
    have key : results fn a.tmps = (fn.results.mapM (resOne a.tmps) >>= fun vs => pure (if h : vs.size = 1 then vs[0] else .tuple vs)) := by
      unfold results
      congr 1
    rw [key, hr]
    rw [List.mapM_toArray, Sem.run_bind, Sem.run_map, h1]
    simp only [Result.andThen_ok, Sem.run_pure]
    rw [wrapRes_eq]) (ht.defers.trans hds) (hR w hm)

theorem Dr.turn {os : List Oper} {S : List (Nat × Res)} {fuel : Nat} {listed : Array Bool} {Q : Exit → Act → World → Prop} {t : Nat} {u v : Value} (hu : lkp T t = some u) (h : u = v) (k : Dr P W n os Q S fuel listed ((t, v) :: T) B) : Dr P W n os Q S fuel listed T B :=
  fun a w ht hm => k a w ⟨ht.defers, ht.size, fun s x hv => by
    by_cases e : t = s
    · subst e; rw [lkp_cons_eq] at hv; cases hv; subst h; exact ht.val _ _ hu
    · rw [lkp_cons_ne _ _ e] at hv; exact ht.val _ _ hv⟩ hm
theorem Dr.know {os : List Oper} {S : List (Nat × Res)} {fuel : Nat} {listed : Array Bool} {Q : Exit → Act → World → Prop} {t : Nat} {b c : Bool} (hb : lkp T t = some (.bool b)) (h : b = c) (k : Dr P W n os Q S fuel listed ((t, .bool c) :: T) B) : Dr P W n os Q S fuel listed T B :=
  Dr.turn hb (by rw [h]) k
theorem Cd.turn {c : Code} {Q : Exit → Act → World → Prop} {t : Nat} {u v : Value} (hu : lkp T t = some u) (h : u = v) (k : Cd P W n c Q ((t, v) :: T) B) : Cd P W n c Q T B :=
  fun a w ht hm => k a w ⟨ht.defers, ht.size, fun s x hv => by
    by_cases e : t = s
    · subst e; rw [lkp_cons_eq] at hv; cases hv; subst h; exact ht.val _ _ hu
    · rw [lkp_cons_ne _ _ e] at hv; exact ht.val _ _ hv⟩ hm

variable {dst : Option Tmp} {ty : TypeId} {pos : String} {aft : Array Edge} {g : Option (Nat × Bool)}
/-- A whole array as a slice. -/
theorem Val.sliceArr {t e : TypeId} {m : Nat} {x : Operand} {b off : Nat} (hu : P.underlying t = some (.array m e)) {s : Nat} (hs : cellsz P e = some s) (hx : opv T x = some (.pointer (some ⟨b, off, none⟩))) : Val P W n ⟨dst, .slice t x none none none, ty, pos, aft, g⟩ T B (.slice (some ⟨b, off, none⟩) m m) := fun a w ht _ => by
  obtain ⟨i, hi, hsz⟩ := Option.map_eq_some_iff.1 hs
  simp only [execOp, ht.eval hx, Option.map_none, Instr.sliceAt, Sem.run_bind, run_underlying_of hu, Result.andThen_ok, Instr.sureAddr, Sem.run_pure, Instr.sliceBounds, sizeOf, run_info_of hi, Nat.sub_zero, Nat.zero_mul]
  congr 4
  split <;> simp [Addr.add]
theorem Rdb.of_blk {w : World} {l b : Nat} {cs : List Value} {ct : TypeId} {α : Type} {enc : α → Value} {xs : List α} (hm : Mem W B w) (hl : lkp B l = some (blk b cs ct)) (hcs : cs = xs.map enc) : Rdb w (some ⟨b, 0, none⟩) 1 (fun x => [enc x]) xs := fun i x hx => by
  refine ⟨b, 0, rfl, rfl, fun j u hj => ?_⟩
  have hj0 : j = 0 ∧ u = enc x := by
    cases j with
    | zero => exact ⟨rfl, by simpa using hj.symm⟩
    | succ j => simp at hj
  obtain ⟨rfl, rfl⟩ := hj0
  rw [Nat.zero_add, Nat.mul_one, Nat.add_zero, hm.cell hl, hcs, List.getElem?_map, hx]
  rfl
/-- What a block of the call's own reads as, for a callee. -/
theorem Mem.reads {w : World} {l b : Nat} {cs : List Value} {ct : TypeId} (hm : Mem W B w) (hl : lkp B l = some (blk b cs ct)) : ∀ j u, cs[j]? = some u → w.cell? ⟨b, j, none⟩ = some u := fun j _ hj => (hm.cell hl j).trans hj
/-- What lay there when the call began lies there still. -/
theorem Mem.rdb {w : World} {a : Option Addr} {sz : Nat} {α : Type} {enc : α → List Value} {xs : List α} (hm : Mem W B w) (h : Rdb W a sz enc xs) : Rdb w a sz enc xs := fun i x hx => by
  obtain ⟨b, off, ha, hl, hc⟩ := h i x hx
  exact ⟨b, off, ha, hl, fun j u hj => hm.old (hc j u hj)⟩
theorem Mem.recOld {w : World} {b : Nat} {cs : List Value} (hm : Mem W B w) (hd : ∀ j u, cs[j]? = some u → W.cell? ⟨b, j, none⟩ = some u) : ∀ j u, cs[j]? = some u → w.cell? ⟨b, j, none⟩ = some u := fun j u hj => hm.old (hd j u hj)
end

/-! sums and products that wrap -/
theorem wrap_add_l (a b : Int) : wrap64 (wrap64 a + b) = wrap64 (a + b) := by unfold wrap64; omega
theorem wrap_add_r (a b : Int) : wrap64 (a + wrap64 b) = wrap64 (a + b) := by unfold wrap64; omega
theorem wrap_sub_l (a b : Int) : wrap64 (wrap64 a - b) = wrap64 (a - b) := by unfold wrap64; omega
theorem wrap_sub_r (a b : Int) : wrap64 (a - wrap64 b) = wrap64 (a - b) := by unfold wrap64; omega
theorem wrap_neg (a : Int) : wrap64 (-wrap64 a) = wrap64 (-a) := by unfold wrap64; omega
theorem wrap_wrap (a : Int) : wrap64 (wrap64 a) = wrap64 a := by unfold wrap64; omega
theorem wrap_congr {a b : Int} (h : a % 18446744073709551616 = b % 18446744073709551616) : wrap64 a = wrap64 b := by unfold wrap64; omega
theorem wrap_mod (a : Int) : wrap64 a % 18446744073709551616 = a % 18446744073709551616 := by unfold wrap64; omega
theorem wrap_mul_l (a b : Int) : wrap64 (wrap64 a * b) = wrap64 (a * b) := wrap_congr (by rw [Int.mul_emod, wrap_mod, ← Int.mul_emod])
theorem wrap_mul_r (a b : Int) : wrap64 (a * wrap64 b) = wrap64 (a * b) := wrap_congr (by rw [Int.mul_emod, wrap_mod, ← Int.mul_emod])
theorem wrap_in (a : Int) : in64 (wrap64 a) := by unfold in64 wrap64; omega
end Go.Kx
