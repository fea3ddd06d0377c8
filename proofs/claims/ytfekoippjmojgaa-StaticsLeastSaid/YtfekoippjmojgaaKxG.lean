/- Rules for strings (length, bytes, a range over runes), and for a callee that turns one block of its caller's. No program is named here. -/
import Derived.Test.YtfekoippjmojgaaKxE
import Derived.Laws.RangeString
namespace Go.Kx
set_option linter.unusedVariables false
set_option linter.unusedSimpArgs false
set_option linter.constructorNameAsVariable false
open Go.RowKit
section
variable {P : Program} {W : World} {n : Cx} {T : List (Nat × Value)} {B : List (Nat × Res)} {ty : TypeId} {pos : String} {aft : Array Edge} {g : Option (Nat × Bool)} {dst : Option Tmp}
theorem Val.lenStr {x : Operand} {t : TypeId} {s : ByteArray} (hu : P.underlying t = some .string) (ha : opv T x = some (.string s)) : Val P W n ⟨dst, .call { callee := .builtin .len, args := #[x], argTypes := #[t] }, ty, pos, aft, g⟩ T B (.int .i64 s.size) :=
  run_builtin (args := [x]) (vs := [.string s]) (by simp [opvs, ha]) fun w cs => by
    simp only [builtin, Builtin.len_, Sem.run_bind, run_underlying_of hu, Result.andThen_ok, Sem.run_pure, List.getElem?_toArray, List.getElem?_cons_zero]
    rfl
theorem str_at {s : ByteArray} {i : Nat} {b : UInt8} (h : s.data.toList[i]? = some b) : s[i]? = some b := by
  have hlt : i < s.data.toList.length := (List.getElem?_eq_some_iff.1 h).1
  have hlt' : i < s.size := by rw [Array.length_toList] at hlt; exact hlt
  rw [getElem?_pos s i hlt']
  have := (List.getElem?_eq_some_iff.1 h).2
  simp only [Option.some.injEq]
  rw [← this]
  rfl
theorem Val.indexStr {x i : Operand} {t : TypeId} {s : ByteArray} {k : IntKind} {j : Int} {m : Nat} {b : UInt8} (hu : P.underlying t = some .string) (hx : opv T x = some (.string s)) (hi : opv T i = some (.int k j)) (hj : j = (m : Int)) (hb : s.data.toList[m]? = some b) : Val P W n ⟨dst, .index t x i, ty, pos, aft, g⟩ T B (.int .u8 b.toNat) :=
  Val.index hx hi fun w => by
    subst hj
    simp [Instr.index, asIntOf, run_underlying_of hu, str_at hb]
/-- Where a range over a string stands. -/
def iterR (gb : Nat) (s : ByteArray) (p : Nat) : Res where
  own k := k = gb
  holds w := w.heap[gb]? = some (.stringIter s p)
  frame w w' _ h hh := by rw [h gb rfl]; exact hh
  inside w h k hk := by subst hk; exact (Array.getElem?_eq_some_iff.1 h).1
theorem Eff.rangeStr {d : Nat} {x : Operand} {t : TypeId} {s : ByteArray} (l : Nat) (hu : P.underlying t = some .string) (hx : opv T x = some (.string s)) (hd : Nat.blt d n.n = true) :
    Eff P W n ⟨some d, .range t x, ty, pos, aft, g⟩ T B (fun _ : Nat => True) (fun b => (d, .pointer (some ⟨b, 0, none⟩)) :: T) (fun b => (l, iterR b s 0) :: B) := fun a w ht hm K Q hk => by
  have hrun : (execOp a.eval ⟨some d, .range t x, ty, pos, aft, g⟩).run P w = .ok (.value (.pointer (some ⟨w.heap.size, 0, none⟩))) (w.alloc (.stringIter s 0)) := by
    simp only [execOp, ht.eval hx, Sem.run_bind, run_range_string w t s hu, Result.andThen_ok, Sem.run_pure]; rfl
  refine OpX.of_run (by intro c e; cases e) hrun ?_
  exact hk w.heap.size trivial _ _ (ht.put hd _) (hm.add ((Below.refl _ _).alloc (Nat.le_refl _) _) l _ (by show (w.heap.push _)[w.heap.size]? = _; simp) (fun k hk => by simp only [iterR] at hk; omega))
theorem Eff.nextStr {d : Nat} {x : Operand} {s : ByteArray} {p gb c wd : Nat} (l : Nat) (hx : opv T x = some (.pointer (some ⟨gb, 0, none⟩))) (hl : lkp B l = some (iterR gb s p)) (hp : p < s.size) (hc : Utf8.decode s p = (c, wd)) (hd : Nat.blt d n.n = true) :
    Eff P W n ⟨some d, .next x true, ty, pos, aft, g⟩ T B (fun _ : Unit => True) (fun _ => (d, .tuple #[.bool true, .int .i64 p, .int .i32 c]) :: T) (fun _ => (l, iterR gb s (p + wd)) :: B) := fun a w ht hm K Q hk => by
  have hg : w.heap[gb]? = some (.stringIter s p) := hm.holds l _ hl
  have hlt := (Array.getElem?_eq_some_iff.1 hg).1
  have hrun : (execOp a.eval ⟨some d, .next x true, ty, pos, aft, g⟩).run P w = .ok (.value (.tuple #[.bool true, .int .i64 p, .int .i32 c])) { w with heap := w.heap.setIfInBounds gb (.stringIter s (p + wd)) } := by
    simp [execOp, ht.eval hx, Instr.next, getObj, setObj, Sem.run, hg, hp, hc, goInt, Result.andThen]
  refine OpX.of_run (by intro c e; cases e) hrun ?_
  refine hk () trivial _ _ (ht.put hd _) (hm.turn l hl (iterR gb s (p + wd)) rfl rfl rfl (by simp) (fun k hk hno => ?_) ?_ (fun k hk => .inl hk))
  · show (w.heap.setIfInBounds gb _)[k]? = _
    rw [Array.getElem?_setIfInBounds_ne (fun e => hno e.symm)]
  · show (w.heap.setIfInBounds gb _)[gb]? = _
    rw [Array.getElem?_setIfInBounds_self_of_lt hlt]
theorem Eff.nextEnd {d : Nat} {x : Operand} {s : ByteArray} {p gb : Nat} (l : Nat) (hx : opv T x = some (.pointer (some ⟨gb, 0, none⟩))) (hl : lkp B l = some (iterR gb s p)) (hp : ¬ p < s.size) (hd : Nat.blt d n.n = true) :
    Eff P W n ⟨some d, .next x true, ty, pos, aft, g⟩ T B (fun _ : Unit => True) (fun _ => (d, .tuple #[.bool false]) :: T) (fun _ => B) := fun a w ht hm K Q hk => by
  have hg : w.heap[gb]? = some (.stringIter s p) := hm.holds l _ hl
  have hrun : (execOp a.eval ⟨some d, .next x true, ty, pos, aft, g⟩).run P w = .ok (.value (.tuple #[.bool false])) w := by
    simp [execOp, ht.eval hx, Instr.next, getObj, Sem.run, hg, hp]
  refine OpX.of_run (by intro c e; cases e) hrun ?_
  exact hk () trivial _ _ (ht.put hd _) hm
theorem get_at {s : ByteArray} {i : Nat} {b : UInt8} (h : s.data.toList[i]? = some b) : s.get! i = b := by
  have hlt : i < s.data.size := by simpa using (List.getElem?_eq_some_iff.1 h).1
  have := (List.getElem?_eq_some_iff.1 h).2
  cases s with
  | mk d =>
    simp only [ByteArray.get!]
    rw [getElem!_pos d i hlt, ← this]; simp
theorem decode_lo8 {s : ByteArray} {i : Nat} {b : UInt8} (h : s.data.toList[i]? = some b) (hb : b.toNat < 128) : Utf8.decode s i = (b.toNat, 1) := by
  have e : s.get! (i + 0) = b := get_at h
  simp only [Utf8.decode, e, hb, if_true]
theorem decode_hi8 {s : ByteArray} {i : Nat} {b : UInt8} (h : s.data.toList[i]? = some b) (hb : ¬ b.toNat < 128) : 128 ≤ (Utf8.decode s i).1 := by
  have e : s.get! (i + 0) = b := get_at h
  simp only [Utf8.decode, e, hb, if_false, Utf8.runeError]
  repeat' split
  all_goals first | omega | (simp only [Bool.and_eq_true, decide_eq_true_eq] at *; omega)
/-! ### a callee that turns one block of its caller's -/
def restR (w : World) (b : Nat) : Res where
  own k := b < k ∧ k < w.heap.size
  holds w' := ∀ k, b < k → k < w.heap.size → w'.heap[k]? = w.heap[k]?
  frame w1 w2 _ h hh := fun k h1 h2 => by rw [h k ⟨h1, h2⟩]; exact hh k h1 h2
  inside w1 h k hk := by
    have h1 := h k hk.1 hk.2
    rw [Array.getElem?_eq_getElem hk.2] at h1
    exact (Array.getElem?_eq_some_iff.1 h1).1
/-- The world below a block. -/
def under (w : World) (b : Nat) : World := { w with heap := w.heap.extract 0 b }
/-- Only the block b has turned. -/
structure Lent (w : World) (b : Nat) (cs : List Value) (t : TypeId) (w' : World) : Prop where
  os : w'.os = w.os
  tape : w'.tape = w.tape
  output : w'.output = w.output
  size : w.heap.size ≤ w'.heap.size
  block : ∀ k, k < w.heap.size → k ≠ b → w'.heap[k]? = w.heap[k]?
  cells : w'.heap[b]? = some (.cells cs.toArray t (0, 0))
theorem under_get {w : World} {b k : Nat} (hk : k < b) (hb : b ≤ w.heap.size) : (under w b).heap[k]? = w.heap[k]? := by
  simp only [under]
  rw [Array.getElem?_extract]
  simp; omega
theorem under_size {w : World} {b : Nat} (hb : b ≤ w.heap.size) : (under w b).heap.size = b := by
  simp [under]; omega
theorem Mem.lend {w : World} {b : Nat} {cs : List Value} {t : TypeId} (h : w.heap[b]? = some (.cells cs.toArray t (0, 0))) : Mem (under w b) [(1, blk b cs t), (2, restR w b)] w := by
  have hb := (Array.getElem?_eq_some_iff.1 h).1
  have hsz := under_size (w := w) (b := b) (by omega)
  have two : ∀ l r, lkp [(1, blk b cs t), (2, restR w b)] l = some r → (l = 1 ∧ r = blk b cs t) ∨ (l = 2 ∧ r = restR w b) := fun l r hl => by
    by_cases e1 : 1 = l
    · subst e1; rw [lkp_cons_eq] at hl; cases hl; exact .inl ⟨rfl, rfl⟩
    · rw [lkp_cons_ne _ _ e1] at hl
      by_cases e2 : 2 = l
      · subst e2; rw [lkp_cons_eq] at hl; cases hl; exact .inr ⟨rfl, rfl⟩
      · rw [lkp_cons_ne _ _ e2] at hl; simp [lkp] at hl
  refine ⟨⟨rfl, rfl, rfl, by omega, fun k hk => ?_⟩, fun l r hl => ?_, fun l r hl k hk => ?_, fun l l' r r' h1 h2 hne k hk hk' => ?_⟩
  · rw [hsz] at hk; exact (under_get hk (by omega)).symm
  · rcases two l r hl with ⟨_, rfl⟩ | ⟨_, rfl⟩
    · exact h
    · exact fun _ _ _ => rfl
  · rw [hsz]
    rcases two l r hl with ⟨_, rfl⟩ | ⟨_, rfl⟩
    · simp only [blk] at hk; omega
    · simp only [restR] at hk; omega
  · rcases two l r h1 with ⟨e1, rfl⟩ | ⟨e1, rfl⟩ <;> rcases two l' r' h2 with ⟨e2, rfl⟩ | ⟨e2, rfl⟩
    · omega
    · simp only [blk, restR] at hk hk'; omega
    · simp only [blk, restR] at hk hk'; omega
    · omega
theorem Mem.lent {w w' : World} {b : Nat} {cs : List Value} {t : TypeId} {B' : List (Nat × Res)} (hb : b < w.heap.size) (hm : Mem (under w b) B' w') (h1 : lkp B' 1 = some (blk b cs t)) (h2 : lkp B' 2 = some (restR w b)) : Lent w b cs t w' := by
  have hsz := under_size (w := w) (b := b) (by omega)
  have hc : w'.heap[b]? = some (.cells cs.toArray t (0, 0)) := hm.holds 1 _ h1
  have hr : ∀ k, b < k → k < w.heap.size → w'.heap[k]? = w.heap[k]? := hm.holds 2 _ h2
  have hb' := (Array.getElem?_eq_some_iff.1 hc).1
  refine ⟨hm.below.os, hm.below.tape, hm.below.output, ?_, fun k hk hne => ?_, hc⟩
  · by_cases hs : b + 1 < w.heap.size
    · have := hr (w.heap.size - 1) (by omega) (by omega)
      rw [Array.getElem?_eq_getElem (show w.heap.size - 1 < w.heap.size by omega)] at this
      have := (Array.getElem?_eq_some_iff.1 this).1
      omega
    · omega
  · by_cases h : k < b
    · rw [hm.below.block k (by rw [hsz]; exact h)]
      exact under_get h (by omega)
    · exact hr k (by omega) hk
theorem Lent.mem {w w' : World} {b l : Nat} {cs cs' : List Value} {t : TypeId} (hm : Mem W B w) (hl : lkp B l = some (blk b cs t)) (h : Lent w b cs' t w') : Mem W ((l, blk b cs' t) :: B) w' :=
  hm.turn l hl _ h.os h.tape h.output h.size (fun k hk hno => h.block k hk (fun e => hno e)) h.cells (fun k hk => .inl hk)
theorem calls_in {f : FuncId} {fn : Func} {c : Code} {vs : List Value} {w : World} {R : Ending → World → Prop} {m : Nat}
    (hf : P.funcs[f]? = some fn) (hb : fn.body = some c) (hn : fn.ntmps = m) (hl : Nat.ble vs.length m = true) (hm : Mem W B w)
    (h : Cd P W (Cx.act m) c (bodyPost P fn R) (argT 0 vs) B) : Calls P f vs.toArray w R := by
  have hl' : vs.length ≤ m := Nat.le_of_ble_eq_true hl
  refine calls_of_wp hf hb (wpIn_none (h _ w ⟨rfl, by simp [hn]; omega, fun s v hv => ?_⟩ hm))
  obtain ⟨_, h2⟩ := lkp_argT vs 0 s v hv
  simp only [Nat.sub_zero] at h2
  have hlt := (List.getElem?_eq_some_iff.1 h2).1
  rw [Array.getElem?_append_left (by simpa using hlt)]
  simpa using h2
theorem Rx.end0 {fn : Func} {R : Ending → World → Prop} (hr : fn.results = #[]) (h : ∀ w, Mem W B w → R (.returned (.tuple #[])) w) (hds : n.ds = [] := by rfl) : Rx W n (bodyPost P fn R) .normal T B := fun a w ht hm =>
  ⟨ht.defers.trans hds, .tuple #[], by simp [results, hr], h w hm⟩
theorem Rx.ret0 {fn : Func} {R : Ending → World → Prop} (hr : fn.results = #[]) (h : ∀ w, Mem W B w → R (.returned (.tuple #[])) w) (hds : n.ds = [] := by rfl) : Rx W n (bodyPost P fn R) .ret T B := fun a w ht hm =>
  ⟨ht.defers.trans hds, .tuple #[], by simp [results, hr], h w hm⟩
/-- A call that turns one block of the caller's. -/
theorem Eff.lent {d : Nat} {x : Operand} {args : List Operand} {tys : Array TypeId} {f : FuncId} {fs us vs : List Value} {b : Nat} {cs cs' : List Value} {t : TypeId} {v : Value} (l : Nat)
    (hx : opv T x = some (.func (.func f) fs.toArray us.toArray)) (ha : opvs T args = some vs) (he : Enters P f) (hd : Nat.blt d n.n = true) (hl : lkp B l = some (blk b cs t))
    (hc : ∀ w, w.heap[b]? = some (.cells cs.toArray t (0, 0)) → Calls P f (fs ++ vs ++ us).toArray w fun e w' => e = .returned v ∧ Lent w b cs' t w') :
    Eff P W n ⟨some d, .call { callee := .value x, args := args.toArray, argTypes := tys }, ty, pos, aft, g⟩ T B (fun _ : Unit => True) (fun _ => (d, v) :: T) (fun _ => (l, blk b cs' t) :: B) :=
  Eff.call (A := Unit) (R := fun _ => True) (v := fun _ => v) (B' := fun _ => (l, blk b cs' t) :: B) hx ha he hd fun w hm => (hc w (hm.holds l _ hl)).mono fun _ _ ⟨he, hb⟩ => ⟨(), trivial, he, hb.mem hm hl⟩
end
end Go.Kx
