/- Memory that is lent to a callee and turned there; the calls of yield; the statement 'for x := range f' over a function. No program is named here. -/
import Derived.Test.YtfekoippjmojgaaKxG
namespace Go.Kx
set_option linter.unusedVariables false
set_option linter.unusedSimpArgs false
set_option linter.constructorNameAsVariable false
open Go.RowKit

/-! ### resources packed together -/
theorem lkp_append {α : Type} : ∀ (X Y : List (Nat × α)) (s : Nat), lkp (X ++ Y) s = (lkp X s).or (lkp Y s)
  | [], Y, s => by simp [lkp]
  | (k, v) :: r, Y, s => by
    by_cases e : k = s
    · subst e; rw [List.cons_append, lkp_cons_eq, lkp_cons_eq]; rfl
    · rw [List.cons_append, lkp_cons_ne _ _ e, lkp_cons_ne _ _ e]; exact lkp_append r Y s
theorem lkp_append_l {α : Type} {X Y : List (Nat × α)} {s : Nat} {v : α} (h : lkp X s = some v) : lkp (X ++ Y) s = some v := by rw [lkp_append, h]; rfl
theorem lkp_append_r {α : Type} {X Y : List (Nat × α)} {s : Nat} (h : lkp X s = none) : lkp (X ++ Y) s = lkp Y s := by rw [lkp_append, h]; rfl
theorem lkp_append_or {α : Type} {X Y : List (Nat × α)} {s : Nat} {v : α} (h : lkp (X ++ Y) s = some v) : lkp X s = some v ∨ lkp X s = none ∧ lkp Y s = some v := by
  rw [lkp_append] at h
  cases hx : lkp X s with
  | some u => rw [hx] at h; exact .inl h
  | none => rw [hx] at h; exact .inr ⟨rfl, h⟩
/-- No label stands in both lists. -/
def apartB {α β : Type} : List (Nat × α) → List (Nat × β) → Bool
  | [], _ => true
  | (k, _) :: r, Y => (lkp Y k).isNone && apartB r Y
theorem apartB_spec {α β : Type} {Y : List (Nat × β)} : ∀ {X : List (Nat × α)}, apartB X Y = true → ∀ {s : Nat} {v : α}, lkp X s = some v → lkp Y s = none
  | [], _, s, v, h => by simp [lkp] at h
  | (k, u) :: r, hb, s, v, h => by
    simp only [apartB, Bool.and_eq_true] at hb
    by_cases e : k = s
    · subst e; simpa using hb.1
    · rw [lkp_cons_ne _ _ e] at h; exact apartB_spec hb.2 h
theorem apartB_symm {α β : Type} {X : List (Nat × α)} {Y : List (Nat × β)} (hb : apartB X Y = true) {s : Nat} {v : β} (h : lkp Y s = some v) : lkp X s = none := by
  cases hx : lkp X s with
  | none => rfl
  | some u => rw [apartB_spec hb hx] at h; cases h
theorem subl_refl {α : Type} (X : List (Nat × α)) (h : ∀ s v, lkp X s = some v → lkp X s = some v) : True := trivial
theorem subl_of {α : Type} {T : List (Nat × α)} : ∀ {S : List (Nat × α)}, (∀ p ∈ S, lkp T p.1 = some p.2) → subl S T
  | [], _ => trivial
  | p :: r, h => ⟨h p (by simp), subl_of fun q hq => h q (by simp [hq])⟩
/-- Lists as maps: what the first says the second says too. -/
def Sub {α : Type} (S T : List (Nat × α)) : Prop := ∀ s v, lkp S s = some v → lkp T s = some v
theorem Sub.of {α : Type} {S T : List (Nat × α)} (h : subl S T) : Sub S T := subl_lkp h
theorem Sub.rfl {α : Type} {S : List (Nat × α)} : Sub S S := fun _ _ h => h
theorem Mem.weakS {W w : World} {B B' : List (Nat × Res)} (h : Mem W B w) (hs : Sub B' B) : Mem W B' w :=
  ⟨h.below, fun l r hl => h.holds l r (hs l r hl), fun l r hl => h.fresh l r (hs l r hl), fun l l' r r' h1 h2 => h.apart l l' r r' (hs l r h1) (hs l' r' h2)⟩

/-- Several resources as one. -/
def packR (B : List (Nat × Res)) : Res where
  own k := ∃ l r, lkp B l = some r ∧ r.own k
  holds w := (∀ l r, lkp B l = some r → r.holds w) ∧ ∀ l l' r r', lkp B l = some r → lkp B l' = some r' → l ≠ l' → ∀ k, r.own k → ¬ r'.own k
  frame w w' hs h hh := ⟨fun l r hl => r.frame w w' hs (fun k hk => h k ⟨l, r, hl, hk⟩) (hh.1 l r hl), hh.2⟩
  inside w h k hk := by
    obtain ⟨l, r, hl, hk⟩ := hk
    exact r.inside w (h.1 l r hl) k hk
/-- r has become r'; nothing else has turned. -/
structure Turns (r : Res) (w : World) (r' : Res) (w' : World) : Prop where
  os : w'.os = w.os
  tape : w'.tape = w.tape
  output : w'.output = w.output
  size : w.heap.size ≤ w'.heap.size
  block : ∀ k, k < w.heap.size → ¬ r.own k → w'.heap[k]? = w.heap[k]?
  holds : r'.holds w'
  own : ∀ k, r'.own k → r.own k ∨ w.heap.size ≤ k
theorem Turns.refl {r : Res} {w : World} (h : r.holds w) : Turns r w r w := ⟨rfl, rfl, rfl, Nat.le_refl _, fun _ _ _ => rfl, h, fun _ hk => .inl hk⟩
section
variable {W w w' : World} {B B0 Bs Bs' : List (Nat × Res)}
theorem Mem.pack (h : Mem W B w) (hs : Sub Bs B) : (packR Bs).holds w := ⟨fun l r hl => h.holds l r (hs l r hl), fun l l' r r' h1 h2 => h.apart l l' r r' (hs l r h1) (hs l' r' h2)⟩
theorem Mem.packFresh (h : Mem W B w) (hs : Sub Bs B) : ∀ k, (packR Bs).own k → W.heap.size ≤ k := fun k ⟨l, r, hl, hk⟩ => h.fresh l r (hs l r hl) k hk
theorem Mem.over (h : Mem W B w) (hs : Sub Bs B) (h0 : Sub B0 B) (ha : apartB Bs B0 = true) (ht : Turns (packR Bs) w (packR Bs') w') (ha' : apartB Bs' B0 = true) : Mem W (Bs' ++ B0) w' := by
  have hfr := h.packFresh hs
  have out : ∀ l r, lkp B0 l = some r → ∀ k, r.own k → ¬ (packR Bs).own k := fun l r hl k hk ⟨l', r', hl', hk'⟩ => by
    refine h.apart l l' r r' (h0 l r hl) (hs l' r' hl') (fun e => ?_) k hk hk'
    subst e; rw [apartB_spec ha hl'] at hl; cases hl
  have h0w : ∀ l r, lkp B0 l = some r → r.holds w' := fun l r hl => r.frame w w' ht.size (fun k hk => ht.block k (r.inside w (h.holds l r (h0 l r hl)) k hk) (out l r hl k hk)) (h.holds l r (h0 l r hl))
  have cross : ∀ l r l' r', lkp Bs' l = some r → lkp B0 l' = some r' → ∀ k, r.own k → ¬ r'.own k := fun l r l' r' hl hl' k hk hk' => by
    rcases ht.own k ⟨l, r, hl, hk⟩ with h1 | h1
    · exact out l' r' hl' k hk' h1
    · have := r'.inside w (h.holds l' r' (h0 l' r' hl')) k hk'; omega
  refine ⟨⟨ht.os.trans h.below.os, ht.tape.trans h.below.tape, ht.output.trans h.below.output, Nat.le_trans h.below.size ht.size, fun k hk => ?_⟩, fun l r hl => ?_, fun l r hl k hk => ?_, fun l l' r r' h1 h2 hne k hk hk' => ?_⟩
  · rw [ht.block k (Nat.lt_of_lt_of_le hk h.below.size) (fun ho => by have := hfr k ho; omega)]
    exact h.below.block k hk
  · rcases lkp_append_or hl with h1 | ⟨_, h1⟩
    · exact ht.holds.1 l r h1
    · exact h0w l r h1
  · rcases lkp_append_or hl with h1 | ⟨_, h1⟩
    · rcases ht.own k ⟨l, r, h1, hk⟩ with h2 | h2
      · exact hfr k h2
      · exact Nat.le_trans h.below.size h2
    · exact h.fresh l r (h0 l r h1) k hk
  · rcases lkp_append_or h1 with e1 | ⟨_, e1⟩ <;> rcases lkp_append_or h2 with e2 | ⟨_, e2⟩
    · exact ht.holds.2 l l' r r' e1 e2 hne k hk hk'
    · exact cross l r l' r' e1 e2 k hk hk'
    · exact cross l' r' l r e2 e1 k hk' hk
    · exact h.apart l l' r r' (h0 l r e1) (h0 l' r' e2) hne k hk hk'
/-- Labels made one. -/
theorem Mem.packed (q : Nat) (h : Mem W B w) (hs : Sub Bs B) (h0 : Sub B0 B) (ha : apartB Bs B0 = true) (hq : lkp B0 q = none) : Mem W ((q, packR Bs) :: B0) w := by
  have out : ∀ l r, lkp B0 l = some r → ∀ k, r.own k → ¬ (packR Bs).own k := fun l r hl k hk ⟨l', r', hl', hk'⟩ => by
    refine h.apart l l' r r' (h0 l r hl) (hs l' r' hl') (fun e => ?_) k hk hk'
    subst e; rw [apartB_spec ha hl'] at hl; cases hl
  have two : ∀ {l r}, lkp ((q, packR Bs) :: B0) l = some r → (l = q ∧ r = packR Bs) ∨ (l ≠ q ∧ lkp B0 l = some r) := fun {l r} hl => by
    by_cases e : q = l
    · subst e; rw [lkp_cons_eq] at hl; cases hl; exact .inl ⟨rfl, rfl⟩
    · rw [lkp_cons_ne _ _ e] at hl; exact .inr ⟨fun h => e h.symm, hl⟩
  refine ⟨h.below, fun l r hl => ?_, fun l r hl k hk => ?_, fun l l' r r' h1 h2 hne k hk hk' => ?_⟩
  · rcases two hl with ⟨_, rfl⟩ | ⟨_, h1⟩
    · exact h.pack hs
    · exact h.holds l r (h0 l r h1)
  · rcases two hl with ⟨_, rfl⟩ | ⟨_, h1⟩
    · exact h.packFresh hs k hk
    · exact h.fresh l r (h0 l r h1) k hk
  · rcases two h1 with ⟨e1, rfl⟩ | ⟨_, e1⟩ <;> rcases two h2 with ⟨e2, rfl⟩ | ⟨_, e2⟩
    · omega
    · exact out l' r' e2 k hk' hk
    · exact out l r e1 k hk hk'
    · exact h.apart l l' r r' (h0 l r e1) (h0 l' r' e2) hne k hk hk'
/-- One label laid open. -/
theorem Mem.unpacked {q : Nat} (h : Mem W ((q, packR Bs) :: B0) w) (ha : apartB Bs B0 = true) (hq : lkp B0 q = none) : Mem W (Bs ++ B0) w := by
  have h1 : (packR Bs).holds w := h.holds q _ (lkp_cons_eq _ _ _)
  have hne : ∀ {l r}, lkp B0 l = some r → q ≠ l := fun hl e => by subst e; rw [hq] at hl; cases hl
  have out : ∀ l r, lkp B0 l = some r → ∀ k, r.own k → ¬ (packR Bs).own k := fun l r hl k hk hk' =>
    h.apart l q r _ (by rw [lkp_cons_ne _ _ (hne hl)]; exact hl) (lkp_cons_eq _ _ _) (fun e => hne hl e.symm) k hk hk'
  have up : ∀ {l r}, lkp B0 l = some r → lkp ((q, packR Bs) :: B0) l = some r := fun hl => by rw [lkp_cons_ne _ _ (hne hl)]; exact hl
  refine ⟨h.below, fun l r hl => ?_, fun l r hl k hk => ?_, fun l l' r r' e1 e2 hn k hk hk' => ?_⟩
  · rcases lkp_append_or hl with h2 | ⟨_, h2⟩
    · exact h1.1 l r h2
    · exact h.holds l r (up h2)
  · rcases lkp_append_or hl with h2 | ⟨_, h2⟩
    · exact h.fresh q _ (lkp_cons_eq _ _ _) k ⟨l, r, h2, hk⟩
    · exact h.fresh l r (up h2) k hk
  · rcases lkp_append_or e1 with h2 | ⟨_, h2⟩ <;> rcases lkp_append_or e2 with h3 | ⟨_, h3⟩
    · exact h1.2 l l' r r' h2 h3 hn k hk hk'
    · exact out l' r' h3 k hk' ⟨l, r, h2, hk⟩
    · exact out l r h2 k hk ⟨l', r', h3, hk'⟩
    · exact h.apart l l' r r' (up h2) (up h3) hn k hk hk'
/-- All that lies beyond N in w and is not r's. -/
def restOf (N : Nat) (w : World) (r : Res) : Res where
  own k := N ≤ k ∧ k < w.heap.size ∧ ¬ r.own k
  holds w' := w.heap.size ≤ w'.heap.size ∧ ∀ k, N ≤ k → k < w.heap.size → ¬ r.own k → w'.heap[k]? = w.heap[k]?
  frame w1 w2 hs h hh := ⟨Nat.le_trans hh.1 hs, fun k h1 h2 h3 => by rw [h k ⟨h1, h2, h3⟩]; exact hh.2 k h1 h2 h3⟩
  inside w1 h k hk := Nat.lt_of_lt_of_le hk.2.1 h.1
theorem Mem.enter (q : Nat) (h : Mem W Bs w) (hq : lkp Bs q = none) : Mem W ((q, restOf W.heap.size w (packR Bs)) :: Bs) w := by
  have hne : ∀ {l r}, lkp Bs l = some r → q ≠ l := fun hl e => by subst e; rw [hq] at hl; cases hl
  have two : ∀ {l r}, lkp ((q, restOf W.heap.size w (packR Bs)) :: Bs) l = some r → (l = q ∧ r = restOf W.heap.size w (packR Bs)) ∨ (l ≠ q ∧ lkp Bs l = some r) := fun {l r} hl => by
    by_cases e : q = l
    · subst e; rw [lkp_cons_eq] at hl; cases hl; exact .inl ⟨rfl, rfl⟩
    · rw [lkp_cons_ne _ _ e] at hl; exact .inr ⟨fun h => e h.symm, hl⟩
  refine ⟨h.below, fun l r hl => ?_, fun l r hl k hk => ?_, fun l l' r r' h1 h2 hn k hk hk' => ?_⟩
  · rcases two hl with ⟨_, rfl⟩ | ⟨_, h1⟩
    · exact ⟨Nat.le_refl _, fun _ _ _ _ => rfl⟩
    · exact h.holds l r h1
  · rcases two hl with ⟨_, rfl⟩ | ⟨_, h1⟩
    · exact hk.1
    · exact h.fresh l r h1 k hk
  · rcases two h1 with ⟨e1, rfl⟩ | ⟨_, e1⟩ <;> rcases two h2 with ⟨e2, rfl⟩ | ⟨_, e2⟩
    · omega
    · exact hk.2.2 ⟨l', r', e2, hk'⟩
    · exact hk'.2.2 ⟨l, r, e1, hk⟩
    · exact h.apart l l' r r' e1 e2 hn k hk hk'
theorem Turns.of_mem {q : Nat} {r : Res} (hb : Below W.heap.size W w) (h : Mem W B w') (hq : lkp B q = some (restOf W.heap.size w r)) (hs : Sub Bs' B) (hn : lkp Bs' q = none) : Turns r w (packR Bs') w' := by
  have hr := h.holds q _ hq
  refine ⟨h.below.os.trans hb.os.symm, h.below.tape.trans hb.tape.symm, h.below.output.trans hb.output.symm, hr.1, fun k hk hno => ?_, h.pack hs, fun k ⟨l, x, hl, hk⟩ => ?_⟩
  · by_cases hW : k < W.heap.size
    · rw [h.below.block k hW, hb.block k hW]
    · exact hr.2 k (by omega) hk hno
  · by_cases ho : r.own k
    · exact .inl ho
    · refine .inr (Nat.le_of_not_lt fun hlt => ?_)
      have hW := h.fresh l x (hs l x hl) k hk
      exact h.apart l q x _ (hs l x hl) hq (fun e => by subst e; rw [hn] at hl; cases hl) k hk ⟨hW, hlt, ho⟩
end

/-! ### a callee that turns what it is lent -/
section
variable {P : Program} {W : World} {n : Cx} {T : List (Nat × Value)} {B : List (Nat × Res)} {ty : TypeId} {pos : String} {aft : Array Edge} {g : Option (Nat × Bool)}
theorem Eff.over {d : Nat} {x : Operand} {args : List Operand} {tys : Array TypeId} {f : FuncId} {fs us vs : List Value} {A : Type} {R : A → Prop} {v : A → Value} {Bs B0 : List (Nat × Res)} {Bs' : A → List (Nat × Res)}
    (hx : opv T x = some (.func (.func f) fs.toArray us.toArray)) (ha : opvs T args = some vs) (he : Enters P f) (hd : Nat.blt d n.n = true) (hs : subl Bs B) (h0 : subl B0 B) (hap : apartB Bs B0 = true) (hap' : ∀ p, apartB (Bs' p) B0 = true)
    (hc : ∀ w, Mem W B w → Calls P f (fs ++ vs ++ us).toArray w fun e w' => ∃ p, R p ∧ e = .returned (v p) ∧ Turns (packR Bs) w (packR (Bs' p)) w') :
    Eff P W n ⟨some d, .call { callee := .value x, args := args.toArray, argTypes := tys }, ty, pos, aft, g⟩ T B R (fun p => (d, v p) :: T) (fun p => Bs' p ++ B0) :=
  Eff.call hx ha he hd fun w hm => (hc w hm).mono fun _ _ ⟨p, hp, he, ht⟩ => ⟨p, hp, he, hm.over (.of hs) (.of h0) hap ht (hap' p)⟩
theorem Eff.yield {d : Nat} {x : Operand} {args : List Operand} {tys : Array TypeId} {l : Nat} {fs us : Array Value} {vs : List Value} {A : Type} {R : A → Prop} {v : A → Value} {B' : A → List (Nat × Res)}
    (hx : opv T x = some (.func (.yield l) #[] #[])) (ha : opvs T args = some vs) (hd : Nat.blt d n.n = true)
    (hc : ∀ w, Mem W B w → YieldAt (fc none) 0 P l vs.toArray w fun e w' => ∃ p, R p ∧ e = .returned (v p) ∧ Mem W (B' p) w') :
    Eff P W n ⟨some d, .call { callee := .value x, args := args.toArray, argTypes := tys }, ty, pos, aft, g⟩ T B R (fun p => (d, v p) :: T) B' := fun a w ht hm K Q hk => by
  obtain ⟨fn, tmps, assign, body, hy, hR⟩ := hc w hm
  have h1 := ht.eval hx
  have h2 := ht.evals ha
  have hrun : (execOp a.eval ⟨some d, .call { callee := .value x, args := args.toArray, argTypes := tys }, ty, pos, aft, g⟩).run P w = .ok (.round l fn tmps assign body) w := by
    simp only [execOp, resolve, Deferred.ofValue, invoke, h1, List.map_toArray, h2, Sem.run_bind, Sem.run_pure, Result.andThen_ok]
    simpa using hy
  refine OpX.of_run (by intro c e; cases e) hrun ⟨shallow, RoundIn.mono hR fun e w' ⟨p, hp, he, hm'⟩ => ?_⟩
  subst he
  exact hk p hp _ _ (ht.put hd (v p)) hm'
theorem calls_marks {f : FuncId} {fn : Func} {c : Code} {vs : List Value} {w : World} {R : Ending → World → Prop} {m : Nat}
    (hf : P.funcs[f]? = some fn) (hb : fn.body = some c) (hn : fn.ntmps = m) (hl : Nat.ble vs.length m = true) (hm : Mem W B w)
    (h : Cd P W (Cx.act m) c (bodyPostM (fc none) 0 P fn R) (argT 0 vs) B) : Calls P f vs.toArray w R := by
  have hl' : vs.length ≤ m := Nat.le_of_ble_eq_true hl
  refine calls_of_fc (m := 0) (callsIn_of_wp_marks hf hb trivial (h _ w ⟨rfl, by simp [hn]; omega, fun s v hv => ?_⟩ hm))
  obtain ⟨_, h2⟩ := lkp_argT vs 0 s v hv
  simp only [Nat.sub_zero] at h2
  have hlt := (List.getElem?_eq_some_iff.1 h2).1
  rw [Array.getElem?_append_left (by simpa using hlt)]
  simpa using h2

/-! ### ways out of a function that ranges over a function -/
/-- The block for the rounds' deferred calls. -/
def defR (D : Nat) (s : Option (List Deferred)) : Res where
  own k := k = D
  holds w := w.heap[D]? = some (.deferred s)
  frame w w' _ h hh := by rw [h D rfl]; exact hh
  inside w h k hk := by subst hk; exact (Array.getElem?_eq_some_iff.1 h).1
/-- The record of a range over a function. -/
def recR (l : Nat) (r : Loop) : Res where
  own k := k = l
  holds w := w.heap[l]? = some (.loop r)
  frame w w' _ h hh := by rw [h l rfl]; exact hh
  inside w h k hk := by subst hk; exact (Array.getElem?_eq_some_iff.1 h).1
theorem Mem.putObj {w : World} {l b : Nat} {r r' : Res} {o : Obj} (h : Mem W B w) (hl : lkp B l = some r) (ho : ∀ k, r.own k ↔ k = b) (ho' : ∀ k, r'.own k → k = b) (hr : ∀ w : World, w.heap[b]? = some o → r'.holds w) : Mem W ((l, r') :: B) (w.putObj b o) := by
  have hlt := r.inside w (h.holds l r hl) b ((ho b).2 rfl)
  exact h.turn l hl r' rfl rfl rfl (by simp [World.putObj]) (fun k hk hno => World.putObj_heap_other (fun e => hno ((ho k).2 e))) (hr _ (World.putObj_heap_same hlt)) (fun k hk => .inl ((ho k).2 (ho' k hk)))
def resultsOf (fn : Func) (tmps : Array Value) : Sem Value := results fn tmps
theorem RO.run {fn : Func} {rs : List ResultVar} {vs : List Value} (hr : fn.results = rs.toArray) (h : RO P W n T B rs vs) {a : Act} {w : World} (ht : Tm n T a) (hm : Mem W B w) : (results fn a.tmps).run P w = .ok (wrapRes vs) w := by
  have h1 := h a w ht hm
  have key : results fn a.tmps = (fn.results.mapM (resOne a.tmps) >>= fun vs => pure (if h : vs.size = 1 then vs[0] else .tuple vs)) := by
    unfold results
    congr 1
  rw [key, hr, List.mapM_toArray, Sem.run_bind, Sem.run_map, h1]
  simp only [Result.andThen_ok, Sem.run_pure]
  rw [wrapRes_eq]
theorem Rx.retM0 {fn : Func} {R : Ending → World → Prop} {rs : List ResultVar} {vs : List Value} (hr : fn.results = rs.toArray) (h : RO P W n T B rs vs)
    (hR : ∀ w, Mem W B w → R (.returned (wrapRes vs)) w) (hds : n.ds = [] := by rfl) : Rx W n (bodyPostM (fc none) 0 P fn R) .ret T B := fun a w ht hm => by
  show LeavesInM (fc none) 0 P fn a.tmps R a.defers .returning w
  rw [ht.defers.trans hds]
  exact ⟨_, h.run hr ht hm, hR w hm⟩
theorem Rx.retM {fn : Func} {R : Ending → World → Prop} {rs : List ResultVar} {vs : List Value} {D : Nat} (l : Nat) (hl : lkp B l = some (defR D (some []))) (hr : fn.results = rs.toArray) (h : RO P W n T ((l, defR D none) :: B) rs vs)
    (hR : ∀ w, Mem W ((l, defR D none) :: B) w → R (.returned (wrapRes vs)) w) (hds : n.ds = [{ target := .collected D, args := #[] }] := by rfl) : Rx W n (bodyPostM (fc none) 0 P fn R) .ret T B := fun a w ht hm => by
  show LeavesInM (fc none) 0 P fn a.tmps R a.defers .returning w
  rw [ht.defers.trans hds]
  have hD : w.heap[D]? = some (.deferred (some [])) := hm.holds l _ hl
  have hm' : Mem W ((l, defR D none) :: B) (w.putObj D (.deferred none)) := hm.putObj hl (fun k => Iff.rfl) (fun k hk => hk) (fun w h => h)
  exact ⟨by simp, .inl ⟨D, _, rfl, run_takeDeferred hD, _, h.run hr ht hm', hR _ hm'⟩⟩
theorem Rx.endM {fn : Func} {R : Ending → World → Prop} {D : Nat} (l : Nat) (hl : lkp B l = some (defR D (some []))) (hr : fn.results = #[])
    (hR : ∀ w, Mem W ((l, defR D none) :: B) w → R (.returned (.tuple #[])) w) (hds : n.ds = [{ target := .collected D, args := #[] }] := by rfl) : Rx W n (bodyPostM (fc none) 0 P fn R) .normal T B := fun a w ht hm => by
  show LeavesInM (fc none) 0 P fn a.tmps R a.defers .returning w
  rw [ht.defers.trans hds]
  have hD : w.heap[D]? = some (.deferred (some [])) := hm.holds l _ hl
  have hm' : Mem W ((l, defR D none) :: B) (w.putObj D (.deferred none)) := hm.putObj hl (fun k => Iff.rfl) (fun k hk => hk) (fun w h => h)
  exact ⟨by simp, .inl ⟨D, _, rfl, run_takeDeferred hD, .tuple #[], by simp [results, hr], hR _ hm'⟩⟩

/-! ### the iterator's contract; the statement -/
/-- Whoever ranges: what it does with what is yielded. J: its memory; v: what is handed over; Y: the memory that goes with it. -/
def RoundAt (P : Program) (W : World) {γ σ : Type} (l : Nat) (v : γ → Value) (Y : γ → List (Nat × Res)) (ok : List γ → γ → Prop) (J : σ → Res) (Rel Relx : List γ → σ → Prop) : Prop :=
  ∀ pre x s w, Rel pre s → ok pre x → Mem W ((1, J s) :: Y x) w → YieldAt (fc none) 0 P l #[v x] w fun e w' => ∃ s', Turns (packR ((1, J s) :: Y x)) w (packR [(1, J s')]) w' ∧
    ((e = .returned (.bool true) ∧ Rel (pre ++ [x]) s') ∨ (e = .returned (.bool false) ∧ Relx (pre ++ [x]) s'))
/-- A function gf, with captured values us and the memory own, hands over what ok lets, till fin. -/
def Iter (P : Program) (W : World) {γ : Type} (gf : Nat) (us : List Value) (own : List (Nat × Res)) (v : γ → Value) (Y : γ → List (Nat × Res)) (ok : List γ → γ → Prop) (fin : List γ → Prop) : Prop :=
  ∀ (σ : Type) (J : σ → Res) (Rel Relx : List γ → σ → Prop) (l : Nat) (s0 : σ) (w : World), RoundAt P W l v Y ok J Rel Relx → Rel [] s0 → Mem W ((1, J s0) :: own) w →
    Calls P gf (.func (.yield l) #[] #[] :: us).toArray w fun e w' => (∃ u, e = .returned u) ∧ ∃ s', Turns (packR ((1, J s0) :: own)) w (packR [(1, J s')]) w' ∧ ((∃ xs, fin xs ∧ Rel xs s') ∨ (∃ xs, Relx xs s'))
def noQ : Exit → Act → World → Prop := fun _ _ _ => False
def beginK (P : Program) (l : Nat) (body : Code) (Q : Exit → Act → World → Prop) : Act → World → Prop := fun a w => ∃ w', (Instr.beginRound l).run P w = .ok () w' ∧ body.wpIn (fc (some l)) 0 P Q a w'
/-- How a round may be left. -/
def roundQ (W : World) {γ A : Type} (l : Nat) (rest : Res) (r : Loop) (D : Nat) (Bi : A → List (Nat × Res)) (Rinv : List γ → A → Prop) (Rstop : Code → List γ → A → Prop) (xs : List γ) : Exit → Act → World → Prop
  | .normal, _, w => ∃ p, Rinv xs p ∧ Mem W ((99, rest) :: (100, recR l r) :: (101, defR D (some [])) :: Bi p) w
  | .ret, _, w => ∃ p, Rstop .ret xs p ∧ Mem W ((99, rest) :: (100, recR l r) :: (101, defR D (some [])) :: Bi p) w
  | .exit id, _, w => ∃ p, Rstop (.exit id) xs p ∧ Mem W ((99, rest) :: (100, recR l r) :: (101, defR D (some [])) :: Bi p) w
  | _, _, _ => False
theorem Rx.begin {m : Nat} {ds : List Deferred} {l : Nat} {body : Code} {Q R : Exit → Act → World → Prop} {r : Loop} (hl : lkp B 100 = some (recR l r)) (hr : r.state = .ready)
    (h : Cd P W ⟨m, ds, some l⟩ body Q T ((100, recR l { r with state := .busy }) :: B)) : Rx W ⟨m, ds, some l⟩ (Exit.then (beginK P l body Q) R) .normal T B := fun a w ht hm =>
  ⟨_, run_beginRound (hm.holds 100 _ hl) hr, h a _ ht (hm.putObj hl (fun k => Iff.rfl) (fun k hk => hk) (fun w h => h))⟩
theorem Rx.roundN {γ A : Type} {m : Nat} {ds : List Deferred} {l D : Nat} {rest : Res} {r : Loop} {Bi : A → List (Nat × Res)} {Rinv : List γ → A → Prop} {Rstop : Code → List γ → A → Prop} {xs : List γ} (p : A) (hp : Rinv xs p) (hB : subl ((99, rest) :: (100, recR l r) :: (101, defR D (some [])) :: Bi p) B) : Rx W ⟨m, ds, some l⟩ (roundQ W l rest r D Bi Rinv Rstop xs) .normal T B := fun a w ht hm => ⟨p, hp, hm.weak hB⟩
theorem Rx.roundR {γ A : Type} {m : Nat} {ds : List Deferred} {l D : Nat} {rest : Res} {r : Loop} {Bi : A → List (Nat × Res)} {Rinv : List γ → A → Prop} {Rstop : Code → List γ → A → Prop} {xs : List γ} (p : A) (hp : Rstop .ret xs p) (hB : subl ((99, rest) :: (100, recR l r) :: (101, defR D (some [])) :: Bi p) B) : Rx W ⟨m, ds, some l⟩ (roundQ W l rest r D Bi Rinv Rstop xs) .ret T B := fun a w ht hm => ⟨p, hp, hm.weak hB⟩
theorem Rx.roundE {γ A : Type} {m : Nat} {ds : List Deferred} {l D id : Nat} {rest : Res} {r : Loop} {Bi : A → List (Nat × Res)} {Rinv : List γ → A → Prop} {Rstop : Code → List γ → A → Prop} {xs : List γ} (p : A) (hp : Rstop (.exit id) xs p) (hB : subl ((99, rest) :: (100, recR l r) :: (101, defR D (some [])) :: Bi p) B) : Rx W ⟨m, ds, some l⟩ (roundQ W l rest r D Bi Rinv Rstop xs) (.exit id) T B := fun a w ht hm => ⟨p, hp, hm.weak hB⟩
theorem keys_sub {α : Type} {X Y : List (Nat × α)} : Sub X (X ++ Y) := fun _ _ h => lkp_append_l h
theorem keys_sub_r {α : Type} {X Y : List (Nat × α)} (h : apartB X Y = true) : Sub Y (X ++ Y) := fun s v hs => by rw [lkp_append_r (apartB_symm h hs)]; exact hs
/-- 'for x := range f': the statement over a function. -/
theorem Cd.range {m : Nat} {gop : Operand} {t : Tmp} {assign body : Code} {Q : Exit → Act → World → Prop} {gf : Nat} {us : List Value} {γ A : Type} {own : List (Nat × Res)} {v : γ → Value} {Y : γ → List (Nat × Res)} {ok : List γ → γ → Prop} {fin : List γ → Prop}
    (ht : Nat.blt t m = true) (hg : opv T gop = some (.func (.func gf) #[] us.toArray)) (he : Enters P gf) (hit : ∀ w, Mem W B w → Iter P W gf us own v Y ok fin)
    (Bi : A → List (Nat × Res)) (Rinv : List γ → A → Prop) (Rstop : Code → List γ → A → Prop) (p0 : A) (h0 : Rinv [] p0)
    (hB0 : subl (Bi p0) B) (hown : subl own B) (ha0 : apartB (Bi p0) own = true) (hk : ∀ p, lkp (Bi p) 99 = none ∧ lkp (Bi p) 100 = none ∧ lkp (Bi p) 101 = none) (hko : lkp own 1 = none ∧ lkp own 100 = none ∧ lkp own 101 = none) (hY : ∀ p x, apartB (Bi p) (Y x) = true) (hkY : ∀ x, lkp (Y x) 1 = none ∧ lkp (Y x) 99 = none ∧ lkp (Y x) 100 = none ∧ lkp (Y x) 101 = none)
    (hround : ∀ (l D : Nat) (rest : Res) (r : Loop) (pre : List γ) (x : γ) (p : A), r.state = .ready → Rinv pre p → ok pre x →
      Cd P W ⟨m, [], some l⟩ assign (Exit.then (beginK P l body (roundQ W l rest { r with state := .busy } D Bi Rinv Rstop (pre ++ [x]))) noQ) ((t, v x) :: T) ((99, rest) :: (100, recR l r) :: (101, defR D (some [])) :: (Bi p ++ Y x)))
    (hdone : ∀ (D : Nat) (xs : List γ) (p : A), fin xs → Rinv xs p → Rx W ⟨m, [{ target := .collected D, args := #[] }], none⟩ Q .normal T ((101, defR D (some [])) :: Bi p))
    (hstop : ∀ (D : Nat) (c : Code) (xs : List γ) (p : A), Rstop c xs p → Cd P W ⟨m, [{ target := .collected D, args := #[] }], none⟩ c Q T ((101, defR D (some [])) :: Bi p)) :
    Cd P W (Cx.act m) (.rangeFunc gop #[t] assign body) Q T B := by
  intro a w hT hm
  refine wpIn_rangeFunc ?_
  intro fn _
  obtain ⟨rec, hrec⟩ : ∃ rec : LoopState → Option Code → Loop, rec = fun st pe => { state := st, pending := pe, fn, tmps := a.tmps, params := #[t], assign, body, defers := w.heap.size } := ⟨_, rfl⟩
  obtain ⟨W1, hW1⟩ : ∃ W1, (w.alloc (.deferred (some []))).alloc (.loop (rec .ready none)) = W1 := ⟨_, rfl⟩
  have hga := hT.eval hg
  -- the two blocks of the statement's own
  have hmB : Mem W (Bi p0 ++ own) w := hm.weakS fun s r h => by
    rcases lkp_append_or h with h1 | ⟨_, h1⟩
    · exact Sub.of hB0 s r h1
    · exact Sub.of hown s r h1
  have hmD : Mem W ((101, defR w.heap.size (some [])) :: (Bi p0 ++ own)) (w.alloc (.deferred (some []))) :=
    hmB.add ((Below.refl _ _).alloc (Nat.le_refl _) _) 101 _ (World.alloc_heap_new w _) (fun k hk => by simp only [defR] at hk; omega)
  have hm1 : Mem W ((100, recR (w.heap.size + 1) (rec .ready none)) :: (101, defR w.heap.size (some [])) :: (Bi p0 ++ own)) W1 := by
    rw [← hW1]
    refine hmD.add ((Below.refl _ _).alloc (Nat.le_refl _) _) 100 _ ?_ (fun k hk => by simp only [recR] at hk; rw [World.size_alloc]; omega)
    have := World.alloc_heap_new (w.alloc (.deferred (some []))) (.loop (rec .ready none)); rwa [World.size_alloc] at this
  obtain ⟨J, hJ⟩ : ∃ J : Option Code × A → Res, J = fun s => packR ((100, recR (w.heap.size + 1) (match s.1 with | none => rec .ready none | some c => rec .done (some c))) :: (101, defR w.heap.size (some [])) :: Bi s.2) := ⟨_, rfl⟩
  have apL : ∀ (r : Loop) (p : A) (Z : List (Nat × Res)), lkp Z 100 = none → lkp Z 101 = none → apartB (Bi p) Z = true → apartB ((100, recR (w.heap.size + 1) r) :: (101, defR w.heap.size (some [])) :: Bi p) Z = true := fun r p Z h1 h2 h3 => by
    simp [apartB, h1, h2, h3]
  have hmJ : Mem W ((1, J (none, p0)) :: own) W1 := by
    rw [hJ]
    exact Mem.packed 1 hm1 (B0 := own) (fun s r h => by rw [← List.cons_append, ← List.cons_append]; exact lkp_append_l h)
      (fun s r h => by rw [← List.cons_append, ← List.cons_append]; exact keys_sub_r (apL _ p0 own hko.2.1 hko.2.2 ha0) s r h) (apL _ p0 own hko.2.1 hko.2.2 ha0) hko.1
  refine ⟨w.heap.size + 1, [{ target := .collected w.heap.size, args := #[] }], W1, { target := .fn (.func gf) us.toArray, args := #[.func (.yield (w.heap.size + 1)) #[] #[]] }, W1, gf,
    (.func (.yield (w.heap.size + 1)) #[] #[] :: us).toArray, W1, ?_, ?_, fun _ _ => trivial, ?_, shallow, calls_fc ((hit w hm (Option Code × A) J (fun pre s => s.1 = none ∧ Rinv pre s.2) (fun pre s => ∃ c, s.1 = some c ∧ Rstop c pre s.2) (w.heap.size + 1) (none, p0) W1 ?_ ⟨rfl, h0⟩ hmJ).mono ?_)⟩
  · rw [← hW1, hrec]; exact run_enterLoop_outer _ _ _ _ _
  · have hy : ∀ l, a.eval (.const (.func (.yield l) #[] #[])) = .func (.yield l) #[] #[] := fun _ => rfl
    simp only [resolve, rangeCall, hga, Deferred.ofValue, List.map_toArray, List.map_cons, List.map_nil, hy]
    simp
  · simp only [invoke]
    rw [show #[Value.func (.yield (w.heap.size + 1)) #[] #[]] ++ us.toArray = (Value.func (.yield (w.heap.size + 1)) #[] #[] :: us).toArray from by simp]
    exact he _ _
  · -- one round
    rintro pre x ⟨st, p⟩ w2 ⟨rfl, hi⟩ hok hm2
    have hB2 := hm2.below
    have hm3 := hm2.enter 99 (show lkp ((1, J (none, p)) :: Y x) 99 = none from by rw [lkp_cons_ne _ _ (by decide)]; exact (hkY x).2.1)
    obtain ⟨rest, hrest⟩ : ∃ rest, restOf W.heap.size w2 (packR ((1, J (none, p)) :: Y x)) = rest := ⟨_, rfl⟩
    rw [hrest] at hm3
    have hm3' : Mem W ((1, J (none, p)) :: ((99, rest) :: Y x)) w2 := hm3.weakS fun s r h => by
      by_cases e : s = 1
      · subst e; rw [lkp_cons_eq] at h; cases h; exact (lkp_cons_ne _ _ (by decide)).trans (lkp_cons_eq _ _ _)
      · rw [lkp_cons_ne _ _ (fun h => e h.symm)] at h
        by_cases e2 : s = 99
        · subst e2; rw [lkp_cons_eq] at h ⊢; exact h
        · rw [lkp_cons_ne _ _ (fun h => e2 h.symm)] at h ⊢; rw [lkp_cons_ne _ _ (fun h => e h.symm)]; exact h
    rw [hJ] at hm3'
    have hap : apartB ((100, recR (w.heap.size + 1) (rec .ready none)) :: (101, defR w.heap.size (some [])) :: Bi p) ((99, rest) :: Y x) = true := by
      refine apL _ p _ ?_ ?_ ?_
      · rw [lkp_cons_ne _ _ (by decide)]; exact (hkY x).2.2.1
      · rw [lkp_cons_ne _ _ (by decide)]; exact (hkY x).2.2.2
      · have h1 := hY p x
        have h2 := (hk p).1
        have key : ∀ X : List (Nat × Res), apartB X (Y x) = true → lkp X 99 = none → apartB X ((99, rest) :: Y x) = true := fun X => by
          induction X with
          | nil => intro _ _; rfl
          | cons q X ih =>
            obtain ⟨q, z⟩ := q
            intro h3 h4
            simp only [apartB, Bool.and_eq_true] at h3 ⊢
            by_cases e : q = 99
            · subst e; rw [lkp_cons_eq] at h4; cases h4
            · rw [lkp_cons_ne _ _ e] at h4
              exact ⟨by rw [lkp_cons_ne _ _ (fun h => e h.symm)]; exact h3.1, ih h3.2 h4⟩
        exact key _ h1 h2
    have hm4 := hm3'.unpacked hap (by rw [lkp_cons_ne _ _ (by decide)]; exact (hkY x).1)
    have hm5 : Mem W ((99, rest) :: (100, recR (w.heap.size + 1) (rec .ready none)) :: (101, defR w.heap.size (some [])) :: (Bi p ++ Y x)) w2 := hm4.weakS fun s r h => by
      by_cases e : s = 99
      · subst e
        rw [lkp_cons_eq] at h; cases h
        exact keys_sub_r hap _ _ (lkp_cons_eq _ _ _)
      · rw [lkp_cons_ne _ _ (fun h => e h.symm), ← List.cons_append, ← List.cons_append] at h
        rcases lkp_append_or h with h1 | ⟨h1, h2⟩
        · exact lkp_append_l h1
        · rw [lkp_append_r h1, lkp_cons_ne _ _ (fun h => e h.symm)]; exact h2
    have hl2 : w2.heap[w.heap.size + 1]? = some (.loop (rec .ready none)) := hm5.holds 100 _ ((lkp_cons_ne _ _ (by decide)).trans (lkp_cons_eq _ _ _))
    have hy := run_yield (P := P) (args := #[v x]) hl2 (by rw [hrec]; rfl)
    refine ⟨_, _, _, _, hy, roundIn_of_wpIn trivial ?_⟩
    have hTx : Tm ⟨m, [], some (w.heap.size + 1)⟩ ((t, v x) :: T) { tmps := a.tmps.setIfInBounds t (v x), defers := [] } := by
      have h1 := Tm.put (n := ⟨m, [], some (w.heap.size + 1)⟩) (a := { tmps := a.tmps, defers := [] }) ⟨rfl, hT.size, hT.val⟩ ht (v x)
      exact h1
    have hr := hround (w.heap.size + 1) w.heap.size rest (rec .ready none) pre x p (by rw [hrec]) hi hok _ w2 hTx hm5
    have htm : ((rec .ready none).params.zip #[v x]).foldl (fun tmps (p : Tmp × Value) => tmps.setIfInBounds p.1 p.2) (rec .ready none).tmps = a.tmps.setIfInBounds t (v x) := by rw [hrec]; simp
    have hasg : (rec .ready none).assign = assign := by rw [hrec]
    have hbod : (rec .ready none).body = body := by rw [hrec]
    rw [hasg, hbod]
    show assign.wpIn (fc (some (w.heap.size + 1))) 0 P _ { tmps := ((rec .ready none).params.zip #[v x]).foldl (fun tmps (p : Tmp × Value) => tmps.setIfInBounds p.1 p.2) (rec .ready none).tmps, defers := [] } w2
    rw [htm]
    have fin : ∀ (jump : Option Code) (q : A) (w3 : World), Mem W ((99, rest) :: (100, recR (w.heap.size + 1) { rec .ready none with state := .busy }) :: (101, defR w.heap.size (some [])) :: Bi q) w3 →
        (Instr.endRound (w.heap.size + 1) jump).run P w3 = .ok (.bool jump.isNone) (w3.putObj (w.heap.size + 1) (.loop (rec (if jump.isNone then .ready else .done) jump))) ∧
        Turns (packR ((1, J (none, p)) :: Y x)) w2 (packR [(1, J (jump, q))]) (w3.putObj (w.heap.size + 1) (.loop (rec (if jump.isNone then .ready else .done) jump))) := fun jump q w3 h3 => by
      have hl3 : w3.heap[w.heap.size + 1]? = some (.loop { rec .ready none with state := .busy }) := h3.holds 100 _ ((lkp_cons_ne _ _ (by decide)).trans (lkp_cons_eq _ _ _))
      have he3 := run_endRound (P := P) jump hl3
      have hrr : { { rec .ready none with state := LoopState.busy } with state := if jump.isNone then LoopState.ready else .done, pending := jump } = rec (if jump.isNone then .ready else .done) jump := by rw [hrec]
      rw [hrr] at he3
      refine ⟨he3, ?_⟩
      have h4 := h3.putObj (l := 100) (b := w.heap.size + 1) (r' := recR (w.heap.size + 1) (rec (if jump.isNone then .ready else .done) jump)) ((lkp_cons_ne _ _ (by decide)).trans (lkp_cons_eq _ _ _)) (fun k => Iff.rfl) (fun k hk => hk) (fun w h => h)
      have hJq : J (jump, q) = packR ((100, recR (w.heap.size + 1) (rec (if jump.isNone then .ready else .done) jump)) :: (101, defR w.heap.size (some [])) :: Bi q) := by
        rw [hJ]; cases jump <;> rfl
      have h5 : Mem W ((1, J (jump, q)) :: [(99, rest)]) (w3.putObj (w.heap.size + 1) (.loop (rec (if jump.isNone then .ready else .done) jump))) := by
        rw [hJq]
        refine Mem.packed 1 h4 (fun s r h => ?_) (fun s r h => ?_) ?_ rfl
        · by_cases e : s = 100
          · subst e; rw [lkp_cons_eq] at h ⊢; exact h
          · rw [lkp_cons_ne _ _ (fun h => e h.symm)] at h ⊢
            by_cases e2 : s = 99
            · subst e2
              rw [lkp_cons_ne _ _ (by decide), (hk q).1] at h; cases h
            · rw [lkp_cons_ne _ _ (fun h => e2 h.symm), lkp_cons_ne _ _ (fun h => e h.symm)]; exact h
        · by_cases e : s = 99
          · subst e; rw [lkp_cons_eq] at h; rw [lkp_cons_ne _ _ (by decide), lkp_cons_eq]; exact h
          · rw [lkp_cons_ne _ _ (fun h => e h.symm)] at h; simp [lkp] at h
        · refine apL _ q _ rfl rfl ?_
          have h2 := (hk q).1
          have key : ∀ X : List (Nat × Res), lkp X 99 = none → apartB X [(99, rest)] = true := fun X => by
            induction X with
            | nil => intro _; rfl
            | cons z X ih =>
              obtain ⟨z, u⟩ := z
              intro h4
              simp only [apartB, Bool.and_eq_true]
              by_cases e : z = 99
              · subst e; rw [lkp_cons_eq] at h4; cases h4
              · rw [lkp_cons_ne _ _ e] at h4
                exact ⟨by rw [lkp_cons_ne _ _ (fun h => e h.symm)]; rfl, ih h4⟩
          exact key _ h2
      exact Turns.of_mem hB2 h5 (q := 99) (by rw [hrest]; rfl) (fun s r h => by
        by_cases e : s = 1
        · subst e; rw [lkp_cons_eq] at h ⊢; exact h
        · rw [lkp_cons_ne _ _ (fun h => e h.symm)] at h; simp [lkp] at h) rfl
    refine wpIn_mono hr ?_
    rintro e a3 w3 hp
    cases e with
    | normal =>
      obtain ⟨w4, hbeg, hbw⟩ := hp
      refine ⟨w4, hbeg, wpIn_mono hbw ?_⟩
      rintro e a5 w5 hp
      cases e with
      | normal =>
        obtain ⟨q, hq, hm5⟩ := hp
        obtain ⟨he5, ht5⟩ := fin none q w5 hm5
        exact ⟨_, _, he5, (none, q), ht5, .inl ⟨rfl, rfl, hq⟩⟩
      | ret =>
        obtain ⟨q, hq, hm5⟩ := hp
        obtain ⟨he5, ht5⟩ := fin (some .ret) q w5 hm5
        exact ⟨_, _, he5, (some .ret, q), ht5, .inr ⟨rfl, _, rfl, hq⟩⟩
      | exit id =>
        obtain ⟨q, hq, hm5⟩ := hp
        obtain ⟨he5, ht5⟩ := fin (some (.exit id)) q w5 hm5
        exact ⟨_, _, he5, (some (.exit id), q), ht5, .inr ⟨rfl, _, rfl, hq⟩⟩
      | goto z => exact hp.elim
      | panic z => exact hp.elim
      | outgrown => exact hp.elim
    | exit id => exact hp.elim
    | goto z => exact hp.elim
    | ret => exact hp.elim
    | panic z => exact hp.elim
    | outgrown => exact hp.elim
  · -- behind the iterator
    rintro e w2 ⟨⟨u, rfl⟩, ⟨st, q⟩, ht2, hend⟩
    have hm2 : Mem W ([(1, J (st, q))] ++ []) w2 := hmJ.over (Bs := (1, J (none, p0)) :: own) .rfl (fun s r h => by simp [lkp] at h) (by
      have key : ∀ X : List (Nat × Res), apartB X ([] : List (Nat × Res)) = true := fun X => by
        induction X with
        | nil => rfl
        | cons z X ih => simp [apartB, lkp, ih]
      exact key _) ht2 rfl
    rw [List.append_nil] at hm2
    have out : ∀ (rr : Loop), J (st, q) = packR ((100, recR (w.heap.size + 1) rr) :: (101, defR w.heap.size (some [])) :: Bi q) → rr.state ≠ .busy →
        ∃ w4, (Instr.endLoop (w.heap.size + 1)).run P w2 = .ok rr.pending w4 ∧ Mem W ((101, defR w.heap.size (some [])) :: Bi q) w4 := fun rr hJr hb => by
      rw [hJr] at hm2
      have h3 := hm2.unpacked (by
        have key : ∀ X : List (Nat × Res), apartB X ([] : List (Nat × Res)) = true := fun X => by
          induction X with
          | nil => rfl
          | cons z X ih => simp [apartB, lkp, ih]
        exact key _) rfl
      rw [List.append_nil] at h3
      have hl3 : w2.heap[w.heap.size + 1]? = some (.loop rr) := h3.holds 100 _ (lkp_cons_eq _ _ _)
      have h4 := h3.putObj (l := 100) (b := w.heap.size + 1) (r' := recR (w.heap.size + 1) { rr with state := .exhausted }) (lkp_cons_eq _ _ _) (fun k => Iff.rfl) (fun k hk => hk) (fun w h => h)
      refine ⟨_, run_endLoop hl3 hb, h4.weakS fun s r h => ?_⟩
      by_cases e : s = 100
      · subst e; rw [lkp_cons_ne _ _ (by decide), (hk q).2.1] at h; cases h
      · rw [lkp_cons_ne _ _ (fun h => e h.symm), lkp_cons_ne _ _ (fun h => e h.symm)]; exact h
    have hTd : Tm ⟨m, [{ target := .collected w.heap.size, args := #[] }], none⟩ T { a with defers := [{ target := .collected w.heap.size, args := #[] }] ++ a.defers } := ⟨by simp [hT.defers], hT.size, hT.val⟩
    rcases hend with ⟨xs, hfin, rfl, hi⟩ | ⟨xs, c, rfl, hi⟩
    · obtain ⟨w4, he4, hm4⟩ := out (rec .ready none) (by rw [hJ]) (by rw [hrec]; simp)
      rw [show (rec .ready none).pending = none from by rw [hrec]] at he4
      exact ⟨none, w4, he4, hdone _ xs q hfin hi _ w4 hTd hm4⟩
    · obtain ⟨w4, he4, hm4⟩ := out (rec .done (some c)) (by rw [hJ]) (by rw [hrec]; simp)
      rw [show (rec .done (some c)).pending = some c from by rw [hrec]] at he4
      exact ⟨some c, w4, he4, hstop _ c xs q hi _ w4 hTd hm4⟩
end
end Go.Kx
