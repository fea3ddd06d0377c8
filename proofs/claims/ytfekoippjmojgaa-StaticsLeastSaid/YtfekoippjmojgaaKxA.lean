/- The rules of a walk over an abstract world: what the temporaries hold (an association list), what the call's own memory holds (labelled resources), and how the code's pieces follow from one another. No program is named here. -/
import Derived.Test.YtfekoippjmojgaaKxO
import Derived.LoopNIn
namespace Go.Kx
set_option linter.unusedVariables false
set_option linter.unusedSimpArgs false
set_option linter.constructorNameAsVariable false
open Go.RowKit

/-! ### association lists -/
def lkp {α : Type} : List (Nat × α) → Nat → Option α
  | [], _ => none
  | (k, v) :: r, s => cond (Nat.beq k s) (some v) (lkp r s)

theorem lkp_cons_eq {α : Type} (k : Nat) (v : α) (r : List (Nat × α)) : lkp ((k, v) :: r) k = some v := by
  simp [lkp]
theorem lkp_cons_ne {α : Type} {k s : Nat} (v : α) (r : List (Nat × α)) (h : k ≠ s) : lkp ((k, v) :: r) s = lkp r s := by
  have : Nat.beq k s = false := by
    cases hb : Nat.beq k s with
    | false => rfl
    | true => exact absurd (Nat.eq_of_beq_eq_true hb) h
  simp [lkp, this]

def subl {α : Type} : List (Nat × α) → List (Nat × α) → Prop
  | [], _ => True
  | (k, v) :: r, T => lkp T k = some v ∧ subl r T
theorem subl_lkp {α : Type} {T : List (Nat × α)} : ∀ {S : List (Nat × α)}, subl S T → ∀ s v, lkp S s = some v → lkp T s = some v
  | [], _, s, v, h => by simp [lkp] at h
  | (k, u) :: r, hs, s, v, h => by
    by_cases e : k = s
    · subst e
      rw [lkp_cons_eq] at h
      cases h
      exact hs.1
    · rw [lkp_cons_ne _ _ e] at h
      exact subl_lkp hs.2 s v h

/-! ### temporaries -/
structure Tm (n : Cx) (T : List (Nat × Value)) (a : Act) : Prop where
  defers : a.defers = n.ds
  size : a.tmps.size = n.n
  val : ∀ s v, lkp T s = some v → a.tmps[s]? = some v

theorem Tm.put {n : Cx} {T : List (Nat × Value)} {a : Act} (h : Tm n T a) {d : Nat} (hd : Nat.blt d n.n = true) (v : Value) : Tm n ((d, v) :: T) (a.put (some d) v) := by
  have hd' : d < n.n := by simpa [Nat.blt_eq] using hd
  refine ⟨h.defers, by simp [Act.put, h.size], fun s u hs => ?_⟩
  by_cases e : d = s
  · subst e
    rw [lkp_cons_eq] at hs
    cases hs
    simp only [Act.put]
    rw [Array.getElem?_setIfInBounds_self_of_lt (by rw [h.size]; exact hd')]
  · rw [lkp_cons_ne _ _ e] at hs
    simp only [Act.put]
    rw [Array.getElem?_setIfInBounds_ne e]
    exact h.val s u hs
theorem Tm.weak {n : Cx} {T T' : List (Nat × Value)} {a : Act} (h : Tm n T a) (hs : subl T' T) : Tm n T' a :=
  ⟨h.defers, h.size, fun s v hv => h.val s v (subl_lkp hs s v hv)⟩

def opv (T : List (Nat × Value)) : Operand → Option Value
  | .tmp t => lkp T t
  | .const v => some v
  | .global g => some (.pointer (some ⟨g, 0, none⟩))
  | .func f => some (.func (.func f) #[] #[])
theorem Tm.eval {n : Cx} {T : List (Nat × Value)} {a : Act} (h : Tm n T a) {x : Operand} {v : Value} (hx : opv T x = some v) : a.eval x = v := by
  cases x with
  | tmp t =>
    have := h.val t v hx
    simp [Act.eval, Array.getD_eq_getD_getElem?, this]
  | const u => simpa [opv, Act.eval] using hx
  | global g => simpa [opv, Act.eval] using hx
  | func f => simpa [opv, Act.eval] using hx

def opvs (T : List (Nat × Value)) : List Operand → Option (List Value)
  | [] => some []
  | x :: r => match opv T x with
    | some v => match opvs T r with
      | some vs => some (v :: vs)
      | none => none
    | none => none
theorem Tm.evals {n : Cx} {T : List (Nat × Value)} {a : Act} (h : Tm n T a) : ∀ {l : List Operand} {vs : List Value}, opvs T l = some vs → l.map a.eval = vs
  | [], vs, hx => by simpa [opvs] using hx
  | x :: r, vs, hx => by
    unfold opvs at hx
    split at hx
    · rename_i v hv
      split at hx
      · rename_i us hus
        cases hx
        simp [h.eval hv, h.evals hus]
      · cases hx
    · cases hx

/-! ### memory of the call's own -/
structure Res where
  own : Nat → Prop
  holds : World → Prop
  frame : ∀ w w', w.heap.size ≤ w'.heap.size → (∀ k, own k → w'.heap[k]? = w.heap[k]?) → holds w → holds w'
  inside : ∀ w, holds w → ∀ k, own k → k < w.heap.size

/-- A block of cells of the call's own. -/
def blk (g : Nat) (cs : List Value) (t : TypeId) : Res where
  own k := k = g
  holds w := w.heap[g]? = some (.cells cs.toArray t (0, 0))
  frame w w' _ h hh := by rw [h g rfl]; exact hh
  inside w h k hk := by subst hk; exact (Array.getElem?_eq_some_iff.1 h).1

structure Mem (W : World) (B : List (Nat × Res)) (w : World) : Prop where
  below : Below W.heap.size W w
  holds : ∀ l r, lkp B l = some r → r.holds w
  fresh : ∀ l r, lkp B l = some r → ∀ k, r.own k → W.heap.size ≤ k
  apart : ∀ l l' r r', lkp B l = some r → lkp B l' = some r' → l ≠ l' → ∀ k, r.own k → ¬ r'.own k

theorem Mem.nil (W : World) : Mem W [] W :=
  ⟨Below.refl _ _, fun l r h => by simp [lkp] at h, fun l r h => by simp [lkp] at h, fun l l' r r' h => by simp [lkp] at h⟩
theorem Mem.weak {W w : World} {B B' : List (Nat × Res)} (h : Mem W B w) (hs : subl B' B) : Mem W B' w :=
  ⟨h.below, fun l r hl => h.holds l r (subl_lkp hs l r hl), fun l r hl => h.fresh l r (subl_lkp hs l r hl), fun l l' r r' h1 h2 => h.apart l l' r r' (subl_lkp hs l r h1) (subl_lkp hs l' r' h2)⟩
/-- Nothing that lay there has turned. -/
theorem Mem.step {W w w' : World} {B : List (Nat × Res)} (h : Mem W B w) (hb : Below w.heap.size w w') : Mem W B w' :=
  ⟨h.below.trans (hb.mono h.below.size), fun l r hl => r.frame w w' hb.size (fun k hk => hb.block k (r.inside w (h.holds l r hl) k hk)) (h.holds l r hl), h.fresh, h.apart⟩
theorem Mem.drawn {W w : World} {B : List (Nat × Res)} (h : Mem W B w) (d : Nat) : Mem W B { w with drawn := d } :=
  h.step ⟨rfl, rfl, rfl, Nat.le_refl _, fun _ _ => rfl⟩
/-- A new resource: all its blocks are new. -/
theorem Mem.add {W w w' : World} {B : List (Nat × Res)} (h : Mem W B w) (hb : Below w.heap.size w w') (l : Nat) (r : Res) (hr : r.holds w') (hn : ∀ k, r.own k → w.heap.size ≤ k) : Mem W ((l, r) :: B) w' := by
  have h' := h.step hb
  have old : ∀ l' r', lkp B l' = some r' → ∀ k, r'.own k → ¬ r.own k := fun l' r' hl k hk hk' => by
    have h1 := r'.inside w (h.holds l' r' hl) k hk
    have h2 := hn k hk'
    omega
  refine ⟨h'.below, fun l1 r1 h1 => ?_, fun l1 r1 h1 => ?_, fun l1 l2 r1 r2 h1 h2 hne k hk => ?_⟩
  · by_cases e : l = l1
    · subst e; rw [lkp_cons_eq] at h1; cases h1; exact hr
    · rw [lkp_cons_ne _ _ e] at h1; exact h'.holds l1 r1 h1
  · by_cases e : l = l1
    · subst e; rw [lkp_cons_eq] at h1; cases h1; exact fun k hk => Nat.le_trans h.below.size (hn k hk)
    · rw [lkp_cons_ne _ _ e] at h1; exact h'.fresh l1 r1 h1
  · by_cases e : l = l1
    · subst e
      rw [lkp_cons_eq] at h1; cases h1
      rw [lkp_cons_ne _ _ hne] at h2
      exact fun hk2 => old l2 r2 h2 k hk2 hk
    · rw [lkp_cons_ne _ _ e] at h1
      by_cases e2 : l = l2
      · subst e2
        rw [lkp_cons_eq] at h2; cases h2
        exact old l1 r1 h1 k hk
      · rw [lkp_cons_ne _ _ e2] at h2
        exact h'.apart l1 l2 r1 r2 h1 h2 hne k hk
/-- The resource l turns; nothing else does, but new blocks may have come. -/
theorem Mem.turn {W w w' : World} {B : List (Nat × Res)} (h : Mem W B w) (l : Nat) {r : Res} (hl : lkp B l = some r) (r' : Res)
    (ho : w'.os = w.os) (ht : w'.tape = w.tape) (hp : w'.output = w.output) (hsz : w.heap.size ≤ w'.heap.size)
    (hk : ∀ k, k < w.heap.size → ¬ r.own k → w'.heap[k]? = w.heap[k]?) (hr : r'.holds w') (hn : ∀ k, r'.own k → r.own k ∨ w.heap.size ≤ k) : Mem W ((l, r') :: B) w' := by
  have hW : ∀ k, k < W.heap.size → ¬ r.own k := fun k hk hr => by have := h.fresh l r hl k hr; omega
  have old : ∀ l1 r1, lkp B l1 = some r1 → l ≠ l1 → r1.holds w' := fun l1 r1 h1 hne =>
    r1.frame w w' hsz (fun k hk1 => hk k (r1.inside w (h.holds l1 r1 h1) k hk1) (h.apart l1 l r1 r h1 hl (fun e => hne e.symm) k hk1)) (h.holds l1 r1 h1)
  have off : ∀ l1 r1, lkp B l1 = some r1 → l ≠ l1 → ∀ k, r1.own k → ¬ r'.own k := fun l1 r1 h1 hne k hk1 hk2 => by
    rcases hn k hk2 with h3 | h3
    · exact h.apart l1 l r1 r h1 hl (fun e => hne e.symm) k hk1 h3
    · have := r1.inside w (h.holds l1 r1 h1) k hk1; omega
  refine ⟨⟨ho.trans h.below.os, ht.trans h.below.tape, hp.trans h.below.output, Nat.le_trans h.below.size hsz, fun k hk' => ?_⟩, fun l1 r1 h1 => ?_, fun l1 r1 h1 => ?_, fun l1 l2 r1 r2 h1 h2 hne k hk => ?_⟩
  · rw [hk k (Nat.lt_of_lt_of_le hk' h.below.size) (hW k hk')]
    exact h.below.block k hk'
  · by_cases e : l = l1
    · subst e; rw [lkp_cons_eq] at h1; cases h1; exact hr
    · rw [lkp_cons_ne _ _ e] at h1; exact old l1 r1 h1 e
  · by_cases e : l = l1
    · subst e; rw [lkp_cons_eq] at h1; cases h1
      intro k hk
      rcases hn k hk with h3 | h3
      · exact h.fresh l r hl k h3
      · exact Nat.le_trans h.below.size h3
    · rw [lkp_cons_ne _ _ e] at h1; exact h.fresh l1 r1 h1
  · by_cases e : l = l1
    · subst e
      rw [lkp_cons_eq] at h1; cases h1
      rw [lkp_cons_ne _ _ hne] at h2
      exact fun hk2 => off l2 r2 h2 hne k hk2 hk
    · rw [lkp_cons_ne _ _ e] at h1
      by_cases e2 : l = l2
      · subst e2
        rw [lkp_cons_eq] at h2; cases h2
        exact off l1 r1 h1 e k hk
      · rw [lkp_cons_ne _ _ e2] at h2
        exact h.apart l1 l2 r1 r2 h1 h2 hne k hk

theorem Mem.alloc {W w : World} {B : List (Nat × Res)} (h : Mem W B w) (l : Nat) (cs : List Value) (t : TypeId) : Mem W ((l, blk w.heap.size cs t) :: B) (w.alloc (.cells cs.toArray t)) :=
  h.add ((Below.refl _ _).alloc (Nat.le_refl _) _) l _ (by show (w.heap.push _)[w.heap.size]? = _; simp) (fun k hk => by simp only [blk] at hk; omega)
theorem Mem.cell {W w : World} {B : List (Nat × Res)} (h : Mem W B w) {l g : Nat} {cs : List Value} {t : TypeId} (hl : lkp B l = some (blk g cs t)) (off : Nat) : w.cell? ⟨g, off, none⟩ = cs[off]? := by
  have hg : w.heap[g]? = some (.cells cs.toArray t (0, 0)) := h.holds l _ hl
  simp [World.cell?, hg]
theorem Mem.thawed {W w : World} {B : List (Nat × Res)} (h : Mem W B w) {l g : Nat} {cs : List Value} {t : TypeId} (hl : lkp B l = some (blk g cs t)) (off : Nat) : w.frozen? ⟨g, off, none⟩ = false := by
  have hg : w.heap[g]? = some (.cells cs.toArray t (0, 0)) := h.holds l _ hl
  simp [World.frozen?, hg]
theorem Mem.set {W w : World} {B : List (Nat × Res)} (h : Mem W B w) {l g : Nat} {cs : List Value} {t : TypeId} (hl : lkp B l = some (blk g cs t)) (off : Nat) (v : Value) : Mem W ((l, blk g (cs.set off v) t) :: B) (w.setCell ⟨g, off, none⟩ v) := by
  have hg : w.heap[g]? = some (.cells cs.toArray t (0, 0)) := h.holds l _ hl
  refine h.turn l hl _ rfl rfl rfl (by simp) (fun k _ hk => Below.heap_setCell _ _ _ _ (by simpa [blk] using hk)) ?_ (fun k hk => .inl hk)
  show (w.setCell ⟨g, off, none⟩ v).heap[g]? = _
  simp [World.setCell, Array.getElem?_modify, hg]
/-- What lay there when the call began. -/
theorem Mem.old {W w : World} {B : List (Nat × Res)} (h : Mem W B w) {p : Addr} {v : Value} (hv : W.cell? p = some v) : w.cell? p = some v := by
  have hlt : p.block < W.heap.size := by
    unfold World.cell? at hv
    split at hv
    · rename_i c _ _ hb; exact (Array.getElem?_eq_some_iff.1 hb).1
    · cases hv
  rw [h.below.cell hlt]; exact hv

/-! ### one operation that yields a value and turns nothing -/
def Val (P : Program) (W : World) (n : Cx) (o : Oper) (T : List (Nat × Value)) (B : List (Nat × Res)) (v : Value) : Prop :=
  ∀ a w, Tm n T a → Mem W B w → (execOp a.eval o).run P w = .ok (.value v) w

/-- One operation that may turn memory. -/
def Eff (P : Program) (W : World) (n : Cx) (o : Oper) (T : List (Nat × Value)) (B : List (Nat × Res)) {A : Type} (R : A → Prop) (T' : A → List (Nat × Value)) (B' : A → List (Nat × Res)) : Prop :=
  ∀ a w, Tm n T a → Mem W B w → ∀ (K : Act → World → Prop) (Q : Exit → Act → World → Prop), (∀ p, R p → ∀ a' w', Tm n (T' p) a' → Mem W (B' p) w' → K a' w') → o.wpIn (fc n.rd) 0 P a w K Q

theorem val_op {P : Program} {o : Oper} {ρ : Operand → Value} {v : Value} {w w' : World} (h : (execOp ρ o).run P w = .ok (.value v) w') : ∀ c, o.op ≠ .defer c := fun c hc => by
  simp only [execOp, hc, Sem.run_bind] at h
  generalize (resolve ρ c o.type).run P w = r at h
  cases r <;> simp [Result.andThen] at h
theorem Val.eff {P : Program} {W : World} {n : Cx} {d : Nat} {op : Op} {ty : TypeId} {pos : String} {aft : Array Edge} {g : Option (Nat × Bool)} {T : List (Nat × Value)} {B : List (Nat × Res)} {v : Value}
    (h : Val P W n ⟨some d, op, ty, pos, aft, g⟩ T B v) (hd : Nat.blt d n.n = true) : Eff P W n ⟨some d, op, ty, pos, aft, g⟩ T B (fun _ : Unit => True) (fun _ => (d, v) :: T) (fun _ => B) :=
  fun a w ht hm K Q hk =>
    OpX.of_run (val_op (h a w ht hm)) (h a w ht hm) (hk () trivial _ _ (ht.put hd v) hm)

/-! ### regions in the order of the text -/
def Rg (P : Program) (W : World) (n : Cx) (os : List Oper) (Q : Exit → Act → World → Prop) (l : List Oper) (T : List (Nat × Value)) (B : List (Nat × Res)) : Prop :=
  ∀ a w, Tm n T a → Mem W B w → wpListIn (fc n.rd) 0 P os.toArray Q l a w

def gd (os : List Oper) (j : Nat) : Option Nat := (os[j]?).bind (·.dst)
def isB : Value → Bool → Bool
  | .bool true, true => true
  | .bool false, false => true
  | _, _ => false
theorem yields {n : Cx} {T : List (Nat × Value)} {a : Act} (h : Tm n T a) {os : List Oper} {j dj : Nat} (hj : gd os j = some dj) {u : Value} (hu : lkp T dj = some u) (want : Bool) :
    (yielded os.toArray a.tmps j == some want) = isB u want := by
  have h1 : (os.toArray[j]?).bind (·.dst) = some dj := by simpa [gd] using hj
  have h2 := h.val dj u hu
  unfold yielded
  rw [h1, Option.bind_some, h2]
  cases u <;> cases want <;> simp [isB]
  all_goals (rename_i b; cases b <;> rfl)

theorem list_skip {P : Program} {rd : Option Nat} {ops : Array Oper} {Q : Exit → Act → World → Prop} {rest : List Oper} {o : Oper} {a : Act} {w : World} (hw : Region.wanted o (yielded ops a.tmps) = false) (h : wpListIn (fc rd) 0 P ops Q rest (a.put o.dst undef) w) : wpListIn (fc rd) 0 P ops Q (o :: rest) a w := by
  unfold wpListIn
  rw [if_neg (by rw [hw]; exact Bool.false_ne_true)]
  exact ⟨fun _ _ => trivial, h⟩
section
variable {P : Program} {W : World} {n : Cx} {os : List Oper} {Q : Exit → Act → World → Prop} {l : List Oper} {T : List (Nat × Value)} {B : List (Nat × Res)}

theorem Rg.eff {o : Oper} {A : Type} {R : A → Prop} {T' : A → List (Nat × Value)} {B' : A → List (Nat × Res)} (h : Eff P W n o T B R T' B') (hg : o.guard = none) (k : ∀ p, R p → Rg P W n os Q l (T' p) (B' p)) : Rg P W n os Q (o :: l) T B :=
  fun a w ht hm => wpListIn_step fun K hK => by
    have hw : Region.wanted o (yielded os.toArray a.tmps) = true := by simp [Region.wanted, hg]
    rw [if_pos hw]
    exact h a w ht hm K Q fun p hp a' w' ht' hm' => hK a' w' (k p hp a' w' ht' hm')
/-- A guarded operation whose guard says yes. -/
theorem Rg.on {d : Option Tmp} {op : Op} {ty : TypeId} {pos : String} {aft : Array Edge} {j : Nat} {want : Bool} {dj : Nat} {u : Value} (hj : gd os j = some dj) (hu : lkp T dj = some u) (hb : isB u want = true)
    (h : Rg P W n os Q (⟨d, op, ty, pos, aft, none⟩ :: l) T B) : Rg P W n os Q (⟨d, op, ty, pos, aft, some (j, want)⟩ :: l) T B :=
  fun a w ht hm => by
    have := h a w ht hm
    unfold wpListIn at this ⊢
    rw [if_pos (by simp [Region.wanted])] at this
    have hw : Region.wanted ⟨d, op, ty, pos, aft, some (j, want)⟩ (yielded os.toArray a.tmps) = true := (yields ht hj hu want).trans hb
    rw [if_pos hw]
    exact this
/-- A guarded operation whose guard says no. -/
theorem Rg.off {d : Nat} {op : Op} {ty : TypeId} {pos : String} {aft : Array Edge} {j : Nat} {want : Bool} {dj : Nat} {u : Value} (hj : gd os j = some dj) (hu : lkp T dj = some u) (hb : isB u want = false)
    (hd : Nat.blt d n.n = true) (h : Rg P W n os Q l ((d, undef) :: T) B) : Rg P W n os Q (⟨some d, op, ty, pos, aft, some (j, want)⟩ :: l) T B :=
  fun a w ht hm => list_skip ((yields ht hj hu want).trans hb) (h _ w (ht.put hd undef) hm)
theorem Rg.offN {op : Op} {ty : TypeId} {pos : String} {aft : Array Edge} {j : Nat} {want : Bool} {dj : Nat} {u : Value} (hj : gd os j = some dj) (hu : lkp T dj = some u) (hb : isB u want = false)
    (h : Rg P W n os Q l T B) : Rg P W n os Q (⟨none, op, ty, pos, aft, some (j, want)⟩ :: l) T B :=
  fun a w ht hm => list_skip ((yields ht hj hu want).trans hb) (h _ w ht hm)
theorem Rg.val {d : Nat} {op : Op} {ty : TypeId} {pos : String} {aft : Array Edge} {v : Value} (h : Val P W n ⟨some d, op, ty, pos, aft, none⟩ T B v) (hd : Nat.blt d n.n = true)
    (k : Rg P W n os Q l ((d, v) :: T) B) : Rg P W n os Q (⟨some d, op, ty, pos, aft, none⟩ :: l) T B :=
  Rg.eff (h.eff hd) rfl fun _ _ => k
/-- What is known of a Bool is written into its slot. -/
theorem Rg.know {t : Nat} {b c : Bool} (hb : lkp T t = some (.bool b)) (h : b = c) (k : Rg P W n os Q l ((t, .bool c) :: T) B) : Rg P W n os Q l T B :=
  fun a w ht hm => k a w ⟨ht.defers, ht.size, fun s v hv => by
    by_cases e : t = s
    · subst e; rw [lkp_cons_eq] at hv; cases hv; subst h; exact ht.val _ _ hb
    · rw [lkp_cons_ne _ _ e] at hv; exact ht.val _ _ hv⟩ hm
/-- An equal value takes a value's place. -/
theorem Rg.turn {t : Nat} {u v : Value} (hu : lkp T t = some u) (h : u = v) (k : Rg P W n os Q l ((t, v) :: T) B) : Rg P W n os Q l T B :=
  fun a w ht hm => k a w ⟨ht.defers, ht.size, fun s x hv => by
    by_cases e : t = s
    · subst e; rw [lkp_cons_eq] at hv; cases hv; subst h; exact ht.val _ _ hu
    · rw [lkp_cons_ne _ _ e] at hv; exact ht.val _ _ hv⟩ hm

/-! ### code -/
def Cd (P : Program) (W : World) (n : Cx) (c : Code) (Q : Exit → Act → World → Prop) (T : List (Nat × Value)) (B : List (Nat × Res)) : Prop :=
  ∀ a w, Tm n T a → Mem W B w → c.wpIn (fc n.rd) 0 P Q a w
def Rx (W : World) (n : Cx) (Q : Exit → Act → World → Prop) (e : Exit) (T : List (Nat × Value)) (B : List (Nat × Res)) : Prop :=
  ∀ a w, Tm n T a → Mem W B w → Q e a w

theorem Rg.nil (h : Rx W n Q .normal T B) : Rg P W n os Q [] T B := fun a w ht hm => h a w ht hm
theorem Cd.region {id : Nat} (h : Rg P W n os Q os T B) : Cd P W n (.region id os.toArray false) Q T B :=
  fun a w ht hm => wpIn_region_lit (h a w ht hm)
theorem Cd.seq {x y : Code} (h : Cd P W n x (Exit.then (y.wpIn (fc n.rd) 0 P Q) Q) T B) : Cd P W n (.seq x y) Q T B :=
  fun a w ht hm => wpIn_seq (h a w ht hm)
theorem Cd.cond {c : Operand} {x y : Code} {b : Bool} (hc : opv T c = some (.bool b)) (ht : b = true → Cd P W n x Q T B) (hf : b = false → Cd P W n y Q T B) : Cd P W n (.cond c x y) Q T B :=
  fun a w hT hm => wpIn_cond_split (hT.eval hc) (fun e => ht e a w hT hm) (fun e => hf e a w hT hm)
theorem Cd.yes {c : Operand} {x y : Code} (hc : opv T c = some (.bool true)) (h : Cd P W n x Q T B) : Cd P W n (.cond c x y) Q T B :=
  Cd.cond hc (fun _ => h) (fun e => by cases e)
theorem Cd.no {c : Operand} {x y : Code} (hc : opv T c = some (.bool false)) (h : Cd P W n y Q T B) : Cd P W n (.cond c x y) Q T B :=
  Cd.cond hc (fun e => by cases e) (fun _ => h)
theorem Cd.block {id : Nat} {c : Code} (h : Cd P W n c (Exit.inBlock id Q) T B) : Cd P W n (.block id c) Q T B :=
  fun a w ht hm => wpIn_block (h a w ht hm)
theorem Cd.skip (h : Rx W n Q .normal T B) : Cd P W n .skip Q T B := fun a w ht hm => wpIn_skip (h a w ht hm)
theorem Cd.ret (h : Rx W n Q .ret T B) : Cd P W n .ret Q T B := fun a w ht hm => wpIn_ret (h a w ht hm)
theorem Cd.exit {id : Nat} (h : Rx W n Q (.exit id) T B) : Cd P W n (.exit id) Q T B := fun a w ht hm => wpIn_exit (h a w ht hm)
theorem Cd.weak {c : Code} {T' : List (Nat × Value)} {B' : List (Nat × Res)} (h : Cd P W n c Q T' B') (hT : subl T' T) (hB : subl B' B) : Cd P W n c Q T B :=
  fun a w ht hm => h a w (ht.weak hT) (hm.weak hB)
/-- Where ways meet: one state for all of them, behind parameters. -/
theorem Cd.cut {x y : Code} {A : Type} (R : A → Prop) (T' : A → List (Nat × Value)) (B' : A → List (Nat × Res))
    (h : Cd P W n x (Exit.then (fun a w => ∃ p, R p ∧ Tm n (T' p) a ∧ Mem W (B' p) w) Q) T B) (k : ∀ p, R p → Cd P W n y Q (T' p) (B' p)) : Cd P W n (.seq x y) Q T B :=
  fun a w ht hm => wpIn_seq (wpIn_mono (h a w ht hm) fun e a w q => by
    cases e with
    | normal => obtain ⟨p, hp, ht, hm⟩ := q; exact k p hp a w ht hm
    | _ => exact q)
theorem Cd.loop {c : Code} {A : Type} (R : A → Prop) (T' : A → List (Nat × Value)) (B' : A → List (Nat × Res)) (μ : A → Nat) (p₀ : A) (h₀ : R p₀) (hT : subl (T' p₀) T) (hB : subl (B' p₀) B)
    (round : ∀ p, R p → Cd P W n c (Exit.then (fun a w => ∃ p', (R p' ∧ μ p' < μ p) ∧ Tm n (T' p') a ∧ Mem W (B' p') w) Q) (T' p) (B' p)) : Cd P W n (.loop c) Q T B := by
  intro a w ht hm b k cs hro hb hr
  have key : ∀ m p a w, μ p = m → R p → Tm n (T' p) a → Mem W (B' p) w →
      ∃ e a' w', Q e a' w' ∧ ArrivesIn (Machine.fenced P (fc n.rd)) P (lone (b.atR a (.code c :: .inLoop c :: k)) cs w) b k cs e a' w' := by
    intro m
    induction m using Nat.strongRecOn with
    | _ m ih =>
      intro p a w hn hI hta hma
      obtain ⟨e, a₁, w₁, hq, harr⟩ := round p hI a w hta hma b (.inLoop c :: k) cs hro hb hr
      cases e with
      | normal =>
        obtain ⟨p', ⟨hI₁, hlt⟩, ht₁, hm₁⟩ := hq
        obtain ⟨e₂, a₂, w₂, hq₂, harr₂⟩ := ih (μ p') (hn ▸ hlt) p' a₁ w₁ rfl hI₁ ht₁ hm₁
        exact ⟨e₂, a₂, w₂, hq₂, .of_steps (StepsIn.trans harr (.one (fenced_calm hb hr rfl) stepR_inLoop)) harr₂⟩
      | exit id => exact ⟨_, a₁, w₁, hq, .pass (x := .inLoop c) rfl (fun _ _ => .inl (by simp)) harr⟩
      | goto l => exact ⟨_, a₁, w₁, hq, .pass (x := .inLoop c) rfl (fun _ _ => .inl (by simp)) harr⟩
      | ret => exact ⟨_, a₁, w₁, hq, .pass (x := .inLoop c) rfl (fun _ _ => .inl (by simp)) harr⟩
      | panic ch => exact ⟨_, a₁, w₁, hq, .pass (x := .inLoop c) rfl (fun _ _ => .inl (by simp)) harr⟩
      | outgrown => exact ⟨_, a₁, w₁, hq, .pass (x := .inLoop c) rfl (fun _ _ => .inl (by simp)) harr⟩
  obtain ⟨e, a', w', hq, harr⟩ := key _ p₀ a w rfl h₀ (ht.weak hT) (hm.weak hB)
  exact ⟨e, a', w', hq, .of_steps (.one (fenced_calm hb hr rfl) stepR_loop) harr⟩

/-! ### ways out -/
theorem Rx.seq {y : Code} (h : Cd P W n y Q T B) : Rx W n (Exit.then (y.wpIn (fc n.rd) 0 P Q) Q) .normal T B := fun a w ht hm => h a w ht hm
theorem Rx.meet {A : Type} {R : A → Prop} {T' : A → List (Nat × Value)} {B' : A → List (Nat × Res)} (p : A) (hp : R p) (hT : subl (T' p) T) (hB : subl (B' p) B) :
    Rx W n (Exit.then (fun a w => ∃ p, R p ∧ Tm n (T' p) a ∧ Mem W (B' p) w) Q) .normal T B := fun _ _ ht hm => ⟨p, hp, ht.weak hT, hm.weak hB⟩
theorem Rx.past {K : Act → World → Prop} {e : Exit} (h : Rx W n Q e T B) (he : e ≠ .normal) : Rx W n (Exit.then K Q) e T B := fun a w ht hm => by
  have := h a w ht hm
  cases e <;> first | exact absurd rfl he | exact this
theorem Rx.hit {id : Nat} (h : Rx W n Q .normal T B) : Rx W n (Exit.inBlock id Q) (.exit id) T B := fun a w ht hm => by
  show (if id = id then Q .normal a w else Q (.exit id) a w)
  rw [if_pos rfl]; exact h a w ht hm
theorem Rx.miss {id id' : Nat} (hne : Nat.beq id' id = false) (h : Rx W n Q (.exit id') T B) : Rx W n (Exit.inBlock id Q) (.exit id') T B := fun a w ht hm => by
  show (if id' = id then Q .normal a w else Q (.exit id') a w)
  rw [if_neg (fun e => by subst e; simp at hne)]; exact h a w ht hm
theorem Rx.inb {id : Nat} (h : Rx W n Q .normal T B) : Rx W n (Exit.inBlock id Q) .normal T B := fun a w ht hm => h a w ht hm
theorem Rx.inr {id : Nat} (h : Rx W n Q .ret T B) : Rx W n (Exit.inBlock id Q) .ret T B := fun a w ht hm => h a w ht hm
end

/-! ### calls -/
def argT : Nat → List Value → List (Nat × Value)
  | _, [] => []
  | i, v :: r => (i, v) :: argT (i + 1) r
theorem lkp_argT : ∀ (vs : List Value) (i s : Nat) (v : Value), lkp (argT i vs) s = some v → i ≤ s ∧ vs[s - i]? = some v
  | [], i, s, v, h => by simp [argT, lkp] at h
  | u :: r, i, s, v, h => by
    unfold argT at h
    by_cases e : i = s
    · subst e
      rw [lkp_cons_eq] at h
      exact ⟨Nat.le_refl _, by simpa using h⟩
    · rw [lkp_cons_ne _ _ e] at h
      obtain ⟨h1, h2⟩ := lkp_argT r (i + 1) s v h
      refine ⟨by omega, ?_⟩
      rw [show s - i = (s - (i + 1)) + 1 from by omega]
      simpa using h2
theorem calls_of {P : Program} {f : FuncId} {fn : Func} {c : Code} {vs : List Value} {w : World} {R : Ending → World → Prop} {n : Nat}
    (hf : P.funcs[f]? = some fn) (hb : fn.body = some c) (hn : fn.ntmps = n) (hl : Nat.ble vs.length n = true)
    (h : Cd P w (Cx.act n) c (bodyPost P fn R) (argT 0 vs) []) : Calls P f vs.toArray w R := by
  have hl' : vs.length ≤ n := Nat.le_of_ble_eq_true hl
  refine calls_of_wp hf hb (wpIn_none (h _ w ⟨rfl, by simp [hn]; omega, fun s v hv => ?_⟩ (Mem.nil w)))
  obtain ⟨_, h2⟩ := lkp_argT vs 0 s v hv
  simp only [Nat.sub_zero] at h2
  have hlt := (List.getElem?_eq_some_iff.1 h2).1
  rw [Array.getElem?_append_left (by simpa using hlt)]
  simpa using h2

theorem Rx.ret1 {P : Program} {W : World} {n : Cx} {T : List (Nat × Value)} {B : List (Nat × Res)} {fn : Func} {R : Ending → World → Prop} {t : Tmp} {v : Value} (hr : fn.results = #[.tmp t]) (hv : lkp T t = some v)
    (h : ∀ w, Mem W B w → R (.returned v) w) (hds : n.ds = [] := by rfl) : Rx W n (bodyPost P fn R) .ret T B := fun a w ht hm =>
  bodyPost_ret (results_tmp hr _ _ _) (ht.defers.trans hds) (by
    have := ht.val t v hv
    rw [Array.getD_eq_getD_getElem?, this]
    exact h w hm)
theorem Rx.ret2 {P : Program} {W : World} {n : Cx} {T : List (Nat × Value)} {B : List (Nat × Res)} {fn : Func} {R : Ending → World → Prop} {t u : Tmp} {v x : Value} (hr : fn.results = #[.tmp t, .tmp u]) (hv : lkp T t = some v) (hx : lkp T u = some x)
    (h : ∀ w, Mem W B w → R (.returned (.tuple #[v, x])) w) (hds : n.ds = [] := by rfl) : Rx W n (bodyPost P fn R) .ret T B := fun a w ht hm =>
  bodyPost_ret (results_tmp2 hr _ _ _) (ht.defers.trans hds) (by
    rw [Array.getD_eq_getD_getElem?, Array.getD_eq_getD_getElem?, ht.val t v hv, ht.val u x hx]
    exact h w hm)
theorem results_tmp3 {fn : Func} {t u s : Tmp} (h : fn.results = #[.tmp t, .tmp u, .tmp s]) (tmps : Array Value) (P : Program) (w : World) :
    (results fn tmps).run P w = .ok (.tuple #[tmps.getD t undef, tmps.getD u undef, tmps.getD s undef]) w := by
  simp [results, h]
theorem Rx.ret3 {P : Program} {W : World} {n : Cx} {T : List (Nat × Value)} {B : List (Nat × Res)} {fn : Func} {R : Ending → World → Prop} {t u s : Tmp} {v x y : Value} (hr : fn.results = #[.tmp t, .tmp u, .tmp s]) (hv : lkp T t = some v) (hx : lkp T u = some x) (hy : lkp T s = some y)
    (h : ∀ w, Mem W B w → R (.returned (.tuple #[v, x, y])) w) (hds : n.ds = [] := by rfl) : Rx W n (bodyPost P fn R) .ret T B := fun a w ht hm =>
  bodyPost_ret (results_tmp3 hr _ _ _) (ht.defers.trans hds) (by
    rw [Array.getD_eq_getD_getElem?, Array.getD_eq_getD_getElem?, Array.getD_eq_getD_getElem?, ht.val t v hv, ht.val u x hx, ht.val s y hy]
    exact h w hm)

/-- Function f has a body of its own and is entered. -/
def Enters (P : Program) (f : FuncId) : Prop := ∀ (args : Array Value) (w : World), (callFunc f args).run P w = .ok (.enter f args) w
theorem enters_of {P : Program} {f : FuncId} {fn : Func} (hf : P.funcs[f]? = some fn) (hn : (fn.name == "runtime.NumGoroutine") = false) (hb : fn.body.isNone = false) : Enters P f := fun args w => by
  simp only [callFunc, Sem.run_bind, run_program, Result.andThen_ok, hf, hn, hb, Bool.false_eq_true, if_false]
  rfl

theorem Eff.call {P : Program} {W : World} {n : Cx} {d : Nat} {x : Operand} {args : List Operand} {tys : Array TypeId} {ty : TypeId} {pos : String} {aft : Array Edge} {g : Option (Nat × Bool)} {T : List (Nat × Value)} {B : List (Nat × Res)}
    {f : FuncId} {fs us vs : List Value} {A : Type} {R : A → Prop} {v : A → Value} {B' : A → List (Nat × Res)}
    (hx : opv T x = some (.func (.func f) fs.toArray us.toArray)) (ha : opvs T args = some vs) (he : Enters P f) (hd : Nat.blt d n.n = true)
    (hc : ∀ w, Mem W B w → Calls P f (fs ++ vs ++ us).toArray w fun e w' => ∃ p, R p ∧ e = .returned (v p) ∧ Mem W (B' p) w') :
    Eff P W n ⟨some d, .call { callee := .value x, args := args.toArray, argTypes := tys }, ty, pos, aft, g⟩ T B R (fun p => (d, v p) :: T) B' :=
  fun a w ht hm K Q hk => by
    have h1 := ht.eval hx
    have h2 := ht.evals ha
    have hrun : (execOp a.eval ⟨some d, .call { callee := .value x, args := args.toArray, argTypes := tys }, ty, pos, aft, g⟩).run P w = .ok (.enter f (fs ++ vs ++ us).toArray) w := by
      simp only [execOp, resolve, Deferred.ofValue, invoke, h1, List.map_toArray, h2, Sem.run_bind, Sem.run_pure, Result.andThen_ok, List.append_toArray]
      exact he _ w
    refine OpX.enter (by intro c e; cases e) hrun ((hc w hm).mono fun e w' he => ?_)
    obtain ⟨p, hp, rfl, hm'⟩ := he
    exact hk p hp _ _ (ht.put hd (v p)) hm'
/-- The plain case: one value, nothing that lay there has turned. -/
def Gives (P : Program) (f : FuncId) (args : Array Value) (w : World) (v : Value) : Prop := Calls P f args w fun e w' => e = .returned v ∧ Below w.heap.size w w'
theorem Eff.give {P : Program} {W : World} {n : Cx} {d : Nat} {x : Operand} {args : List Operand} {tys : Array TypeId} {ty : TypeId} {pos : String} {aft : Array Edge} {g : Option (Nat × Bool)} {T : List (Nat × Value)} {B : List (Nat × Res)}
    {f : FuncId} {fs us vs : List Value} {v : Value}
    (hx : opv T x = some (.func (.func f) fs.toArray us.toArray)) (ha : opvs T args = some vs) (he : Enters P f) (hd : Nat.blt d n.n = true)
    (hc : ∀ w, Mem W B w → Gives P f (fs ++ vs ++ us).toArray w v) :
    Eff P W n ⟨some d, .call { callee := .value x, args := args.toArray, argTypes := tys }, ty, pos, aft, g⟩ T B (fun _ : Unit => True) (fun _ => (d, v) :: T) (fun _ => B) :=
  Eff.call (A := Unit) (R := fun _ => True) (v := fun _ => v) (B' := fun _ => B) hx ha he hd fun w hm => (hc w hm).mono fun _ _ ⟨he, hb⟩ => ⟨(), trivial, he, hm.step hb⟩
/-- The same for a call whose result is not kept. -/
theorem Gives.intro {P : Program} {f : FuncId} {args : Array Value} {w : World} {v : Value} (h : Calls P f args w fun e w' => e = .returned v ∧ Below w.heap.size w w') : Gives P f args w v := h

theorem bnot_t {b : Bool} (h : (!b) = true) : b = false := by cases b <;> first | rfl | cases h
theorem bnot_f {b : Bool} (h : (!b) = false) : b = true := by cases b <;> first | rfl | cases h
theorem not_dec_true {p : Prop} [Decidable p] (h : (!decide p) = true) : ¬ p := by simpa using h
theorem not_dec_false {p : Prop} [Decidable p] (h : (!decide p) = false) : p := by simpa using h
/-! ### loops of a known number of rounds -/
section
variable {P : Program} {W : World} {n : Cx} {Q : Exit → Act → World → Prop} {T : List (Nat × Value)} {B : List (Nat × Res)}
def Rd (P : Program) (W : World) (n : Cx) (c : Code) (Q : Exit → Act → World → Prop) (m : Nat) (T : List (Nat × Value)) (B : List (Nat × Res)) : Prop :=
  ∀ a w, Tm n T a → Mem W B w → Code.roundsIn (fc n.rd) 0 P c Q m a w
theorem Cd.loopN {c : Code} (m : Nat) (h : Rd P W n c Q m T B) : Cd P W n (.loop c) Q T B := fun a w ht hm => wpIn_loop_rounds m (h a w ht hm)
theorem Rd.succ {c : Code} {m : Nat} (h : Cd P W n c (Exit.then (Code.roundsIn (fc n.rd) 0 P c Q m) Q) T B) : Rd P W n c Q (m + 1) T B := fun a w ht hm => h a w ht hm
theorem Rx.again {c : Code} {m : Nat} (h : Rd P W n c Q m T B) : Rx W n (Exit.then (Code.roundsIn (fc n.rd) 0 P c Q m) Q) .normal T B := fun a w ht hm => h a w ht hm
theorem Rx.pastR {K : Act → World → Prop} (h : Rx W n Q .ret T B) : Rx W n (Exit.then K Q) .ret T B := fun a w ht hm => h a w ht hm
theorem Rx.pastE {K : Act → World → Prop} {i : Nat} (h : Rx W n Q (.exit i) T B) : Rx W n (Exit.then K Q) (.exit i) T B := fun a w ht hm => h a w ht hm
theorem Cd.know {c : Code} {t : Nat} {b d : Bool} (hb : lkp T t = some (.bool b)) (h : b = d) (k : Cd P W n c Q ((t, .bool d) :: T) B) : Cd P W n c Q T B :=
  fun a w ht hm => k a w ⟨ht.defers, ht.size, fun s v hv => by
    by_cases e : t = s
    · subst e; rw [lkp_cons_eq] at hv; cases hv; subst h; exact ht.val _ _ hb
    · rw [lkp_cons_ne _ _ e] at hv; exact ht.val _ _ hv⟩ hm
theorem Cd.weakT {c : Code} {T' : List (Nat × Value)} {B' : List (Nat × Res)} (hT : subl T' T) (hB : subl B' B) (h : Cd P W n c Q T' B') : Cd P W n c Q T B := h.weak hT hB
theorem Rx.weakT {e : Exit} {T' : List (Nat × Value)} {B' : List (Nat × Res)} (hT : subl T' T) (hB : subl B' B) (h : Rx W n Q e T' B') : Rx W n Q e T B := fun a w ht hm => h a w (ht.weak hT) (hm.weak hB)
theorem Rg.split {os l : List Oper} (t : Nat) {b : Bool} (hb : lkp T t = some (.bool b)) (h1 : b = true → Rg P W n os Q l ((t, .bool true) :: T) B) (h2 : b = false → Rg P W n os Q l ((t, .bool false) :: T) B) : Rg P W n os Q l T B := by
  cases b
  · exact Rg.know hb rfl (h2 rfl)
  · exact Rg.know hb rfl (h1 rfl)

/-! ### regions that draw their order -/
def NoPan (Q : Exit → Act → World → Prop) : Exit → Act → World → Prop
  | .panic _, _, _ => False
  | e, a, w => Q e a w
theorem NoPan.imp : ∀ (e : Exit) (a : Act) (w : World), NoPan Q e a w → Q e a w := fun e a w h => by
  cases e <;> first | exact h | exact (h : False).elim
def Dr (P : Program) (W : World) (n : Cx) (os : List Oper) (Q : Exit → Act → World → Prop) (S : List (Nat × Res)) (fuel : Nat) (listed : Array Bool) (T : List (Nat × Value)) (B : List (Nat × Res)) : Prop :=
  ∀ a w, Tm n T a → Mem W B w → wpAnyI n.rd P os.toArray (NoPan Q) (Mem W S) fuel listed a w
variable {os : List Oper} {S : List (Nat × Res)} {fuel : Nat} {listed : Array Bool}
theorem Cd.draw {id m : Nat} (S : List (Nat × Res)) (hf : P.follows .mixedOrders = true) (hl : os.length = m) (h : Dr P W n os Q S m (Array.replicate m false) T B) : Cd P W n (.region id os.toArray true) Q T B :=
  fun a w ht hm => wpIn_mono (wpAnyI.region (S := Mem W S) hf (by
    subst hl
    have := h a { w with drawn := w.drawn + 1 } ht (hm.drawn _)
    simpa using this)) NoPan.imp
def tk (os : List Oper) (listed : Array Bool) (i : Nat) : Bool := noDefer os.toArray && Region.noSelect os.toArray && Region.free .any os.toArray listed i && (Region.ready .any os.toArray listed).contains i
theorem tk_spec {i : Nat} (h : tk os listed i = true) : noDefer os.toArray = true ∧ Region.noSelect os.toArray = true ∧ Region.free .any os.toArray listed i = true ∧ (Region.ready .any os.toArray listed).contains i = true := by
  simp only [tk, Bool.and_eq_true] at h
  exact ⟨h.1.1.1, h.1.1.2, h.1.2, h.2⟩
theorem Dr.take (i : Nat) {d : Nat} {op : Op} {ty : TypeId} {pos : String} {aft : Array Edge} {v : Value} (hi : os[i]? = some ⟨some d, op, ty, pos, aft, none⟩) (ht : tk os listed i = true)
    (hv : Val P W n ⟨some d, op, ty, pos, aft, none⟩ T S v) (hd : Nat.blt d n.n = true) (hS : subl S B) (k : Dr P W n os Q S fuel (listed.setIfInBounds i true) ((d, v) :: T) B) : Dr P W n os Q S (fuel + 1) listed T B :=
  fun a w hT hm => by
    obtain ⟨h0, h1, h2, h3⟩ := tk_spec ht
    exact wpAnyI.take (i := i) (by simpa using hi) h0 h1 h2 h3 (fun _ _ _ h => h) (.inl ⟨rfl, fun w' hm' => hv a w' hT hm'⟩) (hm.weak hS) (k _ w (hT.put hd v) hm)
theorem wants {n : Cx} {T : List (Nat × Value)} {a : Act} (h : Tm n T a) {os : List Oper} {d : Option Tmp} {op : Op} {ty : TypeId} {pos : String} {aft : Array Edge} {j : Nat} {want : Bool} {dj : Nat} {u : Value} {c : Bool} (hj : gd os j = some dj) (hu : lkp T dj = some u) (hb : isB u want = c) :
    Region.wanted ⟨d, op, ty, pos, aft, some (j, want)⟩ (yielded os.toArray a.tmps) = c := (yields h hj hu want).trans hb
theorem Dr.takeG (i : Nat) {d : Nat} {op : Op} {ty : TypeId} {pos : String} {aft : Array Edge} {j : Nat} {want : Bool} {dj : Nat} {u v : Value} (hi : os[i]? = some ⟨some d, op, ty, pos, aft, some (j, want)⟩) (ht : tk os listed i = true) (hj : gd os j = some dj) (hu : lkp T dj = some u) (hb : isB u want = true)
    (hv : Val P W n ⟨some d, op, ty, pos, aft, some (j, want)⟩ T S v) (hd : Nat.blt d n.n = true) (hS : subl S B) (k : Dr P W n os Q S fuel (listed.setIfInBounds i true) ((d, v) :: T) B) : Dr P W n os Q S (fuel + 1) listed T B :=
  fun a w hT hm => by
    obtain ⟨h0, h1, h2, h3⟩ := tk_spec ht
    exact wpAnyI.take (i := i) (by simpa using hi) h0 h1 h2 h3 (fun _ _ _ h => h) (.inl ⟨wants hT hj hu hb, fun w' hm' => hv a w' hT hm'⟩) (hm.weak hS) (k _ w (hT.put hd v) hm)
theorem Dr.off (i : Nat) {d : Nat} {op : Op} {ty : TypeId} {pos : String} {aft : Array Edge} {j : Nat} {want : Bool} {dj : Nat} {u : Value} (hi : os[i]? = some ⟨some d, op, ty, pos, aft, some (j, want)⟩) (ht : tk os listed i = true) (hj : gd os j = some dj) (hu : lkp T dj = some u) (hb : isB u want = false)
    (hd : Nat.blt d n.n = true) (hS : subl S B) (k : Dr P W n os Q S fuel (listed.setIfInBounds i true) ((d, undef) :: T) B) : Dr P W n os Q S (fuel + 1) listed T B :=
  fun a w hT hm => by
    obtain ⟨h0, h1, h2, h3⟩ := tk_spec ht
    exact wpAnyI.take (i := i) (by simpa using hi) h0 h1 h2 h3 (fun _ _ _ h => h) (.inr ⟨wants hT hj hu hb, rfl⟩) (hm.weak hS) (k _ w (hT.put hd undef) hm)
theorem Dr.step (i : Nat) {o : Oper} {a : Act} {w : World} {A : Type} {R : A → Prop} {T' : A → List (Nat × Value)} {B' : A → List (Nat × Res)} (hi : os[i]? = some o) (hw : Region.wanted o (yielded os.toArray a.tmps) = true) (hT : Tm n T a) (hm : Mem W B w) (he : Eff P W n o T B R T' B') (hS : ∀ p, R p → subl S (B' p))
    (k : ∀ p, R p → Dr P W n os Q S fuel (listed.setIfInBounds i true) (T' p) (B' p)) :
    wpOpIn (fc n.rd) 0 P os.toArray (NoPan Q) i (fun a' w' => Mem W S w' ∧ wpAnyI n.rd P os.toArray (NoPan Q) (Mem W S) fuel (listed.setIfInBounds i true) a' w') a w := by
  unfold wpOpIn
  rw [show os.toArray[i]? = some o from by simpa using hi]
  simp only [hw, if_true]
  exact he a w hT hm _ _ fun p hp a' w' ht' hm' => ⟨hm'.weak (hS p hp), k p hp a' w' ht' hm'⟩
theorem Dr.one (i : Nat) {o : Oper} {A : Type} {R : A → Prop} {T' : A → List (Nat × Value)} {B' : A → List (Nat × Res)} (hr : Region.ready .any os.toArray listed = [i]) (hi : os[i]? = some o) (he : Eff P W n o T B R T' B') (hg : o.guard = none) (hS : ∀ p, R p → subl S (B' p))
    (k : ∀ p, R p → Dr P W n os Q S fuel (listed.setIfInBounds i true) (T' p) (B' p)) : Dr P W n os Q S (fuel + 1) listed T B :=
  fun a w hT hm => wpAnyI.all hr (by simp) fun j hj => by
    simp only [List.mem_singleton] at hj
    subst hj
    exact Dr.step j hi (by simp [Region.wanted, hg]) hT hm he hS k
theorem Dr.oneG (i : Nat) {d : Option Tmp} {op : Op} {ty : TypeId} {pos : String} {aft : Array Edge} {j : Nat} {want : Bool} {dj : Nat} {u : Value} {A : Type} {R : A → Prop} {T' : A → List (Nat × Value)} {B' : A → List (Nat × Res)} (hr : Region.ready .any os.toArray listed = [i]) (hi : os[i]? = some ⟨d, op, ty, pos, aft, some (j, want)⟩) (hj : gd os j = some dj) (hu : lkp T dj = some u) (hb : isB u want = true)
    (he : Eff P W n ⟨d, op, ty, pos, aft, some (j, want)⟩ T B R T' B') (hS : ∀ p, R p → subl S (B' p))
    (k : ∀ p, R p → Dr P W n os Q S fuel (listed.setIfInBounds i true) (T' p) (B' p)) : Dr P W n os Q S (fuel + 1) listed T B :=
  fun a w hT hm => wpAnyI.all hr (by simp) fun j hj' => by
    simp only [List.mem_singleton] at hj'
    subst hj'
    exact Dr.step _ hi (wants hT hj hu hb) hT hm he hS k
theorem Dr.two (i i' : Nat) {o o' : Oper} {A A' : Type} {R : A → Prop} {R' : A' → Prop} {T' : A → List (Nat × Value)} {B' : A → List (Nat × Res)} {T'' : A' → List (Nat × Value)} {B'' : A' → List (Nat × Res)} (hr : Region.ready .any os.toArray listed = [i, i']) (hi : os[i]? = some o) (hi' : os[i']? = some o')
    (he : Eff P W n o T B R T' B') (hg : o.guard = none) (hS : ∀ p, R p → subl S (B' p)) (he' : Eff P W n o' T B R' T'' B'') (hg' : o'.guard = none) (hS' : ∀ p, R' p → subl S (B'' p))
    (k : ∀ p, R p → Dr P W n os Q S fuel (listed.setIfInBounds i true) (T' p) (B' p)) (k' : ∀ p, R' p → Dr P W n os Q S fuel (listed.setIfInBounds i' true) (T'' p) (B'' p)) : Dr P W n os Q S (fuel + 1) listed T B :=
  fun a w hT hm => wpAnyI.all hr (by simp) fun j hj => by
    simp only [List.mem_cons, List.not_mem_nil, or_false] at hj
    rcases hj with rfl | rfl
    · exact Dr.step _ hi (by simp [Region.wanted, hg]) hT hm he hS k
    · exact Dr.step _ hi' (by simp [Region.wanted, hg']) hT hm he' hS' k'
theorem Dr.three (i1 i2 i3 : Nat) {o1 o2 o3 : Oper} {A1 A2 A3 : Type} {R1 : A1 → Prop} {R2 : A2 → Prop} {R3 : A3 → Prop} {T1 : A1 → List (Nat × Value)} {B1 : A1 → List (Nat × Res)} {T2 : A2 → List (Nat × Value)} {B2 : A2 → List (Nat × Res)} {T3 : A3 → List (Nat × Value)} {B3 : A3 → List (Nat × Res)} (hr : Region.ready .any os.toArray listed = [i1, i2, i3])
    (h1 : os[i1]? = some o1) (e1 : Eff P W n o1 T B R1 T1 B1) (g1 : o1.guard = none) (s1 : ∀ p, R1 p → subl S (B1 p)) (h2 : os[i2]? = some o2) (e2 : Eff P W n o2 T B R2 T2 B2) (g2 : o2.guard = none) (s2 : ∀ p, R2 p → subl S (B2 p)) (h3 : os[i3]? = some o3) (e3 : Eff P W n o3 T B R3 T3 B3) (g3 : o3.guard = none) (s3 : ∀ p, R3 p → subl S (B3 p))
    (k1 : ∀ p, R1 p → Dr P W n os Q S fuel (listed.setIfInBounds i1 true) (T1 p) (B1 p)) (k2 : ∀ p, R2 p → Dr P W n os Q S fuel (listed.setIfInBounds i2 true) (T2 p) (B2 p)) (k3 : ∀ p, R3 p → Dr P W n os Q S fuel (listed.setIfInBounds i3 true) (T3 p) (B3 p)) : Dr P W n os Q S (fuel + 1) listed T B :=
  fun a w hT hm => wpAnyI.all hr (by simp) fun j hj => by
    simp only [List.mem_cons, List.not_mem_nil, or_false] at hj
    rcases hj with rfl | rfl | rfl
    · exact Dr.step _ h1 (by simp [Region.wanted, g1]) hT hm e1 s1 k1
    · exact Dr.step _ h2 (by simp [Region.wanted, g2]) hT hm e2 s2 k2
    · exact Dr.step _ h3 (by simp [Region.wanted, g3]) hT hm e3 s3 k3
theorem Dr.done (hr : Region.ready .any os.toArray listed = []) (h : Rx W n Q .normal T B) : Dr P W n os Q S fuel listed T B :=
  fun a w hT hm => wpAnyI.done (Q := NoPan Q) hr (show NoPan Q .normal a w from h a w hT hm) _
theorem Dr.split (t : Nat) {b : Bool} (hb : lkp T t = some (.bool b)) (h1 : b = true → Dr P W n os Q S fuel listed ((t, .bool true) :: T) B) (h2 : b = false → Dr P W n os Q S fuel listed ((t, .bool false) :: T) B) : Dr P W n os Q S fuel listed T B := by
  have key : ∀ c, b = c → Dr P W n os Q S fuel listed ((t, .bool c) :: T) B → Dr P W n os Q S fuel listed T B := fun c h k a w ht hm => k a w ⟨ht.defers, ht.size, fun s v hv => by
    by_cases e : t = s
    · subst e; rw [lkp_cons_eq] at hv; cases hv; subst h; exact ht.val _ _ hb
    · rw [lkp_cons_ne _ _ e] at hv; exact ht.val _ _ hv⟩ hm
  cases b
  · exact key false rfl (h2 rfl)
  · exact key true rfl (h1 rfl)
end
end Go.Kx
