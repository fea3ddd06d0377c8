/- The plain law of all orders: listed team by team, and gone through one by one. No program in sight. -/
import Derived.Test.YtdmkedbmoboamaaPO
namespace Go.Proofs.Ytdmkedbmoboamaa
set_option linter.unusedVariables false
set_option linter.unusedSimpArgs false
set_option linter.unnecessarySimpa false
/-- All turns of what is left, behind what stands. -/
def turnsF : Nat → List Int → List Int → List (List Int)
  | 0, p, _ => [p]
  | n + 1, p, r => (List.range r.length).flatMap fun i => turnsF n (p ++ [r[i]?.getD 0]) (r.take i ++ r.drop (i + 1))
/-- One order after the other, a team's turn at a time. -/
def ordD : List (List (List Int)) → List (List Int) → List (List (List Int))
  | [], o => [o]
  | ts :: r, o => ts.flatMap fun t => ordD r (o ++ [t])
/-- The list of all orders, grown by a team at a time. -/
def ordB : List (List (List Int)) → List (List (List Int)) → List (List (List Int))
  | all, [] => all
  | all, ts :: r => ordB (all.flatMap fun o => ts.map fun t => o ++ [t]) r
theorem ordB_eq : ∀ (tss : List (List (List Int))) (all : List (List (List Int))), ordB all tss = all.flatMap (ordD tss)
  | [], all => by
    rw [ordB]
    induction all with
    | nil => rfl
    | cons o r ih => rw [List.flatMap_cons, ← ih]; rfl
  | ts :: r, all => by
    rw [ordB, ordB_eq r]
    induction all with
    | nil => rfl
    | cons o s ih =>
      rw [List.flatMap_cons, List.flatMap_append, ih, List.flatMap_cons]
      congr 1
      rw [ordD, List.flatMap_map]
theorem ordB_nil (tss : List (List (List Int))) : ordB [[]] tss = ordD tss [] := by
  rw [ordB_eq]; simp
theorem turnsF_perm : ∀ (n : Nat) (p r t : List Int), r.length = n → t ∈ turnsF n p r → ∃ q, t = p ++ q ∧ q.Perm r
  | 0, p, r, t, h, ht => by
    rw [turnsF] at ht
    have : r = [] := List.length_eq_zero_iff.1 h
    subst this
    exact ⟨[], by simpa using ht, List.Perm.refl _⟩
  | n + 1, p, r, t, h, ht => by
    rw [turnsF] at ht
    obtain ⟨i, hi, ht⟩ := List.mem_flatMap.1 ht
    have hi : i < r.length := List.mem_range.1 hi
    obtain ⟨q, e, hq⟩ := turnsF_perm n _ _ t (by simp only [List.length_append, List.length_take, List.length_drop]; omega) ht
    refine ⟨r[i] :: q, by rw [e, List.getElem?_eq_getElem hi]; simp, ?_⟩
    have h1 : (r[i] :: (r.take i ++ r.drop (i + 1))).Perm r := by
      have e2 : r = r.take i ++ (r[i] :: r.drop (i + 1)) := by
        rw [← List.drop_eq_getElem_cons hi, List.take_append_drop]
      exact (List.perm_middle.symm.trans (List.Perm.of_eq e2.symm))
    exact (List.Perm.cons _ hq).trans h1
theorem turnsF_all : ∀ (n : Nat) (p r q : List Int), r.length = n → q.Perm r → p ++ q ∈ turnsF n p r
  | 0, p, r, q, h, hq => by
    have : r = [] := List.length_eq_zero_iff.1 h
    subst this
    rw [turnsF, List.Perm.eq_nil hq]; simp
  | n + 1, p, r, q, h, hq => by
    cases q with
    | nil => have := hq.length_eq; simp at this; omega
    | cons x q =>
      have hx : x ∈ r := hq.subset (by simp)
      obtain ⟨i, hi, e⟩ := List.getElem_of_mem hx
      rw [turnsF]
      refine List.mem_flatMap.2 ⟨i, List.mem_range.2 hi, ?_⟩
      have e2 : r = r.take i ++ (x :: r.drop (i + 1)) := by
        rw [← e, ← List.drop_eq_getElem_cons hi, List.take_append_drop]
      have h3 : q.Perm (r.take i ++ r.drop (i + 1)) := by
        have h4 : (x :: q).Perm (x :: (r.take i ++ r.drop (i + 1))) := (hq.trans (List.Perm.of_eq e2)).trans List.perm_middle
        exact (List.perm_cons x).1 h4
      have h5 := turnsF_all n (p ++ [x]) (r.take i ++ r.drop (i + 1)) q (by simp only [List.length_append, List.length_take, List.length_drop]; omega) h3
      rw [List.getElem?_eq_getElem hi, e]
      simpa using h5
/-- Of what is kept and what comes: the first of the least. -/
def keepF {α β : Type} (E : α → Option β) (m : β → Int) (b : Option (α × β)) (o : α) : Option (α × β) :=
  match E o with
  | none => b
  | some s => match b with
    | none => some (o, s)
    | some c => if m s < m c.2 then some (o, s) else some c
def bestF {α β : Type} (E : α → Option β) (m : β → Int) (os : List α) : Option (α × β) := os.foldl (keepF E m) none
structure KeptF {α β : Type} (E : α → Option β) (m : β → Int) (os : List α) (b : Option (α × β)) : Prop where
  no : b = none → ∀ o ∈ os, E o = none
  at_ : ∀ o s, b = some (o, s) → o ∈ os ∧ E o = some s
  least : ∀ o s, b = some (o, s) → ∀ o1 ∈ os, ∀ s1, E o1 = some s1 → m s ≤ m s1
theorem KeptF.next {α β : Type} {E : α → Option β} {m : β → Int} {os : List α} {b : Option (α × β)} (h : KeptF E m os b) (x : α) : KeptF E m (os ++ [x]) (keepF E m b x) := by
  unfold keepF
  cases e : E x with
  | none =>
    refine ⟨fun hb o ho => ?_, fun o s hb => ⟨List.mem_append.2 (.inl (h.at_ o s hb).1), (h.at_ o s hb).2⟩, fun o s hb o1 ho s1 e1 => ?_⟩
    · rcases List.mem_append.1 ho with ho | ho
      · exact h.no hb o ho
      · rw [List.mem_singleton.1 ho]; exact e
    · rcases List.mem_append.1 ho with ho | ho
      · exact h.least o s hb o1 ho s1 e1
      · rw [List.mem_singleton.1 ho, e] at e1; cases e1
  | some s0 =>
    cases b with
    | none =>
      refine ⟨fun hb => (nomatch hb), fun o s hb => ?_, fun o s hb o1 ho s1 e1 => ?_⟩
      · injection hb with hb; injection hb with h1 h2; subst h1 h2; exact ⟨by simp, e⟩
      · injection hb with hb; injection hb with h1 h2; subst h1 h2
        rcases List.mem_append.1 ho with ho | ho
        · rw [h.no rfl o1 ho] at e1; cases e1
        · rw [List.mem_singleton.1 ho, e] at e1; injection e1 with e1; subst e1; exact Int.le_refl _
    | some c =>
      have h0 := h.least c.1 c.2 rfl
      have ha := h.at_ c.1 c.2 rfl
      show KeptF E m (os ++ [x]) (if m s0 < m c.2 then some (x, s0) else some c)
      split
      · rename_i hlt
        refine ⟨fun hb => (nomatch hb), fun o s hb => ?_, fun o s hb o1 ho s1 e1 => ?_⟩
        · injection hb with hb; injection hb with h1 h2; subst h1 h2; exact ⟨by simp, e⟩
        · injection hb with hb; injection hb with h1 h2; subst h1 h2
          rcases List.mem_append.1 ho with ho | ho
          · have := h0 o1 ho s1 e1; omega
          · rw [List.mem_singleton.1 ho, e] at e1; injection e1 with e1; subst e1; exact Int.le_refl _
      · rename_i hlt
        refine ⟨fun hb => (nomatch hb), fun o s hb => ?_, fun o s hb o1 ho s1 e1 => ?_⟩
        · injection hb with hb; subst hb; exact ⟨List.mem_append.2 (.inl ha.1), ha.2⟩
        · injection hb with hb; subst hb
          rcases List.mem_append.1 ho with ho | ho
          · exact h0 o1 ho s1 e1
          · rw [List.mem_singleton.1 ho, e] at e1; injection e1 with e1; subst e1; simp at hlt; omega
theorem kept_nil {α β : Type} {E : α → Option β} {m : β → Int} : KeptF E m [] none :=
  ⟨fun _ o ho => by simp at ho, fun o s h => (nomatch h), fun o s h => (nomatch h)⟩
theorem kept_fold {α β : Type} {E : α → Option β} {m : β → Int} : ∀ (os ps : List α) (b : Option (α × β)), KeptF E m ps b → KeptF E m (ps ++ os) (os.foldl (keepF E m) b)
  | [], ps, b, h => by simpa using h
  | o :: os, ps, b, h => by
    have := kept_fold os (ps ++ [o]) (keepF E m b o) (h.next o)
    simpa using this
theorem bestF_spec {α β : Type} (E : α → Option β) (m : β → Int) (os : List α) : KeptF E m os (bestF E m os) := by
  have := kept_fold (E := E) (m := m) os [] none kept_nil
  rw [List.nil_append] at this
  exact this
end Go.Proofs.Ytdmkedbmoboamaa
