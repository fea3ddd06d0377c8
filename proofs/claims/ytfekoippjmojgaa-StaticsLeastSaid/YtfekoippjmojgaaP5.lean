/- The plain law of the first of the least; supports with other groups. No program in sight. -/
import Derived.Test.YtfekoippjmojgaaS23
namespace Go.Proofs.Ytfekoippjmojgaa
set_option linter.unusedVariables false
set_option linter.unusedSimpArgs false
set_option linter.unnecessarySimpa false
/-- Of what is kept and what comes: the first of the least. -/
def keepF {α β : Type} (E : α → Option β) (m : β → Int) (b : Option (α × β)) (o : α) : Option (α × β) :=
  match E o with
  | none => b
  | some s => match b with
    | none => some (o, s)
    | some c => if m s < m c.2 then some (o, s) else some c
def bestF {α β : Type} (E : α → Option β) (m : β → Int) (os : List α) : Option (α × β) := os.foldl (keepF E m) none
structure KeptF {α β : Type} (E : α → Option β) (m : β → Int) (os : List α) (b : Option (α × β)) : Prop where
  no : b = none → ∀ o ∈ os, E o = none
  at_ : ∀ o s, b = some (o, s) → o ∈ os ∧ E o = some s
  least : ∀ o s, b = some (o, s) → ∀ o1 ∈ os, ∀ s1, E o1 = some s1 → m s ≤ m s1
theorem KeptF.next {α β : Type} {E : α → Option β} {m : β → Int} {os : List α} {b : Option (α × β)} (h : KeptF E m os b) (x : α) : KeptF E m (os ++ [x]) (keepF E m b x) := by
  unfold keepF
  cases e : E x with
  | none =>
    refine ⟨fun hb o ho => ?_, fun o s hb => ⟨List.mem_append.2 (.inl (h.at_ o s hb).1), (h.at_ o s hb).2⟩, fun o s hb o1 ho s1 e1 => ?_⟩
    · rcases List.mem_append.1 ho with ho | ho
      · exact h.no hb o ho
      · rw [List.mem_singleton.1 ho]; exact e
    · rcases List.mem_append.1 ho with ho | ho
      · exact h.least o s hb o1 ho s1 e1
      · rw [List.mem_singleton.1 ho, e] at e1; cases e1
  | some s0 =>
    cases b with
    | none =>
      refine ⟨fun hb => (nomatch hb), fun o s hb => ?_, fun o s hb o1 ho s1 e1 => ?_⟩
      · injection hb with hb; injection hb with h1 h2; subst h1 h2; exact ⟨by simp, e⟩
      · injection hb with hb; injection hb with h1 h2; subst h1 h2
        rcases List.mem_append.1 ho with ho | ho
        · rw [h.no rfl o1 ho] at e1; cases e1
        · rw [List.mem_singleton.1 ho, e] at e1; injection e1 with e1; subst e1; exact Int.le_refl _
    | some c =>
      have h0 := h.least c.1 c.2 rfl
      have ha := h.at_ c.1 c.2 rfl
      show KeptF E m (os ++ [x]) (if m s0 < m c.2 then some (x, s0) else some c)
      split
      · rename_i hlt
        refine ⟨fun hb => (nomatch hb), fun o s hb => ?_, fun o s hb o1 ho s1 e1 => ?_⟩
        · injection hb with hb; injection hb with h1 h2; subst h1 h2; exact ⟨by simp, e⟩
        · injection hb with hb; injection hb with h1 h2; subst h1 h2
          rcases List.mem_append.1 ho with ho | ho
          · have := h0 o1 ho s1 e1; omega
          · rw [List.mem_singleton.1 ho, e] at e1; injection e1 with e1; subst e1; exact Int.le_refl _
      · rename_i hlt
        refine ⟨fun hb => (nomatch hb), fun o s hb => ?_, fun o s hb o1 ho s1 e1 => ?_⟩
        · injection hb with hb; subst hb; exact ⟨List.mem_append.2 (.inl ha.1), ha.2⟩
        · injection hb with hb; subst hb
          rcases List.mem_append.1 ho with ho | ho
          · exact h0 o1 ho s1 e1
          · rw [List.mem_singleton.1 ho, e] at e1; injection e1 with e1; subst e1; simp at hlt; omega
theorem kept_nil {α β : Type} {E : α → Option β} {m : β → Int} : KeptF E m [] none :=
  ⟨fun _ o ho => by simp at ho, fun o s h => (nomatch h), fun o s h => (nomatch h)⟩
theorem kept_fold {α β : Type} {E : α → Option β} {m : β → Int} : ∀ (os ps : List α) (b : Option (α × β)), KeptF E m ps b → KeptF E m (ps ++ os) (os.foldl (keepF E m) b)
  | [], ps, b, h => by simpa using h
  | o :: os, ps, b, h => by
    have := kept_fold os (ps ++ [o]) (keepF E m b o) (h.next o)
    simpa using this
theorem bestF_spec {α β : Type} (E : α → Option β) (m : β → Int) (os : List α) : KeptF E m os (bestF E m os) := by
  have := kept_fold (E := E) (m := m) os [] none kept_nil
  rw [List.nil_append] at this
  exact this
theorem bestF_snoc {α β : Type} {E : α → Option β} {m : β → Int} {os : List α} {x : α} : bestF E m (os ++ [x]) = keepF E m (bestF E m os) x := by unfold bestF; rw [List.foldl_append]; rfl
/-! ### other groups -/
def putG (s : Sup) (g : Int) : Sup := { s with g := g }
def grp (xs : List Sup) (gs : List Int) : List Sup := List.zipWith putG xs gs
theorem grp_len {xs : List Sup} {gs : List Int} (h : gs.length = xs.length) : (grp xs gs).length = xs.length := by unfold grp; rw [List.length_zipWith]; omega
theorem grp_at {xs : List Sup} {gs : List Int} {i : Nat} {s : Sup} {g : Int} (h1 : xs[i]? = some s) (h2 : gs[i]? = some g) : (grp xs gs)[i]? = some (putG s g) := by
  unfold grp
  rw [List.getElem?_zipWith, h1, h2]
/-- The first i groups are set; but for the groups all is as it was. -/
structure QI (xs : List Sup) (gs : List Int) (i : Nat) (q : List Sup) : Prop where
  len : q.length = xs.length
  at_ : ∀ (j : Nat) (s u : Sup), xs[j]? = some s → q[j]? = some u → putG u s.g = s
  gs : ∀ (j : Nat) (u : Sup) (g : Int), j < i → q[j]? = some u → gs[j]? = some g → u.g = g
theorem putG_g (s : Sup) : putG s s.g = s := rfl
theorem putG_putG (s : Sup) (a b : Int) : putG (putG s a) b = putG s b := rfl
theorem QI.start {xs : List Sup} {gs : List Int} : QI xs gs 0 xs := ⟨rfl, fun j s u h1 h2 => by rw [h1] at h2; injection h2 with h2; subst h2; rfl, fun j u g h => by omega⟩
theorem QI.anew {xs : List Sup} {gs gs' : List Int} {i : Nat} {q : List Sup} (h : QI xs gs i q) : QI xs gs' 0 q := ⟨h.len, h.at_, fun j u g h => by omega⟩
theorem QI.set {xs : List Sup} {gs : List Int} {i : Nat} {q : List Sup} (h : QI xs gs i q) {u : Sup} {g : Int} (hu : q[i]? = some u) (hg : gs[i]? = some g) : QI xs gs (i + 1) (q.set i (putG u g)) := by
  have hi := (List.getElem?_eq_some_iff.1 hu).1
  refine ⟨by simp [h.len], fun j s v h1 h2 => ?_, fun j v g' h1 h2 h3 => ?_⟩
  · by_cases e : i = j
    · subst e
      rw [List.getElem?_set_self hi] at h2
      injection h2 with h2; subst h2
      rw [putG_putG]; exact h.at_ i s u h1 hu
    · rw [List.getElem?_set_ne e] at h2; exact h.at_ j s v h1 h2
  · by_cases e : i = j
    · subst e
      rw [List.getElem?_set_self hi] at h2
      injection h2 with h2; subst h2
      rw [hg] at h3; injection h3
    · rw [List.getElem?_set_ne e] at h2; exact h.gs j v g' (by omega) h2 h3
theorem QI.done {xs : List Sup} {gs : List Int} {i : Nat} {q : List Sup} (h : QI xs gs i q) (hl : gs.length = xs.length) (hi : xs.length ≤ i) : q = grp xs gs := by
  refine List.ext_getElem? fun j => ?_
  by_cases hj : j < xs.length
  · have e1 : xs[j]? = some xs[j] := List.getElem?_eq_getElem hj
    have e2 : q[j]? = some (q[j]'(by rw [h.len]; exact hj)) := List.getElem?_eq_getElem _
    have e3 : gs[j]? = some (gs[j]'(by omega)) := List.getElem?_eq_getElem _
    have h1 := h.at_ j _ _ e1 e2
    have h2 := h.gs j _ _ (by omega) e2 e3
    rw [grp_at e1 e3, e2]
    congr 1
    rw [← h2]
    generalize q[j]'(by rw [h.len]; exact hj) = u at *
    rw [← h1]; rfl
  · rw [List.getElem?_eq_none (by rw [h.len]; omega), List.getElem?_eq_none (by rw [grp_len hl]; omega)]
/-- The load of a division, if it is possible. -/
def loadD (s : Int × Int × Int) : Int := Max.max (Max.max s.1 s.2.1) s.2.2
noncomputable def EV (xs : List Sup) (mass x y : Int) (gs : List Int) : Option Int := if (SharesF (grp xs gs) mass x y).2 = 0 then some (loadD (SharesF (grp xs gs) mass x y).1) else none
noncomputable def bestD (xs : List Sup) (mass x y : Int) : Option (List Int × Int) := bestF (EV xs mass x y) (fun z => z) (divsP xs)
noncomputable def DivB (xs : List Sup) (mass x y : Int) : Option (List Int × Int) := if deckErr xs = 0 then (if between mass 1 16777216 = true then (if validPt x y = true then bestD xs mass x y else none) else none) else none
noncomputable def DivE (xs : List Sup) (mass x y : Int) : Int := if deckErr xs = 0 then (if between mass 1 16777216 = true then (if validPt x y = true then (if (bestD xs mass x y).isSome = true then 0 else 15) else 3) else 3) else deckErr xs
noncomputable def DivY (xs : List Sup) (mass x y : Int) : List Int := ((DivB xs mass x y).map (·.1)).getD []
noncomputable def DivL (xs : List Sup) (mass x y : Int) : Int := ((DivB xs mass x y).map (·.2)).getD 0
structure DivV (xs : List Sup) (mass x y e : Int) (gs : List Int) (ld : Int) : Prop where
  e : DivE xs mass x y = e
  gs : DivY xs mass x y = gs
  ld : DivL xs mass x y = ld
section
variable {xs : List Sup} {mass x y : Int}
theorem divV_of {e : Int} {b : Option (List Int × Int)} (h1 : DivE xs mass x y = e) (h2 : DivB xs mass x y = b) : DivV xs mass x y e ((b.map (·.1)).getD []) ((b.map (·.2)).getD 0) := ⟨h1, by unfold DivY; rw [h2], by unfold DivL; rw [h2]⟩
theorem div_deck (h : ¬ deckErr xs = 0) : DivV xs mass x y (deckErr xs) [] 0 := divV_of (b := none) (by unfold DivE; rw [if_neg h]) (by unfold DivB; rw [if_neg h])
theorem div_mass (h : deckErr xs = 0) (h1 : between mass 1 16777216 = false) : DivV xs mass x y 3 [] 0 := divV_of (b := none) (by unfold DivE; rw [if_pos h, if_neg (by simp [h1])]) (by unfold DivB; rw [if_pos h, if_neg (by simp [h1])])
theorem div_pt (h : deckErr xs = 0) (h1 : between mass 1 16777216 = true) (h2 : validPt x y = false) : DivV xs mass x y 3 [] 0 := divV_of (b := none) (by unfold DivE; rw [if_pos h, if_pos h1, if_neg (by simp [h2])]) (by unfold DivB; rw [if_pos h, if_pos h1, if_neg (by simp [h2])])
theorem div_no (h : deckErr xs = 0) (h1 : between mass 1 16777216 = true) (h2 : validPt x y = true) (h3 : bestD xs mass x y = none) : DivV xs mass x y 15 [] 0 := divV_of (b := none) (by unfold DivE; rw [if_pos h, if_pos h1, if_pos h2, h3]; rfl) (by unfold DivB; rw [if_pos h, if_pos h1, if_pos h2, h3])
theorem div_got (h : deckErr xs = 0) (h1 : between mass 1 16777216 = true) (h2 : validPt x y = true) {gs : List Int} {ld : Int} (h3 : bestD xs mass x y = some (gs, ld)) : DivV xs mass x y 0 gs ld := divV_of (b := some (gs, ld)) (by unfold DivE; rw [if_pos h, if_pos h1, if_pos h2, h3]; rfl) (by unfold DivB; rw [if_pos h, if_pos h1, if_pos h2, h3])
theorem divs_len {gs : List Int} (h : gs ∈ divsP xs) : gs.length = xs.length := by
  unfold divsP divsI at h
  obtain ⟨i, _, h⟩ := List.mem_flatMap.1 h
  rcases List.mem_cons.1 h with rfl | h
  · exact divF_len
  · rw [List.mem_singleton.1 h]; exact divF_len
/-- What holds between two divisions. -/
structure DvI (xs : List Sup) (mass x y : Int) (pre : List (List Int)) (q : List Sup) (ga : Option Addr) (gs : List Int) (ld : Int) : Prop where
  q : QI xs [] 0 q
  st : (bestF (EV xs mass x y) (fun z => z) pre = none ∧ ga = none ∧ gs = [] ∧ ld = 0) ∨ (bestF (EV xs mass x y) (fun z => z) pre = some (gs, ld) ∧ ga.isSome = true)
theorem DvI.start : DvI xs mass x y [] xs none [] 0 := ⟨QI.start, .inl ⟨rfl, rfl, rfl, rfl⟩⟩
theorem DvI.skip {pre : List (List Int)} {q q2 : List Sup} {ga : Option Addr} {gs g2 : List Int} {ld : Int} (h : DvI xs mass x y pre q ga gs ld) (hq : QI xs [] 0 q2) (hE : EV xs mass x y g2 = none) : DvI xs mass x y (pre ++ [g2]) q2 ga gs ld := by
  refine ⟨hq, ?_⟩
  rw [bestF_snoc]
  unfold keepF
  rw [hE]; exact h.st
theorem DvI.worse {pre : List (List Int)} {q q2 : List Sup} {ga : Option Addr} {gs g2 : List Int} {ld l2 : Int} (h : DvI xs mass x y pre q ga gs ld) (hq : QI xs [] 0 q2) (hE : EV xs mass x y g2 = some l2) (hg : ga.isNone = false) (hl : ¬ l2 < ld) : DvI xs mass x y (pre ++ [g2]) q2 ga gs ld := by
  refine ⟨hq, ?_⟩
  rw [bestF_snoc]
  unfold keepF
  rw [hE]
  rcases h.st with ⟨_, h2, _⟩ | ⟨h1, h2⟩
  · rw [h2] at hg; cases hg
  · right; rw [h1]
    refine ⟨?_, h2⟩
    show (if l2 < ld then some (g2, l2) else some (gs, ld)) = _
    rw [if_neg hl]
theorem DvI.better {pre : List (List Int)} {q q2 : List Sup} {ga g2a : Option Addr} {gs g2 : List Int} {ld l2 : Int} (h : DvI xs mass x y pre q ga gs ld) (hq : QI xs [] 0 q2) (hE : EV xs mass x y g2 = some l2) (hl : ga.isNone = true ∨ l2 < ld) (h2a : g2a.isSome = true) : DvI xs mass x y (pre ++ [g2]) q2 g2a g2 l2 := by
  refine ⟨hq, .inr ⟨?_, h2a⟩⟩
  rw [bestF_snoc]
  unfold keepF
  rw [hE]
  rcases h.st with ⟨h1, _⟩ | ⟨h1, h2⟩
  · rw [h1]
  · rw [h1]
    show (if l2 < ld then some (g2, l2) else some (gs, ld)) = _
    rw [if_pos (hl.resolve_left fun h3 => by cases ga <;> simp at h2 h3)]
theorem DvI.done {pre : List (List Int)} {q : List Sup} {ga : Option Addr} {gs : List Int} {ld : Int} (h : DvI xs mass x y pre q ga gs ld) (hp : pre = divsP xs) : (ga.isNone = true → bestD xs mass x y = none ∧ gs = [] ∧ ld = 0) ∧ (ga.isNone = false → bestD xs mass x y = some (gs, ld)) := by
  unfold bestD
  rw [← hp]
  rcases h.st with ⟨h1, h2, h3, h4⟩ | ⟨h1, h2⟩
  · exact ⟨fun _ => ⟨h1, h3, h4⟩, fun h => by rw [h2] at h; cases h⟩
  · exact ⟨fun h => by cases ga <;> simp at h h2, fun _ => h1⟩
theorem EV_no {gs : List Int} {q : List Sup} (hq : q = grp xs gs) (h : ¬ deckErr q = 0) : EV xs mass x y gs = none := by
  unfold EV SharesF
  rw [← hq, if_neg h, if_neg h]
theorem EV_bad {gs : List Int} {q : List Sup} (hq : q = grp xs gs) (h : deckErr q = 0) (h1 : ¬ (sharesF q (sumsW q) mass x y).2 = 0) : EV xs mass x y gs = none := by
  unfold EV SharesF
  rw [← hq, if_pos h, if_neg h1]
theorem EV_ok {gs : List Int} {q : List Sup} (hq : q = grp xs gs) (h : deckErr q = 0) (h1 : (sharesF q (sumsW q) mass x y).2 = 0) : EV xs mass x y gs = some (loadD (sharesF q (sumsW q) mass x y).1) := by
  unfold EV SharesF
  rw [← hq, if_pos h, if_pos h1]
end
theorem ybd_of {xs : List Sup} (h : deckErr xs = 0) : YBd xs ∧ 3 ≤ xs.length := by
  unfold deckErr at h
  split at h
  · cases h
  · rename_i h1
    split at h
    · rename_i h2
      refine ⟨⟨fun s hs => ?_, by omega⟩, by omega⟩
      have := List.all_eq_true.1 h2 s hs
      simp only [validSup, Bool.and_eq_true, between_iff] at this
      exact this.1.1.1.1.1.1.2
    · cases h
end Go.Proofs.Ytfekoippjmojgaa
