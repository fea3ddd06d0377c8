/- Walks of functions of the program: what each returns, told by plain functions; nothing that lay there is turned. -/
import Derived.Test.YtfekoippjmojgaaS26
namespace Go.Proofs.Ytfekoippjmojgaa
open Go.Kx Go.RowKit
set_option maxRecDepth 100000
set_option linter.unusedVariables false
set_option linter.unusedSimpArgs false
set_option linter.constructorNameAsVariable false
section
variable {xs : List Sup} {mass x y : Int}
theorem divB_spec {z : List Int × Int} (h : DivB xs mass x y = some z) : z.1 ∈ divsP xs ∧ EV xs mass x y z.1 = some z.2 := by
  unfold DivB at h
  split at h
  · split at h
    · split at h
      · exact (bestF_spec (EV xs mass x y) (fun z => z) (divsP xs)).at_ z.1 z.2 h
      · cases h
    · cases h
  · cases h
theorem DivY_le : (DivY xs mass x y).length ≤ xs.length := by
  unfold DivY
  cases h : DivB xs mass x y with
  | none => simp
  | some z => show z.1.length ≤ _; rw [divs_len (divB_spec h).1]; exact Nat.le_refl _
theorem deckErr_vals (xs : List Sup) : deckErr xs = 0 ∨ deckErr xs = 6 ∨ deckErr xs = 9 ∨ deckErr xs = 2 := by
  unfold deckErr
  split
  · simp
  · split
    · split <;> simp
    · simp
theorem EV_some {gs : List Int} {s : Int} (h : EV xs mass x y gs = some s) : (SharesF (grp xs gs) mass x y).2 = 0 ∧ loadD (SharesF (grp xs gs) mass x y).1 = s := by
  unfold EV at h
  split at h
  · rename_i h1; injection h with h; exact ⟨h1, h⟩
  · cases h
/-- The ways the search ends. -/
theorem div_ways : (DivE xs mass x y ≠ 0 ∧ DivE xs mass x y ≠ 15 ∧ DivY xs mass x y = []) ∨ (DivE xs mass x y = 15 ∧ DivY xs mass x y = [] ∧ deckErr xs = 0 ∧ ∀ gs ∈ divsP xs, EV xs mass x y gs = none) ∨
    (DivE xs mass x y = 0 ∧ deckErr xs = 0 ∧ DivY xs mass x y ∈ divsP xs ∧ EV xs mass x y (DivY xs mass x y) = some (DivL xs mass x y) ∧ ∀ gs ∈ divsP xs, ∀ s, EV xs mass x y gs = some s → DivL xs mass x y ≤ s) := by
  by_cases h : deckErr xs = 0
  · cases h1 : between mass 1 16777216 with
    | false => have v := div_mass (x := x) (y := y) h h1; exact .inl ⟨by rw [v.e]; decide, by rw [v.e]; decide, v.gs⟩
    | true =>
      cases h2 : validPt x y with
      | false => have v := div_pt h h1 h2; exact .inl ⟨by rw [v.e]; decide, by rw [v.e]; decide, v.gs⟩
      | true =>
        have hk := bestF_spec (EV xs mass x y) (fun z => z) (divsP xs)
        cases h3 : bestD xs mass x y with
        | none => have v := div_no h h1 h2 h3; exact .inr (.inl ⟨v.e, v.gs, h, hk.no h3⟩)
        | some z =>
          have v := div_got h h1 h2 (gs := z.1) (ld := z.2) h3
          refine .inr (.inr ⟨v.e, h, ?_, ?_, ?_⟩)
          · rw [v.gs]; exact (hk.at_ z.1 z.2 h3).1
          · rw [v.gs, v.ld]; exact (hk.at_ z.1 z.2 h3).2
          · intro gs hg s hs; rw [v.ld]; exact hk.least z.1 z.2 h3 gs hg s hs
  · have v := div_deck (mass := mass) (x := x) (y := y) h
    have hv := deckErr_vals xs
    exact .inl ⟨by rw [v.e]; exact h, by rw [v.e]; omega, v.gs⟩
theorem div_bad (h : ¬ DivE xs mass x y = 0) (h1 : ¬ DivE xs mass x y = 15) : DivY xs mass x y = [] := by
  rcases div_ways (xs := xs) (mass := mass) (x := x) (y := y) with h2 | h2 | h2
  · exact h2.2.2
  · exact absurd h2.1 h1
  · exact absurd h2.1 h
theorem div_zero (h : DivE xs mass x y = 0) : deckErr xs = 0 ∧ (DivY xs mass x y).length = xs.length ∧ (SharesF (grp xs (DivY xs mass x y)) mass x y).2 = 0 ∧ loadD (SharesF (grp xs (DivY xs mass x y)) mass x y).1 = DivL xs mass x y := by
  rcases div_ways (xs := xs) (mass := mass) (x := x) (y := y) with h2 | h2 | h2
  · exact absurd h h2.1
  · rw [h2.1] at h; cases h
  · exact ⟨h2.2.1, divs_len h2.2.2.1, EV_some h2.2.2.2.1⟩
theorem div_15 (h : DivE xs mass x y = 15) : deckErr xs = 0 := by
  rcases div_ways (xs := xs) (mass := mass) (x := x) (y := y) with h2 | h2 | h2
  · exact absurd h h2.2.1
  · exact h2.2.2.1
  · exact h2.2.1
theorem div_least {gs : List Int} (hg : gs ∈ divsP xs) (h1 : (SharesF (grp xs gs) mass x y).2 = 0) (h : DivE xs mass x y = 0 ∨ DivE xs mass x y = 15) : DivE xs mass x y = 0 ∧ DivL xs mass x y ≤ loadD (SharesF (grp xs gs) mass x y).1 := by
  have hE : EV xs mass x y gs = some (loadD (SharesF (grp xs gs) mass x y).1) := by unfold EV; rw [if_pos h1]
  rcases div_ways (xs := xs) (mass := mass) (x := x) (y := y) with h2 | h2 | h2
  · exact absurd (h.resolve_left h2.1) h2.2.1
  · rw [h2.2.2.2 gs hg] at hE; cases hE
  · exact ⟨h2.1, h2.2.2.2.2 gs hg _ hE⟩
end
end Go.Proofs.Ytfekoippjmojgaa
