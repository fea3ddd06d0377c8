/- The plain law of a plan's check: no fault just where it is a plan. No program in sight. -/
import Derived.Test.YtdmkedbmoboamaaPF
namespace Go.Proofs.Ytdmkedbmoboamaa
set_option linter.unusedVariables false
set_option linter.unusedSimpArgs false
set_option linter.unnecessarySimpa false
def unfitF (J : Jb) (ss : List Int) : Int := idxF (fun p : Tk × Int => !fitsF p.1.m p.2 p.1.ws) (J.ts.zip ss)
def brokeF (ss : List Int) (a : Af) : Bool := decide (at_ ss a.q < at_ ss a.p + a.lag)
def brokenF (L : List Af) (ss : List Int) : Int := idxF (brokeF ss) L
def startBad (x : Int) : Bool := !between x 0 1099511627776
def stF (n : Nat) (ss : List Int) : Int := if (ss.length : Int) = (n : Int) then (if ss.any startBad = true then 3 else 0) else 17
def planF (J : Jb) (os : List Rw) (ss : List Int) : Int × Int := if chkO J os = 0 then (if stF J.ts.length ss = 0 then (if 0 ≤ unfitF J ss then (unfitF J ss, 21) else if 0 ≤ brokenF (linksF J os) ss then (brokenF (linksF J os) ss, 16) else (0, 0)) else (0, stF J.ts.length ss)) else (0, chkO J os)
theorem stF_ok {n : Nat} {ss : List Int} (h : stF n ss = 0) : ss.length = n ∧ ∀ x ∈ ss, 0 ≤ x ∧ x ≤ 1099511627776 := by
  unfold stF at h
  split at h
  · rename_i h1
    split at h
    · cases h
    · rename_i h2
      refine ⟨by omega, fun x hx => ?_⟩
      have := List.any_eq_false.1 (by simpa using h2) x hx
      simp [startBad] at this
      exact between_iff.1 this
  · cases h
theorem stF_of {n : Nat} {ss : List Int} (hl : ss.length = n) (h : ∀ x ∈ ss, 0 ≤ x ∧ x ≤ 1099511627776) : stF n ss = 0 := by
  unfold stF
  rw [if_pos (by omega), if_neg]
  intro h1
  obtain ⟨x, hx, h2⟩ := List.any_eq_true.1 h1
  have := between_iff.2 (h x hx)
  simp [startBad, this] at h2
theorem idxF_neg {α : Type} {p : α → Bool} {xs : List α} (h : ¬ 0 ≤ idxF p xs) : ∀ x ∈ xs, p x = false := by
  have h1 : xs.any p = false := by rw [← idxF_any]; simpa using h
  exact fun x hx => by simpa using List.any_eq_false.1 h1 x hx
theorem idxF_nope {α : Type} {p : α → Bool} {xs : List α} (h : ∀ x ∈ xs, p x = false) : ¬ 0 ≤ idxF p xs := by
  have h1 : xs.any p = false := List.any_eq_false.2 fun x hx => by simp [h x hx]
  rw [← idxF_any] at h1
  simpa using h1
theorem IsPlan.bd {J : Jb} {L : List Af} {l : List Int} (hK : JobOk J) (h : IsPlan J L l) : ∀ x ∈ l, 0 ≤ x ∧ x ≤ 1099511627776 := by
  intro x hx
  obtain ⟨k, hk⟩ := List.mem_iff_getElem?.1 hx
  have hlt := (List.getElem?_eq_some_iff.1 hk).1
  rw [h.len] at hlt
  obtain ⟨w, hw, h1, h2⟩ := fitsF_iff.1 (h.fit k _ x (List.getElem?_eq_getElem hlt) hk)
  have h3 := hK.tk _ (List.getElem_mem hlt)
  have := winF_mem h3.2.1 w hw
  omega
theorem planF_plan {J : Jb} {os : List Rw} {ss : List Int} (h : (planF J os ss).2 = 0) : chkO J os = 0 ∧ IsPlan J (linksF J os) ss := by
  unfold planF at h
  split at h
  · rename_i h0
    refine ⟨h0, ?_⟩
    split at h
    · rename_i h1
      split at h
      · cases h
      · rename_i h2
        split at h
        · cases h
        · rename_i h3
          refine ⟨(stF_ok h1).1, fun k t x ht hx => ?_, fun a ha => ?_⟩
          · have := idxF_neg h2 (t, x) (List.mem_of_getElem? (List.getElem?_zip_eq_some.2 ⟨ht, hx⟩))
            simpa using this
          · have := idxF_neg h3 a ha
            simp only [brokeF, decide_eq_false_iff_not] at this
            unfold sat; omega
    · rename_i h1; exact absurd h h1
  · rename_i h0; exact absurd h h0
theorem planF_of {J : Jb} {os : List Rw} {ss : List Int} (h0 : chkO J os = 0) (h : IsPlan J (linksF J os) ss) : (planF J os ss).2 = 0 := by
  obtain ⟨hK, hV, _⟩ := OrdOk.of h0
  unfold planF
  rw [if_pos h0, if_pos (stF_of h.len (h.bd hK)), if_neg, if_neg]
  · refine idxF_nope fun a ha => ?_
    have := h.link a ha
    unfold sat at this
    simp only [brokeF, decide_eq_false_iff_not]; omega
  · refine idxF_nope fun p hp => ?_
    obtain ⟨k, hk⟩ := List.mem_iff_getElem?.1 hp
    obtain ⟨h1, h2⟩ := List.getElem?_zip_eq_some.1 hk
    simp [h.fit k _ _ h1 h2]
theorem planF_e {J : Jb} {os : List Rw} {ss : List Int} (h : ¬ chkO J os = 0) : planF J os ss = (0, chkO J os) := by unfold planF; rw [if_neg h]
theorem planF_s {J : Jb} {os : List Rw} {ss : List Int} (h : chkO J os = 0) (h1 : ¬ stF J.ts.length ss = 0) : planF J os ss = (0, stF J.ts.length ss) := by unfold planF; rw [if_pos h, if_neg h1]
theorem planF_u {J : Jb} {os : List Rw} {ss : List Int} (h : chkO J os = 0) (h1 : stF J.ts.length ss = 0) (h2 : 0 ≤ unfitF J ss) : planF J os ss = (unfitF J ss, 21) := by unfold planF; rw [if_pos h, if_pos h1, if_pos h2]
theorem planF_b {J : Jb} {os : List Rw} {ss : List Int} (h : chkO J os = 0) (h1 : stF J.ts.length ss = 0) (h2 : ¬ 0 ≤ unfitF J ss) (h3 : 0 ≤ brokenF (linksF J os) ss) : planF J os ss = (brokenF (linksF J os) ss, 16) := by unfold planF; rw [if_pos h, if_pos h1, if_neg h2, if_pos h3]
theorem planF_0 {J : Jb} {os : List Rw} {ss : List Int} (h : chkO J os = 0) (h1 : stF J.ts.length ss = 0) (h2 : ¬ 0 ≤ unfitF J ss) (h3 : ¬ 0 ≤ brokenF (linksF J os) ss) : planF J os ss = (0, 0) := by unfold planF; rw [if_pos h, if_pos h1, if_neg h2, if_neg h3]
/-! ### the law of the earliest plan -/
theorem early_some {J : Jb} {os : List Rw} (h0 : chkO J os = 0) (h : EarlE J os = 0) : IsLeast J (linksF J os) (EarlY J os) := by
  cases h1 : earlF J (linksF J os) with
  | none => have := (Earl_none h0 (by rw [h1]; rfl)).1; omega
  | some l => rw [(Earl_some h0 (by rw [h1]; rfl)).2, h1]; exact earlF_spec h1
/-- Where there is a plan, there is a least one: in each place the least start of any. -/
theorem plan_min {J : Jb} {L : List Af} (hK : JobOk J) (k : Nat) (hk : k < J.ts.length) : ∀ (n : Nat) (l : List Int), IsPlan J L l → at_ l k ≤ n → ∃ l, IsPlan J L l ∧ ∀ l', IsPlan J L l' → at_ l k ≤ at_ l' k
  | n, l, hl, hn => by
    by_cases h : ∀ l', IsPlan J L l' → at_ l k ≤ at_ l' k
    · exact ⟨l, hl, h⟩
    · obtain ⟨l', h⟩ := Classical.not_forall.1 h
      obtain ⟨hl', h⟩ := Classical.not_imp.1 h
      have e : l'[k]? = some (l'[k]'(by rw [hl'.len]; exact hk)) := List.getElem?_eq_getElem _
      have e2 : at_ l' k = l'[k]'(by rw [hl'.len]; exact hk) := at_of (by simpa using e)
      have h0 := hl'.bd hK _ (List.mem_of_getElem? e)
      cases n with
      | zero => omega
      | succ n => exact plan_min hK k hk n l' hl' (by omega)
theorem least_of {J : Jb} {L : List Af} (hK : JobOk J) (hlk : ∀ a ∈ L, (0 ≤ a.p ∧ a.p < J.ts.length) ∧ (0 ≤ a.q ∧ a.q < J.ts.length)) (h : ∃ l, IsPlan J L l) : ∃ l, IsLeast J L l := by
  obtain ⟨l0, h0⟩ := h
  have key : ∀ k : Nat, ∃ l, k < J.ts.length → (IsPlan J L l ∧ ∀ l', IsPlan J L l' → at_ l k ≤ at_ l' k) := fun k => by
    by_cases hk : k < J.ts.length
    · obtain ⟨l, h1, h2⟩ := plan_min (L := L) hK k hk (at_ l0 k).toNat l0 h0 (by omega)
      exact ⟨l, fun _ => ⟨h1, h2⟩⟩
    · exact ⟨[], fun h => absurd h hk⟩
  let f : Nat → List Int := fun k => (key k).choose
  have hf : ∀ k, k < J.ts.length → (IsPlan J L (f k) ∧ ∀ l', IsPlan J L l' → at_ (f k) k ≤ at_ l' k) := fun k hk => (key k).choose_spec hk
  have hg : ∀ k : Nat, k < J.ts.length → ((List.range J.ts.length).map fun k => at_ (f k) k)[k]? = some (at_ (f k) k) := fun k hk => by
    rw [List.getElem?_map, List.getElem?_range hk]; rfl
  have ha : ∀ x : Int, 0 ≤ x → x < J.ts.length → at_ ((List.range J.ts.length).map fun k => at_ (f k) k) x = at_ (f x.toNat) x := fun x h1 h2 => by
    have := hg x.toNat (by omega)
    rw [at_of this, show ((x.toNat : Nat) : Int) = x from by omega]
  refine ⟨(List.range J.ts.length).map fun k => at_ (f k) k, ⟨by simp, fun k t x ht hx => ?_, fun a ha' => ?_⟩, fun l' hl' k x y hx hy => ?_⟩
  · have hk := (List.getElem?_eq_some_iff.1 ht).1
    rw [hg k hk] at hx
    injection hx with hx
    obtain ⟨h1, _⟩ := hf k hk
    have e : (f k)[k]? = some ((f k)[k]'(by rw [h1.len]; exact hk)) := List.getElem?_eq_getElem _
    have e2 : at_ (f k) k = (f k)[k]'(by rw [h1.len]; exact hk) := at_of (by simpa using e)
    rw [← hx, e2]
    exact h1.fit k t _ ht e
  · obtain ⟨⟨p1, p2⟩, q1, q2⟩ := hlk a ha'
    unfold sat
    rw [ha a.p p1 p2, ha a.q q1 q2]
    obtain ⟨h1, _⟩ := hf a.q.toNat (by omega)
    obtain ⟨_, h2⟩ := hf a.p.toNat (by omega)
    have h3 := h1.link a ha'
    have h4 := h2 _ h1
    unfold sat at h3
    rw [show ((a.p.toNat : Nat) : Int) = a.p from by omega] at h4
    omega
  · have hk : k < J.ts.length := by rw [← hl'.len]; exact (List.getElem?_eq_some_iff.1 hy).1
    rw [hg k hk] at hx
    injection hx with hx
    have := (hf k hk).2 l' hl'
    rw [at_of (show l'[((k : Int)).toNat]? = some y by simpa using hy)] at this
    omega
theorem early_none {J : Jb} {os : List Rw} (h0 : chkO J os = 0) (h : ¬ EarlE J os = 0) : EarlE J os = 15 ∧ EarlY J os = [] ∧ ¬ ∃ l, IsPlan J (linksF J os) l := by
  obtain ⟨hK, hV, _⟩ := OrdOk.of h0
  have hS := sound_of hK hV
  by_cases hx : ∃ l, IsPlan J (linksF J os) l
  · obtain ⟨l, hl⟩ := least_of hK (fun a ha => ⟨(hS.lk a ha).1, (hS.lk a ha).2.1⟩) hx
    have h1 : (earlF J (linksF J os)).isSome = true := by rw [earlF_some hl]; rfl
    exact absurd (Earl_some h0 h1).1 h
  · have h1 : (earlF J (linksF J os)).isSome = false := by rw [earlF_none hx]; rfl
    exact ⟨(Earl_none h0 h1).1, (Earl_none h0 h1).2, hx⟩
end Go.Proofs.Ytdmkedbmoboamaa
