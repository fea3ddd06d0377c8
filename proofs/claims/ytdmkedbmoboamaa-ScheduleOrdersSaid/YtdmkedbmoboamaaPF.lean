/- The plain law of the earliest plan: one, or none. No program in sight. -/
import Derived.Test.YtdmkedbmoboamaaPO
import Derived.Test.YtdmkedbmoboamaaPE3
import Derived.Test.YtdmkedbmoboamaaPC
namespace Go.Proofs.Ytdmkedbmoboamaa
set_option linter.unusedVariables false
set_option linter.unusedSimpArgs false
theorem pairF_mem {ts : List Tk} {g : Int} : ∀ {xs : List Int} {a : Af}, a ∈ pairF ts g xs → a.p ∈ xs ∧ a.q ∈ xs ∧ a.lag = getM ts a.p + g
  | [], a, h => by simp [pairF] at h
  | [x], a, h => by simp [pairF] at h
  | x :: y :: r, a, h => by
    rw [pairF] at h
    rcases List.mem_cons.1 h with rfl | h
    · exact ⟨by simp, by simp, rfl⟩
    · obtain ⟨h1, h2, h3⟩ := pairF_mem (xs := y :: r) h
      exact ⟨List.mem_cons_of_mem _ h1, List.mem_cons_of_mem _ h2, h3⟩
theorem linkR_mem {ts : List Tk} : ∀ {gs : List Int} {os : List Rw} {a : Af}, a ∈ linkR ts gs os → ∃ g ∈ gs, ∃ r ∈ os, a.p ∈ r.xs ∧ a.q ∈ r.xs ∧ a.lag = getM ts a.p + g
  | [], os, a, h => by simp [linkR] at h
  | g :: gs, [], a, h => by simp [linkR] at h
  | g :: gs, r :: os, a, h => by
    rw [linkR] at h
    rcases List.mem_append.1 h with h | h
    · obtain ⟨h1, h2, h3⟩ := pairF_mem h
      exact ⟨g, by simp, r, by simp, h1, h2, h3⟩
    · obtain ⟨g', hg, r', hr, h1⟩ := linkR_mem h
      exact ⟨g', by simp [hg], r', by simp [hr], h1⟩
theorem getM_bd {J : Jb} (hK : JobOk J) (x : Int) : 0 ≤ getM J.ts x ∧ getM J.ts x ≤ 10080 := by
  unfold getM
  split
  · rename_i t ht; exact (hK.tk t (List.mem_of_getElem? ht)).1
  · omega
theorem sound_of {J : Jb} {os : List Rw} (hK : JobOk J) (hV : OrdOk J os) : Sound J (linksF J os) := by
  refine ⟨fun a ha => ?_, fun t ht => ⟨(hK.tk t ht).1, (hK.tk t ht).2.1, (hK.tk t ht).2.2.2⟩⟩
  rcases List.mem_append.1 ha with h | h
  · have := hK.lk a h; omega
  · obtain ⟨g, hg, r, hr, h1, h2, h3⟩ := linkR_mem h
    have e1 := hV.mem r hr _ h1
    have e2 := hV.mem r hr _ h2
    have e3 := hK.tg g hg
    have e4 := getM_bd hK a.p
    omega
theorem Sound.lk' {J : Jb} {L : List Af} (h : Sound J L) : Lk J.ts.length L := h.lk
/-- The earliest plan, if there is one. -/
noncomputable def earlF (J : Jb) (L : List Af) : Option (List Int) := open Classical in if h : ∃ l, IsLeast J L l then some h.choose else none
theorem earlF_some {J : Jb} {L : List Af} {l : List Int} (h : IsLeast J L l) : earlF J L = some l := by
  unfold earlF
  rw [dif_pos ⟨l, h⟩]
  exact congrArg some ((Exists.choose_spec (⟨l, h⟩ : ∃ l, IsLeast J L l)).unique h)
theorem earlF_none {J : Jb} {L : List Af} (h : ¬ ∃ l, IsPlan J L l) : earlF J L = none := by
  unfold earlF
  rw [dif_neg (fun ⟨l, hl⟩ => h ⟨l, hl.plan⟩)]
theorem earlF_spec {J : Jb} {L : List Af} {l : List Int} (h : earlF J L = some l) : IsLeast J L l := by
  unfold earlF at h
  split at h
  · rename_i h1
    injection h with h
    exact h ▸ h1.choose_spec
  · cases h
noncomputable def EarlE (J : Jb) (os : List Rw) : Int := if chkO J os = 0 then (if (earlF J (linksF J os)).isSome = true then 0 else 15) else chkO J os
noncomputable def EarlY (J : Jb) (os : List Rw) : List Int := if chkO J os = 0 then (earlF J (linksF J os)).getD [] else []
theorem Earl_bad {J : Jb} {os : List Rw} (h : ¬ chkO J os = 0) : EarlE J os = chkO J os ∧ EarlY J os = [] := by unfold EarlE EarlY; rw [if_neg h, if_neg h]; exact ⟨rfl, rfl⟩
theorem Earl_none {J : Jb} {os : List Rw} (h : chkO J os = 0) (h1 : (earlF J (linksF J os)).isSome = false) : EarlE J os = 15 ∧ EarlY J os = [] := by
  unfold EarlE EarlY
  rw [if_pos h, if_pos h, h1]
  cases h2 : earlF J (linksF J os) with
  | none => exact ⟨rfl, rfl⟩
  | some l => rw [h2] at h1; cases h1
theorem Earl_some {J : Jb} {os : List Rw} (h : chkO J os = 0) (h1 : (earlF J (linksF J os)).isSome = true) : EarlE J os = 0 ∧ EarlY J os = (earlF J (linksF J os)).getD [] := by
  unfold EarlE EarlY
  rw [if_pos h, if_pos h, if_pos h1]; exact ⟨rfl, rfl⟩
/-! ### what fits -/
def FitE (ws : List Wn) (m k : Int) : Int := if (32 : Int) < (ws.length : Int) then 6 else if winF 0 ws = true then (if between m 0 10080 = true then (if between k 0 1099511627776 = true then (if (firstF m k ws).isSome = true then 0 else 15) else 3) else 3) else 2
def FitN (ws : List Wn) (m k : Int) : Int := if FitE ws m k = 0 then (firstF m k ws).getD 0 else 0
theorem FitN_0 {ws : List Wn} {m k e : Int} (h : FitE ws m k = e) (he : e ≠ 0) : FitN ws m k = 0 := by unfold FitN; rw [if_neg (by omega)]
theorem FitN_v {ws : List Wn} {m k : Int} (h : FitE ws m k = 0) : FitN ws m k = (firstF m k ws).getD 0 := by unfold FitN; rw [if_pos h]
end Go.Proofs.Ytdmkedbmoboamaa
