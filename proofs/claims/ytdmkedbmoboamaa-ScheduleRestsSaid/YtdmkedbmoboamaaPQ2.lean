/- The plain law of a crew's times, as the statements need it. No program in sight. -/
import Derived.Test.YtdmkedbmoboamaaPQ
namespace Go.Proofs.Ytdmkedbmoboamaa
set_option linter.unusedVariables false
set_option linter.unusedSimpArgs false
set_option linter.unnecessarySimpa false
theorem LeT.len : ∀ {xs ys : List Int}, LeT xs ys → xs.length = ys.length
  | [], ys, h => by have e : ys = [] := h; rw [e]
  | x :: r, [], h => h.elim
  | x :: r, y :: s, h => by have := LeT.len (xs := r) (ys := s) h.2; simp [this]
theorem LeT.at : ∀ {xs ys : List Int}, LeT xs ys → ∀ (i : Nat) (x y : Int), xs[i]? = some x → ys[i]? = some y → x ≤ y
  | [], ys, h, i, x, y, hx, _ => by simp at hx
  | x :: r, [], h, _, _, _, _, _ => h.elim
  | x :: r, y :: s, h, 0, a, b, hx, hy => by simp at hx hy; subst hx hy; exact h.1
  | x :: r, y :: s, h, i + 1, a, b, hx, hy => LeT.at (xs := r) (ys := s) h.2 i a b (by simpa using hx) (by simpa using hy)
theorem cmpL_lt : ∀ {c b : List Int} {k : Nat} {x y : Int}, (∀ (j : Nat) (u v : Int), j < k → c[j]? = some u → b[j]? = some v → u ≤ v) → c[k]? = some x → b[k]? = some y → x < y → cmpL c b < 0
  | [], _, _, _, _, _, h, _, _ => by simp at h
  | _ :: _, [], _, _, _, _, _, h, _ => by simp at h
  | a :: r, d :: s, 0, x, y, _, hx, hy, h => by
    simp at hx hy; subst hx hy
    rw [cmpL, if_neg (fun q => by have := cmpI_zero.1 q; omega)]
    exact cmpI_neg.2 h
  | a :: r, d :: s, k + 1, x, y, hp, hx, hy, h => by
    have h0 := hp 0 a d (by omega) rfl rfl
    rw [cmpL]
    by_cases e : a = d
    · rw [if_pos (cmpI_zero.2 e)]
      exact cmpL_lt (c := r) (b := s) (k := k) (fun j u v hj hu hv => hp (j + 1) u v (by omega) (by simpa using hu) (by simpa using hv)) (by simpa using hx) (by simpa using hy) h
    · rw [if_neg (fun q => e (cmpI_zero.1 q))]
      exact cmpI_neg.2 (by omega)
theorem lastT_of {xs : List Int} (h : 0 < xs.length) : xs[xs.length - 1]? = some (lastT xs) := by
  have e := List.getElem?_eq_getElem (l := xs) (i := xs.length - 1) (by omega)
  have : lastT xs = xs[xs.length - 1] := lastT_at (k := (xs.length : Int) - 1) rfl (by rw [show ((xs.length : Int) - 1).toNat = xs.length - 1 from by omega]; exact e)
  rw [this]; exact e
section
variable {gs : List Lg} {most rest start : Int}
theorem best_fold : bestF gs most rest start = foldB (cands most rest gs 0 start 0) none := by
  unfold bestF
  rw [tryF_fold]
  simp
theorem crew_ok (h0 : crewF gs most rest start = 0) {b : List Int} (hb : bestF gs most rest start = some b) : (chkCrew gs most rest start b).2 = 0 := by
  have hK := CrewOk.of h0
  rw [best_fold] at hb
  obtain ⟨h1 | h1, _, _⟩ := foldB_spec.2 b hb
  · have h2 := cand_sound (most := most) (rest := rest) (by have := hK.rest; omega) h1
    exact (allT_chk h0).2 (by simpa using h2)
  · cases h1
theorem allT_len {ts : List Int} (h0 : crewF gs most rest start = 0) (h : (chkCrew gs most rest start ts).2 = 0) : ts.length = gs.length := ((allT_iff (i := 0) (by omega)).1 ((allT_chk h0).1 h)).1
theorem crew_le (hn : 0 < gs.length) {ts : List Int} (h : (chkCrew gs most rest start ts).2 = 0) : ∃ b, bestF gs most rest start = some b ∧ lastT b ≤ lastT ts ∧ (lastT ts = lastT b → ∀ (k : Nat) (x y : Int), (∀ j, j < k → ts[j]? = b[j]?) → ts[k]? = some x → b[k]? = some y → y ≤ x) := by
  have h0 : crewF gs most rest start = 0 := by
    by_cases e : crewF gs most rest start = 0
    · exact e
    · rw [chk_e e] at h; exact h
  have hK := CrewOk.of h0
  have hl := allT_len h0 h
  obtain ⟨c, hc, hle⟩ := cand_least (most := most) (rest := rest) (by have := hK.rest; omega) (n := 0) (at1 := start) (d1 := 0) (fun l hl => ⟨by have := (hK.leg l hl).1; omega, (hK.leg l hl).2.1⟩) (by simpa using (allT_chk h0).1 h) (Int.le_refl _) (Int.le_refl _) (Int.le_refl _)
  cases hb : bestF gs most rest start with
  | none =>
    rw [best_fold] at hb
    have := (foldB_spec.1.1 hb).1
    rw [this] at hc; cases hc
  | some b =>
    have hbl := allT_len h0 (crew_ok h0 hb)
    have hb' := hb
    rw [best_fold] at hb'
    have hmin := (foldB_spec.2 b hb').2.1 c hc
    rw [befL_iff] at hmin
    have hcl := hle.len
    have hlast : lastT c ≤ lastT ts := by
      refine hle.at (ts.length - 1) _ _ ?_ (lastT_of (by omega))
      rw [← hcl]; exact lastT_of (by omega)
    have hbc : lastT b ≤ lastT c := by
      by_cases e : lastT b ≤ lastT c
      · exact e
      · exact absurd (.inl (by omega)) hmin
    refine ⟨b, rfl, by omega, fun he k x y hp hx hy => ?_⟩
    by_cases hxy : y ≤ x
    · exact hxy
    · have hkl := (List.getElem?_eq_some_iff.1 hx).1
      obtain ⟨z, hz⟩ : ∃ z, c[k]? = some z := ⟨_, List.getElem?_eq_getElem (by omega)⟩
      have hzx := hle.at k z x hz hx
      refine absurd (.inr ⟨by omega, cmpL_lt (fun j u v hj hu hv => ?_) hz hy (by omega)⟩) hmin
      have e := hp j hj
      rw [hv] at e
      exact hle.at j u v hu e
theorem crew_bad (h : ¬ CrewE gs most rest start = 0) : CrewY gs most rest start = [] ∧ ∀ ts, ¬ (chkCrew gs most rest start ts).2 = 0 := by
  by_cases h0 : crewF gs most rest start = 0
  · by_cases hn : (gs.length : Int) = 0
    · exact absurd (crew_z h0 hn).1 h
    · cases hb : bestF gs most rest start with
      | none =>
        refine ⟨(crew_n h0 hn hb).2, fun ts hts => ?_⟩
        obtain ⟨b, h1, _⟩ := crew_le (by omega) hts
        rw [hb] at h1; cases h1
      | some b => exact absurd (crew_s h0 hn hb).1 h
  · exact ⟨(crew_e h0).2, fun ts hts => by rw [chk_e h0] at hts; exact h0 hts⟩
theorem crew_good (h : CrewE gs most rest start = 0) : crewF gs most rest start = 0 ∧ (chkCrew gs most rest start (CrewY gs most rest start)).2 = 0 ∧ (CrewY gs most rest start).length = gs.length ∧ (0 < gs.length → bestF gs most rest start = some (CrewY gs most rest start)) := by
  by_cases h0 : crewF gs most rest start = 0
  · by_cases hn : (gs.length : Int) = 0
    · have e : gs = [] := List.eq_nil_of_length_eq_zero (by omega)
      have hy := (crew_z h0 hn).2
      refine ⟨h0, ?_, by rw [hy, e]; rfl, fun h => by omega⟩
      rw [hy]
      refine (allT_chk h0).2 ?_
      rw [e]; rfl
    · cases hb : bestF gs most rest start with
      | none => have := (crew_n h0 hn hb).1; omega
      | some b =>
        have hy := (crew_s h0 hn hb).2
        have hc := crew_ok h0 hb
        rw [hy]
        exact ⟨h0, hc, allT_len h0 hc, fun _ => rfl⟩
  · exact absurd ((crew_e h0).1.symm.trans h) h0
theorem crew_relax {most' rest' start' : Int} (h0 : crewF gs most rest start = 0) (h1 : most ≤ most' ∧ most' ≤ 10080) (h2 : 1 ≤ rest' ∧ rest' ≤ rest) (h3 : 0 ≤ start' ∧ start' ≤ start) : crewF gs most' rest' start' = 0 := by
  have hK := CrewOk.of h0
  have g1 := hK.most
  have g2 := hK.rest
  have g3 := hK.start
  have g4 := hK.n
  unfold crewF
  rw [if_neg (by omega), if_neg, if_neg (by rw [between_iff.2 (by omega)]; simp), if_neg (by rw [between_iff.2 (by omega)]; simp), if_neg, if_neg (by rw [between_iff.2 (by omega)]; simp)]
  · intro h
    obtain ⟨l, hl, hb⟩ := List.any_eq_true.1 h
    have g := hK.leg l hl
    unfold legBad at hb
    rw [if_neg (by rw [between_iff.2 (by omega)]; simp), g.2.1] at hb
    cases hb
  · intro h
    obtain ⟨l, hl, hb⟩ := List.any_eq_true.1 h
    have g := hK.leg l hl
    simp only [manyL, decide_eq_true_eq] at hb
    omega
theorem crew_more {most' rest' start' : Int} (h : CrewE gs most rest start = 0) (hn : 0 < gs.length) (h1 : most ≤ most' ∧ most' ≤ 10080) (h2 : 1 ≤ rest' ∧ rest' ≤ rest) (h3 : 0 ≤ start' ∧ start' ≤ start) :
    CrewE gs most' rest' start' = 0 ∧ (CrewY gs most' rest' start').length = gs.length ∧ lastT (CrewY gs most' rest' start') ≤ lastT (CrewY gs most rest start) := by
  obtain ⟨g1, g2, g3, g4⟩ := crew_good h
  have hK := CrewOk.of g1
  have k0 := crew_relax g1 h1 h2 h3
  have ka := (allT_chk g1).1 g2
  have kb : AllT most' rest' gs (CrewY gs most rest start) start' 0 false := ka.mono h1.1 h2.2 h3.2 (fun h => by cases h) (Int.le_refl _) (Int.le_refl _) (fun l hl => by have := (hK.leg l hl).1; omega)
  obtain ⟨b, hb, hlast, _⟩ := crew_le hn ((allT_chk k0).2 kb)
  have e := crew_s k0 (by omega) hb
  refine ⟨e.1, ?_, by rw [e.2]; exact hlast⟩
  rw [e.2]; exact allT_len k0 (crew_ok k0 hb)
theorem crew_first (h : CrewE gs most rest start = 0) (hn : 0 < gs.length) {ts : List Int} (ht : (chkCrew gs most rest start ts).2 = 0) : ts.length = gs.length ∧ lastT (CrewY gs most rest start) ≤ lastT ts ∧ (lastT ts = lastT (CrewY gs most rest start) → ∀ (k : Nat) (x y : Int), (∀ j, j < k → ts[j]? = (CrewY gs most rest start)[j]?) → ts[k]? = some x → (CrewY gs most rest start)[k]? = some y → y ≤ x) := by
  obtain ⟨g1, g2, g3, g4⟩ := crew_good h
  obtain ⟨b, hb, h1, h2⟩ := crew_le hn ht
  rw [g4 hn] at hb
  injection hb with hb
  rw [hb]
  exact ⟨allT_len g1 ht, h1, h2⟩
end
end Go.Proofs.Ytdmkedbmoboamaa
