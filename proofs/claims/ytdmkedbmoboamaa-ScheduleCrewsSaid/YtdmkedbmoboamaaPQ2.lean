/- The plain law of a crew's times, as the statements need it. No program in sight. -/
import Derived.Test.YtdmkedbmoboamaaPQ
namespace Go.Proofs.Ytdmkedbmoboamaa
set_option linter.unusedVariables false
set_option linter.unusedSimpArgs false
set_option linter.unnecessarySimpa false
theorem LeT.len : ∀ {xs ys : List Int}, LeT xs ys → xs.length = ys.length
  | [], ys, h => by have e : ys = [] := h; rw [e]
  | x :: r, [], h => h.elim
  | x :: r, y :: s, h => by have := LeT.len (xs := r) (ys := s) h.2; simp [this]
theorem LeT.at : ∀ {xs ys : List Int}, LeT xs ys → ∀ (i : Nat) (x y : Int), xs[i]? = some x → ys[i]? = some y → x ≤ y
  | [], ys, h, i, x, y, hx, _ => by simp at hx
  | x :: r, [], h, _, _, _, _, _ => h.elim
  | x :: r, y :: s, h, 0, a, b, hx, hy => by simp at hx hy; subst hx hy; exact h.1
  | x :: r, y :: s, h, i + 1, a, b, hx, hy => LeT.at (xs := r) (ys := s) h.2 i a b (by simpa using hx) (by simpa using hy)
theorem cmpL_lt : ∀ {c b : List Int} {k : Nat} {x y : Int}, (∀ (j : Nat) (u v : Int), j < k → c[j]? = some u → b[j]? = some v → u ≤ v) → c[k]? = some x → b[k]? = some y → x < y → cmpL c b < 0
  | [], _, _, _, _, _, h, _, _ => by simp at h
  | _ :: _, [], _, _, _, _, _, h, _ => by simp at h
  | a :: r, d :: s, 0, x, y, _, hx, hy, h => by
    simp at hx hy; subst hx hy
    rw [cmpL, if_neg (fun q => by have := cmpI_zero.1 q; omega)]
    exact cmpI_neg.2 h
  | a :: r, d :: s, k + 1, x, y, hp, hx, hy, h => by
    have h0 := hp 0 a d (by omega) rfl rfl
    rw [cmpL]
    by_cases e : a = d
    · rw [if_pos (cmpI_zero.2 e)]
      exact cmpL_lt (c := r) (b := s) (k := k) (fun j u v hj hu hv => hp (j + 1) u v (by omega) (by simpa using hu) (by simpa using hv)) (by simpa using hx) (by simpa using hy) h
    · rw [if_neg (fun q => e (cmpI_zero.1 q))]
      exact cmpI_neg.2 (by omega)
theorem lastT_of {xs : List Int} (h : 0 < xs.length) : xs[xs.length - 1]? = some (lastT xs) := by
  have e := List.getElem?_eq_getElem (l := xs) (i := xs.length - 1) (by omega)
  have : lastT xs = xs[xs.length - 1] := lastT_at (k := (xs.length : Int) - 1) rfl (by rw [show ((xs.length : Int) - 1).toNat = xs.length - 1 from by omega]; exact e)
  rw [this]; exact e
section
variable {gs : List Lg} {most rest start : Int}
theorem best_fold : bestF gs most rest start = foldB (cands most rest gs 0 start 0) none := by
  unfold bestF
  rw [tryF_fold]
  simp
theorem crew_ok (h0 : crewF gs most rest start = 0) {b : List Int} (hb : bestF gs most rest start = some b) : (chkCrew gs most rest start b).2 = 0 := by
  have hK := CrewOk.of h0
  rw [best_fold] at hb
  obtain ⟨h1 | h1, _, _⟩ := foldB_spec.2 b hb
  · have h2 := cand_sound (most := most) (rest := rest) (by have := hK.rest; omega) h1
    exact (allT_chk h0).2 (by simpa using h2)
  · cases h1
theorem allT_len {ts : List Int} (h0 : crewF gs most rest start = 0) (h : (chkCrew gs most rest start ts).2 = 0) : ts.length = gs.length := ((allT_iff (i := 0) (by omega)).1 ((allT_chk h0).1 h)).1
theorem crew_le (hn : 0 < gs.length) {ts : List Int} (h : (chkCrew gs most rest start ts).2 = 0) : ∃ b, bestF gs most rest start = some b ∧ lastT b ≤ lastT ts ∧ (lastT ts = lastT b → ∀ (k : Nat) (x y : Int), (∀ j, j < k → ts[j]? = b[j]?) → ts[k]? = some x → b[k]? = some y → y ≤ x) := by
  have h0 : crewF gs most rest start = 0 := by
    by_cases e : crewF gs most rest start = 0
    · exact e
    · rw [chk_e e] at h; exact h
  have hK := CrewOk.of h0
  have hl := allT_len h0 h
  obtain ⟨c, hc, hle⟩ := cand_least (most := most) (rest := rest) (by have := hK.rest; omega) (n := 0) (at1 := start) (d1 := 0) (fun l hl => ⟨by have := (hK.leg l hl).1; omega, (hK.leg l hl).2.1⟩) (by simpa using (allT_chk h0).1 h) (Int.le_refl _) (Int.le_refl _) (Int.le_refl _)
  cases hb : bestF gs most rest start with
  | none =>
    rw [best_fold] at hb
    have := (foldB_spec.1.1 hb).1
    rw [this] at hc; cases hc
  | some b =>
    have hbl := allT_len h0 (crew_ok h0 hb)
    have hb' := hb
    rw [best_fold] at hb'
    have hmin := (foldB_spec.2 b hb').2.1 c hc
    rw [befL_iff] at hmin
    have hcl := hle.len
    have hlast : lastT c ≤ lastT ts := by
      refine hle.at (ts.length - 1) _ _ ?_ (lastT_of (by omega))
      rw [← hcl]; exact lastT_of (by omega)
    have hbc : lastT b ≤ lastT c := by
      by_cases e : lastT b ≤ lastT c
      · exact e
      · exact absurd (.inl (by omega)) hmin
    refine ⟨b, rfl, by omega, fun he k x y hp hx hy => ?_⟩
    by_cases hxy : y ≤ x
    · exact hxy
    · have hkl := (List.getElem?_eq_some_iff.1 hx).1
      obtain ⟨z, hz⟩ : ∃ z, c[k]? = some z := ⟨_, List.getElem?_eq_getElem (by omega)⟩
      have hzx := hle.at k z x hz hx
      refine absurd (.inr ⟨by omega, cmpL_lt (fun j u v hj hu hv => ?_) hz hy (by omega)⟩) hmin
      have e := hp j hj
      rw [hv] at e
      exact hle.at j u v hu e
theorem crew_bad (h : ¬ CrewE gs most rest start = 0) : CrewY gs most rest start = [] ∧ ∀ ts, ¬ (chkCrew gs most rest start ts).2 = 0 := by
  by_cases h0 : crewF gs most rest start = 0
  · by_cases hn : (gs.length : Int) = 0
    · exact absurd (crew_z h0 hn).1 h
    · cases hb : bestF gs most rest start with
      | none =>
        refine ⟨(crew_n h0 hn hb).2, fun ts hts => ?_⟩
        obtain ⟨b, h1, _⟩ := crew_le (by omega) hts
        rw [hb] at h1; cases h1
      | some b => exact absurd (crew_s h0 hn hb).1 h
  · exact ⟨(crew_e h0).2, fun ts hts => by rw [chk_e h0] at hts; exact h0 hts⟩
theorem crew_good (h : CrewE gs most rest start = 0) : crewF gs most rest start = 0 ∧ (chkCrew gs most rest start (CrewY gs most rest start)).2 = 0 ∧ (CrewY gs most rest start).length = gs.length ∧ (0 < gs.length → bestF gs most rest start = some (CrewY gs most rest start)) := by
  by_cases h0 : crewF gs most rest start = 0
  · by_cases hn : (gs.length : Int) = 0
    · have e : gs = [] := List.eq_nil_of_length_eq_zero (by omega)
      have hy := (crew_z h0 hn).2
      refine ⟨h0, ?_, by rw [hy, e]; rfl, fun h => by omega⟩
      rw [hy]
      refine (allT_chk h0).2 ?_
      rw [e]; rfl
    · cases hb : bestF gs most rest start with
      | none => have := (crew_n h0 hn hb).1; omega
      | some b =>
        have hy := (crew_s h0 hn hb).2
        have hc := crew_ok h0 hb
        rw [hy]
        exact ⟨h0, hc, allT_len h0 hc, fun _ => rfl⟩
  · exact absurd ((crew_e h0).1.symm.trans h) h0
theorem crew_relax {most' rest' start' : Int} (h0 : crewF gs most rest start = 0) (h1 : most ≤ most' ∧ most' ≤ 10080) (h2 : 1 ≤ rest' ∧ rest' ≤ rest) (h3 : 0 ≤ start' ∧ start' ≤ start) : crewF gs most' rest' start' = 0 := by
  have hK := CrewOk.of h0
  have g1 := hK.most
  have g2 := hK.rest
  have g3 := hK.start
  have g4 := hK.n
  unfold crewF
  rw [if_neg (by omega), if_neg, if_neg (by rw [between_iff.2 (by omega)]; simp), if_neg (by rw [between_iff.2 (by omega)]; simp), if_neg, if_neg (by rw [between_iff.2 (by omega)]; simp)]
  · intro h
    obtain ⟨l, hl, hb⟩ := List.any_eq_true.1 h
    have g := hK.leg l hl
    unfold legBad at hb
    rw [if_neg (by rw [between_iff.2 (by omega)]; simp), g.2.1] at hb
    cases hb
  · intro h
    obtain ⟨l, hl, hb⟩ := List.any_eq_true.1 h
    have g := hK.leg l hl
    simp only [manyL, decide_eq_true_eq] at hb
    omega
theorem crew_more {most' rest' start' : Int} (h : CrewE gs most rest start = 0) (hn : 0 < gs.length) (h1 : most ≤ most' ∧ most' ≤ 10080) (h2 : 1 ≤ rest' ∧ rest' ≤ rest) (h3 : 0 ≤ start' ∧ start' ≤ start) :
    CrewE gs most' rest' start' = 0 ∧ (CrewY gs most' rest' start').length = gs.length ∧ lastT (CrewY gs most' rest' start') ≤ lastT (CrewY gs most rest start) := by
  obtain ⟨g1, g2, g3, g4⟩ := crew_good h
  have hK := CrewOk.of g1
  have k0 := crew_relax g1 h1 h2 h3
  have ka := (allT_chk g1).1 g2
  have kb : AllT most' rest' gs (CrewY gs most rest start) start' 0 false := ka.mono h1.1 h2.2 h3.2 (fun h => by cases h) (Int.le_refl _) (Int.le_refl _) (fun l hl => by have := (hK.leg l hl).1; omega)
  obtain ⟨b, hb, hlast, _⟩ := crew_le hn ((allT_chk k0).2 kb)
  have e := crew_s k0 (by omega) hb
  refine ⟨e.1, ?_, by rw [e.2]; exact hlast⟩
  rw [e.2]; exact allT_len k0 (crew_ok k0 hb)
theorem crew_first (h : CrewE gs most rest start = 0) (hn : 0 < gs.length) {ts : List Int} (ht : (chkCrew gs most rest start ts).2 = 0) : ts.length = gs.length ∧ lastT (CrewY gs most rest start) ≤ lastT ts ∧ (lastT ts = lastT (CrewY gs most rest start) → ∀ (k : Nat) (x y : Int), (∀ j, j < k → ts[j]? = (CrewY gs most rest start)[j]?) → ts[k]? = some x → (CrewY gs most rest start)[k]? = some y → y ≤ x) := by
  obtain ⟨g1, g2, g3, g4⟩ := crew_good h
  obtain ⟨b, hb, h1, h2⟩ := crew_le hn ht
  rw [g4 hn] at hb
  injection hb with hb
  rw [hb]
  exact ⟨allT_len g1 ht, h1, h2⟩
end
/- Of the reference: all masks, the best of them. -/
def frK (rest at0 : Int) (i k : Nat) : Int := if (0 : Int) < (i : Int) then (if ((k / 2 ^ i % 2 : Nat) : Int) = 1 then at0 + rest else at0) else at0
/-- The times of a mask: leg i is begun after a rest where bit i stands. -/
def tK (rest : Int) (k : Nat) : List Lg → Nat → Int → Option (List Int)
  | [], _, _ => some []
  | l :: r, i, at0 => match firstF l.m (frK rest at0 i k) l.ws with
    | none => none
    | some z => (tK rest k r (i + 1) (z + l.m)).map (fun c => z :: c)
def candK (gs : List Lg) (most rest start : Int) (k : Nat) : Option (List Int) := match tK rest k gs 0 start with
  | none => none
  | some c => if (chkCrew gs most rest start c).2 = 0 then some c else none
def okK (gs : List Lg) (most rest start : Int) : Nat → List (List Int)
  | 0 => []
  | k + 1 => okK gs most rest start k ++ (match candK gs most rest start k with
    | none => []
    | some c => [c])
theorem okK_mem {gs : List Lg} {most rest start : Int} {c : List Int} : ∀ {n : Nat}, c ∈ okK gs most rest start n ↔ ∃ k, k < n ∧ candK gs most rest start k = some c
  | 0 => by simp [okK]
  | n + 1 => by
    rw [okK, List.mem_append, okK_mem (n := n)]
    constructor
    · rintro (⟨k, h1, h2⟩ | h)
      · exact ⟨k, by omega, h2⟩
      · cases hc : candK gs most rest start n with
        | none => rw [hc] at h; cases h
        | some d => rw [hc] at h; simp at h; subst h; exact ⟨n, by omega, hc⟩
    · rintro ⟨k, h1, h2⟩
      by_cases e : k = n
      · subst e; right; rw [h2]; simp
      · exact .inl ⟨k, by omega, h2⟩
theorem foldB_snoc (C : List (List Int)) (c : List Int) (o : Option (List Int)) : foldB (C ++ [c]) o = betterF c (foldB C o) := by simp [foldB, List.foldl_append]
theorem tK_of {most rest : Int} : ∀ {r : List Lg} {i : Nat} {at0 d : Int} {c : List Int}, c ∈ cands most rest r i at0 d → ∃ m : Nat, m < 2 ^ r.length ∧ ∀ k, k / 2 ^ i = m → tK rest k r i at0 = some c
  | [], i, at0, d, c, h => by
    simp [cands] at h; subst h
    exact ⟨0, by simp, fun k hk => rfl⟩
  | l :: r, i, at0, d, c, h => by
    have one : ∀ (b : Nat) (from_ : Int), b < 2 → (∀ k : Nat, k / 2 ^ i % 2 = b → frK rest at0 i k = from_) → c ∈ candO (fun a b c => cands most rest r a b c) most rest l i at0 d from_ → ∃ m : Nat, m < 2 ^ (l :: r).length ∧ ∀ k, k / 2 ^ i = m → tK rest k (l :: r) i at0 = some c := fun b from_ hb hfr h => by
      unfold candO at h
      cases hf : firstF l.m from_ l.ws with
      | none => rw [hf] at h; cases h
      | some z =>
        rw [hf] at h
        dsimp only at h
        split at h
        · obtain ⟨c', hc', rfl⟩ := List.mem_map.1 h
          obtain ⟨m, hm, ih⟩ := tK_of hc'
          refine ⟨b + 2 * m, by rw [List.length_cons, Nat.pow_succ]; omega, fun k hk => ?_⟩
          have e1 : k / 2 ^ i % 2 = b := by omega
          have e2 : k / 2 ^ (i + 1) = m := by rw [Nat.pow_succ, ← Nat.div_div_eq_div_mul]; omega
          rw [tK, hfr k e1, hf]
          dsimp only
          rw [ih k e2]; rfl
        · cases h
    rw [cands] at h
    rcases List.mem_append.1 h with h | h
    · exact one 0 at0 (by omega) (fun k hk => by unfold frK; rw [hk]; split <;> simp) h
    · split at h
      · rename_i hi
        exact one 1 (at0 + rest) (by omega) (fun k hk => by unfold frK; rw [hk, if_pos hi]; simp) h
      · cases h
theorem cmpL_eq : ∀ {a b : List Int}, a.length = b.length → ¬ cmpL a b < 0 → ¬ cmpL b a < 0 → a = b
  | [], [], _, _, _ => rfl
  | [], _ :: _, h, _, _ => by simp at h
  | _ :: _, [], h, _, _ => by simp at h
  | x :: r, y :: s, h, h1, h2 => by
    rw [cmpL] at h1 h2
    by_cases e : x = y
    · subst e
      rw [if_pos (cmpI_zero.2 rfl)] at h1 h2
      rw [cmpL_eq (by simpa using h) h1 h2]
    · rw [if_neg (fun q => e (cmpI_zero.1 q))] at h1
      rw [if_neg (fun q => e (cmpI_zero.1 q).symm)] at h2
      have g1 : ¬ x < y := fun q => h1 (cmpI_neg.2 q)
      have g2 : ¬ y < x := fun q => h2 (cmpI_neg.2 q)
      omega
theorem befL_eq {a b : List Int} (hl : a.length = b.length) (h1 : ¬ befL a b = true) (h2 : ¬ befL b a = true) : a = b := by
  rw [befL_iff] at h1 h2
  have e : lastT a = lastT b := by
    by_cases q : lastT a < lastT b
    · exact absurd (.inl q) h1
    · by_cases q2 : lastT b < lastT a
      · exact absurd (.inl q2) h2
      · omega
  exact cmpL_eq hl (fun q => h1 (.inr ⟨e, q⟩)) (fun q => h2 (.inr ⟨e.symm, q⟩))
/-- The best of all masks is the best that the search finds. -/
theorem best_masks {gs : List Lg} {most rest start : Int} (h0 : crewF gs most rest start = 0) (hn : 0 < gs.length) : foldB (okK gs most rest start (2 ^ gs.length)) none = bestF gs most rest start := by
  have hK := CrewOk.of h0
  cases hb : bestF gs most rest start with
  | none =>
    rw [foldB_spec.1]
    refine ⟨List.eq_nil_iff_forall_not_mem.2 fun c hc => ?_, rfl⟩
    obtain ⟨k, _, h2⟩ := okK_mem.1 hc
    unfold candK at h2
    split at h2
    · cases h2
    · split at h2
      · rename_i h3
        obtain ⟨b, h4, _⟩ := crew_le hn h3
        rw [hb] at h4; cases h4
      · cases h2
  | some b =>
    have hb' := hb
    rw [best_fold] at hb'
    obtain ⟨h1 | h1, hmin, _⟩ := foldB_spec.2 b hb'
    · obtain ⟨m, hm, ht⟩ := tK_of h1
      have hok := crew_ok h0 hb
      have hmem : b ∈ okK gs most rest start (2 ^ gs.length) := okK_mem.2 ⟨m, hm, by unfold candK; rw [ht m (by simp)]; dsimp only; rw [if_pos hok]⟩
      cases hf : foldB (okK gs most rest start (2 ^ gs.length)) none with
      | none => rw [(foldB_spec.1.1 hf).1] at hmem; cases hmem
      | some b' =>
        obtain ⟨g1 | g1, g2, _⟩ := foldB_spec.2 b' hf
        · obtain ⟨k, _, h5⟩ := okK_mem.1 g1
          have hok' : (chkCrew gs most rest start b').2 = 0 := by
            unfold candK at h5
            split at h5
            · cases h5
            · split at h5
              · rename_i h6; injection h5 with h5; subst h5; exact h6
              · cases h5
          obtain ⟨b2, q1, q2, q3⟩ := crew_le hn hok'
          rw [hb] at q1; injection q1 with q1; subst q1
          have l1 := allT_len h0 hok
          have l2 := allT_len h0 hok'
          refine congrArg some (befL_eq (by omega) (fun q => ?_) (g2 b hmem))
          rw [befL_iff] at q
          rcases q with q | ⟨q, q'⟩
          · omega
          · exact (no_lt (by omega) (fun k x y hp hx hy => q3 q k x y hp hx hy)) q'
        · cases g1
    · cases h1
where
  no_lt : ∀ {a b : List Int}, a.length = b.length → (∀ (k : Nat) (x y : Int), (∀ j, j < k → a[j]? = b[j]?) → a[k]? = some x → b[k]? = some y → y ≤ x) → ¬ cmpL a b < 0
    | [], [], _, _ => by simp [cmpL]
    | [], _ :: _, h, _ => by simp at h
    | _ :: _, [], h, _ => by simp at h
    | x :: r, y :: s, h, hp => by
      have h0 := hp 0 x y (fun j hj => by omega) rfl rfl
      rw [cmpL]
      by_cases e : x = y
      · subst e
        rw [if_pos (cmpI_zero.2 rfl)]
        exact no_lt (by simpa using h) (fun k u v hq hu hv => hp (k + 1) u v (fun j hj => by
          cases j with
          | zero => rfl
          | succ j => simpa using hq j (by omega)) (by simpa using hu) (by simpa using hv))
      · rw [if_neg (fun q => e (cmpI_zero.1 q))]
        exact fun q => by have := cmpI_neg.1 q; omega
end Go.Proofs.Ytdmkedbmoboamaa
