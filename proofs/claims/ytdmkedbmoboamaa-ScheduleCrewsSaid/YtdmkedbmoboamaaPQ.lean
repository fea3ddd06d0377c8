/- The plain law of a crew's times: what is found is allowed, and nothing that is allowed comes before. No program in sight. -/
import Derived.Test.YtdmkedbmoboamaaB5
namespace Go.Proofs.Ytdmkedbmoboamaa
set_option linter.unusedVariables false
set_option linter.unusedSimpArgs false
set_option linter.unnecessarySimpa false
/-- Times that are allowed, from a time and a driving time on. -/
def AllT (most rest : Int) : List Lg → List Int → Int → Int → Bool → Prop
  | [], ts, _, _, _ => ts = []
  | l :: r, ts, at0, d, k => match ts with
    | [] => False
    | x :: ts => at0 ≤ x ∧ fitsF l.m x l.ws = true ∧ drvNow rest d (if k = true then some at0 else none) x + l.m ≤ most ∧ AllT most rest r ts (x + l.m) (drvNow rest d (if k = true then some at0 else none) x + l.m) true
theorem allT_iff {most rest : Int} : ∀ {r : List Lg} {ts : List Int} {at0 d i : Int} {k : Bool}, 0 ≤ i → (AllT most rest r ts at0 d k ↔ ts.length = r.length ∧ badAt at0 i (r.zip ts) = -1 ∧ drvAt most rest d (if k = true then some at0 else none) i (r.zip ts) = -1)
  | [], ts, at0, d, i, k, hi => by simp [AllT, badAt, drvAt]
  | l :: r, [], at0, d, i, k, hi => by simp [AllT]
  | l :: r, x :: ts, at0, d, i, k, hi => by
    have ih := allT_iff (most := most) (rest := rest) (r := r) (ts := ts) (at0 := x + l.m) (d := drvNow rest d (if k = true then some at0 else none) x + l.m) (i := i + 1) (k := true) (by omega)
    simp only [AllT, List.zip_cons_cons, badAt, drvAt, List.length_cons]
    rw [ih]
    simp only [if_true]
    generalize (if k = true then some at0 else none) = pv
    constructor
    · rintro ⟨h1, h2, h3, h4, h5, h6⟩
      refine ⟨by omega, ?_, ?_⟩
      · rw [if_neg (by omega), if_neg (by rw [h2]; simp)]; exact h5
      · rw [if_neg (by omega)]; exact h6
    · rintro ⟨h1, h2, h3⟩
      split at h2
      · omega
      · split at h2
        · omega
        · rename_i h4 h5
          split at h3
          · omega
          · rename_i h6
            exact ⟨by omega, by simpa using h5, by omega, by omega, h2, h3⟩
theorem allT_chk {gs : List Lg} {most rest start : Int} {ts : List Int} (h : crewF gs most rest start = 0) : (chkCrew gs most rest start ts).2 = 0 ↔ AllT most rest gs ts start 0 false := by
  rw [allT_iff (i := 0) (by omega)]
  simp only [Bool.false_eq_true, if_false]
  by_cases h1 : (ts.length : Int) = (gs.length : Int)
  · unfold chkCrew
    rw [if_pos h, if_pos h1]
    have hb : ∀ {Z : List (Lg × Int)} {a i : Int}, 0 ≤ i → badAt a i Z = -1 ∨ 0 ≤ badAt a i Z := by
      intro Z
      induction Z with
      | nil => intro a i _; left; rfl
      | cons p r ih =>
        intro a i hi
        rw [badAt]
        split
        · right; exact hi
        · split
          · right; exact hi
          · exact ih (by omega)
    have hd : ∀ {Z : List (Lg × Int)} {d i : Int} {p : Option Int}, 0 ≤ i → drvAt most rest d p i Z = -1 ∨ 0 ≤ drvAt most rest d p i Z := by
      intro Z
      induction Z with
      | nil => intro d i p _; left; rfl
      | cons p r ih =>
        intro d i p hi
        rw [drvAt]
        split
        · right; exact hi
        · exact ih (by omega)
    rcases hb (Z := gs.zip ts) (a := start) (i := 0) (by omega) with e | e
    · rw [if_neg (by omega)]
      rcases hd (Z := gs.zip ts) (d := 0) (i := 0) (p := none) (by omega) with e2 | e2
      · rw [if_neg (by omega)]; exact ⟨fun _ => ⟨by omega, e, e2⟩, fun _ => rfl⟩
      · rw [if_pos e2]; exact ⟨fun h => (by cases h), fun h => (by omega)⟩
    · rw [if_pos e]; exact ⟨fun h => (by cases h), fun h => (by omega)⟩
  · rw [chk_17 h h1]; exact ⟨fun h => (by cases h), fun h => (by omega)⟩
theorem AllT.mono {most rest most' rest' : Int} (hm : most ≤ most') (hr : rest' ≤ rest) : ∀ {r : List Lg} {ts : List Int} {at0 d at1 d1 : Int} {k : Bool}, AllT most rest r ts at0 d k → at1 ≤ at0 → (k = true → at1 = at0) → 0 ≤ d1 → d1 ≤ d → (∀ l ∈ r, 0 ≤ l.m) → AllT most' rest' r ts at1 d1 k
  | [], ts, _, _, _, _, _, h, _, _, _, _, _ => h
  | l :: r, [], _, _, _, _, _, h, _, _, _, _, _ => h
  | l :: r, x :: ts, at0, d, at1, d1, k, h, h1, h2, h3, h4, hl => by
    obtain ⟨g1, g2, g3, g4⟩ := h
    have hl0 := hl l (by simp)
    have key : drvNow rest' d1 (if k = true then some at1 else none) x ≤ drvNow rest d (if k = true then some at0 else none) x ∧ 0 ≤ drvNow rest' d1 (if k = true then some at1 else none) x := by
      cases k with
      | false => simp only [Bool.false_eq_true, if_false, drvNow]; omega
      | true =>
        have := h2 rfl
        subst this
        simp only [if_true, drvNow]
        split <;> split <;> omega
    exact ⟨by omega, g2, by omega, AllT.mono hm hr g4 (Int.le_refl _) (fun _ => rfl) (by omega) (by omega) (fun a ha => hl a (by simp [ha]))⟩
/-! ### candidates -/
def candO (rec : Nat → Int → Int → List (List Int)) (most rest : Int) (l : Lg) (n : Nat) (at0 d from_ : Int) : List (List Int) := match firstF l.m from_ l.ws with
  | none => []
  | some z => if drvC rest d at0 z n + l.m ≤ most then (rec (n + 1) (z + l.m) (drvC rest d at0 z n + l.m)).map (fun c => z :: c) else []
def cands (most rest : Int) : List Lg → Nat → Int → Int → List (List Int)
  | [], _, _, _ => [[]]
  | l :: r, n, at0, d => candO (fun a b c => cands most rest r a b c) most rest l n at0 d at0 ++ (if (0 : Int) < (n : Int) then candO (fun a b c => cands most rest r a b c) most rest l n at0 d (at0 + rest) else [])
def foldB (C : List (List Int)) (best : Option (List Int)) : Option (List Int) := C.foldl (fun b t => betterF t b) best
theorem tryF_fold {most rest : Int} : ∀ {r : List Lg} {ts : List Int} {at0 d : Int} {best : Option (List Int)}, tryF most rest r ts at0 d best = foldB ((cands most rest r ts.length at0 d).map (fun c => ts ++ c)) best
  | [], ts, at0, d, best => by simp [tryF, cands, foldB]
  | l :: r, ts, at0, d, best => by
    have one : ∀ (from_ : Int) (best : Option (List Int)), oneF (fun a b c e => tryF most rest r a b c e) most rest l ts at0 d from_ best = foldB ((candO (fun a b c => cands most rest r a b c) most rest l ts.length at0 d from_).map (fun c => ts ++ c)) best := fun from_ best => by
      unfold oneF candO
      cases hf : firstF l.m from_ l.ws with
      | none => rfl
      | some z =>
        dsimp only
        split
        · rw [tryF_fold, List.length_append, List.length_singleton, List.map_map]
          congr 1
          refine List.map_congr_left fun c _ => ?_
          simp
        · rfl
    rw [tryF, cands]
    split
    · rw [one, one, List.map_append]
      simp [foldB, List.foldl_append]
    · rw [one, List.append_nil]
theorem cand_sound {most rest : Int} (hr : 0 ≤ rest) : ∀ {r : List Lg} {n : Nat} {at0 d : Int} {c : List Int}, c ∈ cands most rest r n at0 d → AllT most rest r c at0 d (decide (0 < n))
  | [], n, at0, d, c, h => by simp [cands] at h; subst h; rfl
  | l :: r, n, at0, d, c, h => by
    have one : ∀ from_, at0 ≤ from_ → c ∈ candO (fun a b c => cands most rest r a b c) most rest l n at0 d from_ → AllT most rest (l :: r) c at0 d (decide (0 < n)) := fun from_ hfr h => by
      unfold candO at h
      cases hf : firstF l.m from_ l.ws with
      | none => rw [hf] at h; cases h
      | some z =>
        rw [hf] at h
        dsimp only at h
        split at h
        · rename_i hd
          obtain ⟨c', hc', rfl⟩ := List.mem_map.1 h
          have hz := (firstF_spec hf).1
          have ih := cand_sound hr hc'
          have e : drvNow rest d (if decide (0 < n) = true then some at0 else none) z = drvC rest d at0 z n := by
            unfold drvNow drvC
            by_cases hn : 0 < n
            · simp only [hn, decide_true, if_true]
              split
              · rw [if_pos (by omega)]
              · rfl
            · simp only [hn, decide_false, Bool.false_eq_true, if_false]
              split
              · rw [if_neg (by omega)]
              · rfl
          refine ⟨by omega, firstF_fits hf, by rw [e]; exact hd, by rw [e]; simpa using ih⟩
        · cases h
    rw [cands] at h
    rcases List.mem_append.1 h with h | h
    · exact one at0 (Int.le_refl _) h
    · split at h
      · exact one (at0 + rest) (by omega) h
      · cases h
/-- No later, place by place. -/
def LeT : List Int → List Int → Prop
  | [], ys => ys = []
  | x :: r, ys => match ys with
    | [] => False
    | y :: s => x ≤ y ∧ LeT r s
theorem cand_least {most rest : Int} (hr : 0 ≤ rest) : ∀ {r : List Lg} {ts : List Int} {n : Nat} {at0 d at1 d1 : Int}, (∀ l ∈ r, (0 ≤ l.m) ∧ winF 0 l.ws = true) → AllT most rest r ts at0 d (decide (0 < n)) → at1 ≤ at0 → 0 ≤ d1 → d1 ≤ d → ∃ c ∈ cands most rest r n at1 d1, LeT c ts
  | [], ts, n, at0, d, at1, d1, _, h, _, _, _ => ⟨[], by simp [cands], h⟩
  | l :: r, [], n, at0, d, at1, d1, _, h, _, _, _ => h.elim
  | l :: r, x :: ts, n, at0, d, at1, d1, hl, h, h1, h2, h3 => by
    obtain ⟨g1, g2, g3, g4⟩ := h
    have hl0 := hl l (by simp)
    have one : ∀ from_, at1 ≤ from_ → from_ ≤ x → (∀ z, from_ ≤ z → 0 ≤ drvC rest d1 at1 z n ∧ drvC rest d1 at1 z n ≤ drvNow rest d (if decide (0 < n) = true then some at0 else none) x) → ∃ c ∈ candO (fun a b c => cands most rest r a b c) most rest l n at1 d1 from_, LeT c (x :: ts) := fun from_ hf1 hf2 hz => by
      obtain ⟨z, hz1, hz2⟩ := firstF_least (k := from_) hl0.1 hl0.2 g2 hf2
      have hz3 := (firstF_spec hz1).1
      have hz4 := hz z hz3
      have g5 : AllT most rest r ts (x + l.m) (drvNow rest d (if decide (0 < n) = true then some at0 else none) x + l.m) (decide (0 < n + 1)) := by
        have e1 : decide (0 < n + 1) = true := by simp
        rw [e1]; exact g4
      obtain ⟨c, hc, hle⟩ := cand_least hr (n := n + 1) (at1 := z + l.m) (d1 := drvC rest d1 at1 z n + l.m) (fun a ha => hl a (by simp [ha])) g5 (by omega) (by omega) (by omega)
      refine ⟨z :: c, ?_, hz2, hle⟩
      unfold candO
      rw [hz1]
      dsimp only
      rw [if_pos (by omega)]
      exact List.mem_map.2 ⟨c, hc, rfl⟩
    rw [cands]
    by_cases hn : (0 : Int) < (n : Int)
    · have hk : (if decide (0 < n) = true then some at0 else none) = some at0 := by simp; omega
      rw [hk] at one
      by_cases hx : rest ≤ x - at0
      · obtain ⟨c, hc, hle⟩ := one (at1 + rest) (by omega) (by omega) (fun z hz => by
          unfold drvC drvNow
          dsimp only
          rw [if_pos (by omega), if_pos hn, if_pos hx]; omega)
        exact ⟨c, List.mem_append_right _ (by rw [if_pos hn]; exact hc), hle⟩
      · obtain ⟨c, hc, hle⟩ := one at1 (Int.le_refl _) (by omega) (fun z hz => by
          unfold drvC drvNow
          dsimp only
          rw [if_neg hx]
          by_cases e1 : rest ≤ z - at1
          · rw [if_pos e1, if_pos hn]; omega
          · rw [if_neg e1]; omega)
        exact ⟨c, List.mem_append_left _ hc, hle⟩
    · have hk : (if decide (0 < n) = true then some at0 else none) = none := by simp; omega
      rw [hk] at one
      obtain ⟨c, hc, hle⟩ := one at1 (Int.le_refl _) (by omega) (fun z hz => by
        unfold drvC drvNow
        dsimp only
        by_cases e1 : rest ≤ z - at1
        · rw [if_pos e1, if_neg hn]; omega
        · rw [if_neg e1]; omega)
      exact ⟨c, List.mem_append_left _ hc, hle⟩
/-! ### the least candidate -/
theorem cmpI_neg {x y : Int} : cmpI x y < 0 ↔ x < y := by unfold cmpI; split <;> (try split) <;> omega
theorem cmpI_zero {x y : Int} : cmpI x y = 0 ↔ x = y := by unfold cmpI; split <;> (try split) <;> omega
theorem cmpL_trans : ∀ {a b c : List Int}, cmpL a b < 0 → cmpL b c < 0 → cmpL a c < 0
  | [], b, [], h1, h2 => by
    cases b with
    | nil => simp [cmpL] at h1
    | cons y s => simp [cmpL] at h2
  | [], b, z :: u, h1, h2 => by simp [cmpL]
  | x :: r, [], c, h1, h2 => by simp [cmpL] at h1
  | x :: r, y :: s, [], h1, h2 => by simp [cmpL] at h2
  | x :: r, y :: s, z :: u, h1, h2 => by
    have ih := cmpL_trans (a := r) (b := s) (c := u)
    rw [cmpL] at h1 h2 ⊢
    by_cases e1 : x = y
    · subst e1
      rw [if_pos (cmpI_zero.2 rfl)] at h1
      by_cases e2 : x = z
      · subst e2
        rw [if_pos (cmpI_zero.2 rfl)] at h2 ⊢
        exact ih h1 h2
      · rw [if_neg (fun h => e2 (cmpI_zero.1 h))] at h2 ⊢; exact h2
    · rw [if_neg (fun h => e1 (cmpI_zero.1 h))] at h1
      have g1 := cmpI_neg.1 h1
      by_cases e2 : y = z
      · subst e2
        rw [if_neg (fun h => e1 (cmpI_zero.1 h))]; exact h1
      · rw [if_neg (fun h => e2 (cmpI_zero.1 h))] at h2
        have g2 := cmpI_neg.1 h2
        rw [if_neg (fun h => by have := cmpI_zero.1 h; omega)]
        exact cmpI_neg.2 (by omega)
theorem befL_iff {xs ys : List Int} : befL xs ys = true ↔ lastT xs < lastT ys ∨ (lastT xs = lastT ys ∧ cmpL xs ys < 0) := by
  unfold befL
  rw [decide_eq_true_iff]
  unfold orI
  by_cases e : cmpI (lastT xs) (lastT ys) = 0
  · rw [if_pos e]
    have := cmpI_zero.1 e
    constructor
    · intro h; exact .inr ⟨this, h⟩
    · rintro (h | h)
      · omega
      · exact h.2
  · rw [if_neg e]
    have h1 : lastT xs ≠ lastT ys := fun h => e (cmpI_zero.2 h)
    rw [cmpI_neg]
    constructor
    · intro h; exact .inl h
    · rintro (h | h)
      · exact h
      · exact absurd h.1 h1
theorem befL_trans {a b c : List Int} (h1 : befL a b = true) (h2 : befL b c = true) : befL a c = true := by
  rw [befL_iff] at *
  rcases h1 with h1 | ⟨h1, g1⟩ <;> rcases h2 with h2 | ⟨h2, g2⟩
  · left; omega
  · left; omega
  · left; omega
  · right; exact ⟨by omega, cmpL_trans g1 g2⟩
theorem foldB_spec : ∀ {C : List (List Int)} {best : Option (List Int)}, (foldB C best = none ↔ C = [] ∧ best = none) ∧ ∀ b, foldB C best = some b → (b ∈ C ∨ best = some b) ∧ (∀ c ∈ C, ¬ befL c b = true) ∧ (∀ a, best = some a → ¬ befL a b = true)
  | [], best => ⟨by simp [foldB], fun b h => ⟨.inr h, by simp, fun a ha hb => by
      have e : best = some b := h
      rw [ha] at e; injection e with e; subst e
      have := befL_iff.1 hb
      rcases this with h | ⟨_, h⟩
      · omega
      · have irr : ∀ xs : List Int, ¬ cmpL xs xs < 0 := by
          intro xs
          induction xs with
          | nil => simp [cmpL]
          | cons x r ih => rw [cmpL, if_pos (cmpI_zero.2 rfl)]; exact ih
        exact irr _ h⟩⟩
  | t :: C, best => by
    have ih := foldB_spec (C := C) (best := betterF t best)
    have hne : betterF t best ≠ none := by
      unfold betterF
      cases best with
      | none => simp
      | some b => dsimp only; split <;> simp
    have e : foldB (t :: C) best = foldB C (betterF t best) := rfl
    rw [e]
    refine ⟨⟨fun h => absurd (ih.1.1 h).2 hne, fun h => by cases h.1⟩, fun b hb => ?_⟩
    obtain ⟨h1, h2, h3⟩ := ih.2 b hb
    unfold betterF at h1 h3
    cases best with
    | none =>
      dsimp only at h1 h3
      refine ⟨?_, fun c hc => ?_, fun a ha => by cases ha⟩
      · rcases h1 with h1 | h1
        · exact .inl (by simp [h1])
        · injection h1 with h1; exact .inl (by simp [h1])
      · rcases List.mem_cons.1 hc with rfl | hc
        · exact h3 _ rfl
        · exact h2 c hc
    | some a =>
      dsimp only at h1 h3
      by_cases hta : befL t a = true
      · rw [if_pos hta] at h1 h3
        refine ⟨?_, fun c hc => ?_, fun a' ha' hb' => ?_⟩
        · rcases h1 with h1 | h1
          · exact .inl (by simp [h1])
          · injection h1 with h1; exact .inl (by simp [h1])
        · rcases List.mem_cons.1 hc with rfl | hc
          · exact h3 _ rfl
          · exact h2 c hc
        · injection ha' with ha'; subst ha'
          exact h3 _ rfl (befL_trans hta hb')
      · rw [if_neg hta] at h1 h3
        refine ⟨?_, fun c hc => ?_, fun a' ha' => h3 a' ha'⟩
        · rcases h1 with h1 | h1
          · exact .inl (by simp [h1])
          · exact .inr h1
        · rcases List.mem_cons.1 hc with rfl | hc
          · intro hcb
            rcases h1 with h1 | h1
            · have h4 := h3 a rfl
              rw [befL_iff] at hcb h4 hta
              rcases hcb with g | ⟨g, g'⟩
              · by_cases q : lastT a < lastT b
                · exact h4 (.inl q)
                · exact hta (.inl (by omega))
              · by_cases q : lastT a < lastT b
                · exact h4 (.inl q)
                · by_cases q2 : lastT a = lastT b
                  · -- a is not before b, c before b
                    by_cases q3 : cmpL a b < 0
                    · exact h4 (.inr ⟨q2, q3⟩)
                    · exact hta (.inr ⟨by omega, cmpL_mid g' q3⟩)
                  · exact hta (.inl (by omega))
            · injection h1 with h1; subst h1; exact hta hcb
          · exact h2 c hc
where
  cmpL_mid : ∀ {c b a : List Int}, cmpL c b < 0 → ¬ cmpL a b < 0 → cmpL c a < 0
    | [], [], _, h, _ => by simp [cmpL] at h
    | [], y :: s, [], _, h2 => by simp [cmpL] at h2
    | [], y :: s, z :: u, _, _ => by simp [cmpL]
    | x :: r, [], _, h, _ => by simp [cmpL] at h
    | x :: r, y :: s, [], h, h2 => by simp [cmpL] at h2
    | x :: r, y :: s, z :: u, h, h2 => by
      have ih := cmpL_mid (c := r) (b := s) (a := u)
      rw [cmpL] at h h2 ⊢
      by_cases e1 : x = y
      · subst e1
        rw [if_pos (cmpI_zero.2 rfl)] at h
        by_cases e2 : z = x
        · subst e2
          rw [if_pos (cmpI_zero.2 rfl)] at h2 ⊢
          exact ih h h2
        · rw [if_neg (fun q => e2 (cmpI_zero.1 q))] at h2
          have g2 : ¬ z < x := fun q => h2 (cmpI_neg.2 q)
          rw [if_neg (fun q => e2 (cmpI_zero.1 q).symm)]
          exact cmpI_neg.2 (by omega)
      · rw [if_neg (fun q => e1 (cmpI_zero.1 q))] at h
        have g1 := cmpI_neg.1 h
        have g2 : y ≤ z := by
          by_cases e2 : z = y
          · omega
          · rw [if_neg (fun q => e2 (cmpI_zero.1 q))] at h2
            have : ¬ z < y := fun q => h2 (cmpI_neg.2 q)
            omega
        rw [if_neg (fun q => by have := cmpI_zero.1 q; omega)]
        exact cmpI_neg.2 (by omega)
end Go.Proofs.Ytdmkedbmoboamaa
