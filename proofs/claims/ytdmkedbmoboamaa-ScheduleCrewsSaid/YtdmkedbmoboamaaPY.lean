/- The plain law of reasons: what is accepted bounds every plan; what the engine notes is accepted. No program in sight. -/
import Derived.Test.YtdmkedbmoboamaaPR
namespace Go.Proofs.Ytdmkedbmoboamaa
set_option linter.unusedVariables false
set_option linter.unusedSimpArgs false
set_option linter.unnecessarySimpa false
/-- The greatest start so far of a task; -1: none. -/
def mxS (pre : List Re) (k : Int) : Int := pre.foldl (fun acc r => if r.task = k then max acc r.start else acc) (-1)
def viaP (r : Re) (s : Int) (a : Af) : Bool := if a.p = r.by_ then (if a.q = r.task then decide (max 0 (s + a.lag) = r.from_) else false) else false
def okR (J : Jb) (L : List Af) (pre : List Re) (r : Re) : Bool :=
  match J.ts[r.task.toNat]? with
  | none => false
  | some t => if r.task < 0 then false else if r.from_ < 0 then false else if r.start = (firstF t.m r.from_ t.ws).getD (-1) then (if r.by_ = -1 then decide (r.from_ = 0) else if mxS pre r.by_ < 0 then false else L.any (viaP r (mxS pre r.by_))) else false
def whyB (J : Jb) (L : List Af) : List Re → List Re → Bool
  | _, [] => true
  | pre, r :: rest => if okR J L pre r = true then (if r.start < 0 then (if rest = [] then whyB J L (pre ++ [r]) rest else false) else whyB J L (pre ++ [r]) rest) else false
def whyF (J : Jb) (os : List Rw) (rs : List Re) : Int := if chkO J os = 0 then (if (20000 : Int) < (rs.length : Int) then 6 else if (rs.length : Int) = 0 then 16 else if whyB J (linksF J os) [] rs = true then 0 else 16) else chkO J os
theorem mxS_snoc (pre : List Re) (r : Re) (k : Int) : mxS (pre ++ [r]) k = if r.task = k then max (mxS pre k) r.start else mxS pre k := by simp [mxS]
theorem foldl_mx_ge (k : Int) : ∀ (pre : List Re) (a : Int), a ≤ pre.foldl (fun acc r => if r.task = k then max acc r.start else acc) a
  | [], a => Int.le_refl _
  | r :: rest, a => by
    rw [List.foldl_cons]
    refine Int.le_trans ?_ (foldl_mx_ge k rest _)
    split <;> omega
theorem mxS_ge (pre : List Re) (k : Int) : -1 ≤ mxS pre k := foldl_mx_ge k pre (-1)
theorem foldl_mx_le {k z : Int} : ∀ {pre : List Re} {a : Int}, a ≤ z → (∀ r ∈ pre, r.task = k → r.start ≤ z) → pre.foldl (fun acc r => if r.task = k then max acc r.start else acc) a ≤ z
  | [], a, h, _ => h
  | r :: rest, a, h, hr => by
    rw [List.foldl_cons]
    refine foldl_mx_le ?_ (fun s hs => hr s (List.mem_cons_of_mem _ hs))
    split
    · rename_i e; have := hr r (by simp) e; omega
    · exact h
theorem mxS_le {pre : List Re} {k z : Int} (hz : -1 ≤ z) (h : ∀ r ∈ pre, r.task = k → r.start ≤ z) : mxS pre k ≤ z := foldl_mx_le hz h
theorem mxS_none {pre : List Re} {k : Int} (h : ∀ r ∈ pre, r.task ≠ k) : mxS pre k = -1 := by
  have h1 := mxS_le (pre := pre) (k := k) (z := -1) (by omega) (fun r hr e => absurd e (h r hr))
  have := mxS_ge pre k
  omega
section
variable {J : Jb} {L : List Af}
/-- What an accepted reason says. -/
theorem okR_iff {pre : List Re} {r : Re} : okR J L pre r = true ↔ ∃ t, J.ts[r.task.toNat]? = some t ∧ 0 ≤ r.task ∧ 0 ≤ r.from_ ∧ r.start = (firstF t.m r.from_ t.ws).getD (-1) ∧
    ((r.by_ = -1 ∧ r.from_ = 0) ∨ (r.by_ ≠ -1 ∧ 0 ≤ mxS pre r.by_ ∧ ∃ a ∈ L, a.p = r.by_ ∧ a.q = r.task ∧ max 0 (mxS pre r.by_ + a.lag) = r.from_)) := by
  unfold okR
  cases ht : J.ts[r.task.toNat]? with
  | none => simp
  | some t =>
    simp only [Option.some.injEq, exists_eq_left']
    by_cases h1 : r.task < 0
    · simp [h1]; omega
    · by_cases h2 : r.from_ < 0
      · simp [h1, h2]; omega
      · by_cases h3 : r.start = (firstF t.m r.from_ t.ws).getD (-1)
        · simp only [h1, h2, if_false, h3, if_true]
          by_cases h4 : r.by_ = -1
          · simp [h4]; omega
          · by_cases h5 : mxS pre r.by_ < 0
            · simp [h4, h5]; omega
            · simp only [h4, h5, if_false]
              constructor
              · intro h
                obtain ⟨a, ha, hv⟩ := List.any_eq_true.1 h
                unfold viaP at hv
                split at hv
                · rename_i e1
                  split at hv
                  · rename_i e2
                    exact ⟨by omega, by omega, trivial, .inr ⟨h4, by omega, a, ha, e1, e2, by simpa using hv⟩⟩
                  · cases hv
                · cases hv
              · rintro ⟨_, _, _, h | ⟨_, _, a, ha, e1, e2, e3⟩⟩
                · exact h.1.elim
                · refine List.any_eq_true.2 ⟨a, ha, ?_⟩
                  unfold viaP
                  rw [if_pos e1, if_pos e2]
                  simpa using e3
        · simp [h1, h2, h3]
/-! ### what is accepted bounds every plan -/
theorem okR_sound (hS : Sound J L) {l : List Int} (hl : IsPlan J L l) {pre : List Re} {r : Re} (h : okR J L pre r = true) (hp : ∀ s ∈ pre, s.start ≤ at_ l s.task) : 0 ≤ r.start ∧ r.start ≤ at_ l r.task ∧ 0 ≤ r.task ∧ r.task < J.ts.length := by
  obtain ⟨t, ht, h0, hf, hs, hv⟩ := okR_iff.1 h
  obtain ⟨y, hy, hfit, hy0⟩ := plan_at hS hl ht
  have hlt := (List.getElem?_eq_some_iff.1 ht).1
  have h3 := hS.tk t (List.mem_of_getElem? ht)
  have hle : r.from_ ≤ y := by
    rcases hv with ⟨_, e⟩ | ⟨_, h5, a, ha, e1, e2, e3⟩
    · omega
    · have h6 : mxS pre r.by_ ≤ at_ l r.by_ ∨ mxS pre r.by_ ≤ -1 := by
        by_cases e : -1 ≤ at_ l r.by_
        · exact .inl (mxS_le e fun s hs e' => by rw [← e']; exact hp s hs)
        · right
          have := mxS_le (pre := pre) (k := r.by_) (z := -1) (by omega) (fun s hs e' => by have := hp s hs; rw [e'] at this; omega)
          exact this
      have h7 := hl.link a ha
      unfold sat at h7
      rw [e1, e2, at_of hy] at h7
      omega
  obtain ⟨z, hz, hzy⟩ := firstF_least (k := r.from_) h3.1.1 h3.2.1 hfit hle
  have hb := firstF_bd h3.1.1 h3.2.1 hz
  rw [hz] at hs
  simp at hs
  rw [at_of hy]
  omega
theorem whyB_sound (hS : Sound J L) {l : List Int} (hl : IsPlan J L l) : ∀ {rs pre : List Re}, whyB J L pre rs = true → (∀ s ∈ pre, s.start ≤ at_ l s.task) → ∀ r ∈ rs, 0 ≤ r.start ∧ r.start ≤ at_ l r.task ∧ 0 ≤ r.task ∧ r.task < J.ts.length
  | [], pre, _, _, r, hr => by simp at hr
  | x :: rest, pre, h, hp, r, hr => by
    rw [whyB] at h
    split at h
    · rename_i h1
      have h2 := okR_sound hS hl h1 hp
      rw [if_neg (by omega)] at h
      rcases List.mem_cons.1 hr with rfl | hr
      · exact h2
      · refine whyB_sound hS hl h (fun s hs => ?_) r hr
        rcases List.mem_append.1 hs with hs | hs
        · exact hp s hs
        · simp at hs; subst hs; exact h2.2.1
    · cases h
/-! ### what the engine notes is accepted -/
theorem whyB_snoc : ∀ {rs pre : List Re} {r : Re}, whyB J L pre rs = true → (∀ s ∈ rs, 0 ≤ s.start) → okR J L (pre ++ rs) r = true → whyB J L pre (rs ++ [r]) = true
  | [], pre, r, _, _, h => by
    rw [List.append_nil] at h
    rw [List.nil_append, whyB, if_pos h]
    split <;> simp [whyB]
  | x :: rest, pre, r, h, hs, hr => by
    rw [whyB] at h
    split at h
    · rename_i h1
      have h2 := hs x (by simp)
      rw [if_neg (by omega)] at h
      rw [List.cons_append, whyB, if_pos h1, if_neg (by omega)]
      exact whyB_snoc h (fun s hs' => hs s (List.mem_cons_of_mem _ hs')) (by simpa using hr)
    · cases h
/-- The chain that ends with the last reason of a task: of a log, the last entry first. -/
def chn : List Re → Int → List Re
  | [], _ => []
  | r :: rest, b => if r.task = b then r :: chn rest r.by_ else chn rest b
theorem chn_none {b : Int} : ∀ {l : List Re}, (∀ r ∈ l, r.task ≠ b) → chn l b = []
  | [], _ => rfl
  | r :: rest, h => by rw [chn, if_neg (h r (by simp)), chn_none fun s hs => h s (List.mem_cons_of_mem _ hs)]
theorem chn_sub : ∀ {l : List Re} {b : Int}, (chn l b).Sublist l
  | [], _ => List.Sublist.slnil
  | r :: rest, b => by
    rw [chn]
    split
    · exact List.Sublist.cons_cons _ chn_sub
    · exact List.Sublist.cons _ chn_sub
theorem Log.chn (hS : Sound J L) {E : List (Re × Nat)} {ss : List Int} (h : Log J L E ss) : ∀ (k : Nat) (x : Int), ss[k]? = some x → 0 ≤ x →
    ∃ e c, chn (E.map (·.1)).reverse k = e :: c ∧ e.task = k ∧ e.start = x ∧ Chain J L (e :: c) ∧ ∀ r ∈ e :: c, 0 ≤ r.from_ := by
  induction h with
  | nil => intro k x hx h0; have := List.eq_of_mem_replicate (List.mem_of_getElem? hx); omega
  | @init E ss k t z h0 ht hk hf ih =>
    intro j x hx hx0
    have hc := h0.cur hS
    have hkl := (List.getElem?_eq_some_iff.1 ht).1
    rw [List.map_append, List.reverse_append]
    show ∃ e c, Go.Proofs.Ytdmkedbmoboamaa.chn (_ :: (E.map (·.1)).reverse) j = e :: c ∧ _
    rw [List.getElem?_set] at hx
    rw [Go.Proofs.Ytdmkedbmoboamaa.chn]
    split at hx
    · rename_i e; subst e
      split at hx
      · injection hx with hx; subst hx
        rw [if_pos rfl, chn_none (fun r hr => by
          rw [List.mem_reverse, List.mem_map] at hr
          obtain ⟨e, he, rfl⟩ := hr
          have := (hc.1 e he).1
          dsimp only; omega)]
        exact ⟨_, [], rfl, rfl, rfl, .one rfl rfl ⟨t, by simpa using ht, ⟨by dsimp only; omega, by dsimp only; omega⟩, hf⟩, fun r hr => by simp at hr; subst hr; exact Int.le_refl _⟩
      · cases hx
    · rename_i hne
      rw [if_neg (by dsimp only; omega)]
      exact ih j x hx hx0
  | @raise E ss a t x' y' z n h0 ha ht hx' hx0' hy' hy0 hlt hf hn ih =>
    intro j x hx hx0
    have hlk := hS.lk a ha
    rw [List.map_append, List.reverse_append]
    show ∃ e c, Go.Proofs.Ytdmkedbmoboamaa.chn (_ :: (E.map (·.1)).reverse) j = e :: c ∧ _
    rw [List.getElem?_set] at hx
    rw [Go.Proofs.Ytdmkedbmoboamaa.chn]
    split at hx
    · rename_i e; subst e
      split at hx
      · injection hx with hx; subst hx
        obtain ⟨e, c, h1, h2, h3, h4, h5⟩ := ih _ _ hx' hx0'
        have e4 : ((a.p.toNat : Nat) : Int) = a.p := by omega
        rw [e4] at h1 h2
        rw [if_pos (by dsimp only; omega)]
        dsimp only
        rw [h1]
        refine ⟨_, e :: c, rfl, by dsimp only; omega, rfl, .more ⟨h2.symm, a, ha, h2.symm, rfl, by rw [h3]⟩ ⟨t, ht, ⟨hlk.2.1.1, hlk.2.1.2⟩, hf⟩ h4, fun r hr => ?_⟩
        rcases List.mem_cons.1 hr with rfl | hr
        · dsimp only; omega
        · exact h5 r hr
      · cases hx
    · rename_i hne
      rw [if_neg (by dsimp only; omega)]
      exact ih j x hx hx0
theorem Own.bd (hS : Sound J L) {r : Re} (h : Own J r) : 0 ≤ r.start := by
  obtain ⟨t, ht, _, hf⟩ := h
  have h3 := hS.tk t (List.mem_of_getElem? ht)
  exact (firstF_bd h3.1.1 h3.2.1 hf).2.1
theorem chain_ok (hS : Sound J L) {c : List Re} (h : Chain J L c) : c.reverse.Pairwise Grows → (∀ r ∈ c, 0 ≤ r.from_) → whyB J L [] c.reverse = true ∧ (∀ r ∈ c, 0 ≤ r.start) ∧ ∀ r, c.head? = some r → mxS c.reverse r.task = r.start := by
  induction h with
  | @one r hb hf ho =>
    intro _ _
    have h0 := ho.bd hS
    obtain ⟨t, ht, hr, hff⟩ := ho
    have hok : okR J L [] r = true := okR_iff.2 ⟨t, ht, hr.1, by omega, by rw [hff]; rfl, .inl ⟨hb, hf⟩⟩
    refine ⟨?_, by simpa using h0, fun s hs => ?_⟩
    · show whyB J L [] [r] = true
      rw [whyB, if_pos hok, if_neg (by omega)]; rfl
    · simp at hs; subst hs
      show mxS ([] ++ [r]) r.task = _
      rw [mxS_snoc, if_pos rfl]
      show max (-1) _ = _
      omega
  | @more r r' c hst ho hc ih =>
    intro hp hfr
    rw [List.reverse_cons] at hp
    have hpp := List.pairwise_append.1 hp
    obtain ⟨i1, i2, i3⟩ := ih hpp.1 (fun s hs => hfr s (List.mem_cons_of_mem _ hs))
    have h0 := ho.bd hS
    have hr0 := i2 r (by simp)
    have hmx := i3 r rfl
    obtain ⟨t, ht, hr, hff⟩ := ho
    obtain ⟨hby, a, ha, e1, e2, e3⟩ := hst
    have hf' := hfr r' (by simp)
    have hok : okR J L ([] ++ (r :: c).reverse) r' = true := okR_iff.2 ⟨t, ht, hr.1, hf', by rw [hff]; rfl, .inr ⟨by
      have := (show Chain J L (r :: c) from hc)
      rw [hby]
      have hrt : 0 ≤ r.task := by
        cases hc with
        | one _ _ ho2 => obtain ⟨_, _, h, _⟩ := ho2; exact h.1
        | more _ ho2 _ => obtain ⟨_, _, h, _⟩ := ho2; exact h.1
      omega, by rw [hby, List.nil_append, hmx]; exact hr0, a, ha, by rw [e1, hby], e2, by rw [hby, List.nil_append, hmx, e3]; omega⟩⟩
    refine ⟨by rw [List.reverse_cons]; exact whyB_snoc i1 (fun s hs => i2 s (List.mem_reverse.1 hs)) hok, fun s hs => ?_, fun s hs => ?_⟩
    · rcases List.mem_cons.1 hs with rfl | hs
      · exact h0
      · exact i2 s hs
    · simp at hs; subst hs
      rw [List.reverse_cons, mxS_snoc, if_pos rfl]
      have := mxS_le (pre := (r :: c).reverse) (k := r'.task) (z := r'.start) (by omega) (fun s hs e => by
        have := hpp.2.2 s hs r' (by simp) e
        omega)
      omega
end
end Go.Proofs.Ytdmkedbmoboamaa
