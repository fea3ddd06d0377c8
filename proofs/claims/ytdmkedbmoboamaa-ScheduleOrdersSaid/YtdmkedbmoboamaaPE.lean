/- The plain law of the engine: what it notes justifies every start; a chain of reasons is short where no circle gains; what stands still is the earliest plan. No program in sight. -/
import Derived.Test.YtdmkedbmoboamaaA3
namespace Go.Proofs.Ytdmkedbmoboamaa
open Go.Kx
set_option linter.unusedVariables false
set_option linter.unusedSimpArgs false
structure Re where
  task : Int
  by_ : Int
  from_ : Int
  start : Int
def encRe (r : Re) : List Value := [.int .i64 r.task, .int .i64 r.by_, .int .i64 r.from_, .int .i64 r.start]
/-- The start of a task in a plan. -/
def at_ (l : List Int) (k : Int) : Int := l.getD k.toNat 0
theorem at_of {l : List Int} {k : Int} {x : Int} (h : l[k.toNat]? = some x) : at_ l k = x := by simp [at_, List.getD, h]
def sat (l : List Int) (a : Af) : Prop := at_ l a.p + a.lag ≤ at_ l a.q
structure IsPlan (J : Jb) (L : List Af) (l : List Int) : Prop where
  len : l.length = J.ts.length
  fit : ∀ (k : Nat) (t : Tk) (x : Int), J.ts[k]? = some t → l[k]? = some x → fitsF t.m x t.ws = true
  link : ∀ a ∈ L, sat l a
structure IsLeast (J : Jb) (L : List Af) (l : List Int) : Prop where
  plan : IsPlan J L l
  low : ∀ l', IsPlan J L l' → ∀ (k : Nat) (x y : Int), l[k]? = some x → l'[k]? = some y → x ≤ y
theorem IsLeast.unique {J : Jb} {L : List Af} {l l' : List Int} (h : IsLeast J L l) (h' : IsLeast J L l') : l = l' := by
  refine List.ext_getElem? fun k => ?_
  by_cases hk : k < J.ts.length
  · have e1 := List.getElem?_eq_getElem (l := l) (i := k) (by rw [h.plan.len]; exact hk)
    have e2 := List.getElem?_eq_getElem (l := l') (i := k) (by rw [h'.plan.len]; exact hk)
    have h1 := h.low l' h'.plan k _ _ e1 e2
    have h2 := h'.low l h.plan k _ _ e2 e1
    rw [e1, e2]; congr 1; omega
  · rw [List.getElem?_eq_none (by rw [h.plan.len]; omega), List.getElem?_eq_none (by rw [h'.plan.len]; omega)]
/-! ### first fits -/
theorem fitsF_iff {m v : Int} {ws : List Wn} : fitsF m v ws = true ↔ ∃ w ∈ ws, w.f ≤ v ∧ v ≤ w.t - m := by
  simp only [fitsF, List.any_eq_true, between_iff]
theorem firstF_least {m k v last : Int} (hm : 0 ≤ m) : ∀ {ws : List Wn}, winF last ws = true → fitsF m v ws = true → k ≤ v → ∃ z, firstF m k ws = some z ∧ z ≤ v
  | [], _, h, _ => by simp [fitsF] at h
  | w :: r, hw, hf, hk => by
    have hw' := hw
    simp only [winF] at hw
    split at hw
    · cases hw
    · split at hw
      · cases hw
      · split at hw
        · cases hw
        · simp only [firstF]
          split
          · rename_i h
            refine ⟨_, rfl, ?_⟩
            obtain ⟨u, hu, h1, h2⟩ := fitsF_iff.1 hf
            rcases List.mem_cons.1 hu with rfl | hu
            · omega
            · have := winF_mem hw u hu; omega
          · rename_i h
            refine firstF_least hm hw ?_ hk
            obtain ⟨u, hu, h1, h2⟩ := fitsF_iff.1 hf
            rcases List.mem_cons.1 hu with rfl | hu
            · exfalso; omega
            · exact fitsF_iff.2 ⟨u, hu, h1, h2⟩
theorem firstF_fits {m k z : Int} {ws : List Wn} (h : firstF m k ws = some z) : fitsF m z ws = true := by
  obtain ⟨_, w, hw, h1, h2⟩ := firstF_spec h
  exact fitsF_iff.2 ⟨w, hw, h1, by omega⟩
theorem firstF_jump {m k z : Int} : ∀ {ws : List Wn}, firstF m k ws = some z → z = k ∨ ∃ w ∈ ws, z = w.f
  | [], h => by simp [firstF] at h
  | w :: r, h => by
    simp only [firstF] at h
    split at h
    · injection h with h
      by_cases e : z = k
      · exact .inl e
      · exact .inr ⟨w, by simp, by omega⟩
    · rcases firstF_jump h with h | ⟨u, hu, h⟩
      · exact .inl h
      · exact .inr ⟨u, by simp [hu], h⟩
/-! ### what was noted -/
/-- The pass in which a task was set last. -/
def lastp (E : List (Re × Nat)) (k : Int) : Nat := E.foldl (fun acc e => if e.1.task = k then e.2 else acc) 0
theorem lastp_snoc (E : List (Re × Nat)) (e : Re × Nat) (k : Int) : lastp (E ++ [e]) k = if e.1.task = k then e.2 else lastp E k := by
  simp [lastp, List.foldl_append]
inductive Log (J : Jb) (L : List Af) : List (Re × Nat) → List Int → Prop
  | nil : Log J L [] (List.replicate J.ts.length (-1))
  | init {E : List (Re × Nat)} {ss : List Int} (k : Nat) (t : Tk) (z : Int) : Log J L E ss → J.ts[k]? = some t → ss[k]? = some (-1) → firstF t.m 0 t.ws = some z → Log J L (E ++ [(⟨k, -1, 0, z⟩, 0)]) (ss.set k z)
  | raise {E : List (Re × Nat)} {ss : List Int} (a : Af) (t : Tk) (x y z : Int) (n : Nat) : Log J L E ss → a ∈ L → J.ts[a.q.toNat]? = some t → ss[a.p.toNat]? = some x → 0 ≤ x → ss[a.q.toNat]? = some y → 0 ≤ y → y < x + a.lag →
      firstF t.m (x + a.lag) t.ws = some z → n ≤ lastp E a.p + 1 → Log J L (E ++ [(⟨a.q, a.p, x + a.lag, z⟩, n)]) (ss.set a.q.toNat z)
/-- Links between tasks, and windows. -/
structure Sound (J : Jb) (L : List Af) : Prop where
  lk : ∀ a ∈ L, (0 ≤ a.p ∧ a.p < J.ts.length) ∧ (0 ≤ a.q ∧ a.q < J.ts.length) ∧ -2097152 ≤ a.lag ∧ a.lag ≤ 2097152
  tk : ∀ t ∈ J.ts, (0 ≤ t.m ∧ t.m ≤ 10080) ∧ winF 0 t.ws = true ∧ t.ws.length ≤ 32
section
variable {J : Jb} {L : List Af}
theorem firstF_bd {m k z : Int} {ws : List Wn} (hm : 0 ≤ m) (hw : winF 0 ws = true) (h : firstF m k ws = some z) : k ≤ z ∧ 0 ≤ z ∧ z ≤ 1099511627776 := by
  obtain ⟨h1, w, hw', h2, h3⟩ := firstF_spec h
  have := winF_mem hw w hw'
  omega
theorem Log.len {E : List (Re × Nat)} {ss : List Int} (h : Log J L E ss) : ss.length = J.ts.length := by
  induction h with
  | nil => simp
  | init => simpa
  | raise => simpa
theorem Log.bd (hS : Sound J L) {E : List (Re × Nat)} {ss : List Int} (h : Log J L E ss) : ∀ x ∈ ss, -1 ≤ x ∧ x ≤ 1099511627776 := by
  induction h with
  | nil => intro x hx; have := List.eq_of_mem_replicate hx; omega
  | init k t z _ ht _ hf ih =>
    intro x hx
    rcases List.mem_or_eq_of_mem_set hx with h1 | h1
    · exact ih x h1
    · have := hS.tk t (List.mem_of_getElem? ht); have := firstF_bd this.1.1 this.2.1 hf; omega
  | raise a t x' y z n _ ha ht _ _ _ _ _ hf _ ih =>
    intro x hx
    rcases List.mem_or_eq_of_mem_set hx with h1 | h1
    · exact ih x h1
    · have := hS.tk t (List.mem_of_getElem? ht); have := firstF_bd this.1.1 this.2.1 hf; omega
theorem Log.low (hS : Sound J L) {l : List Int} (hl : IsPlan J L l) {E : List (Re × Nat)} {ss : List Int} (h : Log J L E ss) : ∀ (k : Nat) (x y : Int), ss[k]? = some x → l[k]? = some y → x ≤ y := by
  induction h with
  | nil =>
    intro k x y hx hy
    have hx1 := List.eq_of_mem_replicate (List.mem_of_getElem? hx)
    have hk := (List.getElem?_eq_some_iff.1 hy).1
    rw [hl.len] at hk
    obtain ⟨w, hw, h1, h2⟩ := fitsF_iff.1 (hl.fit k _ y (List.getElem?_eq_getElem hk) hy)
    have h3 := hS.tk _ (List.getElem_mem hk)
    have := winF_mem h3.2.1 w hw
    omega
  | init k t z _ ht _ hf ih =>
    intro j x y hx hy
    rw [List.getElem?_set] at hx
    split at hx
    · rename_i e; subst e
      split at hx
      · injection hx with hx; subst hx
        have h3 := hS.tk _ (List.mem_of_getElem? ht)
        obtain ⟨w, hw, h1, h2⟩ := fitsF_iff.1 (hl.fit k _ y ht hy)
        have := winF_mem h3.2.1 w hw
        obtain ⟨z', hz', hle⟩ := firstF_least (k := 0) h3.1.1 h3.2.1 (hl.fit k _ y ht hy) (by omega)
        rw [hf] at hz'; injection hz' with hz'; omega
      · cases hx
    · exact ih j x y hx hy
  | raise a t x' y' z n _ ha ht hx' _ hy' _ _ hf _ ih =>
    intro j x y hx hy
    rw [List.getElem?_set] at hx
    split at hx
    · rename_i e; subst e
      split at hx
      · injection hx with hx; subst hx
        have h3 := hS.tk _ (List.mem_of_getElem? ht)
        have hp := (hS.lk a ha).1
        have e1 : l[a.p.toNat]? = some (l[a.p.toNat]'(by rw [hl.len]; omega)) := List.getElem?_eq_getElem _
        have h4 := ih _ _ _ hx' e1
        have h5 := hl.link a ha
        unfold sat at h5
        rw [at_of e1, at_of hy] at h5
        obtain ⟨z', hz', hle⟩ := firstF_least (k := x' + a.lag) h3.1.1 h3.2.1 (hl.fit _ _ y ht hy) (by omega)
        rw [hf] at hz'; injection hz' with hz'; omega
      · cases hx
    · exact ih j x y hx hy
theorem Log.fit {E : List (Re × Nat)} {ss : List Int} (h : Log J L E ss) : ∀ (k : Nat) (t : Tk) (x : Int), J.ts[k]? = some t → ss[k]? = some x → x = -1 ∨ fitsF t.m x t.ws = true := by
  induction h with
  | nil => intro k t x _ hx; exact .inl (List.eq_of_mem_replicate (List.mem_of_getElem? hx))
  | init k t z _ ht _ hf ih =>
    intro j u x hu hx
    rw [List.getElem?_set] at hx
    split at hx
    · rename_i e; subst e
      split at hx
      · injection hx with hx; subst hx
        rw [ht] at hu; injection hu with hu; subst hu
        exact .inr (firstF_fits hf)
      · cases hx
    · exact ih j u x hu hx
  | raise a t x' y' z n _ ha ht hx' _ hy' _ _ hf _ ih =>
    intro j u x hu hx
    rw [List.getElem?_set] at hx
    split at hx
    · rename_i e; subst e
      split at hx
      · injection hx with hx; subst hx
        rw [ht] at hu; injection hu with hu; subst hu
        exact .inr (firstF_fits hf)
      · cases hx
    · exact ih j u x hu hx
theorem Log.least (hS : Sound J L) {E : List (Re × Nat)} {ss : List Int} (h : Log J L E ss) (h0 : ∀ x ∈ ss, 0 ≤ x) (hs : ∀ a ∈ L, sat ss a) : IsLeast J L ss :=
  ⟨⟨h.len, fun k t x ht hx => (h.fit k t x ht hx).resolve_left (by have := h0 x (List.mem_of_getElem? hx); omega), hs⟩, fun l' hl' => h.low hS hl'⟩
/-- Where the first fit of a task does not exist, there is no plan. -/
theorem Log.dead0 (hS : Sound J L) {k : Nat} {t : Tk} (ht : J.ts[k]? = some t) (hf : firstF t.m 0 t.ws = none) : ¬ ∃ l, IsPlan J L l := by
  rintro ⟨l, hl⟩
  have hk := (List.getElem?_eq_some_iff.1 ht).1
  have h3 := hS.tk _ (List.mem_of_getElem? ht)
  have e := List.getElem?_eq_getElem (l := l) (i := k) (by rw [hl.len]; exact hk)
  obtain ⟨w, hw, h1, h2⟩ := fitsF_iff.1 (hl.fit k _ _ ht e)
  have := winF_mem h3.2.1 w hw
  obtain ⟨z, hz, _⟩ := firstF_least (k := 0) h3.1.1 h3.2.1 (hl.fit k _ _ ht e) (by omega)
  rw [hf] at hz; cases hz
theorem Log.dead (hS : Sound J L) {E : List (Re × Nat)} {ss : List Int} (h : Log J L E ss) {a : Af} {t : Tk} {x : Int} (ha : a ∈ L) (ht : J.ts[a.q.toNat]? = some t) (hx : ss[a.p.toNat]? = some x) (hf : firstF t.m (x + a.lag) t.ws = none) : ¬ ∃ l, IsPlan J L l := by
  rintro ⟨l, hl⟩
  have hp := hS.lk a ha
  have h3 := hS.tk _ (List.mem_of_getElem? ht)
  have e1 : l[a.p.toNat]? = some (l[a.p.toNat]'(by rw [hl.len]; omega)) := List.getElem?_eq_getElem _
  have e2 : l[a.q.toNat]? = some (l[a.q.toNat]'(by rw [hl.len]; omega)) := List.getElem?_eq_getElem _
  have h4 := h.low hS hl _ _ _ hx e1
  have h5 := hl.link a ha
  unfold sat at h5
  rw [at_of e1, at_of e2] at h5
  obtain ⟨z, hz, _⟩ := firstF_least (k := x + a.lag) h3.1.1 h3.2.1 (hl.fit _ _ _ ht e2) (by omega)
  rw [hf] at hz; cases hz
/-! ### chains of reasons -/
/-- A reason stands on the one before. -/
def Step (L : List Af) (r r' : Re) : Prop := r'.by_ = r.task ∧ ∃ a ∈ L, a.p = r.task ∧ a.q = r'.task ∧ r'.from_ = r.start + a.lag
/-- What each reason says of its own. -/
def Own (J : Jb) (r : Re) : Prop := ∃ t, J.ts[r.task.toNat]? = some t ∧ (0 ≤ r.task ∧ r.task < J.ts.length) ∧ firstF t.m r.from_ t.ws = some r.start
/-- A chain, the last reason first. -/
inductive Chain (J : Jb) (L : List Af) : List Re → Prop
  | one {r : Re} : r.by_ = -1 → r.from_ = 0 → Own J r → Chain J L [r]
  | more {r r' : Re} {c : List Re} : Step L r r' → Own J r' → Chain J L (r :: c) → Chain J L (r' :: r :: c)
def Grows (r r' : Re) : Prop := r.task = r'.task → r.start < r'.start
/-- The log as a list of reasons, each later one of a task greater. -/
theorem Log.cur (hS : Sound J L) {E : List (Re × Nat)} {ss : List Int} (h : Log J L E ss) :
    (∀ e ∈ E, (0 ≤ e.1.task ∧ e.1.task < J.ts.length) ∧ e.1.start ≤ at_ ss e.1.task ∧ 0 ≤ e.1.start) ∧ (E.map (·.1)).Pairwise Grows ∧
    (∀ (k : Nat) (x : Int), ss[k]? = some x → x = -1 ∨ ∃ (i : Nat) (e : Re × Nat), E[i]? = some e ∧ e.1.task = k ∧ e.1.start = x ∧ e.2 = lastp E k ∧ ∃ c, Chain J L (e.1 :: c) ∧ e.2 ≤ c.length ∧ (e.1 :: c).reverse.Sublist (E.map (·.1)) ) := by
  induction h with
  | nil => exact ⟨fun e he => (by cases he), List.Pairwise.nil, fun k x hx => .inl (List.eq_of_mem_replicate (List.mem_of_getElem? hx))⟩
  | @init E ss k t z h0 ht hk hf ih =>
    obtain ⟨i1, i2, i3⟩ := ih
    have hkl := (List.getElem?_eq_some_iff.1 ht).1
    have h3 := hS.tk _ (List.mem_of_getElem? ht)
    have hz := firstF_bd h3.1.1 h3.2.1 hf
    have hno : ∀ e ∈ E, e.1.task ≠ (k : Int) := fun e he e1 => by
      have := (i1 e he).2
      rw [e1, at_of (by simpa using hk)] at this; omega
    refine ⟨fun e he => ?_, ?_, fun j x hx => ?_⟩
    · rcases List.mem_append.1 he with he | he
      · have := i1 e he
        have hne := hno e he
        refine ⟨this.1, ?_, this.2.2⟩
        have e2 : at_ (ss.set k z) e.1.task = at_ ss e.1.task := by
          unfold at_; simp only [List.getD]; rw [List.getElem?_set_ne (by omega)]
        rw [e2]; exact this.2.1
      · simp at he; subst he
        refine ⟨⟨by dsimp only; omega, by dsimp only; omega⟩, ?_, hz.2.1⟩
        dsimp only
        rw [at_of (x := z) (by rw [Int.toNat_natCast, List.getElem?_set_self (List.getElem?_eq_some_iff.1 hk).1])]; omega
    · rw [List.map_append]
      refine List.pairwise_append.2 ⟨i2, by simp, fun r hr r' hr' e => ?_⟩
      obtain ⟨e1, he1, rfl⟩ := List.mem_map.1 hr
      simp at hr'; subst hr'
      exact absurd e (hno e1 he1)
    · rw [List.getElem?_set] at hx
      split at hx
      · rename_i e; subst e
        split at hx
        · injection hx with hx; subst hx
          refine .inr ⟨E.length, (⟨(k : Int), -1, 0, z⟩, 0), by simp, rfl, rfl, by rw [lastp_snoc]; simp, [], .one rfl rfl ⟨t, by simpa using ht, ⟨by dsimp only; omega, by dsimp only; omega⟩, hf⟩, Nat.zero_le _, ?_⟩
          rw [List.map_append]; simp
        · cases hx
      · rename_i hne
        rcases i3 j x hx with h1 | ⟨i, e, h1, h2, h3', h4, c, h5, h6, h7⟩
        · exact .inl h1
        · refine .inr ⟨i, e, ?_, h2, h3', ?_, c, h5, h6, ?_⟩
          · rw [List.getElem?_append_left (List.getElem?_eq_some_iff.1 h1).1]; exact h1
          · rw [lastp_snoc, if_neg (by dsimp only; omega)]; exact h4
          · rw [List.map_append]; exact h7.trans (List.sublist_append_left _ _)
  | @raise E ss a t x' y' z n h0 ha ht hx' hx0 hy' hy0 hlt hf hn ih =>
    obtain ⟨i1, i2, i3⟩ := ih
    have hkl := (List.getElem?_eq_some_iff.1 ht).1
    have h3 := hS.tk _ (List.mem_of_getElem? ht)
    have hlk := hS.lk a ha
    have hz := firstF_bd h3.1.1 h3.2.1 hf
    have hset : (ss.set a.q.toNat z)[a.q.toNat]? = some z := by rw [List.getElem?_set_self (List.getElem?_eq_some_iff.1 hy').1]
    refine ⟨fun e he => ?_, ?_, fun j x hx => ?_⟩
    · rcases List.mem_append.1 he with he | he
      · have h4 := i1 e he
        refine ⟨h4.1, ?_, h4.2.2⟩
        by_cases e1 : e.1.task = a.q
        · have := h4.2.1
          rw [e1, at_of hy'] at this
          rw [e1, at_of hset]; omega
        · have e2 : at_ (ss.set a.q.toNat z) e.1.task = at_ ss e.1.task := by
            unfold at_; simp only [List.getD]; rw [List.getElem?_set_ne (by omega)]
          rw [e2]; exact h4.2.1
      · simp at he; subst he
        refine ⟨⟨hlk.2.1.1, hlk.2.1.2⟩, ?_, hz.2.1⟩
        dsimp only
        rw [at_of hset]; omega
    · rw [List.map_append]
      refine List.pairwise_append.2 ⟨i2, by simp, fun r hr r' hr' e => ?_⟩
      obtain ⟨e1, he1, rfl⟩ := List.mem_map.1 hr
      simp at hr'; subst hr'
      have h4 := (i1 e1 he1).2.1
      dsimp only at e ⊢
      rw [e, at_of hy'] at h4; omega
    · rw [List.getElem?_set] at hx
      split at hx
      · rename_i e; subst e
        split at hx
        · injection hx with hx; subst hx
          rcases i3 _ _ hx' with h1 | ⟨i, e, h1, h2, h3', h4, c, h5, h6, h7⟩
          · omega
          · have e3 : e.1.task = a.p := by rw [h2]; omega
            refine .inr ⟨E.length, (⟨a.q, a.p, x' + a.lag, z⟩, n), by simp, by dsimp only; omega, rfl, by rw [lastp_snoc, if_pos (by dsimp only; omega)], e.1 :: c, .more ⟨e3.symm, a, ha, e3.symm, rfl, by rw [h3']⟩ ⟨t, ht, ⟨hlk.2.1.1, hlk.2.1.2⟩, hf⟩ h5, ?_, ?_⟩
            · have e4 : ((a.p.toNat : Nat) : Int) = a.p := by omega
              rw [e4] at h4
              simp only [List.length_cons]; omega
            · rw [List.map_append, List.reverse_cons]
              exact h7.append (List.Sublist.refl _)
        · cases hx
      · rename_i hne
        rcases i3 j x hx with h1 | ⟨i, e, h1, h2, h3', h4, c, h5, h6, h7⟩
        · exact .inl h1
        · refine .inr ⟨i, e, ?_, h2, h3', ?_, c, h5, h6, ?_⟩
          · rw [List.getElem?_append_left (List.getElem?_eq_some_iff.1 h1).1]; exact h1
          · rw [lastp_snoc, if_neg (by dsimp only; omega)]; exact h4
          · rw [List.map_append]; exact h7.trans (List.sublist_append_left _ _)
end
end Go.Proofs.Ytdmkedbmoboamaa
