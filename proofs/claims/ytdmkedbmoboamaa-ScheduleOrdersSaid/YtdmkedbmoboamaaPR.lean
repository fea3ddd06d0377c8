/- The plain law of the reference's earliest plan: gains of walks, starts raised until nothing changes. No program in sight. -/
import Derived.Test.YtdmkedbmoboamaaPG
namespace Go.Proofs.Ytdmkedbmoboamaa
open Go.Kx
set_option linter.unusedVariables false
set_option linter.unusedSimpArgs false
set_option linter.unnecessarySimpa false
theorem set_belowC {ss : List Int} {i k : Nat} {x z : Int} (h : ∀ k, k < i → ss[k]? = some z) (hx : ss[i]? = some x) (hk : k < i + 1) : (ss.set i z)[k]? = some z := by
  rw [List.getElem?_set]
  split
  · rw [if_pos (List.getElem?_eq_some_iff.1 hx).1]
  · exact h k (by omega)
/-- Gains of walks from v, as far as known after k rounds. -/
structure PosI (n : Nat) (L : List Af) (v k : Nat) (ls : List Int) : Prop where
  len : ls.length = n
  bd : ∀ x ∈ ls, -1125899906842624 ≤ x ∧ x ≤ (k : Int) * 2097152
  walk : ∀ π, Pot L π → ∀ (q : Nat) (x : Int), ls[q]? = some x → x = -1125899906842624 ∨ π v + x ≤ π q
theorem PosI.start {n : Nat} {L : List Af} {v : Nat} {ls : List Int} {x : Int} (hl : ls.length = n) (h : ∀ k, k < n → ls[k]? = some (-1125899906842624)) (hx : ls[v]? = some x) : PosI n L v 0 (ls.set v 0) := by
  refine ⟨by simpa using hl, fun y hy => ?_, fun π hπ q y hy => ?_⟩
  · rcases List.mem_or_eq_of_mem_set hy with h1 | h1
    · obtain ⟨j, hj⟩ := List.mem_iff_getElem?.1 h1
      have hlt := (List.getElem?_eq_some_iff.1 hj).1
      rw [h j (by omega)] at hj; injection hj with hj; omega
    · omega
  · rw [List.getElem?_set] at hy
    split at hy
    · rename_i e; subst e
      split at hy
      · injection hy with hy; right; omega
      · cases hy
    · have hlt := (List.getElem?_eq_some_iff.1 hy).1
      rw [h q (by omega)] at hy; injection hy with hy; exact .inl hy.symm
theorem PosI.mono {n : Nat} {L : List Af} {v k : Nat} {ls : List Int} (h : PosI n L v k ls) : PosI n L v (k + 1) ls :=
  ⟨h.len, fun x hx => by have := h.bd x hx; omega, h.walk⟩
theorem PosI.step {n : Nat} {L : List Af} {v k : Nat} {ls l2 : List Int} (h : PosI n L v k ls) (h2 : PosI n L v (k + 1) l2) (hlk : Lk n L) {a : Af} {x y : Int} (ha : a ∈ L) (hp : ls[a.p.toNat]? = some x) (hq : l2[a.q.toNat]? = some y) (hx : -1125899906842624 < x) :
    PosI n L v (k + 1) (l2.set a.q.toNat (max y (x + a.lag))) := by
  obtain ⟨h3, h4, h5, h6⟩ := hlk a ha
  have hbx := h.bd x (List.mem_of_getElem? hp)
  have hby := h2.bd y (List.mem_of_getElem? hq)
  refine ⟨by simpa using h2.len, fun z hz => ?_, fun π hπ q z hz => ?_⟩
  · rcases List.mem_or_eq_of_mem_set hz with h1 | h1
    · exact h2.bd z h1
    · omega
  · rw [List.getElem?_set] at hz
    split at hz
    · rename_i e; subst e
      split at hz
      · injection hz with hz
        have e1 := (h.walk π hπ _ x hp).resolve_left (by omega)
        have e2 := hπ a ha
        have e3 := h2.walk π hπ _ y hq
        rw [show ((a.p.toNat : Nat) : Int) = a.p from by omega] at e1
        rw [show ((a.q.toNat : Nat) : Int) = a.q from by omega] at e3 ⊢
        by_cases c : y ≤ x + a.lag
        · right; omega
        · rw [show z = y from by omega]
          exact e3
      · cases hz
    · exact h2.walk π hπ q z hz
theorem PosI.no {n : Nat} {L : List Af} {v k : Nat} {ls : List Int} (h : PosI n L v k ls) {x : Int} (hx : ls[v]? = some x) (hp : 0 < x) {π : Int → Int} (hπ : Pot L π) : False := by
  rcases h.walk π hπ v x hx with e | e <;> omega
theorem Pot.of_plan {J : Jb} {L : List Af} {l : List Int} (h : IsPlan J L l) : Pot L (fun k => at_ l k) := fun a ha => h.link a ha
/-! ### starts raised -/
structure RelI (J : Jb) (L : List Af) (ls : List Int) : Prop where
  len : ls.length = J.ts.length
  fit : ∀ (k : Nat) (t : Tk) (x : Int), J.ts[k]? = some t → ls[k]? = some x → fitsF t.m x t.ws = true
  low : ∀ l', IsPlan J L l' → ∀ (k : Nat) (x y : Int), ls[k]? = some x → l'[k]? = some y → x ≤ y
def room (ls : List Int) : Nat := (ls.map fun x => (1099511627777 - x).toNat).sum
theorem room_set : ∀ {ls : List Int} {i : Nat} {x z : Int}, ls[i]? = some x → x < z → x ≤ 1099511627776 → room (ls.set i z) < room ls
  | [], i, x, z, h, _, _ => by simp at h
  | y :: r, 0, x, z, h, hz, hb => by
    simp at h; subst h
    simp only [room, List.set_cons_zero, List.map_cons, List.sum_cons]; omega
  | y :: r, i + 1, x, z, h, hz, hb => by
    have := room_set (ls := r) (i := i) (by simpa using h) hz hb
    simp only [room, List.set_cons_succ, List.map_cons, List.sum_cons] at *; omega
/-- The first fits of the first tasks. -/
structure FstI (J : Jb) (i : Nat) (ls : List Int) : Prop where
  len : ls.length = i
  fst : ∀ (k : Nat) (t : Tk) (x : Int), J.ts[k]? = some t → ls[k]? = some x → firstF t.m 0 t.ws = some x
theorem FstI.start {J : Jb} : FstI J 0 [] := ⟨rfl, fun k t x _ h => by simp at h⟩
theorem FstI.next {J : Jb} {i : Nat} {ls : List Int} (h : FstI J i ls) {t : Tk} (ht : J.ts[i]? = some t) {z : Int} (hz : firstF t.m 0 t.ws = some z) : FstI J (i + 1) (ls ++ [z]) :=
  ⟨by simp [h.len], fun k u x hu hx => by
    by_cases e : k < ls.length
    · rw [List.getElem?_append_left e] at hx; exact h.fst k u x hu hx
    · rw [List.getElem?_append_right (by omega)] at hx
      have hk := (List.getElem?_eq_some_iff.1 hx).1
      simp at hk
      have e2 : k = i := by have := h.len; omega
      subst e2
      rw [h.len] at hx; simp at hx; subst hx
      rw [ht] at hu; injection hu with hu; subst hu; exact hz⟩
section
variable {J : Jb} {L : List Af}
theorem plan_at (hS : Sound J L) {l' : List Int} (hl : IsPlan J L l') {k : Nat} {t : Tk} (ht : J.ts[k]? = some t) : ∃ y, l'[k]? = some y ∧ fitsF t.m y t.ws = true ∧ 0 ≤ y := by
  have hk := (List.getElem?_eq_some_iff.1 ht).1
  have e := List.getElem?_eq_getElem (l := l') (i := k) (by rw [hl.len]; exact hk)
  have hf := hl.fit k t _ ht e
  obtain ⟨w, hw, h1, h2⟩ := fitsF_iff.1 hf
  have := winF_mem (hS.tk t (List.mem_of_getElem? ht)).2.1 w hw
  exact ⟨_, e, hf, by omega⟩
theorem FstI.done (hS : Sound J L) {ls : List Int} {i : Nat} (h : FstI J i ls) (hi : i = J.ts.length) : RelI J L ls := by
  subst hi
  refine ⟨h.len, fun k t x ht hx => firstF_fits (h.fst k t x ht hx), fun l' hl' k x y hx hy => ?_⟩
  have hk := (List.getElem?_eq_some_iff.1 hx).1
  rw [h.len] at hk
  have ht := List.getElem?_eq_getElem (l := J.ts) hk
  obtain ⟨y', hy', hf, h0⟩ := plan_at hS hl' ht
  rw [hy] at hy'; injection hy' with hy'; subst hy'
  have h3 := hS.tk _ (List.mem_of_getElem? ht)
  obtain ⟨z, hz, hle⟩ := firstF_least (k := 0) h3.1.1 h3.2.1 hf h0
  rw [h.fst k _ x ht hx] at hz; injection hz with hz; omega
theorem RelI.bd (hS : Sound J L) {ls : List Int} (h : RelI J L ls) : ∀ x ∈ ls, 0 ≤ x ∧ x ≤ 1099511627776 := fun x hx => by
  obtain ⟨k, hk⟩ := List.mem_iff_getElem?.1 hx
  have hlt := (List.getElem?_eq_some_iff.1 hk).1
  rw [h.len] at hlt
  have ht := List.getElem?_eq_getElem (l := J.ts) hlt
  obtain ⟨w, hw, h1, h2⟩ := fitsF_iff.1 (h.fit k _ x ht hk)
  have h3 := hS.tk _ (List.mem_of_getElem? ht)
  have := winF_mem h3.2.1 w hw
  omega
theorem RelI.step (hS : Sound J L) {ls : List Int} (h : RelI J L ls) {a : Af} {t : Tk} {x y : Int} (ha : a ∈ L) (ht : J.ts[a.q.toNat]? = some t) (hp : ls[a.p.toNat]? = some x) (hq : ls[a.q.toNat]? = some y) (hlt : y < x + a.lag) :
    (firstF t.m (x + a.lag) t.ws = none → ¬ ∃ l, IsPlan J L l) ∧ ∀ z, firstF t.m (x + a.lag) t.ws = some z → RelI J L (ls.set a.q.toNat z) ∧ room (ls.set a.q.toNat z) < room ls := by
  have h3 := hS.tk t (List.mem_of_getElem? ht)
  have key : ∀ l', IsPlan J L l' → ∃ y', l'[a.q.toNat]? = some y' ∧ ∃ z, firstF t.m (x + a.lag) t.ws = some z ∧ z ≤ y' := fun l' hl' => by
    obtain ⟨y', hy', hf, _⟩ := plan_at hS hl' ht
    have hlk := hS.lk a ha
    have e1 : l'[a.p.toNat]? = some (l'[a.p.toNat]'(by rw [hl'.len]; omega)) := List.getElem?_eq_getElem _
    have h4 := h.low l' hl' _ _ _ hp e1
    have h5 := hl'.link a ha
    unfold sat at h5
    rw [at_of e1, at_of hy'] at h5
    exact ⟨y', hy', firstF_least (k := x + a.lag) h3.1.1 h3.2.1 hf (by omega)⟩
  refine ⟨fun hf ⟨l', hl'⟩ => ?_, fun z hz => ?_⟩
  · obtain ⟨_, _, z, hz, _⟩ := key l' hl'
    rw [hf] at hz; cases hz
  · have hb := firstF_bd h3.1.1 h3.2.1 hz
    have hby := h.bd hS y (List.mem_of_getElem? hq)
    refine ⟨⟨by simpa using h.len, fun k u v hu hv => ?_, fun l' hl' k v v' hv hv' => ?_⟩, room_set hq (by omega) hby.2⟩
    · rw [List.getElem?_set] at hv
      split at hv
      · rename_i e; subst e
        split at hv
        · injection hv with hv; subst hv
          rw [ht] at hu; injection hu with hu; subst hu
          exact firstF_fits hz
        · cases hv
      · exact h.fit k u v hu hv
    · rw [List.getElem?_set] at hv
      split at hv
      · rename_i e; subst e
        split at hv
        · injection hv with hv; subst hv
          obtain ⟨y', hy', z', hz', hle⟩ := key l' hl'
          rw [hv'] at hy'; injection hy' with hy'; subst hy'
          rw [hz] at hz'; injection hz' with hz'; omega
        · cases hv
      · exact h.low l' hl' k v v' hv hv'
theorem RelI.least {ls : List Int} (h : RelI J L ls) (hs : ∀ a ∈ L, sat ls a) : IsLeast J L ls := ⟨⟨h.len, h.fit, hs⟩, h.low⟩
theorem first_dead (hS : Sound J L) {k : Nat} {t : Tk} (ht : J.ts[k]? = some t) (hf : firstF t.m 0 t.ws = none) : ¬ ∃ l, IsPlan J L l := Log.dead0 hS ht hf
end
/-- Within a pass: nothing changed and the links so far hold, or there is less room. -/
def PassR (L : List Af) (ls l2 : List Int) (again : Bool) (c : Nat) : Prop := (again = false → l2 = ls ∧ ∀ i a, i < c → L[i]? = some a → sat ls a) ∧ (again = true → room l2 < room ls)
theorem PassR.start {L : List Af} {ls : List Int} : PassR L ls ls false 0 := ⟨fun _ => ⟨rfl, fun i a h => by omega⟩, fun h => (by cases h)⟩
theorem PassR.skip {L : List Af} {ls l2 : List Int} {again : Bool} {c : Nat} (h : PassR L ls l2 again c) {a : Af} (ha : L[c]? = some a) (hs : sat l2 a) : PassR L ls l2 again (c + 1) :=
  ⟨fun e => by
    obtain ⟨h1, h2⟩ := h.1 e
    refine ⟨h1, fun i b hi hb => ?_⟩
    by_cases e2 : i = c
    · subst e2; rw [ha] at hb; injection hb with hb; subst hb; rw [← h1]; exact hs
    · exact h2 i b (by omega) hb, h.2⟩
theorem PassR.set {L : List Af} {ls l2 l3 : List Int} {again : Bool} {c : Nat} (h : PassR L ls l2 again c) (hr : room l3 < room l2) : PassR L ls l3 true (c + 1) :=
  ⟨fun e => (by cases e), fun _ => by
    cases again with
    | false => rw [← (h.1 rfl).1]; exact hr
    | true => have := h.2 rfl; omega⟩
theorem PassR.done {L : List Af} {ls l2 : List Int} {c : Nat} (h : PassR L ls l2 false c) (hc : ¬ (c : Int) < (L.length : Int)) : ∀ a ∈ L, sat l2 a := fun a ha => by
  obtain ⟨h1, h2⟩ := h.1 rfl
  obtain ⟨i, hi⟩ := List.mem_iff_getElem?.1 ha
  rw [h1]
  exact h2 i a (by have := (List.getElem?_eq_some_iff.1 hi).1; omega) hi
end Go.Proofs.Ytdmkedbmoboamaa
