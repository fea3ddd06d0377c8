/- The plain law of orders: a row is the team's members in some order, just where it is as long, each of its tasks is the team's, and none comes twice. No program in sight. -/
import Derived.Test.YtdmkedbmoboamaaA3
import Derived.Test.YtdmkedbmoboamaaSortC
namespace Go.Proofs.Ytdmkedbmoboamaa
set_option linter.unusedVariables false
set_option linter.unusedSimpArgs false
def teamAt (ts : List Tk) (x : Int) (t : Int) : Prop := ∃ k, ts[x.toNat]? = some k ∧ k.team = t
/-- At place j of a row stands a task of the team that has not come before. -/
def okPos (J : Jb) (t : Int) (xs : List Int) (j : Nat) : Prop := ∃ x, xs[j]? = some x ∧ (0 ≤ x ∧ x < J.ts.length) ∧ teamAt J.ts x t ∧ (xs.take j).any (fun y => decide (y = x)) = false
theorem memF_mem {k : Int} : ∀ {ts : List Tk} {i : Nat} {x : Int}, x ∈ memF k i ts ↔ ∃ j t, ts[j]? = some t ∧ t.team = k ∧ x = ((i + j : Nat) : Int)
  | [], i, x => by simp [memF]
  | t :: r, i, x => by
    have ih := memF_mem (k := k) (ts := r) (i := i + 1) (x := x)
    have e : ((i : Nat) : Int) + 1 = ((i + 1 : Nat) : Int) := by omega
    have key : (∃ j u, (t :: r)[j]? = some u ∧ u.team = k ∧ x = ((i + j : Nat) : Int)) ↔ (t.team = k ∧ x = (i : Int)) ∨ ∃ j u, r[j]? = some u ∧ u.team = k ∧ x = ((i + 1 + j : Nat) : Int) := by
      constructor
      · rintro ⟨j, u, h1, h2, h3⟩
        cases j with
        | zero => simp at h1; subst h1; exact .inl ⟨h2, by simpa using h3⟩
        | succ j => exact .inr ⟨j, u, by simpa using h1, h2, by rw [h3]; congr 1; omega⟩
      · rintro (⟨h1, h2⟩ | ⟨j, u, h1, h2, h3⟩)
        · exact ⟨0, t, rfl, h1, by simpa using h2⟩
        · exact ⟨j + 1, u, by simpa using h1, h2, by rw [h3]; congr 1; omega⟩
    rw [key, memF, e]
    split
    · rename_i h; rw [List.mem_cons, ih]; simp [h]
    · rename_i h; rw [ih]; simp [h]
theorem memF_sorted {k : Int} : ∀ {ts : List Tk} {i : Nat}, (memF k i ts).Pairwise (· < ·)
  | [], i => by simp [memF]
  | t :: r, i => by
    have ih := memF_sorted (k := k) (ts := r) (i := i + 1)
    have e : ((i : Nat) : Int) + 1 = ((i + 1 : Nat) : Int) := by omega
    rw [memF, e]
    split
    · refine List.pairwise_cons.2 ⟨fun x hx => ?_, ih⟩
      obtain ⟨j, u, _, _, rfl⟩ := memF_mem.1 hx; omega
    · exact ih
theorem nodup_perm : ∀ {xs ys : List Int}, xs.Nodup → (∀ x ∈ xs, x ∈ ys) → ys.length ≤ xs.length → xs.Perm ys
  | [], ys, _, _, h => by
    have : ys = [] := List.eq_nil_of_length_eq_zero (by simpa using h)
    rw [this]
  | x :: r, ys, hn, hm, h => by
    have hx : x ∈ ys := hm x (by simp)
    have hn' := List.nodup_cons.1 hn
    refine (List.Perm.cons x (nodup_perm hn'.2 (fun z hz => ?_) ?_)).trans (List.perm_cons_erase hx).symm
    · exact (List.mem_erase_of_ne (fun e => by subst e; exact hn'.1 hz)).2 (hm z (by simp [hz]))
    · rw [List.length_erase_of_mem hx]; simp at h; omega
theorem sortI_perm (xs : List Int) : (sortI xs).Perm xs := List.mergeSort_perm xs _
theorem sortI_sorted (xs : List Int) : (sortI xs).Pairwise (· ≤ ·) := by
  have h := List.pairwise_mergeSort (le := fun x y : Int => decide (x ≤ y)) (fun a b c h1 h2 => by simp only [decide_eq_true_eq] at *; omega) (fun a b => by simp only [Bool.or_eq_true, decide_eq_true_eq]; omega) xs
  exact h.imp (by simp)
theorem sortI_eq {xs ys : List Int} (hy : ys.Pairwise (· < ·)) (h : xs.Perm ys) : sortI xs = ys :=
  List.Perm.eq_of_pairwise (le := fun a b => a ≤ b) (fun a b _ _ h1 h2 => by omega) (sortI_sorted xs) (hy.imp (by intro a b h; omega)) ((sortI_perm xs).trans h)
theorem nodup_of_take {xs : List Int} (h : ∀ j, j < xs.length → ∃ x, xs[j]? = some x ∧ (xs.take j).any (fun y => decide (y = x)) = false) : xs.Nodup := by
  rw [List.nodup_iff_pairwise_ne, List.pairwise_iff_getElem]
  intro i j hi hj hij e
  obtain ⟨x, hx, hno⟩ := h j hj
  have hx' : xs[j] = x := by
    have := (List.getElem?_eq_some_iff.1 hx).2; exact this
  have : x ∈ xs.take j := by
    rw [List.mem_iff_getElem?]
    exact ⟨i, by rw [List.getElem?_take_of_lt hij, List.getElem?_eq_getElem hi, e, hx']⟩
  have := List.any_eq_false.1 hno x this
  simp at this
theorem row_good {J : Jb} {t : Nat} {xs : List Int} (hl : xs.length = (memF t 0 J.ts).length) (h : ∀ j, j < xs.length → okPos J t xs j) : sortI xs = memF t 0 J.ts := by
  refine sortI_eq (by exact_mod_cast memF_sorted (i := 0)) (nodup_perm (nodup_of_take fun j hj => ?_) (fun x hx => ?_) (by omega))
  · obtain ⟨x, h1, _, _, h2⟩ := h j hj; exact ⟨x, h1, h2⟩
  · obtain ⟨j, hj⟩ := List.mem_iff_getElem?.1 hx
    obtain ⟨y, h1, h2, ⟨k, hk, ht⟩, _⟩ := h j (List.getElem?_eq_some_iff.1 hj).1
    rw [hj] at h1; injection h1 with h1; subst h1
    exact (memF_mem (i := 0)).2 ⟨x.toNat, k, hk, ht, by omega⟩
theorem row_len {J : Jb} {t : Int} {xs : List Int} (h : sortI xs = memF t 0 J.ts) : xs.length = (memF t 0 J.ts).length := by
  rw [← h]; simp [sortI]
theorem row_pos {J : Jb} {t : Int} {xs : List Int} (h : sortI xs = memF t 0 J.ts) {j : Nat} (hj : j < xs.length) : okPos J t xs j := by
  have hp : (memF t 0 J.ts).Perm xs := h ▸ sortI_perm xs
  refine ⟨xs[j], List.getElem?_eq_getElem hj, ?_⟩
  obtain ⟨i, u, h1, h2, h3⟩ := (memF_mem (i := 0)).1 (hp.mem_iff.2 (List.getElem_mem hj))
  have hlt := (List.getElem?_eq_some_iff.1 h1).1
  refine ⟨by omega, ⟨u, by rw [h3]; simpa using h1, h2⟩, ?_⟩
  have hn : xs.Nodup := hp.nodup_iff.1 (by
    have := memF_sorted (k := t) (ts := J.ts) (i := 0)
    exact List.nodup_iff_pairwise_ne.2 (this.imp (by intro a b h; omega)))
  rw [List.nodup_iff_pairwise_ne, List.pairwise_iff_getElem] at hn
  refine List.any_eq_false.2 fun y hy => ?_
  obtain ⟨k, hk⟩ := List.mem_iff_getElem?.1 hy
  have hkl := (List.getElem?_eq_some_iff.1 hk).1
  rw [List.length_take] at hkl
  rw [List.getElem?_take_of_lt (by omega), List.getElem?_eq_getElem (by omega)] at hk
  injection hk with hk
  have := hn k j (by omega) hj (by omega)
  simp only [decide_eq_true_eq]; rw [← hk]; exact this
/-- Whether a row, from team t on, is not the team's. -/
def badR (J : Jb) : Int → List Rw → Bool
  | _, [] => false
  | t, r :: rs => if sortI r.xs = memF t 0 J.ts then badR J (t + 1) rs else true
/-- What is wrong with an order. -/
def chkO (J : Jb) (os : List Rw) : Int := if chkF J = 0 then (if (os.length : Int) = (J.gs.length : Int) then (if badR J 0 os = true then 2 else 0) else 17) else chkF J
theorem badR_ok {J : Jb} : ∀ {os : List Rw} {t : Int}, badR J t os = false → ∀ (i : Nat) (r : Rw), os[i]? = some r → sortI r.xs = memF (t + i) 0 J.ts
  | [], t, _, i, r, h => by simp at h
  | x :: os, t, hb, i, r, h => by
    rw [badR] at hb
    split at hb
    · rename_i he
      cases i with
      | zero => simp at h; subst h; simpa using he
      | succ i =>
        have := badR_ok hb i r (by simpa using h)
        rw [this]; congr 1; omega
    · cases hb
theorem OrdOk.of {J : Jb} {os : List Rw} (h : chkO J os = 0) : JobOk J ∧ OrdOk J os ∧ ∀ (i : Nat) (r : Rw), os[i]? = some r → sortI r.xs = memF i 0 J.ts := by
  unfold chkO at h
  split at h
  · rename_i h0
    have hK := JobOk.of h0
    split at h
    · rename_i h1
      split at h
      · cases h
      · rename_i h2
        have h3 := badR_ok (by simpa using h2)
        refine ⟨hK, ⟨by omega, fun r hr => ?_, fun r hr x hx => ?_⟩, fun i r hi => by simpa using h3 i r hi⟩
        · obtain ⟨i, hi⟩ := List.mem_iff_getElem?.1 hr
          have := row_len (h3 i r hi)
          have := memF_le ((0 : Int) + i) 0 J.ts
          have := hK.nts; omega
        · obtain ⟨i, hi⟩ := List.mem_iff_getElem?.1 hr
          obtain ⟨j, hj⟩ := List.mem_iff_getElem?.1 hx
          obtain ⟨y, h4, h5, _⟩ := row_pos (h3 i r hi) (List.getElem?_eq_some_iff.1 hj).1
          rw [hj] at h4; injection h4 with h4; subst h4; exact h5
    · cases h
  · rename_i h0; exact absurd h h0
end Go.Proofs.Ytdmkedbmoboamaa
