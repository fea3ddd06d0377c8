/- The plain law of the reference's search for circles: it finds every one. No program in sight. -/
import Derived.Test.YtdmkedbmoboamaaPZ
namespace Go.Proofs.Ytdmkedbmoboamaa
set_option linter.unusedVariables false
set_option linter.unusedSimpArgs false
set_option linter.unnecessarySimpa false
/-- Walks from v of at most k links, with their gain. -/
inductive Wk (L : List Af) (v : Int) : Nat → Int → Int → Prop
  | zero : Wk L v 0 v 0
  | step {k : Nat} {p s : Int} {a : Af} : Wk L v k p s → a ∈ L → a.p = p → Wk L v (k + 1) a.q (s + a.lag)
  | stay {k : Nat} {q s : Int} : Wk L v k q s → Wk L v (k + 1) q s
def LowI (L : List Af) (v : Nat) (k : Nat) (ls : List Int) : Prop := ∀ q s, Wk L v k q s → ∃ x, ls[q.toNat]? = some x ∧ s ≤ x
def LowJ (L : List Af) (v : Nat) (k c : Nat) (l2 : List Int) : Prop := LowI L v k l2 ∧ ∀ (i : Nat) (a : Af), i < c → L[i]? = some a → ∀ s, Wk L v k a.p s → ∃ x, l2[a.q.toNat]? = some x ∧ s + a.lag ≤ x
theorem Wk.low {n : Nat} {L : List Af} (hlk : Lk n L) {v : Int} {k : Nat} {q s : Int} (h : Wk L v k q s) : -((k : Int) * 2097152) ≤ s := by
  induction h with
  | zero => simp
  | step _ ha _ ih => have := hlk _ ha; omega
  | stay _ ih => omega
theorem LowI.start {L : List Af} {v : Nat} {ls : List Int} {x : Int} (hx : ls[v]? = some x) : LowI L v 0 (ls.set v 0) := fun q s h => by
  cases h
  exact ⟨0, by rw [List.getElem?_set, if_pos (by omega), if_pos (by have := (List.getElem?_eq_some_iff.1 hx).1; omega)], Int.le_refl _⟩
theorem LowJ.start {L : List Af} {v k : Nat} {ls : List Int} (h : LowI L v k ls) : LowJ L v k 0 ls := ⟨h, fun i a hi => by omega⟩
theorem LowJ.skip {n : Nat} {L : List Af} (hlk : Lk n L) {v k c : Nat} {ls l2 : List Int} (hk : k ≤ 24) (hI : LowI L v k ls) (h : LowJ L v k c l2) {a : Af} {x : Int} (ha : L[c]? = some a) (hp : ls[a.p.toNat]? = some x) (hx : ¬ -1125899906842624 < x) : LowJ L v k (c + 1) l2 :=
  ⟨h.1, fun i b hi hb s hs => by
    by_cases e : i = c
    · subst e
      rw [ha] at hb; injection hb with hb; subst hb
      obtain ⟨x', h1, h2⟩ := hI _ _ hs
      rw [hp] at h1; injection h1 with h1; subst h1
      have := hs.low hlk
      omega
    · exact h.2 i b (by omega) hb s hs⟩
theorem LowJ.set {L : List Af} {v k c : Nat} {ls l2 : List Int} (hI : LowI L v k ls) (h : LowJ L v k c l2) {a : Af} {x y : Int} (ha : L[c]? = some a) (hp : ls[a.p.toNat]? = some x) (hq : l2[a.q.toNat]? = some y) : LowJ L v k (c + 1) (l2.set a.q.toNat (max y (x + a.lag))) := by
  have hlt := (List.getElem?_eq_some_iff.1 hq).1
  have up : ∀ (q : Nat) (z : Int), l2[q]? = some z → ∃ z', (l2.set a.q.toNat (max y (x + a.lag)))[q]? = some z' ∧ z ≤ z' := fun q z hz => by
    rw [List.getElem?_set]
    split
    · rename_i e; subst e
      rw [hq] at hz; injection hz with hz; subst hz
      (try rw [if_pos hlt])
      exact ⟨_, rfl, by omega⟩
    · exact ⟨z, hz, Int.le_refl _⟩
  refine ⟨fun q s hs => ?_, fun i b hi hb s hs => ?_⟩
  · obtain ⟨z, h1, h2⟩ := h.1 q s hs
    obtain ⟨z', h3, h4⟩ := up _ _ h1
    exact ⟨z', h3, by omega⟩
  · by_cases e : i = c
    · subst e
      rw [ha] at hb; injection hb with hb; subst hb
      obtain ⟨x', h1, h2⟩ := hI _ _ hs
      rw [hp] at h1; injection h1 with h1; subst h1
      exact ⟨_, by rw [List.getElem?_set, if_pos rfl, if_pos hlt], by omega⟩
    · obtain ⟨z, h1, h2⟩ := h.2 i b (by omega) hb s hs
      obtain ⟨z', h3, h4⟩ := up _ _ h1
      exact ⟨z', h3, by omega⟩
theorem LowJ.done {L : List Af} {v k c : Nat} {l2 : List Int} (h : LowJ L v k c l2) (hc : ¬ (c : Int) < (L.length : Int)) : LowI L v (k + 1) l2 := fun q s hs => by
  cases hs with
  | @step _ p s a h1 ha e =>
    obtain ⟨i, hi⟩ := List.mem_iff_getElem?.1 ha
    exact h.2 i a (by have := (List.getElem?_eq_some_iff.1 hi).1; omega) hi _ (by rw [e]; exact h1)
  | stay h1 => exact h.1 q s h1
/-- No closed walk from the first tasks gains. -/
def NoGain (L : List Af) (n v : Nat) : Prop := ∀ u : Nat, u < v → ∀ s, Wk L u n u s → s ≤ 0
theorem NoGain.next {L : List Af} {n v : Nat} {ls : List Int} (h : NoGain L n v) (hW : LowI L v n ls) {x : Int} (hx : ls[v]? = some x) (hp : ¬ 0 < x) : NoGain L n (v + 1) := fun u hu s hs => by
  by_cases e : u = v
  · subst e
    obtain ⟨x', h1, h2⟩ := hW _ _ hs
    rw [show ((u : Int)).toNat = u from by omega, hx] at h1
    injection h1 with h1; omega
  · exact h u (by omega) s hs
theorem Wk.stays {L : List Af} {v : Int} {k : Nat} {q s : Int} (h : Wk L v k q s) : ∀ d, Wk L v (k + d) q s
  | 0 => h
  | d + 1 => .stay (h.stays d)
theorem posC_wk {n : Nat} {L : List Af} {c : List Int} (h : PosC n L c) : ∃ (u : Nat) (s : Int), u < n ∧ Wk L u n u s ∧ 0 < s := by
  have hlen := posC_len h
  obtain ⟨h0, hn, hr, g, hl, hp⟩ := h
  obtain ⟨z, r, rfl⟩ : ∃ z r, c = z :: r := by
    cases c with
    | nil => exact absurd rfl h0
    | cons z r => exact ⟨z, r, rfl⟩
  have hz := hr z (by simp)
  have key : ∀ (i : Nat) (x : Int), (z :: r)[i]? = some x → Wk L z i x ((((z :: r).take (i + 1)).map g).sum - g z) := by
    intro i
    induction i with
    | zero => intro x hx; simp at hx; subst hx; simp; exact .zero
    | succ i ih =>
      intro x hx
      have hi := (List.getElem?_eq_some_iff.1 hx).1
      obtain ⟨y, hy⟩ : ∃ y, (z :: r)[i]? = some y := ⟨_, List.getElem?_eq_getElem (by omega)⟩
      obtain ⟨a, ha, e1, e2, e3⟩ := hl i y x hy (by rw [Nat.mod_eq_of_lt hi]; exact hx)
      have h1 := Wk.step (ih y hy) ha e1
      rw [e2] at h1
      rw [take_snoc hx, List.map_append, List.sum_append]
      simp only [List.map_cons, List.map_nil, List.sum_cons, List.sum_nil] at h1 ⊢
      have e4 : (g x : Int) = a.lag := e3.symm
      have e5 : (((z :: r).take (i + 1)).map g).sum - g z + a.lag = (((z :: r).take (i + 1)).map g).sum + (g x + 0) - g z := by omega
      rw [e5] at h1; exact h1
  obtain ⟨y, hy⟩ : ∃ y, (z :: r)[r.length]? = some y := ⟨_, List.getElem?_eq_getElem (by simp)⟩
  obtain ⟨a, ha, e1, e2, e3⟩ := hl r.length y z hy (by simp)
  have h1 := Wk.step (key r.length y hy) ha e1
  rw [e2, List.take_of_length_le (by simp)] at h1
  have h2 := h1.stays (n - (r.length + 1))
  rw [show r.length + 1 + (n - (r.length + 1)) = n from by simp at hlen; omega] at h2
  refine ⟨z.toNat, _, by omega, by rw [show ((z.toNat : Nat) : Int) = z from by omega]; exact h2, by omega⟩
theorem NoGain.no {L : List Af} {n : Nat} (h : NoGain L n n) (c : List Int) : ¬ PosC n L c := fun hc => by
  obtain ⟨u, s, hu, hw, hs⟩ := posC_wk hc
  have := h u hu s hw
  omega
def WhyE (J : Jb) (os : List Rw) (k e : Int) : Prop := (¬ chkO J os = 0 ∧ e = chkO J os) ∨ (chkO J os = 0 ∧ (((k < 0 ∨ (J.ts.length : Int) ≤ k) ∧ e = 3) ∨ ((0 ≤ k ∧ k < J.ts.length) ∧ ((e = 16 ∧ ∀ π, Pot (linksF J os) π → False) ∨ (e = 0 ∧ ∀ c, ¬ PosC J.ts.length (linksF J os) c)))))
def CircE (J : Jb) (os : List Rw) (e : Int) : Prop := (¬ chkO J os = 0 ∧ e = chkO J os) ∨ (chkO J os = 0 ∧ ((e = 15 ∧ ∀ c, ¬ PosC J.ts.length (linksF J os) c) ∨ (e = 0 ∧ ∀ π, Pot (linksF J os) π → False)))
end Go.Proofs.Ytdmkedbmoboamaa
