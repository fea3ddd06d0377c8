/- The plain law of the engine's run: pass by pass, link by link. No program in sight. -/
import Derived.Test.YtdmkedbmoboamaaA6
namespace Go.Proofs.Ytdmkedbmoboamaa
set_option linter.unusedVariables false
set_option linter.unusedSimpArgs false
def DeadR (J : Jb) (L : List Af) (ss0 : List Int) (r : Re) : Prop :=
  r.start = -1 ∧ ∃ t, J.ts[r.task.toNat]? = some t ∧ (0 ≤ r.task ∧ r.task < J.ts.length) ∧ firstF t.m r.from_ t.ws = none ∧
    ((r.by_ = -1 ∧ r.from_ = 0) ∨ ∃ a ∈ L, a.p = r.by_ ∧ a.q = r.task ∧ ∃ x, ss0[a.p.toNat]? = some x ∧ 0 ≤ x ∧ r.from_ = x + a.lag ∧ 0 ≤ r.from_)
/-- What a run leaves behind. -/
def RunOk (J : Jb) (L : List Af) (ss : List Int) (lg : List Re) (b : Bool) : Prop := ∃ E ss0, Log J L E ss0 ∧
  ((b = true ∧ ss = ss0 ∧ lg = E.map (·.1) ∧ (∀ x ∈ ss, 0 ≤ x) ∧ ∀ a ∈ L, sat ss a) ∨ (b = false ∧ ∃ r, lg = E.map (·.1) ++ [r] ∧ DeadR J L ss0 r))
/-- The first starts, up to task i. -/
structure InitI (J : Jb) (L : List Af) (i : Nat) (ss : List Int) (lg : List Re) (E : List (Re × Nat)) : Prop where
  log : Log J L E ss
  lge : lg = E.map (·.1)
  len : E.length ≤ i
  neg : ∀ k, i ≤ k → k < J.ts.length → ss[k]? = some (-1)
  pos : ∀ (k : Nat) (x : Int), k < i → ss[k]? = some x → 0 ≤ x
  zero : ∀ e ∈ E, e.2 = 0
/-- Within pass n + 1, before link c. -/
structure PassI (J : Jb) (L : List Af) (n c : Nat) (ag : Bool) (ss : List Int) (lg : List Re) (E : List (Re × Nat)) : Prop where
  log : Log J L E ss
  lge : lg = E.map (·.1)
  pos : ∀ x ∈ ss, 0 ≤ x
  len : E.length ≤ 24 + 240 * n + c
  done : ∀ a ∈ L.take c, lastp E a.p < n + 1 → sat ss a
  todo : ∀ a ∈ L.drop c, lastp E a.p < n → sat ss a
  le : ∀ k, lastp E k ≤ n + 1
  no : ag = false → ∀ k, lastp E k ≤ n
  yes : ag = true → ∃ (k : Nat) (x : Int), ss[k]? = some x ∧ 0 ≤ x ∧ lastp E k = n + 1
/-- Behind n passes. -/
structure RestI (J : Jb) (L : List Af) (n : Nat) (ag : Bool) (ss : List Int) (lg : List Re) (E : List (Re × Nat)) : Prop where
  log : Log J L E ss
  lge : lg = E.map (·.1)
  pos : ∀ x ∈ ss, 0 ≤ x
  len : E.length ≤ 24 + 240 * n
  sats : ∀ a ∈ L, lastp E a.p < n → sat ss a
  le : ∀ k, lastp E k ≤ n
  bd : n ≤ 18457
  no : ag = false → ∀ a ∈ L, sat ss a
  yes : ag = true → n ≤ 18456
section
variable {J : Jb} {L : List Af}
theorem lastp_zero {E : List (Re × Nat)} (h : ∀ e ∈ E, e.2 = 0) (k : Int) : lastp E k = 0 := by
  have : ∀ (E : List (Re × Nat)) (z : Nat), z = 0 → (∀ e ∈ E, e.2 = 0) → E.foldl (fun acc e => if e.1.task = k then e.2 else acc) z = 0 := fun E => by
    induction E with
    | nil => intro z hz _; exact hz
    | cons e E ih =>
      intro z hz h
      rw [List.foldl_cons]
      refine ih _ ?_ fun e he => h e (by simp [he])
      split
      · exact h e (by simp)
      · exact hz
  exact this E 0 rfl h
theorem InitI.start : InitI J L 0 (List.replicate J.ts.length (-1)) [] [] :=
  ⟨.nil, rfl, Nat.le_refl _, fun k _ hk => by rw [List.getElem?_replicate, if_pos hk], fun k x hk => by omega, fun e he => by cases he⟩
theorem InitI.next (hS : Sound J L) {i : Nat} {ss : List Int} {lg : List Re} {E : List (Re × Nat)} (h : InitI J L i ss lg E) {t : Tk} (ht : J.ts[i]? = some t) {z : Int} {b : Bool} (hf : FirstR (firstF t.m 0 t.ws) z b) (hb : b = true) :
    InitI J L (i + 1) (ss.set i z) (lg ++ [⟨(i : Int), -1, 0, z⟩]) (E ++ [(⟨(i : Int), -1, 0, z⟩, 0)]) := by
  have hlt := (List.getElem?_eq_some_iff.1 ht).1
  rcases hf with ⟨hf, _⟩ | ⟨_, _, hb'⟩
  · have h3 := hS.tk _ (List.mem_of_getElem? ht)
    have hz := firstF_bd h3.1.1 h3.2.1 hf
    refine ⟨.init i t z h.log ht (h.neg i (Nat.le_refl _) hlt) hf, by rw [List.map_append, h.lge]; rfl, by rw [List.length_append]; have := h.len; simp; omega, fun k hk hk2 => ?_, fun k x hk hx => ?_, fun e he => ?_⟩
    · rw [List.getElem?_set_ne (by omega)]; exact h.neg k (by omega) hk2
    · rw [List.getElem?_set] at hx
      split at hx
      · split at hx
        · injection hx with hx; omega
        · cases hx
      · exact h.pos k x (by omega) hx
    · rcases List.mem_append.1 he with he | he
      · exact h.zero e he
      · simp at he; subst he; rfl
  · rw [hb] at hb'; cases hb'
theorem InitI.fail {i : Nat} {ss : List Int} {lg : List Re} {E : List (Re × Nat)} (h : InitI J L i ss lg E) {t : Tk} (ht : J.ts[i]? = some t) {z : Int} {b : Bool} (hf : FirstR (firstF t.m 0 t.ws) z b) (hb : b = false) {ss' : List Int} : RunOk J L ss' (lg ++ [⟨(i : Int), -1, 0, z⟩]) false := by
  have hlt := (List.getElem?_eq_some_iff.1 ht).1
  rcases hf with ⟨_, hb'⟩ | ⟨hf, hz, _⟩
  · rw [hb] at hb'; cases hb'
  · exact ⟨E, ss, h.log, .inr ⟨rfl, _, by rw [h.lge], hz, t, by simpa using ht, ⟨by dsimp only; omega, by dsimp only; omega⟩, hf, .inl ⟨rfl, rfl⟩⟩⟩
theorem InitI.rest (hn : J.ts.length ≤ 24) {ss : List Int} {lg : List Re} {E : List (Re × Nat)} {i : Nat} (h : InitI J L i ss lg E) (hi : J.ts.length ≤ i) (hi2 : i ≤ J.ts.length) : RestI J L 0 true ss lg E :=
  ⟨h.log, h.lge, fun x hx => by
    obtain ⟨k, hk⟩ := List.mem_iff_getElem?.1 hx
    have := (List.getElem?_eq_some_iff.1 hk).1
    rw [h.log.len] at this
    exact h.pos k x (by omega) hk, by have := h.len; omega, fun a _ h => by omega, fun k => by rw [lastp_zero h.zero]; exact Nat.le_refl _, by omega, (fun h => by cases h), fun _ => by omega⟩
theorem RestI.pass {n : Nat} {ss : List Int} {lg : List Re} {E : List (Re × Nat)} {ag : Bool} (h : RestI J L n ag ss lg E) : PassI J L n 0 false ss lg E :=
  ⟨h.log, h.lge, h.pos, by have := h.len; omega, fun a ha => by simp at ha, fun a ha hl => h.sats a (by simpa using ha) hl, fun k => by have := h.le k; omega, fun _ k => h.le k, (fun h => by cases h)⟩
theorem PassI.rest (hS : Sound J L) (hn : J.ts.length ≤ 24) {π : Int → Int} (hπ : Pot L π) (hL : L.length ≤ 240) {n c : Nat} {ag : Bool} {ss : List Int} {lg : List Re} {E : List (Re × Nat)} (h : PassI J L n c ag ss lg E) (hc : L.length ≤ c) (hc2 : c ≤ L.length) (hb : n ≤ 18456) : RestI J L (n + 1) ag ss lg E := by
  have hd : ∀ a ∈ L, lastp E a.p < n + 1 → sat ss a := fun a ha => h.done a (by rw [List.take_of_length_le hc]; exact ha)
  refine ⟨h.log, h.lge, h.pos, by have := h.len; omega, hd, h.le, by omega, fun hg a ha => hd a ha (by have := h.no hg a.p; omega), fun hg => ?_⟩
  obtain ⟨k, x, hx, h0, hk⟩ := h.yes hg
  have := lastp_le hS hn hπ h.log hx h0
  omega
theorem at_set_ne {l : List Int} {k : Int} {j : Nat} {z : Int} (h : k.toNat ≠ j) : at_ (l.set j z) k = at_ l k := by
  unfold at_; simp only [List.getD]; rw [List.getElem?_set_ne (by omega)]
theorem PassI.next (hS : Sound J L) {n c : Nat} {ag : Bool} {ss : List Int} {lg : List Re} {E : List (Re × Nat)} (h : PassI J L n c ag ss lg E) {a : Af} (ha : L[c]? = some a) {t : Tk} (ht : J.ts[a.q.toNat]? = some t)
    {p : Option Addr × Nat × List Int × List Re × Bool × Bool} (hr : RaiseR a t ss lg false p) (hd : p.2.2.2.2.1 = false) : ∃ E', PassI J L n (c + 1) (p.2.2.2.2.2 || ag) p.2.2.1 p.2.2.2.1 E' := by
  have hm := List.mem_of_getElem? ha
  have hlk := hS.lk a hm
  have hlen := h.log.len
  rcases hr with ⟨h1, h2, h3, _, h5⟩ | ⟨h1, z, h2, h3, h4, h5⟩
  · refine ⟨E, ?_⟩
    rw [h2, h3, h5, Bool.false_or]
    refine ⟨h.log, h.lge, h.pos, by have := h.len; omega, fun b hb hl => ?_, fun b hb => h.todo b ?_, h.le, h.no, h.yes⟩
    · rw [take_snoc ha] at hb
      rcases List.mem_append.1 hb with hb | hb
      · exact h.done b hb hl
      · simp at hb; subst hb
        unfold sat; omega
    · rw [dropc ha]; exact List.mem_cons_of_mem _ hb
  · rw [h5] at hd
    have hb : p.2.2.2.2.2 = true := by simpa using hd
    rcases h2 with ⟨hf, _⟩ | ⟨_, _, h6⟩
    · have ex : ss[a.p.toNat]? = some (ss[a.p.toNat]'(by omega)) := List.getElem?_eq_getElem _
      have ey : ss[a.q.toNat]? = some (ss[a.q.toNat]'(by omega)) := List.getElem?_eq_getElem _
      rw [at_of ex, at_of ey] at h1
      rw [at_of ex] at hf h4
      have h3k := hS.tk _ (List.mem_of_getElem? ht)
      have hz := firstF_bd h3k.1.1 h3k.2.1 hf
      have hns : ¬ sat ss a := by unfold sat; rw [at_of ex, at_of ey]; omega
      have hlp : n ≤ lastp E a.p := Nat.le_of_not_lt fun hl => hns (h.todo a (by rw [dropc ha]; simp) hl)
      have hset : (ss.set a.q.toNat z)[a.q.toNat]? = some z := by rw [List.getElem?_set_self (by omega)]
      refine ⟨E ++ [(⟨a.q, a.p, ss[a.p.toNat]'(by omega) + a.lag, z⟩, n + 1)], ?_⟩
      rw [h3, h4, hb, Bool.true_or]
      have key : ∀ b ∈ L, b.p ≠ a.q → sat ss b → sat (ss.set a.q.toNat z) b := fun b hbm hne hs => by
        have hb' := hS.lk b hbm
        unfold sat at *
        rw [at_set_ne (by omega)]
        by_cases e : b.q = a.q
        · rw [e, at_of hset]
          rw [e, at_of ey] at hs
          omega
        · rw [at_set_ne (by omega)]; exact hs
      refine ⟨.raise a t _ _ z (n + 1) h.log hm ht ex (h.pos _ (List.mem_of_getElem? ex)) ey (h.pos _ (List.mem_of_getElem? ey)) h1 hf (by omega), by rw [List.map_append, h.lge]; rfl, fun x hx => ?_, by rw [List.length_append]; have := h.len; simp; omega, fun b hbm hl => ?_, fun b hbm hl => ?_, fun k => ?_, (fun h => by cases h), fun _ => ⟨a.q.toNat, z, hset, by omega, ?_⟩⟩
      · rcases List.mem_or_eq_of_mem_set hx with hx | hx
        · exact h.pos x hx
        · omega
      · rw [lastp_snoc] at hl
        dsimp only at hl
        split at hl
        · omega
        · rename_i hne
          rw [take_snoc ha] at hbm
          rcases List.mem_append.1 hbm with hbm | hbm
          · exact key b (List.mem_of_mem_take hbm) (fun e => hne e.symm) (h.done b hbm hl)
          · simp at hbm; subst hbm
            unfold sat
            rw [at_set_ne (by omega), at_of ex, at_of hset]; omega
      · rw [lastp_snoc] at hl
        dsimp only at hl
        split at hl
        · omega
        · rename_i hne
          have hbm' : b ∈ L.drop c := by rw [dropc ha]; exact List.mem_cons_of_mem _ hbm
          exact key b (List.mem_of_mem_drop hbm') (fun e => hne e.symm) (h.todo b hbm' hl)
      · rw [lastp_snoc]; split
        · exact Nat.le_refl _
        · exact h.le k
      · rw [lastp_snoc, if_pos (by dsimp only; omega)]
    · rw [hb] at h6; cases h6
theorem PassI.fail (hS : Sound J L) {n c : Nat} {ag : Bool} {ss : List Int} {lg : List Re} {E : List (Re × Nat)} (h : PassI J L n c ag ss lg E) {a : Af} (ha : L[c]? = some a) {t : Tk} (ht : J.ts[a.q.toNat]? = some t)
    {p : Option Addr × Nat × List Int × List Re × Bool × Bool} (hr : RaiseR a t ss lg false p) (hd : p.2.2.2.2.1 = true) : RunOk J L p.2.2.1 p.2.2.2.1 false := by
  have hm := List.mem_of_getElem? ha
  have hlk := hS.lk a hm
  have hlen := h.log.len
  rcases hr with ⟨_, _, _, h4, _⟩ | ⟨h1, z, h2, h3, h4, h5⟩
  · rw [hd] at h4; cases h4
  · rw [h5] at hd
    have hb : p.2.2.2.2.2 = false := by simpa using hd
    rcases h2 with ⟨_, h6⟩ | ⟨hf, hz, _⟩
    · rw [hb] at h6; cases h6
    · have ex : ss[a.p.toNat]? = some (ss[a.p.toNat]'(by omega)) := List.getElem?_eq_getElem _
      rw [at_of ex] at hf h4
      have ey : ss[a.q.toNat]? = some (ss[a.q.toNat]'(by omega)) := List.getElem?_eq_getElem _
      have hy := h.pos _ (List.mem_of_getElem? ey)
      rw [at_of ex, at_of ey] at h1
      exact ⟨E, ss, h.log, .inr ⟨rfl, _, by rw [h4, h.lge], hz, t, ht, ⟨hlk.2.1.1, hlk.2.1.2⟩, hf, .inr ⟨a, hm, rfl, rfl, _, ex, h.pos _ (List.mem_of_getElem? ex), rfl, by dsimp only; omega⟩⟩⟩
theorem RestI.ok {n : Nat} {ss : List Int} {lg : List Re} {E : List (Re × Nat)} (h : RestI J L n false ss lg E) : RunOk J L ss lg true := ⟨E, ss, h.log, .inl ⟨rfl, rfl, h.lge, h.pos, h.no rfl⟩⟩
theorem RunOk.least (hS : Sound J L) {ss : List Int} {lg : List Re} (h : RunOk J L ss lg true) : IsLeast J L ss := by
  obtain ⟨E, ss0, h1, ⟨_, h2, _, h3, h4⟩ | ⟨h2, _⟩⟩ := h
  · subst h2; exact h1.least hS h3 h4
  · cases h2
theorem RunOk.none (hS : Sound J L) {ss : List Int} {lg : List Re} (h : RunOk J L ss lg false) : ¬ ∃ l, IsPlan J L l := by
  obtain ⟨E, ss0, h1, ⟨h2, _⟩ | ⟨_, r, _, _, t, ht, _, hf, h3 | ⟨a, ha, h4, h5, x, hx, _, h6, _⟩⟩⟩ := h
  · cases h2
  · rw [h3.2] at hf; exact Log.dead0 hS ht hf
  · rw [h6] at hf
    rw [← h5] at ht
    exact h1.dead hS ha ht hx hf
end
end Go.Proofs.Ytdmkedbmoboamaa
