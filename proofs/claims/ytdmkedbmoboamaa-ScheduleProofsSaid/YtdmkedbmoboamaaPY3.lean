/- What Why hands back: the chain of reasons that ends with a task's. No program in sight. -/
import Derived.Test.YtdmkedbmoboamaaPY2
namespace Go.Proofs.Ytdmkedbmoboamaa
set_option linter.unusedVariables false
set_option linter.unusedSimpArgs false
set_option linter.unnecessarySimpa false
/-- The chain from a place of the log on, the last first. -/
def totF (lg : List Re) (i : Int) : List Re := if i < 0 then [] else match lg[i.toNat]? with
  | some r => r :: chn (lg.take i.toNat).reverse r.by_
  | none => []
def chnT (lg : List Re) (i b : Int) : List Re := chn (lg.take (i + 1).toNat).reverse b
theorem totF_neg {lg : List Re} {i : Int} (h : i < 0) : totF lg i = [] := by unfold totF; rw [if_pos h]
theorem totF_at {lg : List Re} {i : Int} {r : Re} (h : 0 ≤ i) (hr : lg[i.toNat]? = some r) : totF lg i = r :: chnT lg (i - 1) r.by_ := by
  unfold totF chnT
  rw [if_neg (by omega), hr, show (i - 1 + 1).toNat = i.toNat from by omega]
theorem chnT_neg {lg : List Re} {i b : Int} (h : i < 0) : chnT lg i b = [] := by
  unfold chnT
  rw [show (i + 1).toNat = 0 from by omega]; rfl
theorem chnT_step {lg : List Re} {i b : Int} {r : Re} (h : 0 ≤ i) (hr : lg[i.toNat]? = some r) : chnT lg i b = if r.task = b then r :: chnT lg (i - 1) r.by_ else chnT lg (i - 1) b := by
  unfold chnT
  rw [show (i + 1).toNat = i.toNat + 1 from by omega, take_snoc hr, List.reverse_append]
  show chn (r :: (lg.take i.toNat).reverse) b = _
  rw [chn, show (i - 1 + 1).toNat = i.toNat from by omega]
theorem chnT_hit {lg : List Re} {i b : Int} {r : Re} (h : 0 ≤ i) (hr : lg[i.toNat]? = some r) (e : r.task = b) : chnT lg i b = totF lg i := by
  rw [chnT_step h hr, if_pos e, totF_at h hr]
theorem chnT_skip {lg : List Re} {i b : Int} {r : Re} (h : 0 ≤ i) (hr : lg[i.toNat]? = some r) (e : ¬ r.task = b) : chnT lg i b = chnT lg (i - 1) b := by
  rw [chnT_step h hr, if_neg e]
/-- The last place so far of a task. -/
def LastI (lg : List Re) (k : Int) (i : Nat) (t : Int) : Prop := -1 ≤ t ∧ t < i ∧ chnT lg ((i : Int) - 1) k = totF lg t
theorem LastI.start {lg : List Re} {k : Int} {t : Int} (ht : t = -1) : LastI lg k 0 t := ⟨by omega, by omega, by rw [chnT_neg (by omega), totF_neg (by omega)]⟩
theorem LastI.hit {lg : List Re} {k : Int} {i : Nat} {t : Int} {r : Re} (h : LastI lg k i t) (hr : lg[i]? = some r) (e : r.task = k) : LastI lg k (i + 1) (i : Int) :=
  ⟨by omega, by omega, by rw [show ((i + 1 : Nat) : Int) - 1 = (i : Int) from by omega]; exact chnT_hit (by omega) (by simpa using hr) e⟩
theorem LastI.skip {lg : List Re} {k : Int} {i : Nat} {t : Int} {r : Re} (h : LastI lg k i t) (hr : lg[i]? = some r) (e : ¬ r.task = k) : LastI lg k (i + 1) t :=
  ⟨h.1, by have := h.2.1; omega, by rw [show ((i + 1 : Nat) : Int) - 1 = (i : Int) from by omega, chnT_skip (by omega) (by simpa using hr) e]; exact h.2.2⟩
theorem LastI.done {lg : List Re} {k : Int} {i : Nat} {t : Int} (h : LastI lg k i t) (hi : ¬ (i : Int) < (lg.length : Int)) : totF lg t = chn lg.reverse k := by
  rw [← h.2.2]
  unfold chnT
  rw [show ((i : Int) - 1 + 1).toNat = i from by omega, List.take_of_length_le (by omega)]
/-- A chain that is accepted and says of a task when it begins, or that there is no plan. -/
def WhyOk (J : Jb) (L : List Af) (k : Int) (ys : List Re) : Prop := ys.length ≤ 20000 ∧ whyB J L [] ys = true ∧ ∃ r, ys.getLast? = some r ∧ ((∃ l, IsLeast J L l ∧ r.task = k ∧ r.start = at_ l k) ∨ ((¬ ∃ l, IsPlan J L l) ∧ r.start = -1))
section
variable {J : Jb} {L : List Af}
theorem chain_grows (hS : Sound J L) {E : List (Re × Nat)} {ss : List Int} (h : Log J L E ss) {c : List Re} (hc : c.Sublist (E.map (·.1)).reverse) : c.reverse.Pairwise Grows ∧ c.Pairwise (fun r r' => Grows r' r) := by
  have h2 := (h.cur hS).2.1
  have h3 : c.reverse.Sublist (E.map (·.1)) := by
    have := hc.reverse
    rwa [List.reverse_reverse] at this
  have h4 := h2.sublist h3
  refine ⟨h4, ?_⟩
  rw [List.pairwise_reverse] at h4
  exact h4
theorem why_true (hS : Sound J L) (hn : J.ts.length ≤ 24) {π : Int → Int} (hπ : Pot L π) {ss : List Int} {lg : List Re} (h : RunOk J L ss lg true) {k t : Int} {i : Nat} (hk : 0 ≤ k ∧ k < J.ts.length) (hl : LastI lg k i t) (hi : ¬ (i : Int) < (lg.length : Int)) : WhyOk J L k (totF lg t).reverse := by
  have hle := h.least hS
  obtain ⟨E, ss0, h1, ⟨_, h2, h3, h4, h5⟩ | ⟨h2, _⟩⟩ := h
  · subst h2 h3
    have e : ss[k.toNat]? = some (ss[k.toNat]'(by rw [h1.len]; omega)) := List.getElem?_eq_getElem _
    obtain ⟨r, c, g1, g2, g3, g4, g5⟩ := h1.chn hS _ _ e (h4 _ (List.mem_of_getElem? e))
    rw [show ((k.toNat : Nat) : Int) = k from by omega] at g1 g2
    rw [hl.done hi, g1]
    obtain ⟨p1, p2⟩ := chain_grows hS h1 (c := r :: c) (by rw [← g1]; exact chn_sub)
    have q := chain_ok hS g4 p1 g5
    have ql := chain_len hS hn hπ g4 p2
    refine ⟨by rw [List.length_reverse]; omega, q.1, r, by simp, .inl ⟨ss, hle, g2, ?_⟩⟩
    rw [g3, at_of e]
  · cases h2
theorem why_false (hS : Sound J L) (hn : J.ts.length ≤ 24) {π : Int → Int} (hπ : Pot L π) {ss : List Int} {lg : List Re} (h : RunOk J L ss lg false) (k : Int) : 0 < lg.length ∧ WhyOk J L k (totF lg ((lg.length : Int) - 1)).reverse := by
  have hno := h.none hS
  obtain ⟨E, ss0, h1, ⟨h2, _⟩ | ⟨_, r, h2, hd⟩⟩ := h
  · cases h2
  · obtain ⟨d1, t, ht, hr, hf, hd⟩ := hd
    have hlen : lg.length = E.length + 1 := by rw [h2]; simp
    have hlast : lg[((lg.length : Int) - 1).toNat]? = some r := by
      rw [show ((lg.length : Int) - 1).toNat = E.length from by omega, h2, List.getElem?_append_right (by simp)]; simp
    have htot : totF lg ((lg.length : Int) - 1) = r :: chn (E.map (·.1)).reverse r.by_ := by
      rw [totF_at (by omega) hlast]
      unfold chnT
      rw [show ((lg.length : Int) - 1 - 1 + 1).toNat = E.length from by omega, h2, List.take_append_of_le_length (by simp), List.take_of_length_le (by simp)]
    have hc := h1.cur hS
    refine ⟨by omega, ?_⟩
    rw [htot, List.reverse_cons]
    rcases hd with ⟨b1, b2⟩ | ⟨a, ha, b1, b2, x, hx, hx0, b3, b4⟩
    · rw [b1, chn_none (fun s hs => by
        rw [List.mem_reverse, List.mem_map] at hs
        obtain ⟨e, he, rfl⟩ := hs
        have := (hc.1 e he).1
        omega)]
      have hok : okR J L ([] ++ []) r = true := okR_iff.2 ⟨t, ht, hr.1, by omega, by rw [hf, d1]; rfl, .inl ⟨b1, b2⟩⟩
      exact ⟨by simp, whyB_snoc rfl (by simp) hok, r, by simp, .inr ⟨hno, d1⟩⟩
    · have hlk := hS.lk a ha
      obtain ⟨s, c, g1, g2, g3, g4, g5⟩ := h1.chn hS _ _ hx hx0
      rw [show ((a.p.toNat : Nat) : Int) = a.p from by omega] at g1 g2
      rw [← b1, g1]
      obtain ⟨p1, p2⟩ := chain_grows hS h1 (c := s :: c) (by rw [← g1]; exact chn_sub)
      have q := chain_ok hS g4 p1 g5
      have ql := chain_len hS hn hπ g4 p2
      have hm : mxS (s :: c).reverse r.by_ = x := by
        have := q.2.2 s rfl
        rw [g2, g3] at this
        rw [← b1]; exact this
      have hok : okR J L ([] ++ (s :: c).reverse) r = true := okR_iff.2 ⟨t, ht, hr.1, b4, by rw [hf, d1]; rfl, .inr ⟨by omega, by rw [List.nil_append, hm]; exact hx0, a, ha, b1, b2, by rw [List.nil_append, hm, b3]; omega⟩⟩
      exact ⟨by rw [List.length_append, List.length_reverse, List.length_singleton]; omega, whyB_snoc q.1 (fun y hy => q.2.1 y (List.mem_reverse.1 hy)) hok, r, by simp, .inr ⟨hno, d1⟩⟩
end
def WhyR (J : Jb) (os : List Rw) (k : Int) (ys : List Re) (e : Int) : Prop := (¬ chkO J os = 0 ∧ ys = [] ∧ e = chkO J os) ∨ (chkO J os = 0 ∧ (((k < 0 ∨ (J.ts.length : Int) ≤ k) ∧ ys = [] ∧ e = 3) ∨
  ((0 ≤ k ∧ k < J.ts.length) ∧ ((ys = [] ∧ e = 16 ∧ ∃ c, PosC J.ts.length (linksF J os) c) ∨ (e = 0 ∧ WhyOk J (linksF J os) k ys ∧ ∃ π, Pot (linksF J os) π)))))
def CircleR (J : Jb) (os : List Rw) (cs : List Int) (e : Int) : Prop := (¬ chkO J os = 0 ∧ cs = [] ∧ e = chkO J os) ∨ (chkO J os = 0 ∧ ((cs = [] ∧ e = 15 ∧ ∃ π, Pot (linksF J os) π) ∨ (e = 0 ∧ PosC J.ts.length (linksF J os) cs)))
end Go.Proofs.Ytdmkedbmoboamaa
