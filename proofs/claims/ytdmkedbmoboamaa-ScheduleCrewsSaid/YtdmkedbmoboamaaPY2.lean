/- The check of reasons, step by step; what Why hands back. No program in sight. -/
import Derived.Test.YtdmkedbmoboamaaPY
namespace Go.Proofs.Ytdmkedbmoboamaa
set_option linter.unusedVariables false
set_option linter.unusedSimpArgs false
set_option linter.unnecessarySimpa false
/-- The starts that reasons have shown so far. -/
structure StI (J : Jb) (pre : List Re) (st : List Int) : Prop where
  len : st.length = J.ts.length
  mx : ∀ (k : Nat) (x : Int), st[k]? = some x → x = mxS pre k
  bd : ∀ x ∈ st, -1 ≤ x ∧ x ≤ 1099511627776
  out : ∀ r ∈ pre, 0 ≤ r.task ∧ r.task < J.ts.length
theorem StI.start {J : Jb} {st : List Int} (hl : st.length = J.ts.length) (h : ∀ k, k < J.ts.length → st[k]? = some (-1)) : StI J [] st := by
  have key : ∀ (k : Nat) (x : Int), st[k]? = some x → x = -1 := fun k x hx => by
    have := (List.getElem?_eq_some_iff.1 hx).1
    rw [h k (by omega)] at hx; injection hx with hx; exact hx.symm
  refine ⟨hl, fun k x hx => key k x hx, fun x hx => ?_, by simp⟩
  obtain ⟨k, hk⟩ := List.mem_iff_getElem?.1 hx
  have := key k x hk; omega
section
variable {J : Jb} {L : List Af}
theorem StI.no {pre : List Re} {st : List Int} (h : StI J pre st) {b : Int} (hb : b < 0 ∨ (J.ts.length : Int) ≤ b) : mxS pre b = -1 :=
  mxS_none fun r hr e => by have := h.out r hr; omega
theorem via_bd (hS : Sound J L) {r : Re} {s : Int} (h : L.any (viaP r s) = true) (hs : s ≤ 1099511627776) : 0 ≤ r.from_ ∧ r.from_ ≤ 1125899906842624 := by
  obtain ⟨a, ha, hv⟩ := List.any_eq_true.1 h
  have := hS.lk a ha
  unfold viaP at hv
  split at hv
  · split at hv
    · have e := of_decide_eq_true hv
      omega
    · cases hv
  · cases hv
theorem why_no {rs : List Re} {q : Nat} {x : Re} {st : List Int} (hG : whyB J L [] rs = whyB J L (rs.take q) (rs.drop q)) (hx : rs[q]? = some x) (hI : StI J (rs.take q) st)
    (hD : (x.task < 0 ∨ (J.ts.length : Int) ≤ x.task) ∨ (x.by_ < -1 ∨ (J.ts.length : Int) ≤ x.by_) ∨ (x.by_ = -1 ∧ x.from_ ≠ 0) ∨ (0 ≤ x.by_ ∧ ∃ y, st[x.by_.toNat]? = some y ∧ (y < 0 ∨ L.any (viaP x y) = false)) ∨
      (∃ t, J.ts[x.task.toNat]? = some t ∧ (x.start ≠ (firstF t.m x.from_ t.ws).getD (-1) ∨ (x.start < 0 ∧ (q : Int) < (rs.length : Int) - 1)))) : whyB J L [] rs = false := by
  rw [hG, dropc hx, whyB]
  split
  · rename_i h
    obtain ⟨t, ht, g0, g1, g2, g3⟩ := okR_iff.1 h
    have hlt := (List.getElem?_eq_some_iff.1 ht).1
    rcases hD with hD | hD | hD | ⟨hD, y, hy, hD2⟩ | ⟨t', ht', hD⟩
    · omega
    · rcases g3 with g3 | ⟨_, g3, _⟩
      · omega
      · rw [hI.no (by omega)] at g3; omega
    · rcases g3 with g3 | g3
      · omega
      · exact absurd hD.1 g3.1
    · have e := hI.mx _ _ hy
      rw [show ((x.by_.toNat : Nat) : Int) = x.by_ from by omega] at e
      rcases g3 with g3 | ⟨_, g3, a, ha, e1, e2, e3⟩
      · omega
      · rcases hD2 with hD2 | hD2
        · omega
        · have := List.any_eq_false.1 hD2 a ha
          unfold viaP at this
          rw [if_pos e1, if_pos e2, e] at this
          simp [e3] at this
    · rw [ht] at ht'; injection ht' with ht'; subst ht'
      rcases hD with hD | ⟨hD, hq⟩
      · exact absurd g2 hD
      · rw [if_pos hD, if_neg]
        intro e
        have := congrArg List.length e
        rw [List.length_drop, List.length_nil] at this
        omega
  · rfl
theorem why_yes (hS : Sound J L) {rs : List Re} {q : Nat} {x : Re} {st : List Int} {t : Tk} {y0 : Int} (hG : whyB J L [] rs = whyB J L (rs.take q) (rs.drop q)) (hx : rs[q]? = some x) (hI : StI J (rs.take q) st) (ht : J.ts[x.task.toNat]? = some t) (h0 : 0 ≤ x.task)
    (hv : (x.by_ = -1 ∧ x.from_ = 0) ∨ (0 ≤ x.by_ ∧ ∃ y, st[x.by_.toNat]? = some y ∧ 0 ≤ y ∧ L.any (viaP x y) = true)) (hs : x.start = (firstF t.m x.from_ t.ws).getD (-1)) (hl : 0 ≤ x.start ∨ ¬ (q : Int) < (rs.length : Int) - 1) (hy0 : st[x.task.toNat]? = some y0) :
    whyB J L [] rs = whyB J L (rs.take (q + 1)) (rs.drop (q + 1)) ∧ StI J (rs.take (q + 1)) (st.set x.task.toNat (max y0 x.start)) := by
  have hlt := (List.getElem?_eq_some_iff.1 ht).1
  have hq := (List.getElem?_eq_some_iff.1 hx).1
  have e := take_snoc hx
  have h3 := hS.tk t (List.mem_of_getElem? ht)
  have hbs : -1 ≤ x.start ∧ x.start ≤ 1099511627776 := by
    rw [hs]
    cases hf : firstF t.m x.from_ t.ws with
    | none => simp
    | some z => have := firstF_bd h3.1.1 h3.2.1 hf; simp; omega
  have hok : okR J L (rs.take q) x = true := by
    refine okR_iff.2 ⟨t, ht, h0, ?_, hs, ?_⟩
    · rcases hv with hv | ⟨hv, y, hy, hy1, ha⟩
      · omega
      · exact (via_bd hS ha (hI.bd y (List.mem_of_getElem? hy)).2).1
    · rcases hv with hv | ⟨hv, y, hy, hy1, ha⟩
      · exact .inl hv
      · have e1 := hI.mx _ _ hy
        rw [show ((x.by_.toNat : Nat) : Int) = x.by_ from by omega] at e1
        obtain ⟨a, ha, hp⟩ := List.any_eq_true.1 ha
        unfold viaP at hp
        split at hp
        · rename_i e2
          split at hp
          · rename_i e3
            exact .inr ⟨by omega, by omega, a, ha, e2, e3, by rw [← e1]; exact of_decide_eq_true hp⟩
          · cases hp
        · cases hp
  refine ⟨?_, by simpa using hI.len, fun k z hz => ?_, fun z hz => ?_, fun r hr => ?_⟩
  · rw [hG, dropc hx, whyB, if_pos hok, e]
    by_cases hs0 : x.start < 0
    · rw [if_pos hs0, if_pos]
      exact List.drop_eq_nil_of_le (by omega)
    · rw [if_neg hs0]
  · rw [e, mxS_snoc]
    rw [List.getElem?_set] at hz
    split at hz
    · rename_i ek; subst ek
      split at hz
      · injection hz with hz
        rw [if_pos (by omega), ← hz, hI.mx _ _ hy0]
      · cases hz
    · rename_i ek
      rw [if_neg (by omega)]; exact hI.mx k z hz
  · rcases List.mem_or_eq_of_mem_set hz with h1 | h1
    · exact hI.bd z h1
    · have := hI.bd y0 (List.mem_of_getElem? hy0); omega
  · rw [e] at hr
    rcases List.mem_append.1 hr with h1 | h1
    · exact hI.out r h1
    · simp at h1; subst h1; omega
theorem why_end {rs : List Re} {q : Nat} (hG : whyB J L [] rs = whyB J L (rs.take q) (rs.drop q)) (hq : ¬ (q : Int) < (rs.length : Int)) : whyB J L [] rs = true := by
  rw [hG, drop_all hq, whyB]
end
theorem whyF_e {J : Jb} {os : List Rw} {rs : List Re} (h : ¬ chkO J os = 0) : whyF J os rs = chkO J os := by unfold whyF; rw [if_neg h]
theorem whyF_6 {J : Jb} {os : List Rw} {rs : List Re} (h : chkO J os = 0) (h1 : (20000 : Int) < (rs.length : Int)) : whyF J os rs = 6 := by unfold whyF; rw [if_pos h, if_pos h1]
theorem whyF_nil {J : Jb} {os : List Rw} {rs : List Re} (h : chkO J os = 0) (h1 : ¬ (20000 : Int) < (rs.length : Int)) (h2 : (rs.length : Int) = 0) : whyF J os rs = 16 := by unfold whyF; rw [if_pos h, if_neg h1, if_pos h2]
theorem whyF_16 {J : Jb} {os : List Rw} {rs : List Re} (h : chkO J os = 0) (h1 : ¬ (20000 : Int) < (rs.length : Int)) (h2 : ¬ (rs.length : Int) = 0) (h3 : whyB J (linksF J os) [] rs = false) : whyF J os rs = 16 := by unfold whyF; rw [if_pos h, if_neg h1, if_neg h2, h3]; rfl
theorem whyF_0 {J : Jb} {os : List Rw} {rs : List Re} (h : chkO J os = 0) (h1 : ¬ (20000 : Int) < (rs.length : Int)) (h2 : ¬ (rs.length : Int) = 0) (h3 : whyB J (linksF J os) [] rs = true) : whyF J os rs = 0 := by unfold whyF; rw [if_pos h, if_neg h1, if_neg h2, if_pos h3]
end Go.Proofs.Ytdmkedbmoboamaa
