/- Walks of functions of the program: what each returns, told by plain functions. -/
import Derived.Test.YtdmkedbmoboamaaA19
namespace Go.Proofs.Ytdmkedbmoboamaa
open Go.Kx Go.RowKit
set_option maxRecDepth 100000
set_option linter.unusedVariables false
set_option linter.unusedSimpArgs false
set_option linter.unnecessarySimpa false
set_option linter.constructorNameAsVariable false
theorem why_split {J : Jb} {os : List Rw} {k e : Int} {ys : List Re} (h0 : chkO J os = 0) (hk : 0 ≤ k ∧ k < J.ts.length) (h : WhyR J os k ys e) : (e = 16 ∧ ys = [] ∧ ∃ c, PosC J.ts.length (linksF J os) c) ∨ (e = 0 ∧ WhyOk J (linksF J os) k ys ∧ ∃ π, Pot (linksF J os) π) := by
  rcases h with ⟨h, _⟩ | ⟨_, ⟨h, _⟩ | ⟨_, ⟨h1, h2, h3⟩ | h⟩⟩
  · exact absurd h0 h
  · omega
  · exact .inl ⟨h2, h1, h3⟩
  · exact .inr h
theorem circ_split {J : Jb} {os : List Rw} {e : Int} {cs : List Int} (h0 : chkO J os = 0) (h : CircleR J os cs e) : (e = 15 ∧ cs = [] ∧ ∃ π, Pot (linksF J os) π) ∨ (e = 0 ∧ PosC J.ts.length (linksF J os) cs) := by
  rcases h with ⟨h, _⟩ | ⟨_, ⟨h1, h2, h3⟩ | h⟩
  · exact absurd h0 h
  · exact .inl ⟨h2, h1, h3⟩
  · exact .inr h
theorem e15_of {J : Jb} {os : List Rw} (h0 : chkO J os = 0) (h : ¬ ∃ l, IsPlan J (linksF J os) l) : EarlE J os = 15 := by
  by_cases e : EarlE J os = 0
  · exact absurd ⟨_, (early_some h0 e).plan⟩ h
  · exact (early_none h0 e).1
theorem acc_circ {J : Jb} {os : List Rw} {cs : List Int} (h : circF J os cs = 0) : EarlE J os = 15 := by
  obtain ⟨h0, h1⟩ := circF_pos h
  exact e15_of h0 fun ⟨l, hl⟩ => circ_sound h1 _ (Pot.of_plan hl)
theorem whyF_pos {J : Jb} {os : List Rw} {rs : List Re} (h : whyF J os rs = 0) : chkO J os = 0 ∧ whyB J (linksF J os) [] rs = true := by
  unfold whyF at h
  split at h
  · rename_i h0
    split at h
    · cases h
    · split at h
      · cases h
      · split at h
        · rename_i h1; exact ⟨h0, h1⟩
        · cases h
  · rename_i h0; exact absurd h h0
theorem acc_why {J : Jb} {os : List Rw} {rs : List Re} (h : whyF J os rs = 0) (hS : Sound J (linksF J os)) (he : EarlE J os = 0) {r : Re} (hr : r ∈ rs) : 0 ≤ r.start ∧ r.start ≤ at_ (EarlY J os) r.task ∧ 0 ≤ r.task ∧ r.task < J.ts.length :=
  whyB_sound hS (early_some (whyF_pos h).1 he).plan (whyF_pos h).2 (by simp) r hr
theorem acc_dead {J : Jb} {os : List Rw} {rs : List Re} (h : whyF J os rs = 0) (hS : Sound J (linksF J os)) {r : Re} (hr : r ∈ rs) (hd : r.start < 0) : EarlE J os = 15 :=
  e15_of (whyF_pos h).1 fun ⟨l, hl⟩ => by
    have := whyB_sound hS hl (whyF_pos h).2 (by simp) r hr
    omega
theorem WhyOk.len {J : Jb} {L : List Af} {k : Int} {ys : List Re} (h : WhyOk J L k ys) : 0 < ys.length := by
  obtain ⟨_, _, r, h1, _⟩ := h
  cases ys with
  | nil => cases h1
  | cons y r => simp
theorem WhyOk.f {J : Jb} {os : List Rw} {k : Int} {ys : List Re} (h0 : chkO J os = 0) (h : WhyOk J (linksF J os) k ys) : whyF J os ys = 0 := by
  have h1 := h.len
  have h2 := h.1
  exact whyF_0 h0 (by omega) (by omega) h.2.1
theorem PosC.f {J : Jb} {os : List Rw} {cs : List Int} (h0 : chkO J os = 0) (hn : J.ts.length ≤ 24) (h : PosC J.ts.length (linksF J os) cs) : circF J os cs = 0 := by
  have h1 := posC_len h
  exact circF_0 h0 (by omega) (circ_of h)
theorem last_at {ys : List Re} {r x : Re} (h : ys.getLast? = some r) (hx : ys[((ys.length : Int) - 1).toNat]? = some x) : x = r := by
  rw [List.getLast?_eq_getElem?, show ys.length - 1 = ((ys.length : Int) - 1).toNat from by omega, hx] at h
  injection h
theorem WhyOk.last {J : Jb} {L : List Af} {k : Int} {ys : List Re} (h : WhyOk J L k ys) {l : List Int} (hl : IsLeast J L l) {x : Re} (hx : ys[((ys.length : Int) - 1).toNat]? = some x) : x.task = k ∧ x.start = at_ l k := by
  obtain ⟨_, _, r, h1, ⟨l', h2, h3, h4⟩ | ⟨h2, _⟩⟩ := h
  · rw [last_at h1 hx, ← h2.unique hl]; exact ⟨h3, h4⟩
  · exact absurd ⟨_, hl.plan⟩ h2
theorem WhyOk.dead {J : Jb} {L : List Af} {k : Int} {ys : List Re} (h : WhyOk J L k ys) (hn : ¬ ∃ l, IsPlan J L l) {x : Re} (hx : ys[((ys.length : Int) - 1).toNat]? = some x) : x.start = -1 := by
  obtain ⟨_, _, r, h1, ⟨l', h2, _⟩ | ⟨_, h2⟩⟩ := h
  · exact absurd ⟨_, h2.plan⟩ hn
  · rw [last_at h1 hx]; exact h2
end Go.Proofs.Ytdmkedbmoboamaa
