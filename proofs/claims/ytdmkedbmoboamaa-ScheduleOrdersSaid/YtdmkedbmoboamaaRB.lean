/- What the rows of this seat share: the program's types laid out, jobs and orders read from memory. -/
import Derived.Test.YtdmkedbmoboamaaRows
import Derived.Test.YtdmkedbmoboamaaKxQ
import Derived.Test.YtdmkedbmoboamaaA3
namespace Go.Proofs.Ytdmkedbmoboamaa
open Go.ChangeShapes Go.WideShapes Go.ChangeAt Go.RowKit Go.Kx
set_option maxRecDepth 100000
set_option linter.unusedVariables false
set_option linter.unusedSimpArgs false
set_option linter.constructorNameAsVariable false
theorem rowOwn : ownKnob Try.prog.godebug = none := by kernel_rfl
theorem rowLaid : laidOutB Try.prog = true := by kernel_rfl
theorem len_le {a b : Nat} (h : a ≤ b) (h1 : b ≤ maxLen) : a ≤ 9223372036854775807 := by unfold maxLen at h1; omega
theorem decWn {W : World} : Dec Try.prog W 59 encWn := fun h => by
  obtain ⟨ns, hl, rfl, _⟩ := open_ints Try.underlying59 (by kernel_rfl) (by kernel_rfl) h
  obtain ⟨a, b, rfl⟩ := len2 hl
  exact ⟨⟨a, b⟩, rfl⟩
theorem decAf {W : World} : Dec Try.prog W 38 encAf := fun h => by
  obtain ⟨ns, hl, rfl, _⟩ := open_ints Try.underlying38 (by kernel_rfl) (by kernel_rfl) h
  obtain ⟨a, b, c, rfl⟩ := len3 hl
  exact ⟨⟨a, b, c⟩, rfl⟩
theorem decTk {W : World} : DecQ Try.prog W 57 encTk (fun t => Rdb W t.aw 2 encWn t.ws ∧ t.ws.length ≤ 9223372036854775807) := fun {H} {enc} {n} {cs} {x} h => by
  obtain ⟨hcl, n', hf⟩ := field_at Try.underlying57 h
  rw [show Try.prog.cellsOf 57 = 3 from by kernel_rfl] at hcl
  match cs, hcl with
  | [v0, v1, v2], _ =>
    obtain ⟨y0, h0⟩ := hf 0 _ rfl
    obtain ⟨y1, h1⟩ := hf 1 _ rfl
    obtain ⟨y2, h2⟩ := hf 2 _ rfl
    rw [show ((([v0, v1, v2] : List Value).drop _).take (Try.prog.cellsOf _)) = [v0] from by kernel_rfl] at h0
    rw [show ((([v0, v1, v2] : List Value).drop _).take (Try.prog.cellsOf _)) = [v1] from by kernel_rfl] at h1
    rw [show ((([v0, v1, v2] : List Value).drop _).take (Try.prog.cellsOf _)) = [v2] from by kernel_rfl] at h2
    obtain ⟨m, hm, _⟩ := DataW.trod_int Try.underlying2 h0
    obtain ⟨a, ws, c, hw, hlc, hmx, hR⟩ := open_rdb_cells (sz := 2) Try.underlying28 (by kernel_rfl) (by kernel_rfl) (fun _ => rfl) decWn h1
    obtain ⟨t, ht, _⟩ := DataW.trod_int Try.underlying3 h2
    simp at hm hw ht
    subst hm hw ht
    exact ⟨⟨m, a, c, ws, t⟩, rfl, hR, len_le hlc hmx⟩
theorem decRw {W : World} : DecQ Try.prog W 62 encRw (fun r => Rdb W r.a 1 encI r.xs ∧ r.xs.length ≤ 9223372036854775807 ∧ r.xs.length ≤ r.cap) := fun {H} {enc} {n} {cs} {x} h => by
  obtain ⟨a, xs, c, hw, hlc, hmx, hR⟩ := open_rdb_cells (sz := 1) (en := encI) Try.underlying62 (by kernel_rfl) (by kernel_rfl) (fun _ => rfl) (dec_int (by kernel_rfl)) h
  exact ⟨⟨a, c, xs⟩, hw, hR, len_le hlc hmx, hlc⟩
theorem open_job {H : Type} {enc : TypeId × Value → H} {W : World} {v : Value} {d : DataW H} {p : List MemPlace} {r : Reach} {b0 : Nat} (hval : Value.okWide Try.prog W r b0 26 v) (h : DataW.Trod enc Try.prog W 0 (fun _ => true) true 26 v d p) :
    ∃ J : Jb, v = .agg #[.slice J.ta J.ts.length J.tc, .slice J.aa J.ls.length J.ac, .slice J.ga J.gs.length J.gc] ∧ JobAt W J := by
  obtain ⟨cs, rfl, hsz⟩ := okWide_struct Try.underlying26 hval
  obtain ⟨fuel, hf⟩ := h
  obtain ⟨hcl, n', hf⟩ := field_at Try.underlying26 hf
  rw [show Try.prog.cellsOf 26 = 3 from by kernel_rfl] at hsz
  obtain ⟨l⟩ := cs
  match l, hsz with
  | [v0, v1, v2], _ =>
    have hf2 : ∀ (i : Nat) (f : Field), _ → ∃ y, DataW.trod enc Try.prog W 0 (fun _ => true) true n' f.type ((([v0, v1, v2] : List Value).drop f.offset).take (Try.prog.cellsOf f.type)) = some y := hf
    obtain ⟨y0, h0⟩ := hf2 0 _ rfl
    obtain ⟨y1, h1⟩ := hf2 1 _ rfl
    obtain ⟨y2, h2⟩ := hf2 2 _ rfl
    rw [show ((([v0, v1, v2] : List Value).drop _).take (Try.prog.cellsOf _)) = [v0] from by kernel_rfl] at h0
    rw [show ((([v0, v1, v2] : List Value).drop _).take (Try.prog.cellsOf _)) = [v1] from by kernel_rfl] at h1
    rw [show ((([v0, v1, v2] : List Value).drop _).take (Try.prog.cellsOf _)) = [v2] from by kernel_rfl] at h2
    obtain ⟨ta, ts, tc, ht, hlt, hmt, hT, hQ⟩ := open_rdb_cellsQ (sz := 3) Try.underlying22 (by kernel_rfl) (by kernel_rfl) (fun _ => rfl) decTk h0
    obtain ⟨aa, ls, ac, hl, hll, hml, hL⟩ := open_rdb_cells (sz := 3) Try.underlying23 (by kernel_rfl) (by kernel_rfl) (fun _ => rfl) decAf h1
    obtain ⟨ga, gs, gc, hg, hlg, hmg, hG⟩ := open_rdb_cells (sz := 1) (en := encI) Try.underlying24 (by kernel_rfl) (by kernel_rfl) (fun _ => rfl) (dec_int (by kernel_rfl)) h2
    simp at ht hl hg
    subst ht hl hg
    exact ⟨⟨ta, tc, ts, aa, ac, ls, ga, gc, gs⟩, rfl, hT, hL, hG, fun t h => (hQ t h).1, len_le hlt hmt, len_le hll hml, len_le hlg hmg, fun t h => (hQ t h).2⟩
theorem open_ord {H : Type} {enc : TypeId × Value → H} {W : World} {v : Value} {d : DataW H} {p : List MemPlace} {r : Reach} {b0 : Nat} (hval : Value.okWide Try.prog W r b0 27 v) (h : DataW.Trod enc Try.prog W 0 (fun _ => true) true 27 v d p) :
    ∃ (a : Option Addr) (c : Nat) (os : List Rw), v = .slice a os.length c ∧ OrdAt W a os := by
  obtain ⟨a, os, c, hv, hl, hm, hR, hQ⟩ := open_rdbQ (sz := 1) Try.underlying27 (by kernel_rfl) (by kernel_rfl) (fun _ => rfl) decRw hval h
  exact ⟨a, c, os, hv, hR, fun r hr => (hQ r hr).1, len_le hl hm, fun r hr => (hQ r hr).2.1, fun r hr => (hQ r hr).2.2⟩
theorem open_list {H : Type} {enc : TypeId × Value → H} {W : World} {v : Value} {d : DataW H} {p : List MemPlace} {r : Reach} {b0 : Nat} {t e : TypeId} (ht : Try.prog.underlying t = some (.slice e)) (he : intAt Try.prog e = true) (hc : Try.prog.cellsOf e = 1) (hval : Value.okWide Try.prog W r b0 t v) (h : DataW.Trod enc Try.prog W 0 (fun _ => true) true t v d p) :
    ∃ (a : Option Addr) (c : Nat) (xs : List Int), v = .slice a xs.length c ∧ Rdb W a 1 encI xs ∧ xs.length ≤ 9223372036854775807 := by
  obtain ⟨a, xs, c, hv, hl, hm, hR⟩ := open_rdb (sz := 1) (en := encI) ht hc (by decide) (fun _ => rfl) (dec_int he) hval h
  exact ⟨a, c, xs, hv, hR, len_le hl hm⟩
theorem open_wins {H : Type} {enc : TypeId × Value → H} {W : World} {v : Value} {d : DataW H} {p : List MemPlace} {r : Reach} {b0 : Nat} (hval : Value.okWide Try.prog W r b0 28 v) (h : DataW.Trod enc Try.prog W 0 (fun _ => true) true 28 v d p) :
    ∃ (a : Option Addr) (c : Nat) (xs : List Wn), v = .slice a xs.length c ∧ Rdb W a 2 encWn xs ∧ xs.length ≤ 9223372036854775807 := by
  obtain ⟨a, xs, c, hv, hl, hm, hR⟩ := open_rdb (sz := 2) Try.underlying28 (by kernel_rfl) (by kernel_rfl) (fun _ => rfl) decWn hval h
  exact ⟨a, c, xs, hv, hR, len_le hl hm⟩
end Go.Proofs.Ytdmkedbmoboamaa
