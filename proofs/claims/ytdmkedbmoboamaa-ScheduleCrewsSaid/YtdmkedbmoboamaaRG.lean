/- Legs, read from memory. -/
import Derived.Test.YtdmkedbmoboamaaRB
import Derived.Test.YtdmkedbmoboamaaB1
namespace Go.Proofs.Ytdmkedbmoboamaa
open Go.ChangeShapes Go.WideShapes Go.ChangeAt Go.RowKit Go.Kx
set_option maxRecDepth 100000
set_option linter.unusedVariables false
set_option linter.unusedSimpArgs false
set_option linter.constructorNameAsVariable false
theorem decLg {W : World} : DecQ Try.prog W 132 encLg (fun t => Rdb W t.aw 2 encWn t.ws ∧ t.ws.length ≤ 9223372036854775807) := fun {H} {enc} {n} {cs} {x} h => by
  obtain ⟨hcl, n', hf⟩ := field_at Try.underlying132 h
  rw [show Try.prog.cellsOf 132 = 2 from by kernel_rfl] at hcl
  match cs, hcl with
  | [v0, v1], _ =>
    obtain ⟨y0, h0⟩ := hf 0 _ rfl
    obtain ⟨y1, h1⟩ := hf 1 _ rfl
    rw [show ((([v0, v1] : List Value).drop _).take (Try.prog.cellsOf _)) = [v0] from by kernel_rfl] at h0
    rw [show ((([v0, v1] : List Value).drop _).take (Try.prog.cellsOf _)) = [v1] from by kernel_rfl] at h1
    obtain ⟨m, hm, _⟩ := DataW.trod_int Try.underlying2 h0
    obtain ⟨a, ws, c, hw, hlc, hmx, hR⟩ := open_rdb_cells (sz := 2) Try.underlying28 (by kernel_rfl) (by kernel_rfl) (fun _ => rfl) decWn h1
    simp at hm hw
    subst hm hw
    exact ⟨⟨m, a, c, ws⟩, rfl, hR, len_le hlc hmx⟩
theorem open_legs {H : Type} {enc : TypeId × Value → H} {W : World} {v : Value} {d : DataW H} {p : List MemPlace} {r : Reach} {b0 : Nat} (hval : Value.okWide Try.prog W r b0 74 v) (h : DataW.Trod enc Try.prog W 0 (fun _ => true) true 74 v d p) :
    ∃ (a : Option Addr) (c : Nat) (gs : List Lg), v = .slice a gs.length c ∧ LegAt W a gs := by
  obtain ⟨a, gs, c, hv, hl, hm, hR, hQ⟩ := open_rdbQ (sz := 2) Try.underlying74 (by kernel_rfl) (by kernel_rfl) (fun _ => rfl) decLg hval h
  exact ⟨a, c, gs, hv, hR, fun l h => (hQ l h).1, len_le hl hm, fun l h => (hQ l h).2⟩
end Go.Proofs.Ytdmkedbmoboamaa
