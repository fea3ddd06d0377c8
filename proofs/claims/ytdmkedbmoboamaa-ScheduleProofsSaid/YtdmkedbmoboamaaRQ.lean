/- Reasons and circles, read from memory. -/
import Derived.Test.YtdmkedbmoboamaaRB
import Derived.Test.YtdmkedbmoboamaaPE
namespace Go.Proofs.Ytdmkedbmoboamaa
open Go.ChangeShapes Go.WideShapes Go.ChangeAt Go.RowKit Go.Kx
set_option maxRecDepth 100000
set_option linter.unusedVariables false
set_option linter.unusedSimpArgs false
set_option linter.constructorNameAsVariable false
theorem decRe {W : World} : Dec Try.prog W 72 encRe := fun h => by
  obtain ⟨ns, hl, rfl, _⟩ := open_ints Try.underlying72 (by kernel_rfl) (by kernel_rfl) h
  match ns, hl with
  | [a, b, c, d], _ => exact ⟨⟨a, b, c, d⟩, rfl⟩
theorem open_reasons {H : Type} {enc : TypeId × Value → H} {W : World} {v : Value} {d : DataW H} {p : List MemPlace} {r : Reach} {b0 : Nat} (hval : Value.okWide Try.prog W r b0 61 v) (h : DataW.Trod enc Try.prog W 0 (fun _ => true) true 61 v d p) :
    ∃ (a : Option Addr) (c : Nat) (xs : List Re), v = .slice a xs.length c ∧ Rdb W a 4 encRe xs ∧ xs.length ≤ c ∧ xs.length ≤ 9223372036854775807 := by
  obtain ⟨a, xs, c, hv, hl, hm, hR⟩ := open_rdb (sz := 4) Try.underlying61 (by kernel_rfl) (by kernel_rfl) (fun _ => rfl) decRe hval h
  exact ⟨a, c, xs, hv, hR, hl, len_le hl hm⟩
theorem open_circle {H : Type} {enc : TypeId × Value → H} {W : World} {v : Value} {d : DataW H} {p : List MemPlace} {r : Reach} {b0 : Nat} (hval : Value.okWide Try.prog W r b0 62 v) (h : DataW.Trod enc Try.prog W 0 (fun _ => true) true 62 v d p) :
    ∃ (a : Option Addr) (c : Nat) (xs : List Int), v = .slice a xs.length c ∧ Rdb W a 1 encI xs ∧ xs.length ≤ c ∧ xs.length ≤ 9223372036854775807 := by
  obtain ⟨a, xs, c, hv, hl, hm, hR⟩ := open_rdb (sz := 1) (en := encI) Try.underlying62 (by kernel_rfl) (by decide) (fun _ => rfl) (dec_int (by kernel_rfl)) hval h
  exact ⟨a, c, xs, hv, hR, hl, len_le hl hm⟩
end Go.Proofs.Ytdmkedbmoboamaa
