/- What the rows of this seat share: the program's types laid out, supports read from memory. -/
import Derived.Test.YtfekoippjmojgaaRows
import Derived.Test.YtfekoippjmojgaaKxR
import Derived.Test.YtfekoippjmojgaaS5
namespace Go.Proofs.Ytfekoippjmojgaa
open Go.ChangeShapes Go.WideShapes Go.ChangeAt Go.RowKit Go.Kx
set_option maxRecDepth 100000
set_option linter.unusedVariables false
set_option linter.unusedSimpArgs false
set_option linter.constructorNameAsVariable false
theorem rowOwn : ownKnob Try.prog.godebug = none := by kernel_rfl
theorem rowLaid : laidOutB Try.prog = true := by kernel_rfl
theorem decSup {W : World} : Dec Try.prog W 62 encSup := fun h => by
  obtain ⟨ns, hl, rfl, _⟩ := open_ints Try.underlying62 (by kernel_rfl) (by kernel_rfl) h
  obtain ⟨a, b, c, d, e, f, rfl⟩ := len6 hl
  exact ⟨⟨a, b, c, d, e, f⟩, rfl⟩
theorem open_sups {H : Type} {enc : TypeId × Value → H} {W : World} {v : Value} {d : DataW H} {p : List MemPlace} {r : Reach} {b0 : Nat} (hval : Value.okWide Try.prog W r b0 27 v) (h : DataW.Trod enc Try.prog W 0 (fun _ => true) true 27 v d p) : ∃ (a : Option Addr) (xs : List Sup) (cap : Nat), v = .slice a xs.length cap ∧ xs.length ≤ cap ∧ cap ≤ maxLen ∧ Rdb W a 6 encSup xs :=
  open_rdb Try.underlying27 (by kernel_rfl) (by kernel_rfl) (fun _ => rfl) decSup hval h
theorem open_point {H : Type} {enc : TypeId × Value → H} {W : World} {v : Value} {d : DataW H} {p : List MemPlace} {r : Reach} {b0 : Nat} (hval : Value.okWide Try.prog W r b0 29 v) (h : DataW.Trod enc Try.prog W 0 (fun _ => true) true 29 v d p) : ∃ x y : Int, v = .agg #[.int .i64 x, .int .i64 y] := by
  obtain ⟨ns, hl, rfl⟩ := open_struct_val (m := 2) Try.underlying29 (by kernel_rfl) (by kernel_rfl) rfl hval h
  obtain ⟨x, y, rfl⟩ := len2 hl
  exact ⟨x, y, rfl⟩
theorem open_slope {H : Type} {enc : TypeId × Value → H} {W : World} {v : Value} {d : DataW H} {p : List MemPlace} {r : Reach} {b0 : Nat} (hval : Value.okWide Try.prog W r b0 46 v) (h : DataW.Trod enc Try.prog W 0 (fun _ => true) true 46 v d p) : ∃ x y : Int, v = .agg #[.int .i64 x, .int .i64 y] := by
  obtain ⟨ns, hl, rfl⟩ := open_struct_val (m := 2) Try.underlying46 (by kernel_rfl) (by kernel_rfl) rfl hval h
  obtain ⟨x, y, rfl⟩ := len2 hl
  exact ⟨x, y, rfl⟩
theorem open_three {H : Type} {enc : TypeId × Value → H} {W : World} {v : Value} {d : DataW H} {p : List MemPlace} {r : Reach} {b0 : Nat} (hval : Value.okWide Try.prog W r b0 30 v) (h : DataW.Trod enc Try.prog W 0 (fun _ => true) true 30 v d p) : ∃ x y z : Int, v = .agg #[.int .i64 x, .int .i64 y, .int .i64 z] := by
  obtain ⟨ns, hl, rfl⟩ := open_array_val (m := 3) Try.underlying30 (by kernel_rfl) (by kernel_rfl) (by kernel_rfl) hval h
  obtain ⟨x, y, z, rfl⟩ := len3 hl
  exact ⟨x, y, z, rfl⟩
end Go.Proofs.Ytfekoippjmojgaa
