/- A load, by value, read from memory. -/
import Derived.Test.YtfekoippjmojgaaRB
import Derived.Test.YtfekoippjmojgaaS16
namespace Go.Proofs.Ytfekoippjmojgaa
open Go.ChangeShapes Go.WideShapes Go.ChangeAt Go.RowKit Go.Kx
set_option maxRecDepth 100000
set_option linter.unusedVariables false
set_option linter.unusedSimpArgs false
set_option linter.constructorNameAsVariable false
theorem decPc {W : World} : Dec Try.prog W 142 encPc := fun h => by
  obtain ⟨ns, hl, rfl, _⟩ := open_ints Try.underlying142 (by kernel_rfl) (by kernel_rfl) h
  match ns, hl with
  | [a, b, c, d, e, f, g], _ => exact ⟨⟨a, b, c, d, e, f, g⟩, rfl⟩
theorem decEy {W : World} : Dec Try.prog W 145 encEy := fun h => by
  obtain ⟨ns, hl, rfl, _⟩ := open_ints Try.underlying145 (by kernel_rfl) (by kernel_rfl) h
  match ns, hl with
  | [a, b, c, d], _ => exact ⟨⟨a, b, c, d⟩, rfl⟩
theorem open_load {H : Type} {enc : TypeId × Value → H} {W : World} {v : Value} {d : DataW H} {p : List MemPlace} {r : Reach} {b0 : Nat} (hval : Value.okWide Try.prog W r b0 68 v) (h : DataW.Trod enc Try.prog W 0 (fun _ => true) true 68 v d p) :
    ∃ (s : ByteArray) (ap : Option Addr) (cp : Nat) (ps : List Pc) (ae : Option Addr) (ce : Nat) (es : List Ey) (fr : Int), v = .agg #[.string s, .slice ap ps.length cp, .slice ae es.length ce, .int .i64 fr] ∧ Rdb W ap 7 encPc ps ∧ Rdb W ae 4 encEy es := by
  obtain ⟨cs, rfl, hsz⟩ := okWide_struct Try.underlying68 hval
  obtain ⟨fuel, hf⟩ := h
  obtain ⟨xs, n, _, _, hcl, hxl, hx⟩ := DataW.trod_struct Try.underlying68 hf
  rw [show Try.prog.cellsOf 68 = 4 from by kernel_rfl] at hsz hcl
  have hxl4 : xs.length = 4 := hxl
  obtain ⟨l⟩ := cs
  match l, hsz with
  | [v0, v1, v2, v3], _ =>
    have h0 : DataW.trod enc Try.prog W 0 (fun _ => true) true n 9 ((([v0, v1, v2, v3] : List Value).drop 0).take (Try.prog.cellsOf 9)) = xs[0]? := hx 0 _ rfl
    rw [show Try.prog.cellsOf 9 = 1 from by kernel_rfl, List.getElem?_eq_getElem (by omega)] at h0
    have h1 : DataW.trod enc Try.prog W 0 (fun _ => true) true n 65 ((([v0, v1, v2, v3] : List Value).drop 1).take (Try.prog.cellsOf 65)) = xs[1]? := hx 1 _ rfl
    rw [show Try.prog.cellsOf 65 = 1 from by kernel_rfl, List.getElem?_eq_getElem (by omega)] at h1
    have h2 : DataW.trod enc Try.prog W 0 (fun _ => true) true n 66 ((([v0, v1, v2, v3] : List Value).drop 2).take (Try.prog.cellsOf 66)) = xs[2]? := hx 2 _ rfl
    rw [show Try.prog.cellsOf 66 = 1 from by kernel_rfl, List.getElem?_eq_getElem (by omega)] at h2
    have h3 : DataW.trod enc Try.prog W 0 (fun _ => true) true n 2 ((([v0, v1, v2, v3] : List Value).drop 3).take (Try.prog.cellsOf 2)) = xs[3]? := hx 3 _ rfl
    rw [show Try.prog.cellsOf 2 = 1 from by kernel_rfl, List.getElem?_eq_getElem (by omega)] at h3
    obtain ⟨s, hs, _⟩ := DataW.trod_string Try.underlying9 h0
    obtain ⟨ap, ps, cp, hp, _, _, hP⟩ := open_rdb_cells (sz := 7) Try.underlying65 (by kernel_rfl) (by kernel_rfl) (fun _ => rfl) decPc h1
    obtain ⟨ae, es, ce, he, _, _, hE⟩ := open_rdb_cells (sz := 4) Try.underlying66 (by kernel_rfl) (by kernel_rfl) (fun _ => rfl) decEy h2
    obtain ⟨fr, hfr, _⟩ := DataW.trod_int Try.underlying2 h3
    simp at hs hp he hfr
    subst hs hp he hfr
    exact ⟨s, ap, cp, ps, ae, ce, es, fr, rfl, hP, hE⟩
end Go.Proofs.Ytfekoippjmojgaa
