/- The rules of a walk: one lemma for each kind of operation. -/
import Derived.Test.YtfekoippjmojgaaKxA
namespace Go.Kx
set_option linter.unusedVariables false
set_option linter.unusedSimpArgs false
set_option linter.constructorNameAsVariable false
open Go.RowKit

section
variable {P : Program} {W : World} {n : Cx} {T : List (Nat × Value)} {B : List (Nat × Res)}
variable {dst : Option Tmp} {ty : TypeId} {pos : String} {aft : Array Edge} {g : Option (Nat × Bool)}

theorem Val.move {x : Operand} {v : Value} (hx : opv T x = some v) : Val P W n ⟨dst, .move x, ty, pos, aft, g⟩ T B v := fun a w ht _ => by
  simp [execOp, ht.eval hx]
theorem Val.assign {x : Operand} {v : Value} (hx : opv T x = some v) : Val P W n ⟨dst, .assign x, ty, pos, aft, g⟩ T B v := fun a w ht _ => by
  simp [execOp, ht.eval hx]
theorem Val.pickT {c x y : Operand} {v : Value} (hc : opv T c = some (.bool true)) (hx : opv T x = some v) : Val P W n ⟨dst, .pick c x y, ty, pos, aft, g⟩ T B v := fun a w ht _ => by
  simp [execOp, ht.eval hx, ht.eval hc, asBool]
theorem Val.pickF {c x y : Operand} {v : Value} (hc : opv T c = some (.bool false)) (hy : opv T y = some v) : Val P W n ⟨dst, .pick c x y, ty, pos, aft, g⟩ T B v := fun a w ht _ => by
  simp [execOp, ht.eval hy, ht.eval hc, asBool]

/-! integers -/
theorem run_bin {op : BinOp} {t t' : TypeId} {x y : Operand} {k : IntKind} {i j : Int} {v : Value} (hs : op ≠ .shl) (hs' : op ≠ .shr)
    (hr : ∀ w, (binOp op t (.int k i) (.int k j)).run P w = .ok v w) (hx : opv T x = some (.int k i)) (hy : opv T y = some (.int k j)) : Val P W n ⟨dst, .binOp op t x y t', ty, pos, aft, g⟩ T B v := fun a w ht _ => by
  have hg : (eqGuard op t x y (.int k i) (.int k j)).run P w = .ok () w := by
    unfold eqGuard
    split <;> rfl
  simp only [execOp, ht.eval hx, ht.eval hy, Sem.run_bind, hg, Result.andThen_ok, hr, Sem.run_pure]
theorem Val.add {t t' : TypeId} {x y : Operand} {i j : Int} (hx : opv T x = some (.int .i64 i)) (hy : opv T y = some (.int .i64 j)) : Val P W n ⟨dst, .binOp .add t x y t', ty, pos, aft, g⟩ T B (.int .i64 (wrap64 (i + j))) :=
  run_bin (by simp) (by simp) (fun w => by simp [binOp, Op.intArith, IntKind.wrap_i64, wrap64]) hx hy
theorem Val.sub {t t' : TypeId} {x y : Operand} {i j : Int} (hx : opv T x = some (.int .i64 i)) (hy : opv T y = some (.int .i64 j)) : Val P W n ⟨dst, .binOp .sub t x y t', ty, pos, aft, g⟩ T B (.int .i64 (wrap64 (i - j))) :=
  run_bin (by simp) (by simp) (fun w => by simp [binOp, Op.intArith, IntKind.wrap_i64, wrap64]) hx hy
theorem Val.mul {t t' : TypeId} {x y : Operand} {i j : Int} (hx : opv T x = some (.int .i64 i)) (hy : opv T y = some (.int .i64 j)) : Val P W n ⟨dst, .binOp .mul t x y t', ty, pos, aft, g⟩ T B (.int .i64 (wrap64 (i * j))) :=
  run_bin (by simp) (by simp) (fun w => by simp [binOp, Op.intArith, IntKind.wrap_i64, wrap64]) hx hy
/-- The same where nothing wraps. -/
def in64 (x : Int) : Prop := -9223372036854775808 ≤ x ∧ x ≤ 9223372036854775807
theorem wrap_of {x : Int} (h : in64 x) : wrap64 x = x := by unfold wrap64; unfold in64 at h; omega
theorem Val.addN {t t' : TypeId} {x y : Operand} {i j : Int} (hx : opv T x = some (.int .i64 i)) (hy : opv T y = some (.int .i64 j)) (h : in64 (i + j)) : Val P W n ⟨dst, .binOp .add t x y t', ty, pos, aft, g⟩ T B (.int .i64 (i + j)) := by
  have := Val.add (P := P) (W := W) (n := n) (B := B) (dst := dst) (ty := ty) (pos := pos) (aft := aft) (g := g) (t := t) (t' := t') hx hy
  rwa [wrap_of h] at this
theorem Val.subN {t t' : TypeId} {x y : Operand} {i j : Int} (hx : opv T x = some (.int .i64 i)) (hy : opv T y = some (.int .i64 j)) (h : in64 (i - j)) : Val P W n ⟨dst, .binOp .sub t x y t', ty, pos, aft, g⟩ T B (.int .i64 (i - j)) := by
  have := Val.sub (P := P) (W := W) (n := n) (B := B) (dst := dst) (ty := ty) (pos := pos) (aft := aft) (g := g) (t := t) (t' := t') hx hy
  rwa [wrap_of h] at this
theorem Val.mulN {t t' : TypeId} {x y : Operand} {i j : Int} (hx : opv T x = some (.int .i64 i)) (hy : opv T y = some (.int .i64 j)) (h : in64 (i * j)) : Val P W n ⟨dst, .binOp .mul t x y t', ty, pos, aft, g⟩ T B (.int .i64 (i * j)) := by
  have := Val.mul (P := P) (W := W) (n := n) (B := B) (dst := dst) (ty := ty) (pos := pos) (aft := aft) (g := g) (t := t) (t' := t') hx hy
  rwa [wrap_of h] at this
/-- Whole numbers without a sign, of 64 bits. -/
def wu64 (x : Int) : Int := x % 18446744073709551616
theorem Val.addU {t t' : TypeId} {x y : Operand} {i j : Int} (hx : opv T x = some (.int .u64 i)) (hy : opv T y = some (.int .u64 j)) : Val P W n ⟨dst, .binOp .add t x y t', ty, pos, aft, g⟩ T B (.int .u64 (wu64 (i + j))) :=
  run_bin (by simp) (by simp) (fun w => by simp [binOp, Op.intArith, IntKind.wrap_u64, wu64]) hx hy
theorem Val.subU {t t' : TypeId} {x y : Operand} {i j : Int} (hx : opv T x = some (.int .u64 i)) (hy : opv T y = some (.int .u64 j)) : Val P W n ⟨dst, .binOp .sub t x y t', ty, pos, aft, g⟩ T B (.int .u64 (wu64 (i - j))) :=
  run_bin (by simp) (by simp) (fun w => by simp [binOp, Op.intArith, IntKind.wrap_u64, wu64]) hx hy
theorem Val.mulU {t t' : TypeId} {x y : Operand} {i j : Int} (hx : opv T x = some (.int .u64 i)) (hy : opv T y = some (.int .u64 j)) : Val P W n ⟨dst, .binOp .mul t x y t', ty, pos, aft, g⟩ T B (.int .u64 (wu64 (i * j))) :=
  run_bin (by simp) (by simp) (fun w => by simp [binOp, Op.intArith, IntKind.wrap_u64, wu64]) hx hy
/-- Any kind: the sum as the kind wraps it. -/
theorem Val.addK {k : IntKind} {t t' : TypeId} {x y : Operand} {i j : Int} (hx : opv T x = some (.int k i)) (hy : opv T y = some (.int k j)) : Val P W n ⟨dst, .binOp .add t x y t', ty, pos, aft, g⟩ T B (.int k (k.wrap (i + j))) :=
  run_bin (by simp) (by simp) (fun w => by simp [binOp, Op.intArith]) hx hy
theorem Val.subK {k : IntKind} {t t' : TypeId} {x y : Operand} {i j : Int} (hx : opv T x = some (.int k i)) (hy : opv T y = some (.int k j)) : Val P W n ⟨dst, .binOp .sub t x y t', ty, pos, aft, g⟩ T B (.int k (k.wrap (i - j))) :=
  run_bin (by simp) (by simp) (fun w => by simp [binOp, Op.intArith]) hx hy
theorem Val.quo {k : IntKind} {t t' : TypeId} {x y : Operand} {i j : Int} (hx : opv T x = some (.int k i)) (hy : opv T y = some (.int k j)) (h : j ≠ 0) : Val P W n ⟨dst, .binOp .quo t x y t', ty, pos, aft, g⟩ T B (.int k (k.wrap (i.tdiv j))) :=
  run_bin (by simp) (by simp) (fun w => by simp [binOp, Op.intDiv, h]) hx hy
theorem Val.rem {k : IntKind} {t t' : TypeId} {x y : Operand} {i j : Int} (hx : opv T x = some (.int k i)) (hy : opv T y = some (.int k j)) (h : j ≠ 0) : Val P W n ⟨dst, .binOp .rem t x y t', ty, pos, aft, g⟩ T B (.int k (i.tmod j)) :=
  run_bin (by simp) (by simp) (fun w => by simp [binOp, Op.intDiv, h]) hx hy
theorem Val.bitK {k : IntKind} {op : BinOp} {t t' : TypeId} {x y : Operand} {i j r : Int} (hx : opv T x = some (.int k i)) (hy : opv T y = some (.int k j)) (hs : op ≠ .shl) (hs' : op ≠ .shr)
    (hr : ∀ w, (binOp op t (.int k i) (.int k j)).run P w = .ok (.int k r) w) : Val P W n ⟨dst, .binOp op t x y t', ty, pos, aft, g⟩ T B (.int k r) := run_bin hs hs' hr hx hy
theorem Val.lss {k : IntKind} {t t' : TypeId} {x y : Operand} {i j : Int} (hx : opv T x = some (.int k i)) (hy : opv T y = some (.int k j)) : Val P W n ⟨dst, .binOp .lss t x y t', ty, pos, aft, g⟩ T B (.bool (decide (i < j))) :=
  run_bin (by simp) (by simp) (fun w => by simp [binOp, Op.intCmp]) hx hy
theorem Val.leq {k : IntKind} {t t' : TypeId} {x y : Operand} {i j : Int} (hx : opv T x = some (.int k i)) (hy : opv T y = some (.int k j)) : Val P W n ⟨dst, .binOp .leq t x y t', ty, pos, aft, g⟩ T B (.bool (decide (i ≤ j))) :=
  run_bin (by simp) (by simp) (fun w => by simp [binOp, Op.intCmp]) hx hy
theorem Val.gtr {k : IntKind} {t t' : TypeId} {x y : Operand} {i j : Int} (hx : opv T x = some (.int k i)) (hy : opv T y = some (.int k j)) : Val P W n ⟨dst, .binOp .gtr t x y t', ty, pos, aft, g⟩ T B (.bool (decide (j < i))) :=
  run_bin (by simp) (by simp) (fun w => by simp [binOp, Op.intCmp]) hx hy
theorem Val.geq {k : IntKind} {t t' : TypeId} {x y : Operand} {i j : Int} (hx : opv T x = some (.int k i)) (hy : opv T y = some (.int k j)) : Val P W n ⟨dst, .binOp .geq t x y t', ty, pos, aft, g⟩ T B (.bool (decide (j ≤ i))) :=
  run_bin (by simp) (by simp) (fun w => by simp [binOp, Op.intCmp]) hx hy
theorem beq_dec (i j : Int) : (i == j) = decide (i = j) := by
  by_cases h : i = j <;> simp [h]
theorem Val.eql {k : IntKind} {t t' : TypeId} {x y : Operand} {i j : Int} (hx : opv T x = some (.int k i)) (hy : opv T y = some (.int k j)) : Val P W n ⟨dst, .binOp .eql t x y t', ty, pos, aft, g⟩ T B (.bool (decide (i = j))) :=
  run_bin (by simp) (by simp) (fun w => by simp [binOp, Op.intCmp, beq_dec]) hx hy
theorem Val.neq {k : IntKind} {t t' : TypeId} {x y : Operand} {i j : Int} (hx : opv T x = some (.int k i)) (hy : opv T y = some (.int k j)) : Val P W n ⟨dst, .binOp .neq t x y t', ty, pos, aft, g⟩ T B (.bool (!decide (i = j))) :=
  run_bin (by simp) (by simp) (fun w => by simp [binOp, Op.intCmp, bne, beq_dec]) hx hy
/-- A comparison whose outcome is known. -/
theorem Val.known {o : Oper} {b c : Bool} (h : Val P W n o T B (.bool b)) (e : b = c) : Val P W n o T B (.bool c) := e ▸ h
theorem Val.as {o : Oper} {u v : Value} (h : Val P W n o T B u) (e : u = v) : Val P W n o T B v := e ▸ h
theorem run_bool {op : BinOp} {t t' : TypeId} {x y : Operand} {i j r : Bool} (hr : ∀ w, (binOp op t (.bool i) (.bool j)).run P w = .ok (.bool r) w) (hx : opv T x = some (.bool i)) (hy : opv T y = some (.bool j)) : Val P W n ⟨dst, .binOp op t x y t', ty, pos, aft, g⟩ T B (.bool r) := fun a w ht _ => by
  have hg : (eqGuard op t x y (.bool i) (.bool j)).run P w = .ok () w := by
    unfold eqGuard
    split <;> rfl
  simp only [execOp, ht.eval hx, ht.eval hy, Sem.run_bind, hg, Result.andThen_ok, hr, Sem.run_pure]
theorem run_underlying_of {t : TypeId} {d : TypeDesc} (h : P.underlying t = some d) (w : World) : (underlying t).run P w = .ok d w := by
  simp [underlying, h]
theorem run_info_of {t : TypeId} {d : TypeInfo} (h : P.info? t = some d) (w : World) : (typeInfo t).run P w = .ok d w := by
  simp [typeInfo, h]
theorem equal_bool {t : TypeId} (h : P.underlying t = some .bool) (i j : Bool) (w : World) : (Op.equal t (.bool i) (.bool j)).run P w = .ok (i == j) w := by
  have key : ∀ d, (Op.equalIn (d + 1) t (.bool i) (.bool j)).run P w = .ok (i == j) w := fun d => by
    unfold Op.equalIn
    simp [run_underlying_of h]
  exact key 9999
theorem Val.eqlB {t t' : TypeId} {x y : Operand} {i j : Bool} (h : P.underlying t = some .bool) (hx : opv T x = some (.bool i)) (hy : opv T y = some (.bool j)) : Val P W n ⟨dst, .binOp .eql t x y t', ty, pos, aft, g⟩ T B (.bool (i == j)) :=
  run_bool (fun w => by simp [binOp, equal_bool h]) hx hy
theorem Val.neqB {t t' : TypeId} {x y : Operand} {i j : Bool} (h : P.underlying t = some .bool) (hx : opv T x = some (.bool i)) (hy : opv T y = some (.bool j)) : Val P W n ⟨dst, .binOp .neq t x y t', ty, pos, aft, g⟩ T B (.bool (!(i == j))) :=
  run_bool (fun w => by simp [binOp, equal_bool h]) hx hy
/-- Any other comparison: what it comes to is shown apart. -/
theorem Val.cmp {op : BinOp} {t t' : TypeId} {x y : Operand} {u v : Value} {r : Value} (hx : opv T x = some u) (hy : opv T y = some v) (hr : ∀ w, ((do eqGuard op t x y u v; binOp op t u v : Sem Value)).run P w = .ok r w) : Val P W n ⟨dst, .binOp op t x y t', ty, pos, aft, g⟩ T B r := fun a w ht _ => by
  have := hr w
  simp only [Sem.run_bind] at this
  simp only [execOp, ht.eval hx, ht.eval hy, Sem.run_bind, this, Result.andThen_ok, Sem.run_pure]
theorem Val.not {t : TypeId} {x : Operand} {b : Bool} (hx : opv T x = some (.bool b)) : Val P W n ⟨dst, .unOp .not t x, ty, pos, aft, g⟩ T B (.bool (!b)) := fun a w ht _ => by
  simp [execOp, ht.eval hx, Op.unary]
theorem Val.neg {t : TypeId} {x : Operand} {i : Int} (hx : opv T x = some (.int .i64 i)) : Val P W n ⟨dst, .unOp .neg t x, ty, pos, aft, g⟩ T B (.int .i64 (wrap64 (-i))) := fun a w ht _ => by
  simp [execOp, ht.eval hx, Op.unary, Op.intArith, IntKind.wrap_i64, wrap64]
theorem Val.negN {t : TypeId} {x : Operand} {i : Int} (hx : opv T x = some (.int .i64 i)) (h : in64 (-i)) : Val P W n ⟨dst, .unOp .neg t x, ty, pos, aft, g⟩ T B (.int .i64 (-i)) := by
  have := Val.neg (P := P) (W := W) (n := n) (B := B) (dst := dst) (ty := ty) (pos := pos) (aft := aft) (g := g) (t := t) hx
  rwa [wrap_of h] at this
theorem Val.conv {src des : TypeId} {x : Operand} {k k' : IntKind} {d : TypeDesc} {i : Int} (hs : P.underlying src = some d) (h : P.underlying des = some (.int k)) (hx : opv T x = some (.int k' i)) : Val P W n ⟨dst, .convert src des x, ty, pos, aft, g⟩ T B (.int k (k.wrap i)) := fun a w ht _ => by
  simp only [execOp, ht.eval hx, convert, Sem.run_bind, run_underlying_of hs, run_underlying_of h, Result.andThen_ok]
  cases d <;> rfl
theorem Val.extract {x : Operand} {i : Nat} {vs : Array Value} {v : Value} (hx : opv T x = some (.tuple vs)) (hv : vs.toList[i]? = some v) : Val P W n ⟨dst, .extract x i, ty, pos, aft, g⟩ T B v := fun a w ht _ => by
  have : vs[i]? = some v := by simpa using hv
  simp [execOp, ht.eval hx, Instr.extract, this]
theorem Val.fn {fn : Fn} {first captured : List Operand} {vs us : List Value} (h1 : opvs T first = some vs) (h2 : opvs T captured = some us) : Val P W n ⟨dst, .makeFunc fn first.toArray captured.toArray, ty, pos, aft, g⟩ T B (.func fn vs.toArray us.toArray) := fun a w ht _ => by
  simp [execOp, Instr.makeFunc, ht.evals h1, ht.evals h2]
theorem Val.nilCheck {x : Operand} {ad : Addr} (hx : opv T x = some (.pointer (some ad))) : Val P W n ⟨dst, .nilCheck x, ty, pos, aft, g⟩ T B (.pointer (some ad)) := fun a w ht _ => by
  simp [execOp, ht.eval hx]
theorem Val.nilCheckF {x : Operand} {f : FuncId} {fi cp : Array Value} (hx : opv T x = some (.func (.func f) fi cp)) : Val P W n ⟨dst, .nilCheck x, ty, pos, aft, g⟩ T B (.func (.func f) fi cp) := fun a w ht _ => by
  simp [execOp, ht.eval hx]
def opps (T : List (Nat × Value)) : List (Nat × Operand) → Option (List (Nat × Value))
  | [] => some []
  | (i, x) :: r => match opv T x with
    | some v => match opps T r with
      | some vs => some ((i, v) :: vs)
      | none => none
    | none => none
theorem Tm.evalps {a : Act} (h : Tm n T a) : ∀ {l : List (Nat × Operand)} {vs : List (Nat × Value)}, opps T l = some vs → l.map (fun (i, x) => (i, a.eval x)) = vs
  | [], vs, hx => by simpa [opps] using hx
  | (i, x) :: r, vs, hx => by
    unfold opps at hx
    split at hx
    · rename_i v hv
      split at hx
      · rename_i us hus
        cases hx
        simp only [List.map_cons, h.eval hv, h.evalps hus]
      · cases hx
    · cases hx
theorem Val.build {t : TypeId} {parts : List (Nat × Operand)} {ps : List (Nat × Value)} {v : Value} (hp : opps T parts = some ps) (hb : ∀ w, (Instr.build t ps.toArray).run P w = .ok v w) : Val P W n ⟨dst, .build t parts.toArray, ty, pos, aft, g⟩ T B v := fun a w ht _ => by
  have h1 : parts.toArray.map (fun (i, x) => (i, a.eval x)) = ps.toArray := by
    rw [List.map_toArray]; exact congrArg _ (ht.evalps hp)
  simp only [execOp, h1, Sem.run_bind, hb, Result.andThen_ok, Sem.run_pure]
theorem Val.field {t : TypeId} {x : Operand} {f : Nat} {u v : Value} (hx : opv T x = some u) (hb : ∀ w, (Instr.field t u f).run P w = .ok v w) : Val P W n ⟨dst, .field t x f, ty, pos, aft, g⟩ T B v := fun a w ht _ => by
  simp only [execOp, ht.eval hx, Sem.run_bind, hb, Result.andThen_ok, Sem.run_pure]
theorem Val.index {t : TypeId} {x i : Operand} {u j v : Value} (hx : opv T x = some u) (hi : opv T i = some j) (hb : ∀ w, (Instr.index t u j).run P w = .ok v w) : Val P W n ⟨dst, .index t x i, ty, pos, aft, g⟩ T B v := fun a w ht _ => by
  simp only [execOp, ht.eval hx, ht.eval hi, Sem.run_bind, hb, Result.andThen_ok, Sem.run_pure]
theorem Val.fa {t : TypeId} {x : Operand} {f : Nat} {u v : Value} (hx : opv T x = some u) (hb : ∀ w, (Instr.fieldAt t u f).run P w = .ok v w) : Val P W n ⟨dst, .fieldAddr t x f, ty, pos, aft, g⟩ T B v := fun a w ht _ => by
  simp only [execOp, ht.eval hx, Sem.run_bind, hb, Result.andThen_ok, Sem.run_pure]
theorem Val.ia {t : TypeId} {x i : Operand} {u j v : Value} (hx : opv T x = some u) (hi : opv T i = some j) (hb : ∀ w, (Instr.indexAt t u j).run P w = .ok v w) : Val P W n ⟨dst, .indexAddr t x i, ty, pos, aft, g⟩ T B v := fun a w ht _ => by
  simp only [execOp, ht.eval hx, ht.eval hi, Sem.run_bind, hb, Result.andThen_ok, Sem.run_pure]

/-! loads -/
def scal (P : Program) (t : TypeId) : Bool := match P.underlying t with
  | some (.struct _) | some (.array _ _) | none => false
  | some _ => true
theorem run_loadVar_scal {t : TypeId} (hs : scal P t = true) {ad : Addr} {v : Value} {w : World} (hc : w.cell? ad = some v) : (loadVar t ad).run P w = .ok v w := by
  unfold scal at hs
  split at hs
  · cases hs
  · cases hs
  · cases hs
  · rename_i d h1 h2 h3
    have : (isAgg t).run P w = .ok false w := by
      simp only [isAgg, Sem.run_bind, run_underlying_of h3, Result.andThen_ok]
      cases d <;> first | rfl | (exact absurd h3 (h1 _)) | (exact absurd h3 (h2 _ _))
    simp only [loadVar, Sem.run_bind, this, Result.andThen_ok, Bool.false_eq_true, if_false, run_load, hc]
theorem Val.load {t : TypeId} {x : Operand} {l b off : Nat} {cs : List Value} {ct : TypeId} {v : Value} (hx : opv T x = some (.pointer (some ⟨b, off, none⟩))) (hl : lkp B l = some (blk b cs ct)) (hs : scal P t = true) (hv : cs[off]? = some v) : Val P W n ⟨dst, .load t x, ty, pos, aft, g⟩ T B v := fun a w ht hm => by
  have := run_loadVar_scal hs (w := w) ((hm.cell hl off).trans hv)
  simp only [execOp, ht.eval hx, Instr.loadAt, Instr.sureAddr, Sem.run_bind, Sem.run_pure, Result.andThen_ok, this]
/-- A cell that was there when the call began. -/
theorem Val.loadOld {t : TypeId} {x : Operand} {ad : Addr} {v : Value} (hx : opv T x = some (.pointer (some ad))) (hs : scal P t = true) (hv : W.cell? ad = some v) : Val P W n ⟨dst, .load t x, ty, pos, aft, g⟩ T B v := fun a w ht hm => by
  have := run_loadVar_scal hs (w := w) (hm.old hv)
  simp only [execOp, ht.eval hx, Instr.loadAt, Instr.sureAddr, Sem.run_bind, Sem.run_pure, Result.andThen_ok, this]
def aggn (P : Program) (t : TypeId) (k : Nat) : Bool := (match P.underlying t with
  | some (.struct _) | some (.array _ _) => true
  | _ => false) && (match P.info? t with
  | some i => Nat.beq i.size k
  | none => false)
theorem aggn_spec {t k : Nat} (h : aggn P t k = true) : ∃ i, P.info? t = some i ∧ i.size = k ∧ ∀ w, (isAgg t).run P w = .ok true w := by
  unfold aggn at h
  simp only [Bool.and_eq_true] at h
  obtain ⟨h1, h2⟩ := h
  split at h2
  · rename_i i hi
    refine ⟨i, hi, by simpa using h2, fun w => ?_⟩
    split at h1
    · rename_i f hf; simp [isAgg, run_underlying_of hf]
    · rename_i f e hf; simp [isAgg, run_underlying_of hf]
    · cases h1
  · cases h2
theorem run_loadCells {ad : Addr} {w : World} : ∀ (vs : List Value) (i : Nat) (acc : Array Value), (∀ j u, vs[j]? = some u → w.cell? (ad.add (i + j)) = some u) → (loadCellsFrom ad i vs.length acc).run P w = .ok (acc ++ vs.toArray) w
  | [], i, acc, _ => by simp [loadCellsFrom]
  | v :: r, i, acc, h => by
    have h0 : w.cell? (ad.add i) = some v := h 0 v rfl
    have hr := run_loadCells r (i + 1) (acc.push v) fun j u hj => by
      have := h (j + 1) u (by simpa using hj)
      rwa [show i + 1 + j = i + (j + 1) from by omega]
    simp only [List.length_cons, loadCellsFrom, Sem.run_bind, run_load, h0, Result.andThen_ok, hr]
    have e : acc.push v ++ r.toArray = acc ++ (v :: r).toArray := by
      apply Array.ext'
      simp
    rw [e]
theorem run_loadVar_agg {t : TypeId} {vs : List Value} (hs : aggn P t vs.length = true) {ad : Addr} {w : World} (hc : ∀ j u, vs[j]? = some u → w.cell? (ad.add j) = some u) : (loadVar t ad).run P w = .ok (.agg vs.toArray) w := by
  obtain ⟨i, hi, hn, ha⟩ := aggn_spec hs
  have := run_loadCells (P := P) (ad := ad) (w := w) vs 0 #[] (fun j u hj => by simpa using hc j u hj)
  simp [loadVar, ha, sizeOf, run_info_of hi, hn, loadCells, this]
theorem cell_add (b off j : Nat) (w : World) : w.cell? ((⟨b, off, none⟩ : Addr).add j) = w.cell? ⟨b, off + j, none⟩ := by
  unfold Addr.add
  split
  · rename_i h; subst h; rfl
  · rfl
/-- A whole variable: all the cells of a block. -/
theorem Val.loadAll {t : TypeId} {x : Operand} {l b : Nat} {cs : List Value} {ct : TypeId} {k : Nat} (hx : opv T x = some (.pointer (some ⟨b, 0, none⟩))) (hl : lkp B l = some (blk b cs ct)) (hs : aggn P t k = true) (hk : cs.length = k) : Val P W n ⟨dst, .load t x, ty, pos, aft, g⟩ T B (.agg cs.toArray) := fun a w ht hm => by
  subst hk
  have := run_loadVar_agg hs (ad := ⟨b, 0, none⟩) (w := w) fun j u hj => by rw [cell_add, Nat.zero_add, hm.cell hl]; exact hj
  simp only [execOp, ht.eval hx, Instr.loadAt, Instr.sureAddr, Sem.run_bind, Sem.run_pure, Result.andThen_ok, this]
/-- A struct or an array within a block. -/
theorem Val.loadPart {t : TypeId} {x : Operand} {l b off : Nat} {cs vs : List Value} {ct : TypeId} {k : Nat} (hx : opv T x = some (.pointer (some ⟨b, off, none⟩))) (hl : lkp B l = some (blk b cs ct)) (hs : aggn P t k = true) (hv : (cs.drop off).take k = vs) (hk : vs.length = k) : Val P W n ⟨dst, .load t x, ty, pos, aft, g⟩ T B (.agg vs.toArray) := fun a w ht hm => by
  subst hk
  have := run_loadVar_agg hs (ad := ⟨b, off, none⟩) (w := w) fun j u hj => by
    rw [cell_add, hm.cell hl]
    rw [← hv] at hj
    rw [List.getElem?_take] at hj
    split at hj
    · rw [List.getElem?_drop] at hj; exact hj
    · cases hj
  simp only [execOp, ht.eval hx, Instr.loadAt, Instr.sureAddr, Sem.run_bind, Sem.run_pure, Result.andThen_ok, this]
theorem Val.loadOldAgg {t : TypeId} {x : Operand} {ad : Addr} {vs : List Value} {k : Nat} (hx : opv T x = some (.pointer (some ad))) (hs : aggn P t k = true) (hk : vs.length = k) (hv : ∀ j u, vs[j]? = some u → W.cell? (ad.add j) = some u) : Val P W n ⟨dst, .load t x, ty, pos, aft, g⟩ T B (.agg vs.toArray) := fun a w ht hm => by
  subst hk
  have := run_loadVar_agg hs (ad := ad) (w := w) fun j u hj => hm.old (hv j u hj)
  simp only [execOp, ht.eval hx, Instr.loadAt, Instr.sureAddr, Sem.run_bind, Sem.run_pure, Result.andThen_ok, this]

/-! builtins -/
theorem run_builtin {b : Builtin} {args : List Operand} {tys : Array TypeId} {vs : List Value} {v : Value} (ha : opvs T args = some vs)
    (hr : ∀ w cs, (builtin b tys ty cs vs.toArray).run P w = .ok (.value v) w) : Val P W n ⟨dst, .call { callee := .builtin b, args := args.toArray, argTypes := tys }, ty, pos, aft, g⟩ T B v := fun a w ht _ => by
  have h := ht.evals ha
  simp only [execOp, resolve, List.map_toArray, h, Sem.run_bind, Sem.run_pure, Result.andThen_ok, invoke, hr]
theorem Val.len {x : Operand} {t e : TypeId} {a : Option Addr} {m c : Nat} (hu : P.underlying t = some (.slice e)) (ha : opv T x = some (.slice a m c)) : Val P W n ⟨dst, .call { callee := .builtin .len, args := #[x], argTypes := #[t] }, ty, pos, aft, g⟩ T B (.int .i64 m) :=
  run_builtin (args := [x]) (vs := [.slice a m c]) (by simp [opvs, ha]) fun w cs => by
    simp only [builtin, Builtin.len_, Sem.run_bind, run_underlying_of hu, Result.andThen_ok, Sem.run_pure, List.getElem?_toArray, List.getElem?_cons_zero]
    rfl
theorem max_ite (x y : Int) : (if y > x then y else x) = max x y := by rw [Int.max_def]; split <;> split <;> omega
theorem min_ite (x y : Int) : (if y < x then y else x) = min x y := by rw [Int.min_def]; split <;> split <;> omega
theorem Val.max {x y : Operand} {tys : Array TypeId} {k : IntKind} {i j : Int} (hx : opv T x = some (.int k i)) (hy : opv T y = some (.int k j)) : Val P W n ⟨dst, .call { callee := .builtin .max, args := #[x, y], argTypes := tys }, ty, pos, aft, g⟩ T B (.int k (Max.max i j)) :=
  run_builtin (args := [x, y]) (vs := [.int k i, .int k j]) (by simp [opvs, hx, hy]) fun w cs => by
    simp [builtin, Builtin.max_, Builtin.max2, max_ite]
theorem Val.max3 {x y z : Operand} {tys : Array TypeId} {k : IntKind} {i j m : Int} (hx : opv T x = some (.int k i)) (hy : opv T y = some (.int k j)) (hz : opv T z = some (.int k m)) : Val P W n ⟨dst, .call { callee := .builtin .max, args := #[x, y, z], argTypes := tys }, ty, pos, aft, g⟩ T B (.int k (Max.max (Max.max i j) m)) :=
  run_builtin (args := [x, y, z]) (vs := [.int k i, .int k j, .int k m]) (by simp [opvs, hx, hy, hz]) fun w cs => by
    simp [builtin, Builtin.max_, Builtin.max2, max_ite]
theorem Val.min {x y : Operand} {tys : Array TypeId} {k : IntKind} {i j : Int} (hx : opv T x = some (.int k i)) (hy : opv T y = some (.int k j)) : Val P W n ⟨dst, .call { callee := .builtin .min, args := #[x, y], argTypes := tys }, ty, pos, aft, g⟩ T B (.int k (Min.min i j)) :=
  run_builtin (args := [x, y]) (vs := [.int k i, .int k j]) (by simp [opvs, hx, hy]) fun w cs => by
    simp [builtin, Builtin.min_, Builtin.min2, min_ite]

/-! blocks and stores -/
theorem Eff.box {d : Nat} {t : TypeId} {x : Operand} {v : Value} (l : Nat) (hx : opv T x = some v) (hd : Nat.blt d n.n = true) :
    Eff P W n ⟨some d, .box t x, ty, pos, aft, g⟩ T B (fun _ : Nat => True) (fun b => (d, .pointer (some ⟨b, 0, none⟩)) :: T) (fun b => (l, blk b v.cells.toList t) :: B) := fun a w ht hm K Q hk => by
  have hrun : (execOp a.eval ⟨some d, .box t x, ty, pos, aft, g⟩).run P w = .ok (.value (.pointer (some ⟨w.heap.size, 0, none⟩))) (w.alloc (.cells v.cells.toList.toArray t)) := by
    simp [execOp, ht.eval hx, Instr.box, newVar, newRow]
    try rfl
  refine OpX.of_run (by intro c e; cases e) hrun ?_
  exact hk w.heap.size trivial _ _ (ht.put hd _) (hm.alloc l _ t)
def cellsz (P : Program) (t : TypeId) : Option Nat := (P.info? t).map (·.size)
def zerov (P : Program) (t : TypeId) : Option Value := (P.info? t).bind (·.zero)
theorem Eff.alloc {d : Nat} {t : TypeId} {z : Value} (l : Nat) (hz : zerov P t = some z) (hd : Nat.blt d n.n = true) :
    Eff P W n ⟨some d, .alloc t, ty, pos, aft, g⟩ T B (fun _ : Nat => True) (fun b => (d, .pointer (some ⟨b, 0, none⟩)) :: T) (fun b => (l, blk b z.cells.toList t) :: B) := fun a w ht hm K Q hk => by
  obtain ⟨i, hi, hz⟩ := Option.bind_eq_some_iff.1 hz
  have hrun : (execOp a.eval ⟨some d, .alloc t, ty, pos, aft, g⟩).run P w = .ok (.value (.pointer (some ⟨w.heap.size, 0, none⟩))) (w.alloc (.cells z.cells.toList.toArray t)) := by
    simp [execOp, Instr.alloc, zeroValue, run_info_of hi, hz, newVar, newRow]
    try rfl
  refine OpX.of_run (by intro c e; cases e) hrun ?_
  exact hk w.heap.size trivial _ _ (ht.put hd _) (hm.alloc l _ t)
/-- A store of one cell. -/
theorem run_storeVar_one {t : TypeId} {i : TypeInfo} {ad : Addr} {v u : Value} {w : World} (hi : P.info? t = some i) (h1 : i.size = 1) (hv : v.oneCell' = true) (hc : w.cell? ad = some u) (hf : w.frozen? ad = false) : (storeVar t ad v).run P w = .ok () (w.setCell ad v) := by
  have hcells : v.cells = #[v] := by cases v <;> first | rfl | simp [Value.oneCell'] at hv
  have hst : (store ad v).run P w = .ok () (w.setCell ad v) := by
    rw [run_store P w ad v .plain hv, hc]; simp [hf]
  simp only [storeVar, sizeOf, Sem.run_bind, run_info_of hi, Result.andThen_ok, Sem.run_pure, hcells, h1]
  simp [storeCells, Addr.add, hst]
theorem Eff.store {t : TypeId} {x y : Operand} {l b off : Nat} {cs : List Value} {ct : TypeId} {v : Value} (hi : cellsz P t = some 1) (hx : opv T x = some (.pointer (some ⟨b, off, none⟩))) (hy : opv T y = some v) (hv : v.oneCell' = true) (hl : lkp B l = some (blk b cs ct)) (hlt : Nat.blt off cs.length = true) :
    Eff P W n ⟨none, .store t x y, ty, pos, aft, g⟩ T B (fun _ : Unit => True) (fun _ => T) (fun _ => (l, blk b (cs.set off v) ct) :: B) := fun a w ht hm K Q hk => by
  obtain ⟨i, hi, h1⟩ := Option.map_eq_some_iff.1 hi
  have hlt' : off < cs.length := by simpa [Nat.blt_eq] using hlt
  have hst := run_storeVar_one (P := P) (t := t) (ad := ⟨b, off, none⟩) (v := v) (u := cs[off]) (w := w) hi h1 hv ((hm.cell hl off).trans (by simp [hlt'])) (hm.thawed hl off)
  have hrun : (execOp a.eval ⟨none, .store t x y, ty, pos, aft, g⟩).run P w = .ok .skip (w.setCell ⟨b, off, none⟩ v) := by
    simp only [execOp, ht.eval hx, ht.eval hy, Instr.storeAt, Instr.sureAddr, Sem.run_bind, Sem.run_pure, Result.andThen_ok, hst]
  refine OpX.of_run (by intro c e; cases e) hrun ?_
  exact hk () trivial _ _ ht (hm.set hl off v)
/-- A store of several cells, one after another. -/
def splice (cs : List Value) (off : Nat) : List Value → List Value
  | [] => cs
  | v :: r => splice (cs.set off v) (off + 1) r
theorem splice_length (vs : List Value) : ∀ (cs : List Value) (off : Nat), (splice cs off vs).length = cs.length := by
  induction vs with
  | nil => intro cs off; rfl
  | cons v r ih => intro cs off; simp [splice, ih]
theorem run_storeCells {b : Nat} {ct : TypeId} (off : Nat) : ∀ (vs : List Value) (i : Nat) (cs : List Value) (w : World), (∀ u ∈ vs, u.oneCell' = true) → off + i + vs.length ≤ cs.length → w.heap[b]? = some (.cells cs.toArray ct (0, 0)) →
    ∃ w', (storeCells ⟨b, off, none⟩ vs i).run P w = .ok () w' ∧ w'.heap[b]? = some (.cells (splice cs (off + i) vs).toArray ct (0, 0)) ∧ w'.os = w.os ∧ w'.tape = w.tape ∧ w'.output = w.output ∧ w'.heap.size = w.heap.size ∧ ∀ k, k ≠ b → w'.heap[k]? = w.heap[k]?
  | [], i, cs, w, _, _, hb => ⟨w, by simp [storeCells], hb, rfl, rfl, rfl, rfl, fun _ _ => rfl⟩
  | v :: r, i, cs, w, h1, hlt, hb => by
    simp only [List.length_cons] at hlt
    have hc : w.cell? ⟨b, off + i, none⟩ = some cs[off + i] := by simp [World.cell?, hb]
    have hf : w.frozen? ⟨b, off + i, none⟩ = false := by simp [World.frozen?, hb]
    have hcadd : w.cell? ((⟨b, off, none⟩ : Addr).add i) = some cs[off + i] := by rw [cell_add]; exact hc
    have hadd : ((⟨b, off, none⟩ : Addr).add i) = ⟨b, off + i, none⟩ := by
      unfold Addr.add
      split
      · rename_i h; subst h; rfl
      · rfl
    have hst : (store ((⟨b, off, none⟩ : Addr).add i) v).run P w = .ok () (w.setCell ⟨b, off + i, none⟩ v) := by
      rw [hadd, run_store P w _ v .plain (h1 v (by simp)), hc]; simp [hf]
    have hb' : (w.setCell ⟨b, off + i, none⟩ v).heap[b]? = some (.cells (cs.set (off + i) v).toArray ct (0, 0)) := by
      simp [World.setCell, Array.getElem?_modify, hb]
    obtain ⟨w', hr, hb2, ho, ht, hp, hsz, hk⟩ := run_storeCells off r (i + 1) (cs.set (off + i) v) (w.setCell ⟨b, off + i, none⟩ v) (fun u hu => h1 u (by simp [hu])) (by simp; omega) hb'
    refine ⟨w', ?_, ?_, ho, ht, hp, hsz.trans (by simp), fun k hne => (hk k hne).trans (Below.heap_setCell _ _ _ _ (by simpa using hne))⟩
    · simp only [storeCells, Sem.run_bind, hst, Result.andThen_ok, hr]
    · simpa [splice, Nat.add_assoc] using hb2
def ones : List Value → Bool
  | [] => true
  | v :: r => v.oneCell' && ones r
theorem ones_spec : ∀ {vs : List Value}, ones vs = true → ∀ u ∈ vs, u.oneCell' = true
  | [], _, u, hu => by cases hu
  | v :: r, h, u, hu => by
    simp only [ones, Bool.and_eq_true] at h
    cases hu with
    | head => exact h.1
    | tail _ h' => exact ones_spec h.2 u h'
theorem Eff.storeAgg {t : TypeId} {x y : Operand} {l b off k : Nat} {cs vs : List Value} {ct : TypeId} (hi : cellsz P t = some k) (hx : opv T x = some (.pointer (some ⟨b, off, none⟩))) (hy : opv T y = some (.agg vs.toArray)) (hk : vs.length = k) (hv : ones vs = true) (hl : lkp B l = some (blk b cs ct)) (hlt : Nat.ble (off + vs.length) cs.length = true) :
    Eff P W n ⟨none, .store t x y, ty, pos, aft, g⟩ T B (fun _ : Unit => True) (fun _ => T) (fun _ => (l, blk b (splice cs off vs) ct) :: B) := fun a w ht hm K Q hkk => by
  subst hk
  obtain ⟨i, hi, h1⟩ := Option.map_eq_some_iff.1 hi
  have hlt' : off + vs.length ≤ cs.length := Nat.le_of_ble_eq_true hlt
  obtain ⟨w', hr, hb2, ho, htp, hp, hsz, hoth⟩ := run_storeCells (P := P) off vs 0 cs w (ones_spec hv) (by omega) (hm.holds l _ hl)
  have hst : (storeVar t ⟨b, off, none⟩ (.agg vs.toArray)).run P w = .ok () w' := by
    simp only [storeVar, sizeOf, Sem.run_bind, run_info_of hi, Result.andThen_ok, Sem.run_pure, Value.cells, h1, List.size_toArray, ne_eq, not_true_eq_false, if_false]
    exact hr
  have hrun : (execOp a.eval ⟨none, .store t x y, ty, pos, aft, g⟩).run P w = .ok .skip w' := by
    simp only [execOp, ht.eval hx, ht.eval hy, Instr.storeAt, Instr.sureAddr, Sem.run_bind, Sem.run_pure, Result.andThen_ok, hst]
  refine OpX.of_run (by intro c e; cases e) hrun ?_
  exact hkk () trivial _ _ ht (hm.turn l hl _ ho htp hp (by omega) (fun k _ hk => hoth k (by simpa [blk] using hk)) (by rw [Nat.add_zero] at hb2; exact hb2) (fun k hk => .inl hk))
/-- A store of all the cells of a variable. -/
theorem Eff.storeAll {t : TypeId} {x y : Operand} {l b k : Nat} {cs vs : List Value} {ct : TypeId} (hi : cellsz P t = some k) (hx : opv T x = some (.pointer (some ⟨b, 0, none⟩))) (hy : opv T y = some (.agg vs.toArray)) (hk : vs.length = k) (hv : ones vs = true) (hl : lkp B l = some (blk b cs ct)) (hlt : cs.length = vs.length) :
    Eff P W n ⟨none, .store t x y, ty, pos, aft, g⟩ T B (fun _ : Unit => True) (fun _ => T) (fun _ => (l, blk b vs ct) :: B) := fun a w ht hm K Q hkk => by
  have key : ∀ (vs pre : List Value) (cs : List Value), cs.length = vs.length → splice (pre ++ cs) pre.length vs = pre ++ vs := by
    intro vs
    induction vs with
    | nil => intro pre cs h; rw [List.length_nil] at h; rw [List.eq_nil_of_length_eq_zero h]; rfl
    | cons v r ih =>
      intro pre cs h
      cases cs with
      | nil => cases h
      | cons c cs =>
        have := ih (pre ++ [v]) cs (by simpa using h)
        simp only [splice]
        rw [show (pre ++ c :: cs).set pre.length v = (pre ++ [v]) ++ cs from by simp, show pre.length + 1 = (pre ++ [v]).length from by simp, this]
        simp
  have hs : splice cs 0 vs = vs := by simpa using key vs [] cs hlt
  have h := Eff.storeAgg (P := P) (W := W) (n := n) (B := B) (T := T) (ty := ty) (pos := pos) (aft := aft) (g := g) (t := t) hi hx hy hk hv hl (by rw [hlt]; simp)
  rw [hs] at h
  exact h a w ht hm K Q hkk

/-! bits and shifts -/
theorem Val.maskU {t t' : TypeId} {x y : Operand} {i : Int} (hx : opv T x = some (.int .u64 i)) (hy : opv T y = some (.int .u64 4294967295)) (h : 0 ≤ i ∧ i < 18446744073709551616) : Val P W n ⟨dst, .binOp .and t x y t', ty, pos, aft, g⟩ T B (.int .u64 (i % 4294967296)) :=
  run_bin (by simp) (by simp) (fun w => by
    obtain ⟨m, rfl⟩ := Int.eq_ofNat_of_zero_le h.1
    have hm : m < 18446744073709551616 := by omega
    have e : (BitVec.ofInt 64 (m : Int) &&& BitVec.ofInt 64 4294967295).toNat = m % 4294967296 := by
      rw [BitVec.toNat_and]
      have h1 : (BitVec.ofInt 64 (m : Int)).toNat = m := by simp [Int.emod_emod_of_dvd]; omega
      have h2 : (BitVec.ofInt 64 4294967295).toNat = 2 ^ 32 - 1 := by decide
      rw [h1, h2, Nat.and_two_pow_sub_one_eq_mod]
    simp only [binOp, Op.intBits, ne_eq, not_true_eq_false, if_false]
    show (Pure.pure (Value.int .u64 (IntKind.u64.wrap ((BitVec.ofInt 64 (m : Int) &&& BitVec.ofInt 64 4294967295).toNat : Nat))) : Sem Value).run P w = _
    rw [e, IntKind.wrap_u64]
    have : ((m % 4294967296 : Nat) : Int) % 18446744073709551616 = (m : Int) % 4294967296 := by omega
    rw [this]; rfl) hx hy
theorem run_shift {op : BinOp} {t t' : TypeId} {x y : Operand} {k k' : IntKind} {i j : Int} {v : Value} (hs : op = .shl ∨ op = .shr)
    (hr : ∀ w, (Op.shift op k i k' j).run P w = .ok v w) (hx : opv T x = some (.int k i)) (hy : opv T y = some (.int k' j)) : Val P W n ⟨dst, .binOp op t x y t', ty, pos, aft, g⟩ T B v := fun a w ht _ => by
  have hg : (eqGuard op t x y (.int k i) (.int k' j)).run P w = .ok () w := by
    rcases hs with rfl | rfl <;> rfl
  have hb : binOp op t (.int k i) (.int k' j) = Op.shift op k i k' j := by
    rcases hs with rfl | rfl <;> rfl
  simp only [execOp, ht.eval hx, ht.eval hy, Sem.run_bind, hg, hb, Result.andThen_ok, hr, Sem.run_pure]
/-- A shift to the right, of whatever kind, by what is not below 0. -/
theorem Val.shr {t t' : TypeId} {x y : Operand} {k k' : IntKind} {i j : Int} {m : Int} (hx : opv T x = some (.int k i)) (hy : opv T y = some (.int k' j)) (hj : 0 ≤ j) (hm : (2 : Int) ^ (Nat.min j.toNat k.bits) = m) : Val P W n ⟨dst, .binOp .shr t x y t', ty, pos, aft, g⟩ T B (.int k (i / m)) :=
  run_shift (.inr rfl) (fun w => by
    have h0 : ¬ j < 0 := by omega
    have hp : (0 : Int) ≤ m := by rw [← hm]; exact Int.pow_nonneg (by decide)
    unfold Op.shift
    rw [if_neg h0]
    show (Pure.pure (Value.int k (i.fdiv (2 ^ (Nat.min j.toNat k.bits)))) : Sem Value).run P w = _
    rw [hm, Int.fdiv_eq_ediv_of_nonneg _ hp]; rfl) hx hy
theorem Val.shl {t t' : TypeId} {x y : Operand} {k k' : IntKind} {i j : Int} {m : Int} (hx : opv T x = some (.int k i)) (hy : opv T y = some (.int k' j)) (hj : 0 ≤ j) (hm : (2 : Int) ^ (Nat.min j.toNat k.bits) = m) : Val P W n ⟨dst, .binOp .shl t x y t', ty, pos, aft, g⟩ T B (.int k (k.wrap (i * m))) :=
  run_shift (.inl rfl) (fun w => by
    have h0 : ¬ j < 0 := by omega
    unfold Op.shift
    rw [if_neg h0]
    show (Pure.pure (Value.int k (k.wrap (i * 2 ^ (Nat.min j.toNat k.bits)))) : Sem Value).run P w = _
    rw [hm]; rfl) hx hy
theorem Val.orU {t t' : TypeId} {x y : Operand} {i j : Int} {r : Int} (hx : opv T x = some (.int .u64 i)) (hy : opv T y = some (.int .u64 j))
    (hr : (((BitVec.ofInt 64 i ||| BitVec.ofInt 64 j).toNat : Nat) : Int) = r) (h : 0 ≤ r ∧ r < 18446744073709551616) : Val P W n ⟨dst, .binOp .or t x y t', ty, pos, aft, g⟩ T B (.int .u64 r) :=
  run_bin (by simp) (by simp) (fun w => by
    simp only [binOp, Op.intBits, ne_eq, not_true_eq_false, if_false]
    show (Pure.pure (Value.int .u64 (IntKind.u64.wrap ((BitVec.ofInt 64 i ||| BitVec.ofInt 64 j).toNat : Nat))) : Sem Value).run P w = _
    rw [hr, IntKind.wrap_u64, Int.emod_eq_of_lt h.1 h.2]; rfl) hx hy

/-! a record that was there when the call began -/
theorem Val.loadRec {t : TypeId} {x : Operand} {b off : Nat} {cs : List Value} {v : Value} (hx : opv T x = some (.pointer (some ⟨b, off, none⟩))) (hs : scal P t = true) (hd : ∀ j u, cs[j]? = some u → W.cell? ⟨b, j, none⟩ = some u) (hv : cs[off]? = some v) : Val P W n ⟨dst, .load t x, ty, pos, aft, g⟩ T B v :=
  Val.loadOld hx hs (hd off v hv)
theorem Val.loadRecPart {t : TypeId} {x : Operand} {b off : Nat} {cs vs : List Value} {k : Nat} (hx : opv T x = some (.pointer (some ⟨b, off, none⟩))) (hs : aggn P t k = true) (hd : ∀ j u, cs[j]? = some u → W.cell? ⟨b, j, none⟩ = some u) (hv : (cs.drop off).take k = vs) (hk : vs.length = k) : Val P W n ⟨dst, .load t x, ty, pos, aft, g⟩ T B (.agg vs.toArray) :=
  Val.loadOldAgg hx hs hk fun j u hj => by
    rw [cell_add]
    rw [← hv, List.getElem?_take] at hj
    split at hj
    · rw [List.getElem?_drop] at hj; exact hd _ _ hj
    · cases hj

/-! slices that came in -/
def eptr (a : Option Addr) (m : Nat) : Option Addr := match a with
  | some ⟨b, off, _⟩ => some ⟨b, off + m, none⟩
  | none => none
/-- The elements of a slice that came in, each of sz cells. -/
def Rdb (W : World) (a : Option Addr) (sz : Nat) {α : Type} (enc : α → List Value) (xs : List α) : Prop :=
  ∀ i x, xs[i]? = some x → ∃ b off, a = some ⟨b, off, none⟩ ∧ (enc x).length = sz ∧ ∀ j u, (enc x)[j]? = some u → W.cell? ⟨b, off + (i * sz + j), none⟩ = some u
theorem Val.ide {α : Type} {enc : α → List Value} {xs : List α} {t e : TypeId} {x y : Operand} {a : Option Addr} {len cap sz i : Nat} {k : IntKind} {j : Int} {u : α} (hu : P.underlying t = some (.slice e)) (hz : cellsz P e = some sz)
    (hx : opv T x = some (.slice a len cap)) (hy : opv T y = some (.int k j)) (hR : Rdb W a sz enc xs) (hj : j = (i : Int)) (hi : xs[i]? = some u) (hl : xs.length ≤ len) : Val P W n ⟨dst, .indexAddr t x y, ty, pos, aft, g⟩ T B (.pointer (eptr a (i * sz))) := by
  subst hj
  obtain ⟨b, off, rfl, _, _⟩ := hR i u hi
  obtain ⟨ti, hti, hsz⟩ := Option.map_eq_some_iff.1 hz
  have hlt : i < xs.length := (List.getElem?_eq_some_iff.1 hi).1
  refine Val.ia hx hy fun w => ?_
  have h1 : (0 : Int) ≤ (i : Int) ∧ (i : Int) < (len : Int) := by omega
  simp only [Instr.indexAt, asIntOf, Sem.run_bind, Sem.run_pure, run_underlying_of hu, Result.andThen_ok]
  simp only [h1, and_self, if_true, sizeOf, Sem.run_bind, run_info_of hti, Result.andThen_ok, Sem.run_pure, hsz, eptr, Int.toNat_natCast]
  congr 3
  unfold Addr.add
  split
  · rename_i h0; rw [h0]; rfl
  · rfl
theorem Val.fae {t : TypeId} {x : Operand} {f m k : Nat} {a : Option Addr} (hx : opv T x = some (.pointer (eptr a m))) (ha : ∃ z, a = some z)
    (hb : ∀ g off w, (Instr.fieldAt t (.pointer (some ⟨g, off, none⟩)) f).run P w = .ok (.pointer (some ⟨g, off + k, none⟩)) w) : Val P W n ⟨dst, .fieldAddr t x f, ty, pos, aft, g⟩ T B (.pointer (eptr a (m + k))) := by
  obtain ⟨⟨b, off, s⟩, rfl⟩ := ha
  exact Val.fa hx fun w => by have := hb b (off + m) w; simpa [eptr, Nat.add_assoc] using this
theorem Rdb.ne {a : Option Addr} {sz : Nat} {α : Type} {enc : α → List Value} {xs : List α} (h : Rdb W a sz enc xs) {i : Nat} {x : α} (hi : xs[i]? = some x) : ∃ z, a = some z := by
  obtain ⟨b, off, h, _⟩ := h i x hi
  exact ⟨_, h⟩
theorem Val.loadE {α : Type} {enc : α → List Value} {xs : List α} {t : TypeId} {x : Operand} {a : Option Addr} {sz i k : Nat} {u : α} {v : Value} (hx : opv T x = some (.pointer (eptr a (i * sz + k)))) (hs : scal P t = true) (hR : Rdb W a sz enc xs) (hi : xs[i]? = some u) (hk : (enc u)[k]? = some v) : Val P W n ⟨dst, .load t x, ty, pos, aft, g⟩ T B v := by
  obtain ⟨b, off, rfl, _, hc⟩ := hR i u hi
  exact Val.loadOld hx hs (hc k v hk)
theorem Val.loadEA {α : Type} {enc : α → List Value} {xs : List α} {t : TypeId} {x : Operand} {a : Option Addr} {sz i : Nat} {u : α} (hx : opv T x = some (.pointer (eptr a (i * sz)))) (hs : aggn P t sz = true) (hR : Rdb W a sz enc xs) (hi : xs[i]? = some u) : Val P W n ⟨dst, .load t x, ty, pos, aft, g⟩ T B (.agg (enc u).toArray) := by
  obtain ⟨b, off, rfl, hl, hc⟩ := hR i u hi
  exact Val.loadOldAgg hx hs hl fun j v hj => by rw [cell_add, Nat.add_assoc]; exact hc j v hj
end
end Go.Kx
