/- Walks of functions of the program: what each returns, told by plain functions; nothing that lay there is turned. -/
import Derived.Test.YtfekoippjmojgaaKxF
import Derived.Test.YtfekoippjmojgaaKxN
namespace Go.Proofs.Ytfekoippjmojgaa
open Go.Kx Go.RowKit
set_option maxRecDepth 100000
set_option linter.unusedVariables false
set_option linter.unusedSimpArgs false
set_option linter.constructorNameAsVariable false
def between (x lo hi : Int) : Bool := decide (lo ≤ x) && decide (x ≤ hi)
theorem between_iff {x lo hi : Int} : between x lo hi = true ↔ lo ≤ x ∧ x ≤ hi := by simp [between]
theorem between_not {x lo hi : Int} : between x lo hi = false ↔ x < lo ∨ hi < x := by simp only [between, Bool.and_eq_false_iff, decide_eq_false_iff_not]; omega
theorem between_gives (x lo hi : Int) (w : World) : Gives Try.prog 48 #[.int .i64 x, .int .i64 lo, .int .i64 hi] w (.bool (between x lo hi)) := by
  refine calls_of (vs := [.int .i64 x, .int .i64 lo, .int .i64 hi]) Try.func48 rfl rfl rfl ?_
  show Cd _ _ _ _ _ [(0, .int .i64 x), (1, .int .i64 lo), (2, .int .i64 hi)] []
  refine Cd.seq (Cd.region (Rg.val (Val.assign rfl) rfl (Rg.nil (Rx.seq (Cd.seq (Cd.region (Rg.val (Val.move rfl) rfl (Rg.val (Val.move rfl) rfl (Rg.val (Val.geq rfl rfl) rfl (Rg.val (Val.move rfl) rfl (Rg.split 10 rfl (fun c1 => ?_) (fun c1 => ?_))))))))))))
  · replace c1 := of_decide_eq_true c1
    refine Rg.on rfl rfl rfl (Rg.val (Val.move rfl) rfl (Rg.on rfl rfl rfl (Rg.val (Val.move rfl) rfl (Rg.on rfl rfl rfl (Rg.val (Val.leq rfl rfl) rfl (Rg.val (Val.pickT rfl rfl) rfl (Rg.val (Val.assign rfl) rfl (Rg.nil (Rx.seq (Cd.ret (Rx.ret1 rfl rfl fun w hm_ => (⟨by first | rfl | simp [between, *], hm_.below⟩))))))))))))
  · replace c1 := of_decide_eq_false c1
    refine Rg.off rfl rfl rfl rfl (Rg.off rfl rfl rfl rfl (Rg.off rfl rfl rfl rfl (Rg.val (Val.pickF rfl rfl) rfl (Rg.val (Val.assign rfl) rfl (Rg.nil (Rx.seq (Cd.ret (Rx.ret1 rfl rfl fun w hm_ => (⟨by first | rfl | simp [between, *], hm_.below⟩)))))))))

theorem within_gives (x lo hi : Int) (w : World) : Gives Try.prog 69 #[.int .i64 x, .int .i64 lo, .int .i64 hi] w (.bool (between x lo hi)) := by
  refine calls_of (vs := [.int .i64 x, .int .i64 lo, .int .i64 hi]) Try.func69 rfl rfl rfl ?_
  show Cd _ _ _ _ _ [(0, .int .i64 x), (1, .int .i64 lo), (2, .int .i64 hi)] []
  refine Cd.seq (Cd.region (Rg.val (Val.assign rfl) rfl (Rg.nil (Rx.seq (Cd.seq (Cd.region (Rg.val (Val.move rfl) rfl (Rg.val (Val.move rfl) rfl (Rg.val (Val.geq rfl rfl) rfl (Rg.val (Val.move rfl) rfl (Rg.split 10 rfl (fun c1 => ?_) (fun c1 => ?_))))))))))))
  · replace c1 := of_decide_eq_true c1
    refine Rg.on rfl rfl rfl (Rg.val (Val.move rfl) rfl (Rg.on rfl rfl rfl (Rg.val (Val.move rfl) rfl (Rg.on rfl rfl rfl (Rg.val (Val.leq rfl rfl) rfl (Rg.val (Val.pickT rfl rfl) rfl (Rg.val (Val.assign rfl) rfl (Rg.nil (Rx.seq (Cd.ret (Rx.ret1 rfl rfl fun w hm_ => (⟨by first | rfl | simp [between, *], hm_.below⟩))))))))))))
  · replace c1 := of_decide_eq_false c1
    refine Rg.off rfl rfl rfl rfl (Rg.off rfl rfl rfl rfl (Rg.off rfl rfl rfl rfl (Rg.val (Val.pickF rfl rfl) rfl (Rg.val (Val.assign rfl) rfl (Rg.nil (Rx.seq (Cd.ret (Rx.ret1 rfl rfl fun w hm_ => (⟨by first | rfl | simp [between, *], hm_.below⟩)))))))))

theorem validMass_gives (m : Int) (w : World) : Gives Try.prog 49 #[.int .i64 m] w (.bool (between m 1 16777216)) := by
  refine calls_of (vs := [.int .i64 m]) Try.func49 rfl rfl rfl ?_
  show Cd _ _ _ _ _ [(0, .int .i64 m)] []
  refine Cd.seq (Cd.region (Rg.val (Val.assign rfl) rfl (Rg.nil (Rx.seq (Cd.seq (Cd.region (Rg.val (Val.move rfl) rfl (Rg.eff (Eff.give rfl rfl en48 rfl (fun w hm => between_gives _ _ _ w)) rfl fun _ _ => (Rg.val (Val.assign rfl) rfl (Rg.nil (Rx.seq (Cd.ret (Rx.ret1 rfl rfl fun w hm_ => (⟨by first | rfl | simp [*], hm_.below⟩))))))))))))))

def validPt (x y : Int) : Bool := between x (-262144) 262144 && between y (-262144) 262144
theorem validPoint_gives (x y : Int) (w : World) : Gives Try.prog 52 #[.agg #[.int .i64 x, .int .i64 y]] w (.bool (validPt x y)) := by
  refine calls_of (vs := [.agg #[.int .i64 x, .int .i64 y]]) Try.func52 rfl rfl rfl ?_
  show Cd _ _ _ _ _ [(0, .agg #[.int .i64 x, .int .i64 y])] []
  refine Cd.seq (Cd.region (Rg.eff (Eff.box 1 rfl rfl) rfl fun b1 _ => (Rg.val (Val.assign rfl) rfl (Rg.nil (Rx.seq (Cd.seq (Cd.region (Rg.val (Val.fa rfl (fa29_0 _ _)) rfl (Rg.val (Val.load (l := 1) rfl rfl sc2 rfl) rfl (Rg.eff (Eff.give rfl rfl en48 rfl (fun w hm => between_gives _ _ _ w)) rfl fun _ _ => (Rg.val (Val.move rfl) rfl (Rg.split 6 rfl (fun c1 => ?_) (fun c1 => ?_)))))))))))))
  · refine Rg.on rfl rfl rfl (Rg.val (Val.fa rfl (fa29_1 _ _)) rfl (Rg.on rfl rfl rfl (Rg.val (Val.load (l := 1) rfl rfl sc2 rfl) rfl (Rg.on rfl rfl rfl (Rg.eff (Eff.give rfl rfl en48 rfl (fun w hm => between_gives _ _ _ w)) rfl fun _ _ => (Rg.val (Val.pickT rfl rfl) rfl (Rg.val (Val.assign rfl) rfl (Rg.nil (Rx.seq (Cd.ret (Rx.ret1 rfl rfl fun w hm_ => (⟨by first | rfl | simp [validPt, *], hm_.below⟩))))))))))))
  · refine Rg.off rfl rfl rfl rfl (Rg.off rfl rfl rfl rfl (Rg.off rfl rfl rfl rfl (Rg.val (Val.pickF rfl rfl) rfl (Rg.val (Val.assign rfl) rfl (Rg.nil (Rx.seq (Cd.ret (Rx.ret1 rfl rfl fun w hm_ => (⟨by first | rfl | simp [validPt, *], hm_.below⟩)))))))))

theorem mul64_raw (x y : Int) (w : World) (hx : 0 ≤ x ∧ x < 18446744073709551616) (hy : 0 ≤ y ∧ y < 18446744073709551616) : Gives Try.prog 120 #[.int .u64 x, .int .u64 y] w (.tuple #[.int .u64 (mulHi x y), .int .u64 (wu64 (x * y))]) := by
  refine calls_of (vs := [.int .u64 x, .int .u64 y]) Try.func120 rfl rfl rfl ?_
  show Cd _ _ _ _ _ [(0, .int .u64 x), (1, .int .u64 y)] []
  refine Cd.seq (Cd.region (Rg.val (Val.assign rfl) rfl (Rg.val (Val.assign rfl) rfl (Rg.nil (Rx.seq (Cd.seq (Cd.region (Rg.val (Val.move rfl) rfl (Rg.val (Val.maskU rfl rfl (by first | omega | exact wu64_bd _)) rfl (Rg.val (Val.assign rfl) rfl (Rg.nil (Rx.seq (Cd.seq (Cd.region (Rg.val (Val.move rfl) rfl (Rg.val (Val.shr (m := 4294967296) rfl rfl (by decide) (by decide)) rfl (Rg.val (Val.assign rfl) rfl (Rg.nil (Rx.seq (Cd.seq (Cd.region (Rg.val (Val.move rfl) rfl (Rg.val (Val.maskU rfl rfl (by first | omega | exact wu64_bd _)) rfl (Rg.val (Val.assign rfl) rfl (Rg.nil (Rx.seq (Cd.seq (Cd.region (Rg.val (Val.move rfl) rfl (Rg.val (Val.shr (m := 4294967296) rfl rfl (by decide) (by decide)) rfl (Rg.val (Val.assign rfl) rfl (Rg.nil (Rx.seq (Cd.seq (Cd.region (Rg.val (Val.move rfl) rfl (Rg.val (Val.move rfl) rfl (Rg.val (Val.mulU rfl rfl) rfl (Rg.val (Val.assign rfl) rfl ?_)))))))))))))))))))))))))))))))))))))))
  refine Rg.nil (Rx.seq (Cd.seq (Cd.region (Rg.val (Val.move rfl) rfl (Rg.val (Val.move rfl) rfl (Rg.val (Val.mulU rfl rfl) rfl (Rg.val (Val.move rfl) rfl (Rg.val (Val.shr (m := 4294967296) rfl rfl (by decide) (by decide)) rfl (Rg.val (Val.addU rfl rfl) rfl (Rg.val (Val.assign rfl) rfl (Rg.nil (Rx.seq (Cd.seq (Cd.region (Rg.val (Val.move rfl) rfl (Rg.val (Val.maskU rfl rfl (by first | omega | exact wu64_bd _)) rfl (Rg.val (Val.assign rfl) rfl (Rg.nil (Rx.seq (Cd.seq (Cd.region (Rg.val (Val.move rfl) rfl (Rg.val (Val.shr (m := 4294967296) rfl rfl (by decide) (by decide)) rfl (Rg.val (Val.assign rfl) rfl (Rg.nil (Rx.seq (Cd.seq (Cd.region (Rg.val (Val.move rfl) rfl (Rg.val (Val.move rfl) rfl (Rg.val (Val.move rfl) rfl (Rg.val (Val.mulU rfl rfl) rfl (Rg.val (Val.addU rfl rfl) rfl (Rg.val (Val.assign rfl) rfl (Rg.nil (Rx.seq (Cd.seq (Cd.region (Rg.val (Val.move rfl) rfl ?_)))))))))))))))))))))))))))))))))))))))
  refine Rg.val (Val.move rfl) rfl (Rg.val (Val.mulU rfl rfl) rfl (Rg.val (Val.move rfl) rfl (Rg.val (Val.addU rfl rfl) rfl (Rg.val (Val.move rfl) rfl (Rg.val (Val.shr (m := 4294967296) rfl rfl (by decide) (by decide)) rfl (Rg.val (Val.addU rfl rfl) rfl (Rg.val (Val.assign rfl) rfl (Rg.nil (Rx.seq (Cd.seq (Cd.region (Rg.val (Val.move rfl) rfl (Rg.val (Val.move rfl) rfl (Rg.val (Val.mulU rfl rfl) rfl (Rg.val (Val.assign rfl) rfl (Rg.nil (Rx.seq (Cd.ret (Rx.ret2 rfl rfl rfl fun w hm_ => (⟨rfl, hm_.below⟩))))))))))))))))))))

theorem mul64_gives (x y : Int) (w : World) (hx : 0 ≤ x ∧ x < 18446744073709551616) (hy : 0 ≤ y ∧ y < 18446744073709551616) : Gives Try.prog 120 #[.int .u64 x, .int .u64 y] w (.tuple #[.int .u64 (x * y / 18446744073709551616), .int .u64 (x * y % 18446744073709551616)]) := by
  have h := mul64_raw x y w hx hy
  rw [mulHi_eq x y hx hy] at h
  exact h
theorem len8_le {i : Nat} (h : i < 256) : len8 i ≤ 8 := by
  unfold len8
  split
  · omega
  · rename_i h0
    have := (Nat.log2_lt h0 (k := 8)).2 (by omega)
    omega
theorem len8_in64 {i : Int} (h : i < 256) : in64 (len8 i.toNat : Nat) := by
  have := len8_le (i := i.toNat) (by omega)
  unfold in64; omega
theorem len8_le' {i : Int} (h : i < 256) : (len8 i.toNat : Int) ≤ 8 := by
  have := len8_le (i := i.toNat) (by omega)
  omega
theorem len64_sh {x : Int} (k : Nat) (m : Int) (hm : (2 : Int) ^ k = m) (h : m ≤ x) : (len64 x : Int) = len64 (x / m) + k := by
  subst hm
  have := len64_shift k h
  omega
theorem len64_gives (x : Int) (w : World) (hx : 0 ≤ x ∧ x < 18446744073709551616) : Gives Try.prog 128 #[.int .u64 x] w (.int .i64 (len64 x : Int)) := by
  refine calls_of (vs := [.int .u64 x]) Try.func128 rfl rfl rfl ?_
  show Cd _ _ _ _ _ [(0, .int .u64 x)] []
  refine Cd.seq (Cd.region (Rg.val (Val.assign rfl) rfl (Rg.nil (Rx.seq (Cd.seq (Cd.seq (Cd.region (Rg.val (Val.move rfl) rfl (Rg.val (Val.geq rfl rfl) rfl (Rg.nil (Rx.seq (Cd.cond rfl (fun c1 => ?_) (fun c1 => ?_)))))))))))))
  · replace c1 := of_decide_eq_true c1
    refine Cd.seq (Cd.region (Rg.val (Val.move rfl) rfl (Rg.val (Val.shr (m := 4294967296) rfl rfl (by decide) (by decide)) rfl (Rg.val (Val.assign rfl) rfl (Rg.nil (Rx.seq (Cd.region (Rg.val (Val.assign rfl) rfl (Rg.nil (Rx.seq (Cd.seq (Cd.seq (Cd.region (Rg.val (Val.move rfl) rfl (Rg.val (Val.geq rfl rfl) rfl (Rg.nil (Rx.seq (Cd.cond rfl (fun c2 => ?_) (fun c2 => ?_)))))))))))))))))))
    · replace c2 := of_decide_eq_true c2
      refine Cd.seq (Cd.region (Rg.val (Val.move rfl) rfl (Rg.val (Val.shr (m := 65536) rfl rfl (by decide) (by decide)) rfl (Rg.val (Val.assign rfl) rfl (Rg.nil (Rx.seq (Cd.region (Rg.val (Val.move rfl) rfl (Rg.val (Val.as (Val.add rfl rfl) (congrArg (Value.int IntKind.i64) (show wrap64 (32 + 16) = 48 from by unfold wrap64; omega))) rfl (Rg.val (Val.assign rfl) rfl (Rg.nil (Rx.seq (Cd.seq (Cd.seq (Cd.region (Rg.val (Val.move rfl) rfl (Rg.val (Val.geq rfl rfl) rfl (Rg.nil (Rx.seq (Cd.cond rfl (fun c3 => ?_) (fun c3 => ?_)))))))))))))))))))))
      · replace c3 := of_decide_eq_true c3
        refine Cd.seq (Cd.region (Rg.val (Val.move rfl) rfl (Rg.val (Val.shr (m := 256) rfl rfl (by decide) (by decide)) rfl (Rg.val (Val.assign rfl) rfl (Rg.nil (Rx.seq (Cd.region (Rg.val (Val.move rfl) rfl (Rg.val (Val.as (Val.add rfl rfl) (congrArg (Value.int IntKind.i64) (show wrap64 (48 + 8) = 56 from by unfold wrap64; omega))) rfl (Rg.val (Val.assign rfl) rfl (Rg.nil (Rx.seq (Cd.seq (Cd.region (Rg.val (Val.move rfl) rfl (Rg.val (Val.move rfl) rfl (Rg.val (Val.as (Val.conv Try.underlying150 Try.underlying5 rfl) (congrArg (Value.int IntKind.u8) (show IntKind.u8.wrap (((x / 4294967296) / 65536) / 256) = (((x / 4294967296) / 65536) / 256) from by rw [IntKind.wrap_u8]; omega))) rfl (Rg.val (Val.tab8 Try.underlying9 rfl rfl (by kernel_rfl) (by omega)) rfl (Rg.val (Val.as (Val.conv Try.underlying5 Try.underlying3 rfl) (congrArg (Value.int IntKind.i64) (i64_in' (len8_in64 (by omega))))) rfl (Rg.val (Val.add rfl rfl) rfl (Rg.val (Val.assign rfl) rfl (Rg.nil (Rx.seq (Cd.ret (Rx.ret1 rfl rfl fun w hm_ => (⟨by have e0 := len64_sh (x := x) 32 4294967296 (by decide) (by omega); have e1 := len64_sh (x := (x / 4294967296)) 16 65536 (by decide) (by omega); have e2 := len64_sh (x := ((x / 4294967296) / 65536)) 8 256 (by decide) (by omega); have e9 := len64_small (x := (((x / 4294967296) / 65536) / 256)) (by omega); have h8 := len8_le' (i := (((x / 4294967296) / 65536) / 256)) (by omega); apply congrArg (fun z : Int => Ending.returned (.int .i64 z)); simp only [wrap64] at *; omega, hm_.below⟩))))))))))))))))))))))))))
      · replace c3 := of_decide_eq_false c3
        refine Cd.skip (Rx.seq (Cd.seq (Cd.region (Rg.val (Val.move rfl) rfl (Rg.val (Val.move rfl) rfl (Rg.val (Val.as (Val.conv Try.underlying150 Try.underlying5 rfl) (congrArg (Value.int IntKind.u8) (show IntKind.u8.wrap ((x / 4294967296) / 65536) = ((x / 4294967296) / 65536) from by rw [IntKind.wrap_u8]; omega))) rfl (Rg.val (Val.tab8 Try.underlying9 rfl rfl (by kernel_rfl) (by omega)) rfl (Rg.val (Val.as (Val.conv Try.underlying5 Try.underlying3 rfl) (congrArg (Value.int IntKind.i64) (i64_in' (len8_in64 (by omega))))) rfl (Rg.val (Val.add rfl rfl) rfl (Rg.val (Val.assign rfl) rfl (Rg.nil (Rx.seq (Cd.ret (Rx.ret1 rfl rfl fun w hm_ => (⟨by have e0 := len64_sh (x := x) 32 4294967296 (by decide) (by omega); have e1 := len64_sh (x := (x / 4294967296)) 16 65536 (by decide) (by omega); have e9 := len64_small (x := ((x / 4294967296) / 65536)) (by omega); have h8 := len8_le' (i := ((x / 4294967296) / 65536)) (by omega); apply congrArg (fun z : Int => Ending.returned (.int .i64 z)); simp only [wrap64] at *; omega, hm_.below⟩)))))))))))))))
    · replace c2 := of_decide_eq_false c2
      refine Cd.skip (Rx.seq (Cd.seq (Cd.seq (Cd.region (Rg.val (Val.move rfl) rfl (Rg.val (Val.geq rfl rfl) rfl (Rg.nil (Rx.seq (Cd.cond rfl (fun c4 => ?_) (fun c4 => ?_))))))))))
      · replace c4 := of_decide_eq_true c4
        refine Cd.seq (Cd.region (Rg.val (Val.move rfl) rfl (Rg.val (Val.shr (m := 256) rfl rfl (by decide) (by decide)) rfl (Rg.val (Val.assign rfl) rfl (Rg.nil (Rx.seq (Cd.region (Rg.val (Val.move rfl) rfl (Rg.val (Val.as (Val.add rfl rfl) (congrArg (Value.int IntKind.i64) (show wrap64 (32 + 8) = 40 from by unfold wrap64; omega))) rfl (Rg.val (Val.assign rfl) rfl (Rg.nil (Rx.seq (Cd.seq (Cd.region (Rg.val (Val.move rfl) rfl (Rg.val (Val.move rfl) rfl (Rg.val (Val.as (Val.conv Try.underlying150 Try.underlying5 rfl) (congrArg (Value.int IntKind.u8) (show IntKind.u8.wrap ((x / 4294967296) / 256) = ((x / 4294967296) / 256) from by rw [IntKind.wrap_u8]; omega))) rfl (Rg.val (Val.tab8 Try.underlying9 rfl rfl (by kernel_rfl) (by omega)) rfl (Rg.val (Val.as (Val.conv Try.underlying5 Try.underlying3 rfl) (congrArg (Value.int IntKind.i64) (i64_in' (len8_in64 (by omega))))) rfl (Rg.val (Val.add rfl rfl) rfl (Rg.val (Val.assign rfl) rfl (Rg.nil (Rx.seq (Cd.ret (Rx.ret1 rfl rfl fun w hm_ => (⟨by have e0 := len64_sh (x := x) 32 4294967296 (by decide) (by omega); have e1 := len64_sh (x := (x / 4294967296)) 8 256 (by decide) (by omega); have e9 := len64_small (x := ((x / 4294967296) / 256)) (by omega); have h8 := len8_le' (i := ((x / 4294967296) / 256)) (by omega); apply congrArg (fun z : Int => Ending.returned (.int .i64 z)); simp only [wrap64] at *; omega, hm_.below⟩))))))))))))))))))))))))))
      · replace c4 := of_decide_eq_false c4
        refine Cd.skip (Rx.seq (Cd.seq (Cd.region (Rg.val (Val.move rfl) rfl (Rg.val (Val.move rfl) rfl (Rg.val (Val.as (Val.conv Try.underlying150 Try.underlying5 rfl) (congrArg (Value.int IntKind.u8) (show IntKind.u8.wrap (x / 4294967296) = (x / 4294967296) from by rw [IntKind.wrap_u8]; omega))) rfl (Rg.val (Val.tab8 Try.underlying9 rfl rfl (by kernel_rfl) (by omega)) rfl (Rg.val (Val.as (Val.conv Try.underlying5 Try.underlying3 rfl) (congrArg (Value.int IntKind.i64) (i64_in' (len8_in64 (by omega))))) rfl (Rg.val (Val.add rfl rfl) rfl (Rg.val (Val.assign rfl) rfl (Rg.nil (Rx.seq (Cd.ret (Rx.ret1 rfl rfl fun w hm_ => (⟨by have e0 := len64_sh (x := x) 32 4294967296 (by decide) (by omega); have e9 := len64_small (x := (x / 4294967296)) (by omega); have h8 := len8_le' (i := (x / 4294967296)) (by omega); apply congrArg (fun z : Int => Ending.returned (.int .i64 z)); simp only [wrap64] at *; omega, hm_.below⟩)))))))))))))))
  · replace c1 := of_decide_eq_false c1
    refine Cd.skip (Rx.seq (Cd.seq (Cd.seq (Cd.region (Rg.val (Val.move rfl) rfl (Rg.val (Val.geq rfl rfl) rfl (Rg.nil (Rx.seq (Cd.cond rfl (fun c5 => ?_) (fun c5 => ?_))))))))))
    · replace c5 := of_decide_eq_true c5
      refine Cd.seq (Cd.region (Rg.val (Val.move rfl) rfl (Rg.val (Val.shr (m := 65536) rfl rfl (by decide) (by decide)) rfl (Rg.val (Val.assign rfl) rfl (Rg.nil (Rx.seq (Cd.region (Rg.val (Val.move rfl) rfl (Rg.val (Val.as (Val.add rfl rfl) (congrArg (Value.int IntKind.i64) (show wrap64 (0 + 16) = 16 from by unfold wrap64; omega))) rfl (Rg.val (Val.assign rfl) rfl (Rg.nil (Rx.seq (Cd.seq (Cd.seq (Cd.region (Rg.val (Val.move rfl) rfl (Rg.val (Val.geq rfl rfl) rfl (Rg.nil (Rx.seq (Cd.cond rfl (fun c6 => ?_) (fun c6 => ?_)))))))))))))))))))))
      · replace c6 := of_decide_eq_true c6
        refine Cd.seq (Cd.region (Rg.val (Val.move rfl) rfl (Rg.val (Val.shr (m := 256) rfl rfl (by decide) (by decide)) rfl (Rg.val (Val.assign rfl) rfl (Rg.nil (Rx.seq (Cd.region (Rg.val (Val.move rfl) rfl (Rg.val (Val.as (Val.add rfl rfl) (congrArg (Value.int IntKind.i64) (show wrap64 (16 + 8) = 24 from by unfold wrap64; omega))) rfl (Rg.val (Val.assign rfl) rfl (Rg.nil (Rx.seq (Cd.seq (Cd.region (Rg.val (Val.move rfl) rfl (Rg.val (Val.move rfl) rfl (Rg.val (Val.as (Val.conv Try.underlying150 Try.underlying5 rfl) (congrArg (Value.int IntKind.u8) (show IntKind.u8.wrap ((x / 65536) / 256) = ((x / 65536) / 256) from by rw [IntKind.wrap_u8]; omega))) rfl (Rg.val (Val.tab8 Try.underlying9 rfl rfl (by kernel_rfl) (by omega)) rfl (Rg.val (Val.as (Val.conv Try.underlying5 Try.underlying3 rfl) (congrArg (Value.int IntKind.i64) (i64_in' (len8_in64 (by omega))))) rfl (Rg.val (Val.add rfl rfl) rfl (Rg.val (Val.assign rfl) rfl (Rg.nil (Rx.seq (Cd.ret (Rx.ret1 rfl rfl fun w hm_ => (⟨by have e0 := len64_sh (x := x) 16 65536 (by decide) (by omega); have e1 := len64_sh (x := (x / 65536)) 8 256 (by decide) (by omega); have e9 := len64_small (x := ((x / 65536) / 256)) (by omega); have h8 := len8_le' (i := ((x / 65536) / 256)) (by omega); apply congrArg (fun z : Int => Ending.returned (.int .i64 z)); simp only [wrap64] at *; omega, hm_.below⟩))))))))))))))))))))))))))
      · replace c6 := of_decide_eq_false c6
        refine Cd.skip (Rx.seq (Cd.seq (Cd.region (Rg.val (Val.move rfl) rfl (Rg.val (Val.move rfl) rfl (Rg.val (Val.as (Val.conv Try.underlying150 Try.underlying5 rfl) (congrArg (Value.int IntKind.u8) (show IntKind.u8.wrap (x / 65536) = (x / 65536) from by rw [IntKind.wrap_u8]; omega))) rfl (Rg.val (Val.tab8 Try.underlying9 rfl rfl (by kernel_rfl) (by omega)) rfl (Rg.val (Val.as (Val.conv Try.underlying5 Try.underlying3 rfl) (congrArg (Value.int IntKind.i64) (i64_in' (len8_in64 (by omega))))) rfl (Rg.val (Val.add rfl rfl) rfl (Rg.val (Val.assign rfl) rfl (Rg.nil (Rx.seq (Cd.ret (Rx.ret1 rfl rfl fun w hm_ => (⟨by have e0 := len64_sh (x := x) 16 65536 (by decide) (by omega); have e9 := len64_small (x := (x / 65536)) (by omega); have h8 := len8_le' (i := (x / 65536)) (by omega); apply congrArg (fun z : Int => Ending.returned (.int .i64 z)); simp only [wrap64] at *; omega, hm_.below⟩)))))))))))))))
    · replace c5 := of_decide_eq_false c5
      refine Cd.skip (Rx.seq (Cd.seq (Cd.seq (Cd.region (Rg.val (Val.move rfl) rfl (Rg.val (Val.geq rfl rfl) rfl (Rg.nil (Rx.seq (Cd.cond rfl (fun c7 => ?_) (fun c7 => ?_))))))))))
      · replace c7 := of_decide_eq_true c7
        refine Cd.seq (Cd.region (Rg.val (Val.move rfl) rfl (Rg.val (Val.shr (m := 256) rfl rfl (by decide) (by decide)) rfl (Rg.val (Val.assign rfl) rfl (Rg.nil (Rx.seq (Cd.region (Rg.val (Val.move rfl) rfl (Rg.val (Val.as (Val.add rfl rfl) (congrArg (Value.int IntKind.i64) (show wrap64 (0 + 8) = 8 from by unfold wrap64; omega))) rfl (Rg.val (Val.assign rfl) rfl (Rg.nil (Rx.seq (Cd.seq (Cd.region (Rg.val (Val.move rfl) rfl (Rg.val (Val.move rfl) rfl (Rg.val (Val.as (Val.conv Try.underlying150 Try.underlying5 rfl) (congrArg (Value.int IntKind.u8) (show IntKind.u8.wrap (x / 256) = (x / 256) from by rw [IntKind.wrap_u8]; omega))) rfl (Rg.val (Val.tab8 Try.underlying9 rfl rfl (by kernel_rfl) (by omega)) rfl (Rg.val (Val.as (Val.conv Try.underlying5 Try.underlying3 rfl) (congrArg (Value.int IntKind.i64) (i64_in' (len8_in64 (by omega))))) rfl (Rg.val (Val.add rfl rfl) rfl (Rg.val (Val.assign rfl) rfl (Rg.nil (Rx.seq (Cd.ret (Rx.ret1 rfl rfl fun w hm_ => (⟨by have e0 := len64_sh (x := x) 8 256 (by decide) (by omega); have e9 := len64_small (x := (x / 256)) (by omega); have h8 := len8_le' (i := (x / 256)) (by omega); apply congrArg (fun z : Int => Ending.returned (.int .i64 z)); simp only [wrap64] at *; omega, hm_.below⟩))))))))))))))))))))))))))
      · replace c7 := of_decide_eq_false c7
        refine Cd.skip (Rx.seq (Cd.seq (Cd.region (Rg.val (Val.move rfl) rfl (Rg.val (Val.move rfl) rfl (Rg.val (Val.as (Val.conv Try.underlying150 Try.underlying5 rfl) (congrArg (Value.int IntKind.u8) (show IntKind.u8.wrap x = x from by rw [IntKind.wrap_u8]; omega))) rfl (Rg.val (Val.tab8 Try.underlying9 rfl rfl (by kernel_rfl) (by omega)) rfl (Rg.val (Val.as (Val.conv Try.underlying5 Try.underlying3 rfl) (congrArg (Value.int IntKind.i64) (i64_in' (len8_in64 (by omega))))) rfl (Rg.val (Val.add rfl rfl) rfl (Rg.val (Val.assign rfl) rfl (Rg.nil (Rx.seq (Cd.ret (Rx.ret1 rfl rfl fun w hm_ => (⟨by have e9 := len64_small (x := x) (by omega); have h8 := len8_le' (i := x) (by omega); apply congrArg (fun z : Int => Ending.returned (.int .i64 z)); simp only [wrap64] at *; omega, hm_.below⟩)))))))))))))))

theorem len64_bd {x : Int} (hx : 0 ≤ x ∧ x < 18446744073709551616) : (len64 x : Int) ≤ 64 := by
  by_cases h : x = 0
  · subst h; decide
  · have := (len64_le (x := x) (by omega)).2.1; omega
theorem lz64_gives (x : Int) (w : World) (hx : 0 ≤ x ∧ x < 18446744073709551616) : Gives Try.prog 126 #[.int .u64 x] w (.int .i64 (64 - (len64 x : Int))) := by
  refine calls_of (vs := [.int .u64 x]) Try.func126 rfl rfl rfl ?_
  show Cd _ _ _ _ _ [(0, .int .u64 x)] []
  refine Cd.seq (Cd.region (Rg.val (Val.assign rfl) rfl (Rg.nil (Rx.seq (Cd.seq (Cd.region (Rg.val (Val.move rfl) rfl (Rg.eff (Eff.give rfl rfl en128 rfl (fun w hm => len64_gives _ w (by omega))) rfl fun _ _ => (Rg.val (Val.subN rfl rfl (by have := len64_bd hx; unfold in64; omega)) rfl (Rg.val (Val.assign rfl) rfl (Rg.nil (Rx.seq (Cd.ret (Rx.ret1 rfl rfl fun w hm_ => (⟨rfl, hm_.below⟩)))))))))))))))

end Go.Proofs.Ytfekoippjmojgaa
