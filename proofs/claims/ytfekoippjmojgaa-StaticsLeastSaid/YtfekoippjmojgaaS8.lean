/- Walks of functions of the program: what each returns, told by plain functions; nothing that lay there is turned. -/
import Derived.Test.YtfekoippjmojgaaS7
import Derived.Test.YtfekoippjmojgaaKxD
namespace Go.Proofs.Ytfekoippjmojgaa
open Go.Kx Go.RowKit
set_option maxRecDepth 100000
set_option linter.unusedVariables false
set_option linter.unusedSimpArgs false
set_option linter.constructorNameAsVariable false
def ex : List Sup := [⟨0, 0, 0, 10000, 100, 900⟩, ⟨4000, 2000, 1, 10000, 100, 900⟩, ⟨4000, -2000, 2, 10000, 100, 900⟩, ⟨0, 1000, 0, 10000, 100, 900⟩]
def Got (W : World) (xs : List Sup) (e : Ending) (w' : World) : Prop :=
  Below W.heap.size W w' ∧ ∃ b, W.heap.size ≤ b ∧ e = .returned (.slice (some ⟨b, 0, none⟩) xs.length xs.length) ∧ w'.heap[b]? = some (.cells (xs.flatMap encSup).toArray 62 (0, 0))
theorem got_mem {W w : World} {B : List (Nat × Res)} {xs : List Sup} {f : FuncId} {args : Array Value} (l : Nat) (hm : Mem W B w) (h : Calls Try.prog f args w (Got w xs)) :
    Calls Try.prog f args w fun e w' => ∃ b : Nat, True ∧ e = .returned (.slice (some ⟨b, 0, none⟩) xs.length xs.length) ∧ Mem W ((l, blk b (xs.flatMap encSup) 62) :: B) w' :=
  h.mono fun _ _ ⟨hb, b, h1, h2, h3⟩ => ⟨b, trivial, h2, hm.got hb l b h1 h3⟩
theorem encSup_len (s : Sup) : (encSup s).length = 6 := rfl
theorem exShares : SharesF ex 16000 2000 0 = ((4000, 3000, 5000), 0) := by decide +kernel
theorem exTips : TipsF ex 5000 0 = (0, 0) := by decide +kernel
theorem exLever : lever 1000 0 3 1 = (667, 334, 0) := by decide +kernel
theorem exShares_gives {a : Option Addr} {cap : Nat} {w : World} (h : Rdb w a 6 encSup ex) : Gives Try.prog 20 #[.slice a ex.length cap, .int .i64 16000, .agg #[.int .i64 2000, .int .i64 0]] w (.tuple #[.agg #[.int .i64 4000, .int .i64 3000, .int .i64 5000], .int .i64 0]) := by
  have := Shares_gives a cap ex 16000 2000 0 w h
  rw [exShares] at this
  exact this
theorem exTips_gives {a : Option Addr} {cap : Nat} {w : World} (h : Rdb w a 6 encSup ex) : Gives Try.prog 18 #[.slice a ex.length cap, .agg #[.int .i64 5000, .int .i64 0]] w (.tuple #[.int .i64 0, .int .i64 0]) := by
  have := Tips_gives a cap ex 5000 0 w h
  rw [exTips] at this
  exact this
theorem exLever_gives {w : World} : Gives Try.prog 15 #[.int .i64 1000, .int .i64 0, .int .i64 3, .int .i64 1] w (.tuple #[.int .i64 667, .int .i64 334, .int .i64 0]) := by
  have := Lever_gives 1000 0 3 1 w
  rw [exLever] at this
  exact this
theorem Example_calls.bld_0  (w : World) : (Instr.build 62 #[(3, .int .i64 10000), (4, .int .i64 100), (5, .int .i64 900)]).run Try.prog w = .ok (.agg #[.int .i64 0, .int .i64 0, .int .i64 0, .int .i64 10000, .int .i64 100, .int .i64 900]) w := by kernel_rfl
theorem Example_calls.bld_1  (w : World) : (Instr.build 62 #[(0, .int .i64 4000), (1, .int .i64 2000), (2, .int .i64 1), (3, .int .i64 10000), (4, .int .i64 100), (5, .int .i64 900)]).run Try.prog w = .ok (.agg #[.int .i64 4000, .int .i64 2000, .int .i64 1, .int .i64 10000, .int .i64 100, .int .i64 900]) w := by kernel_rfl
theorem Example_calls.bld_2  (w : World) : (Instr.build 62 #[(0, .int .i64 4000), (1, .int .i64 (-2000)), (2, .int .i64 2), (3, .int .i64 10000), (4, .int .i64 100), (5, .int .i64 900)]).run Try.prog w = .ok (.agg #[.int .i64 4000, .int .i64 (-2000), .int .i64 2, .int .i64 10000, .int .i64 100, .int .i64 900]) w := by kernel_rfl
theorem Example_calls.bld_3  (w : World) : (Instr.build 62 #[(1, .int .i64 1000), (3, .int .i64 10000), (4, .int .i64 100), (5, .int .i64 900)]).run Try.prog w = .ok (.agg #[.int .i64 0, .int .i64 1000, .int .i64 0, .int .i64 10000, .int .i64 100, .int .i64 900]) w := by kernel_rfl
theorem Example_calls.bsl_4  (w : World) : (Instr.buildSlice 27 4 #[(0, .agg #[.int .i64 0, .int .i64 0, .int .i64 0, .int .i64 10000, .int .i64 100, .int .i64 900]), (1, .agg #[.int .i64 4000, .int .i64 2000, .int .i64 1, .int .i64 10000, .int .i64 100, .int .i64 900]), (2, .agg #[.int .i64 4000, .int .i64 (-2000), .int .i64 2, .int .i64 10000, .int .i64 100, .int .i64 900]), (3, .agg #[.int .i64 0, .int .i64 1000, .int .i64 0, .int .i64 10000, .int .i64 100, .int .i64 900])]).run Try.prog w = .ok (.slice (some ⟨w.heap.size, 0, none⟩) 4 4) (w.alloc (.cells #[.int .i64 0, .int .i64 0, .int .i64 0, .int .i64 10000, .int .i64 100, .int .i64 900, .int .i64 4000, .int .i64 2000, .int .i64 1, .int .i64 10000, .int .i64 100, .int .i64 900, .int .i64 4000, .int .i64 (-2000), .int .i64 2, .int .i64 10000, .int .i64 100, .int .i64 900, .int .i64 0, .int .i64 1000, .int .i64 0, .int .i64 10000, .int .i64 100, .int .i64 900] 62)) := by kernel_rfl
open Example_calls in
theorem Example_calls  (w : World) : Calls Try.prog 34 #[] w (Got w ex) := by
  refine calls_of (vs := []) Try.func34 rfl rfl rfl ?_
  show Cd _ _ _ _ _ [] []
  refine Cd.seq (Cd.region (Rg.val (Val.assign rfl) rfl (Rg.nil (Rx.seq (Cd.seq (Cd.region (Rg.val (Val.build rfl (bld_0)) rfl (Rg.val (Val.build rfl (bld_1)) rfl (Rg.val (Val.build rfl (bld_2)) rfl (Rg.val (Val.build rfl (bld_3)) rfl (Rg.eff (Eff.buildSlice (cs := [.int .i64 0, .int .i64 0, .int .i64 0, .int .i64 10000, .int .i64 100, .int .i64 900, .int .i64 4000, .int .i64 2000, .int .i64 1, .int .i64 10000, .int .i64 100, .int .i64 900, .int .i64 4000, .int .i64 (-2000), .int .i64 2, .int .i64 10000, .int .i64 100, .int .i64 900, .int .i64 0, .int .i64 1000, .int .i64 0, .int .i64 10000, .int .i64 100, .int .i64 900]) 1 rfl (fun w => (bsl_4) w) rfl) rfl fun b1 _ => (Rg.val (Val.assign rfl) rfl (Rg.nil (Rx.seq (Cd.ret (Rx.ret1 rfl rfl fun w hm_ => (⟨hm_.below, b1, hm_.fresh 1 _ rfl _ rfl, rfl, hm_.holds 1 _ rfl⟩)))))))))))))))))

theorem known_gives.bld_0  (w : World) : (Instr.build 29 #[(0, .int .i64 2000)]).run Try.prog w = .ok (.agg #[.int .i64 2000, .int .i64 0]) w := by kernel_rfl
theorem known_gives.bld_1  (w : World) : (Instr.build 29 #[(0, .int .i64 5000)]).run Try.prog w = .ok (.agg #[.int .i64 5000, .int .i64 0]) w := by kernel_rfl
theorem known_gives.bld_2  (w : World) : (Instr.build 30 #[(0, .int .i64 4000), (1, .int .i64 3000), (2, .int .i64 5000)]).run Try.prog w = .ok (.agg #[.int .i64 4000, .int .i64 3000, .int .i64 5000]) w := by kernel_rfl
open known_gives in
theorem known_gives  (w : World) : Gives Try.prog 16 #[] w (.bool true) := by
  refine calls_of (vs := []) Try.func16 rfl rfl rfl ?_
  show Cd _ _ _ _ _ [] []
  refine Cd.seq (Cd.region (Rg.val (Val.assign rfl) rfl (Rg.nil (Rx.seq (Cd.seq (Cd.region (Rg.eff (Eff.call rfl rfl en34 rfl (fun w hm => got_mem 1 hm (Example_calls w))) rfl fun b1 _ => (Rg.val (Val.build rfl (bld_0)) rfl (Rg.eff (Eff.give rfl rfl en20 rfl (fun w hm => exShares_gives (Rdb.of_flat (l := 1) hm rfl encSup_len rfl))) rfl fun _ _ => (Rg.val (Val.move rfl) rfl (Rg.val (Val.extract rfl rfl) rfl (Rg.val (Val.extract rfl rfl) rfl (Rg.eff (Eff.alloc 2 zv30 rfl) rfl fun b2 _ => (Rg.eff (Eff.storeAll (l := 2) sz30 rfl rfl rfl rfl rfl rfl) rfl fun _ _ => (Rg.val (Val.assign rfl) rfl (Rg.nil (Rx.seq (Cd.seq (Cd.region (Rg.eff (Eff.call rfl rfl en34 rfl (fun w hm => got_mem 3 hm (Example_calls w))) rfl fun b3 _ => (Rg.val (Val.build rfl (bld_1)) rfl (Rg.eff (Eff.give rfl rfl en18 rfl (fun w hm => exTips_gives (Rdb.of_flat (l := 3) hm rfl encSup_len rfl))) rfl fun _ _ => (Rg.val (Val.move rfl) rfl (Rg.val (Val.extract rfl rfl) rfl (Rg.val (Val.extract rfl rfl) rfl (Rg.val (Val.assign rfl) rfl (Rg.val (Val.assign rfl) rfl (Rg.nil (Rx.seq (Cd.seq (Cd.region (Rg.eff (Eff.give rfl rfl en15 rfl (fun w hm => exLever_gives)) rfl fun _ _ => (Rg.val (Val.move rfl) rfl (Rg.val (Val.extract rfl rfl) rfl (Rg.val (Val.extract rfl rfl) rfl (Rg.val (Val.extract rfl rfl) rfl (Rg.val (Val.assign rfl) rfl (Rg.val (Val.assign rfl) rfl (Rg.val (Val.assign rfl) rfl ?_)))))))))))))))))))))))))))))))))))))))
  refine Rg.nil (Rx.seq (Cd.seq (Cd.region (Rg.val (Val.move rfl) rfl (Rg.val (Val.move rfl) rfl (Rg.val (Val.as (Val.add rfl rfl) (congrArg (Value.int IntKind.i64) (show wrap64 (0 + 0) = 0 from by unfold wrap64; omega))) rfl (Rg.val (Val.move rfl) rfl (Rg.val (Val.as (Val.add rfl rfl) (congrArg (Value.int IntKind.i64) (show wrap64 (0 + 0) = 0 from by unfold wrap64; omega))) rfl (Rg.val (Val.known (c := true) (Val.eql rfl rfl) (by decide)) rfl (Rg.val (Val.move rfl) rfl (Rg.on rfl rfl rfl (Rg.val (Val.loadAll (l := 2) rfl rfl ag30 rfl) rfl (Rg.on rfl rfl rfl (Rg.val (Val.build rfl (bld_2)) rfl (Rg.on rfl rfl rfl (Rg.val (Val.known (c := true) (Val.eqA rfl rfl (by kernel_rfl) (EqV.arr Try.underlying30 (by kernel_rfl) (c := 1) (by kernel_rfl) rfl (EqI.cons (a := .int .i64 4000) (b := .int .i64 4000) (fun _ => by kernel_rfl) (fun _ => by kernel_rfl) (EqV.int Try.underlying2 _ _) (EqI.cons (a := .int .i64 3000) (b := .int .i64 3000) (fun _ => by kernel_rfl) (fun _ => by kernel_rfl) (EqV.int Try.underlying2 _ _) (EqI.cons (a := .int .i64 5000) (b := .int .i64 5000) (fun _ => by kernel_rfl) (fun _ => by kernel_rfl) (EqV.int Try.underlying2 _ _) (EqI.nil)))))) (by simp)) rfl (Rg.val (Val.pickT rfl rfl) rfl (Rg.val (Val.move rfl) rfl (Rg.on rfl rfl rfl (Rg.val (Val.move rfl) rfl (Rg.on rfl rfl rfl (Rg.val (Val.known (c := true) (Val.eql rfl rfl) (by decide)) rfl (Rg.val (Val.pickT rfl rfl) rfl (Rg.val (Val.move rfl) rfl (Rg.on rfl rfl rfl (Rg.val (Val.move rfl) rfl (Rg.on rfl rfl rfl (Rg.val (Val.known (c := true) (Val.eql rfl rfl) (by decide)) rfl (Rg.val (Val.pickT rfl rfl) rfl (Rg.val (Val.move rfl) rfl (Rg.on rfl rfl rfl (Rg.val (Val.move rfl) rfl (Rg.on rfl rfl rfl (Rg.val (Val.known (c := true) (Val.eql rfl rfl) (by decide)) rfl (Rg.val (Val.pickT rfl rfl) rfl (Rg.val (Val.assign rfl) rfl (Rg.nil (Rx.seq (Cd.ret ?_)))))))))))))))))))))))))))))))))))))))
  refine Rx.ret1 rfl rfl fun w hm_ => (⟨rfl, hm_.below⟩)

end Go.Proofs.Ytfekoippjmojgaa
