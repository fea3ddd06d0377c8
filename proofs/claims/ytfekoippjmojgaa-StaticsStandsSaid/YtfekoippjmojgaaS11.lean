/- Walks of functions of the program: what each returns, told by plain functions; nothing that lay there is turned. -/
import Derived.Test.YtfekoippjmojgaaS10
namespace Go.Proofs.Ytfekoippjmojgaa
open Go.Kx Go.RowKit
set_option maxRecDepth 100000
set_option linter.unusedVariables false
set_option linter.unusedSimpArgs false
set_option linter.constructorNameAsVariable false
def nearF (n d : Int) : Int := (2 * n + d) / (2 * d)
theorem near_bd {n d K : Int} (hd : 1 ≤ d) (hn : -K ≤ n ∧ n ≤ K) (hK : 0 ≤ K) : -(K + 1) ≤ nearF n d ∧ nearF n d ≤ K + 1 := by
  unfold nearF
  have h1 := Int.emod_add_mul_ediv (2 * n + d) (2 * d)
  have h2 := Int.emod_nonneg (2 * n + d) (show 2 * d ≠ 0 by omega)
  have h3 := Int.emod_lt_of_pos (2 * n + d) (show 0 < 2 * d by omega)
  generalize (2 * n + d) / (2 * d) = q at *
  constructor
  · by_cases h : -(K + 1) ≤ q
    · exact h
    · have : 2 * d * q ≤ 2 * d * (-(K + 2)) := Int.mul_le_mul_of_nonneg_left (by omega) (by omega)
      have h5 : 2 * d * (-(K + 2)) = -(2 * (d * K)) - 4 * d := by grind
      have h6 : 1 * K ≤ d * K := Int.mul_le_mul_of_nonneg_right hd hK
      omega
  · by_cases h : q ≤ K + 1
    · exact h
    · have : 2 * d * (K + 2) ≤ 2 * d * q := Int.mul_le_mul_of_nonneg_left (by omega) (by omega)
      have h5 : 2 * d * (K + 2) = 2 * (d * K) + 4 * d := by grind
      have h6 : 1 * K ≤ d * K := Int.mul_le_mul_of_nonneg_right hd hK
      omega
theorem near_gives (n d : Int) (w : World) (hn : -1125899906842624 ≤ n ∧ n ≤ 1125899906842624) (hd : 1 ≤ d ∧ d ≤ 1073741824) : Gives Try.prog 65 #[.int .i64 n, .int .i64 d] w (.int .i64 (nearF n d)) := by
  refine calls_of (vs := [.int .i64 n, .int .i64 d]) Try.func65 rfl rfl rfl ?_
  show Cd _ _ _ _ _ [(0, .int .i64 n), (1, .int .i64 d)] []
  refine Cd.seq (Cd.region (Rg.val (Val.assign rfl) rfl (Rg.nil (Rx.seq (Cd.seq (Cd.region (Rg.val (Val.move rfl) rfl (Rg.val (Val.mulN rfl rfl (by unfold in64; omega)) rfl (Rg.val (Val.move rfl) rfl (Rg.val (Val.addN rfl rfl (by unfold in64; omega)) rfl (Rg.val (Val.move rfl) rfl (Rg.val (Val.mulN rfl rfl (by unfold in64; omega)) rfl (Rg.val (Val.assign rfl) rfl (Rg.val (Val.assign rfl) rfl (Rg.nil (Rx.seq (Cd.seq (Cd.region (Rg.val (Val.move rfl) rfl (Rg.val (Val.move rfl) rfl (Rg.val (Val.as (Val.quo rfl rfl (by omega)) (congrArg (Value.int IntKind.i64) (i64_in' (tdiv_bd (by unfold in64; omega) (by omega))))) rfl (Rg.val (Val.assign rfl) rfl (Rg.nil (Rx.seq (Cd.seq (Cd.seq (Cd.region (Rg.val (Val.move rfl) rfl (Rg.val (Val.move rfl) rfl (Rg.val (Val.rem rfl rfl (by omega)) rfl (Rg.val (Val.lss rfl rfl) rfl (Rg.nil (Rx.seq (Cd.cond rfl (fun c1 => ?_) (fun c1 => ?_)))))))))))))))))))))))))))))))))))
  · replace c1 := of_decide_eq_true c1
    refine Cd.region (Rg.val (Val.move rfl) rfl (Rg.val (Val.subN rfl rfl (by have := floor_in (x := 2 * n + d) (y := 2 * d) (by unfold in64; omega) (by omega); rw [(floor_t (by omega)).1 c1] at this; exact this)) rfl (Rg.val (Val.assign rfl) rfl (Rg.nil (Rx.seq (Cd.seq (Cd.region (Rg.val (Val.move rfl) rfl (Rg.val (Val.assign rfl) rfl (Rg.nil (Rx.seq (Cd.ret (Rx.ret1 rfl rfl fun w hm_ => (⟨by unfold nearF; rw [(floor_t (by omega)).1 c1], hm_.below⟩))))))))))))))
  · replace c1 := of_decide_eq_false c1
    refine Cd.skip (Rx.seq (Cd.seq (Cd.region (Rg.val (Val.move rfl) rfl (Rg.val (Val.assign rfl) rfl (Rg.nil (Rx.seq (Cd.ret (Rx.ret1 rfl rfl fun w hm_ => (⟨by unfold nearF; rw [(floor_t (by omega)).2 c1], hm_.below⟩))))))))))

theorem refnear_gives (n d : Int) (w : World) (hn : -1125899906842624 ≤ n ∧ n ≤ 1125899906842624) (hd : 1 ≤ d ∧ d ≤ 1073741824) : Gives Try.prog 68 #[.int .i64 n, .int .i64 d] w (.int .i64 (nearF n d)) := by
  refine calls_of (vs := [.int .i64 n, .int .i64 d]) Try.func68 rfl rfl rfl ?_
  show Cd _ _ _ _ _ [(0, .int .i64 n), (1, .int .i64 d)] []
  refine Cd.seq (Cd.region (Rg.val (Val.assign rfl) rfl (Rg.nil (Rx.seq (Cd.seq (Cd.region (Rg.val (Val.move rfl) rfl (Rg.val (Val.mulN rfl rfl (by unfold in64; omega)) rfl (Rg.val (Val.move rfl) rfl (Rg.val (Val.addN rfl rfl (by unfold in64; omega)) rfl (Rg.val (Val.move rfl) rfl (Rg.val (Val.mulN rfl rfl (by unfold in64; omega)) rfl (Rg.eff (Eff.give rfl rfl en91 rfl (fun w hm => floor_gives _ _ w (by unfold in64; omega) (by omega))) rfl fun _ _ => (Rg.val (Val.assign rfl) rfl (Rg.nil (Rx.seq (Cd.ret (Rx.ret1 rfl rfl fun w hm_ => (⟨rfl, hm_.below⟩)))))))))))))))))))

def slopeOk (x y : Int) : Bool := between x (-1000) 1000 && between y (-1000) 1000
def centreOk (x y z : Int) : Bool := between x (-131072) 131072 && between y (-131072) 131072 && between z (-131072) 131072
theorem centre_idx (x y z : Int) : (!decide (0 ≤ idxF (fun i => !between i (-131072) 131072) [x, y, z])) = centreOk x y z := by
  unfold centreOk
  cases h0 : between x (-131072) 131072 <;> cases h1 : between y (-131072) 131072 <;> cases h2 : between z (-131072) 131072 <;> simp [idxF, h0, h1, h2]
theorem slopeOk_b {x y : Int} (h : slopeOk x y = true) : (-1000 ≤ x ∧ x ≤ 1000) ∧ (-1000 ≤ y ∧ y ≤ 1000) := by
  simp only [slopeOk, between, Bool.and_eq_true, decide_eq_true_eq] at h
  omega
theorem centreOk_b {x y z : Int} (h : centreOk x y z = true) : (-131072 ≤ x ∧ x ≤ 131072) ∧ (-131072 ≤ y ∧ y ≤ 131072) ∧ (-131072 ≤ z ∧ z ≤ 131072) := by
  simp only [centreOk, between, Bool.and_eq_true, decide_eq_true_eq] at h
  omega
theorem validSlope_gives (x y : Int) (w : World) : Gives Try.prog 64 #[.agg #[.int .i64 x, .int .i64 y]] w (.bool (slopeOk x y)) := by
  refine calls_of (vs := [.agg #[.int .i64 x, .int .i64 y]]) Try.func64 rfl rfl rfl ?_
  show Cd _ _ _ _ _ [(0, .agg #[.int .i64 x, .int .i64 y])] []
  refine Cd.seq (Cd.region (Rg.eff (Eff.box 1 rfl rfl) rfl fun b1 _ => (Rg.val (Val.assign rfl) rfl (Rg.nil (Rx.seq (Cd.seq (Cd.region (Rg.val (Val.fa rfl (fa46_0 _ _)) rfl (Rg.val (Val.load (l := 1) rfl rfl sc2 rfl) rfl (Rg.eff (Eff.give rfl rfl en48 rfl (fun w hm => between_gives _ _ _ w)) rfl fun _ _ => (Rg.val (Val.move rfl) rfl (Rg.split 6 rfl (fun c1 => ?_) (fun c1 => ?_)))))))))))))
  · refine Rg.on rfl rfl rfl (Rg.val (Val.fa rfl (fa46_1 _ _)) rfl (Rg.on rfl rfl rfl (Rg.val (Val.load (l := 1) rfl rfl sc2 rfl) rfl (Rg.on rfl rfl rfl (Rg.eff (Eff.give rfl rfl en48 rfl (fun w hm => between_gives _ _ _ w)) rfl fun _ _ => (Rg.val (Val.pickT rfl rfl) rfl (Rg.val (Val.assign rfl) rfl (Rg.nil (Rx.seq (Cd.ret (Rx.ret1 rfl rfl fun w hm_ => (⟨by first | rfl | simp [slopeOk, *], hm_.below⟩))))))))))))
  · refine Rg.off rfl rfl rfl rfl (Rg.off rfl rfl rfl rfl (Rg.off rfl rfl rfl rfl (Rg.val (Val.pickF rfl rfl) rfl (Rg.val (Val.assign rfl) rfl (Rg.nil (Rx.seq (Cd.ret (Rx.ret1 rfl rfl fun w hm_ => (⟨by first | rfl | simp [slopeOk, *], hm_.below⟩)))))))))

theorem refslope_gives (x y : Int) (w : World) : Gives Try.prog 67 #[.agg #[.int .i64 x, .int .i64 y]] w (.int .i64 (errR (slopeOk x y))) := by
  refine calls_of (vs := [.agg #[.int .i64 x, .int .i64 y]]) Try.func67 rfl rfl rfl ?_
  show Cd _ _ _ _ _ [(0, .agg #[.int .i64 x, .int .i64 y])] []
  refine Cd.seq (Cd.region (Rg.eff (Eff.box 1 rfl rfl) rfl fun b1 _ => (Rg.val (Val.assign rfl) rfl (Rg.nil (Rx.seq (Cd.seq (Cd.seq (Cd.region (Rg.val (Val.fa rfl (fa46_0 _ _)) rfl (Rg.val (Val.load (l := 1) rfl rfl sc2 rfl) rfl (Rg.eff (Eff.give rfl rfl en69 rfl (fun w hm => within_gives _ _ _ w)) rfl fun _ _ => (Rg.val (Val.not rfl) rfl (Rg.val (Val.move rfl) rfl (Rg.split 7 rfl (fun c1 => ?_) (fun c1 => ?_)))))))))))))))
  · replace c1 := bnot_t c1
    refine Rg.off rfl rfl rfl rfl (Rg.off rfl rfl rfl rfl (Rg.off rfl rfl rfl rfl (Rg.off rfl rfl rfl rfl (Rg.val (Val.pickT rfl rfl) rfl (Rg.nil (Rx.seq (Cd.yes rfl (Cd.seq (Cd.region (Rg.val (Val.assign rfl) rfl (Rg.nil (Rx.seq (Cd.ret (Rx.pastR (Rx.ret1 rfl rfl fun w hm_ => (⟨by simp [errR, slopeOk, *], hm_.below⟩))))))))))))))))
  · replace c1 := bnot_f c1
    refine Rg.on rfl rfl rfl (Rg.val (Val.fa rfl (fa46_1 _ _)) rfl (Rg.on rfl rfl rfl (Rg.val (Val.load (l := 1) rfl rfl sc2 rfl) rfl (Rg.on rfl rfl rfl (Rg.eff (Eff.give rfl rfl en69 rfl (fun w hm => within_gives _ _ _ w)) rfl fun _ _ => (Rg.on rfl rfl rfl (Rg.val (Val.not rfl) rfl (Rg.val (Val.pickF rfl rfl) rfl (Rg.nil (Rx.seq (Cd.cond rfl (fun c2 => ?_) (fun c2 => ?_))))))))))))
    · replace c2 := bnot_t c2
      refine Cd.seq (Cd.region (Rg.val (Val.assign rfl) rfl (Rg.nil (Rx.seq (Cd.ret (Rx.pastR (Rx.ret1 rfl rfl fun w hm_ => (⟨by simp [errR, slopeOk, *], hm_.below⟩))))))))
    · replace c2 := bnot_f c2
      refine Cd.skip (Rx.seq (Cd.seq (Cd.region (Rg.val (Val.assign rfl) rfl (Rg.nil (Rx.seq (Cd.ret (Rx.ret1 rfl rfl fun w hm_ => (⟨by simp [errR, slopeOk, *], hm_.below⟩)))))))))

theorem refcentre_gives (x y z : Int) (w : World) : Gives Try.prog 66 #[.agg #[.int .i64 x, .int .i64 y, .int .i64 z]] w (.int .i64 (errR (centreOk x y z))) := by
  refine calls_of (vs := [.agg #[.int .i64 x, .int .i64 y, .int .i64 z]]) Try.func66 rfl rfl rfl ?_
  show Cd _ _ _ _ _ [(0, .agg #[.int .i64 x, .int .i64 y, .int .i64 z])] []
  refine Cd.seq (Cd.region (Rg.eff (Eff.box 1 rfl rfl) rfl fun b1 _ => (Rg.val (Val.assign rfl) rfl (Rg.nil (Rx.seq (Cd.seq (Cd.seq (Cd.region (Rg.val (Val.assign rfl) rfl (Rg.nil (Rx.seq (Cd.block (Cd.loopN 4 (Rd.succ (Cd.seq (Cd.seq (Cd.region (Rg.val (Val.move rfl) rfl (Rg.val (Val.known (c := true) (Val.lss rfl rfl) (by decide)) rfl (Rg.nil (Rx.seq (Cd.yes rfl (Cd.skip (Rx.seq (Cd.seq (Cd.block (Cd.seq (Cd.region (Rg.val (Val.move rfl) rfl (Rg.val (Val.ia rfl rfl (ia30_0 _ _)) rfl (Rg.val (Val.load (l := 1) rfl rfl sc2 rfl) rfl (Rg.eff (Eff.give rfl rfl en69 rfl (fun w hm => within_gives _ _ _ w)) rfl fun _ _ => (Rg.val (Val.not rfl) rfl (Rg.nil (Rx.seq (Cd.cond rfl (fun c1 => ?_) (fun c1 => ?_)))))))))))))))))))))))))))))))))))))
  · replace c1 := bnot_t c1
    refine Cd.seq (Cd.region (Rg.val (Val.assign rfl) rfl (Rg.nil (Rx.seq (Cd.ret (Rx.inr (Rx.pastR (Rx.pastR (Rx.inr (Rx.pastR (Rx.ret1 rfl rfl fun w hm_ => (⟨by simp [errR, centreOk, *], hm_.below⟩))))))))))))
  · replace c1 := bnot_f c1
    refine Cd.skip (Rx.inb (Rx.seq (Cd.region (Rg.val (Val.move rfl) rfl (Rg.val (Val.as (Val.add rfl rfl) (congrArg (Value.int IntKind.i64) (show wrap64 (0 + 1) = 1 from by unfold wrap64; omega))) rfl (Rg.val (Val.assign rfl) rfl (Rg.nil (Rx.again (Rd.succ (Cd.seq (Cd.seq (Cd.region (Rg.val (Val.move rfl) rfl (Rg.val (Val.known (c := true) (Val.lss rfl rfl) (by decide)) rfl (Rg.nil (Rx.seq (Cd.yes rfl (Cd.skip (Rx.seq (Cd.seq (Cd.block (Cd.seq (Cd.region (Rg.val (Val.move rfl) rfl (Rg.val (Val.ia rfl rfl (ia30_1 _ _)) rfl (Rg.val (Val.load (l := 1) rfl rfl sc2 rfl) rfl (Rg.eff (Eff.give rfl rfl en69 rfl (fun w hm => within_gives _ _ _ w)) rfl fun _ _ => (Rg.val (Val.not rfl) rfl (Rg.nil (Rx.seq (Cd.cond rfl (fun c2 => ?_) (fun c2 => ?_))))))))))))))))))))))))))))))))
    · replace c2 := bnot_t c2
      refine Cd.seq (Cd.region (Rg.val (Val.assign rfl) rfl (Rg.nil (Rx.seq (Cd.ret (Rx.inr (Rx.pastR (Rx.pastR (Rx.inr (Rx.pastR (Rx.ret1 rfl rfl fun w hm_ => (⟨by simp [errR, centreOk, *], hm_.below⟩))))))))))))
    · replace c2 := bnot_f c2
      refine Cd.skip (Rx.inb (Rx.seq (Cd.region (Rg.val (Val.move rfl) rfl (Rg.val (Val.as (Val.add rfl rfl) (congrArg (Value.int IntKind.i64) (show wrap64 (1 + 1) = 2 from by unfold wrap64; omega))) rfl (Rg.val (Val.assign rfl) rfl (Rg.nil (Rx.again (Rd.succ (Cd.seq (Cd.seq (Cd.region (Rg.val (Val.move rfl) rfl (Rg.val (Val.known (c := true) (Val.lss rfl rfl) (by decide)) rfl (Rg.nil (Rx.seq (Cd.yes rfl (Cd.skip (Rx.seq (Cd.seq (Cd.block (Cd.seq (Cd.region (Rg.val (Val.move rfl) rfl (Rg.val (Val.ia rfl rfl (ia30_2 _ _)) rfl (Rg.val (Val.load (l := 1) rfl rfl sc2 rfl) rfl (Rg.eff (Eff.give rfl rfl en69 rfl (fun w hm => within_gives _ _ _ w)) rfl fun _ _ => (Rg.val (Val.not rfl) rfl (Rg.nil (Rx.seq (Cd.cond rfl (fun c3 => ?_) (fun c3 => ?_))))))))))))))))))))))))))))))))
      · replace c3 := bnot_t c3
        refine Cd.seq (Cd.region (Rg.val (Val.assign rfl) rfl (Rg.nil (Rx.seq (Cd.ret (Rx.inr (Rx.pastR (Rx.pastR (Rx.inr (Rx.pastR (Rx.ret1 rfl rfl fun w hm_ => (⟨by simp [errR, centreOk, *], hm_.below⟩))))))))))))
      · replace c3 := bnot_f c3
        refine Cd.skip (Rx.inb (Rx.seq (Cd.region (Rg.val (Val.move rfl) rfl (Rg.val (Val.as (Val.add rfl rfl) (congrArg (Value.int IntKind.i64) (show wrap64 (2 + 1) = 3 from by unfold wrap64; omega))) rfl (Rg.val (Val.assign rfl) rfl (Rg.nil (Rx.again (Rd.succ (Cd.seq (Cd.seq (Cd.region (Rg.val (Val.move rfl) rfl (Rg.val (Val.known (c := false) (Val.lss rfl rfl) (by decide)) rfl (Rg.nil (Rx.seq (Cd.no rfl (Cd.exit (Rx.pastE (Rx.pastE (Rx.hit (Rx.seq (Cd.seq (Cd.region (Rg.val (Val.assign rfl) rfl (Rg.nil (Rx.seq (Cd.ret (Rx.ret1 rfl rfl fun w hm_ => (⟨by simp [errR, centreOk, *], hm_.below⟩))))))))))))))))))))))))))))))

theorem outside_gives (i : Int) (w : World) : Gives Try.prog 90 #[.int .i64 i] w (.bool (!between i (-131072) 131072)) := by
  refine calls_of (vs := [.int .i64 i]) Try.func90 rfl rfl rfl ?_
  show Cd _ _ _ _ _ [(0, .int .i64 i)] []
  refine Cd.seq (Cd.region (Rg.val (Val.assign rfl) rfl (Rg.nil (Rx.seq (Cd.seq (Cd.region (Rg.val (Val.move rfl) rfl (Rg.eff (Eff.give rfl rfl en48 rfl (fun w hm => between_gives _ _ _ w)) rfl fun _ _ => (Rg.val (Val.not rfl) rfl (Rg.val (Val.assign rfl) rfl (Rg.nil (Rx.seq (Cd.ret (Rx.ret1 rfl rfl fun w hm_ => (⟨rfl, hm_.below⟩)))))))))))))))

theorem containsInts_gives (a : Option Addr) (cap : Nat) (xs : List Int) (f : FuncId) (fs us : List Value) (p : Int → Bool) (w : World) (hR : Rdb w a 1 (fun x => [Value.int .i64 x]) xs) (hen : Enters Try.prog f) (hlen : xs.length ≤ 4611686018427387904) (hf : ∀ {i : Nat} (x : Int) (w' : World), Below w.heap.size w w' → xs[i]? = some x → Gives Try.prog f (fs ++ [Value.int .i64 x] ++ us).toArray w' (.bool (p x))) : Gives Try.prog 89 #[.slice a xs.length cap, .func (.func f) fs.toArray us.toArray] w (.bool (decide (0 ≤ idxF p xs))) := by
  refine calls_of (vs := [.slice a xs.length cap, .func (.func f) fs.toArray us.toArray]) Try.func89 rfl rfl rfl ?_
  show Cd _ _ _ _ _ [(0, .slice a xs.length cap), (1, .func (.func f) fs.toArray us.toArray)] []
  refine Cd.seq (Cd.region (Rg.val (Val.assign rfl) rfl (Rg.nil (Rx.seq (Cd.seq (Cd.region (Rg.val (Val.move rfl) rfl (Rg.val (Val.move rfl) rfl (Rg.eff (Eff.give rfl rfl en86 rfl (fun w hm => indexInts_gives a cap xs f fs us p w (hm.rdb hR) hen hlen (fun x w' hb hi => hf x w' (hm.below.trans (hb.mono hm.below.size)) hi))) rfl fun _ _ => (Rg.val (Val.geq rfl rfl) rfl (Rg.val (Val.assign rfl) rfl (Rg.nil (Rx.seq (Cd.ret (Rx.ret1 rfl rfl fun w hm_ => (⟨rfl, hm_.below⟩))))))))))))))))

theorem validCentre_gives (x y z : Int) (w : World) : Gives Try.prog 63 #[.agg #[.int .i64 x, .int .i64 y, .int .i64 z]] w (.bool (centreOk x y z)) := by
  refine calls_of (vs := [.agg #[.int .i64 x, .int .i64 y, .int .i64 z]]) Try.func63 rfl rfl rfl ?_
  show Cd _ _ _ _ _ [(0, .agg #[.int .i64 x, .int .i64 y, .int .i64 z])] []
  refine Cd.seq (Cd.region (Rg.eff (Eff.box 1 rfl rfl) rfl fun b1 _ => (Rg.val (Val.assign rfl) rfl (Rg.nil (Rx.seq (Cd.seq (Cd.region (Rg.val (Val.sliceArr Try.underlying30 sz2 rfl) rfl (Rg.eff (Eff.give rfl rfl en89 rfl (fun w hm => containsInts_gives _ _ [x, y, z] _ [] [] _ w (Rdb.of_blk (l := 1) (enc := Value.int .i64) hm rfl rfl) en90 (by simp) (fun x w' _ _ => outside_gives x w'))) rfl fun _ _ => (Rg.val (Val.not rfl) rfl (Rg.val (Val.assign rfl) rfl (Rg.nil (Rx.seq (Cd.ret (Rx.ret1 rfl rfl fun w hm_ => (⟨by rw [← centre_idx], hm_.below⟩))))))))))))))))

/-- A foot, and the error. -/
def footF (x y z sx sy ax ay : Int) : (Int × Int) × Int :=
  if centreOk x y z && slopeOk sx sy && slopeOk ax ay then ((x + nearF (z * (sx + ax)) 1000, y + nearF (z * (sy + ay)) 1000), 0) else ((0, 0), 3)
theorem foot_bd {x y z sx sy ax ay : Int} : ((-300000000 ≤ (footF x y z sx sy ax ay).1.1 ∧ (footF x y z sx sy ax ay).1.1 ≤ 300000000) ∧ (-300000000 ≤ (footF x y z sx sy ax ay).1.2 ∧ (footF x y z sx sy ax ay).1.2 ≤ 300000000)) := by
  unfold footF
  split
  · rename_i h
    simp only [Bool.and_eq_true] at h
    obtain ⟨⟨hc, hs⟩, ha⟩ := h
    obtain ⟨h1, h2, h3⟩ := centreOk_b hc
    obtain ⟨h4, h5⟩ := slopeOk_b hs
    obtain ⟨h6, h7⟩ := slopeOk_b ha
    have m1 := mul_abs (a := z) (b := sx + ax) (A := 131072) (B := 2000) (by omega) (by omega)
    have m2 := mul_abs (a := z) (b := sy + ay) (A := 131072) (B := 2000) (by omega) (by omega)
    have n1 := near_bd (n := z * (sx + ax)) (d := 1000) (K := 262144000) (by decide) (by omega) (by decide)
    have n2 := near_bd (n := z * (sy + ay)) (d := 1000) (K := 262144000) (by decide) (by omega) (by decide)
    dsimp only
    omega
  · exact ⟨by decide, by decide⟩
theorem foot_err {x y z sx sy ax ay : Int} (h : ¬ (footF x y z sx sy ax ay).2 = 0) : footF x y z sx sy ax ay = ((0, 0), (footF x y z sx sy ax ay).2) := by
  unfold footF at *
  split at h
  · exact absurd rfl h
  · rename_i hn
    rw [if_neg hn]
theorem Foot_gives.bld_0  (w : World) : (Instr.build 29 #[]).run Try.prog w = .ok (.agg #[.int .i64 0, .int .i64 0]) w := by kernel_rfl
theorem Foot_gives.bld_1 (y0 : Int) (y1 : Int) (w : World) : (Instr.build 29 #[(0, .int .i64 y0), (1, .int .i64 y1)]).run Try.prog w = .ok (.agg #[.int .i64 y0, .int .i64 y1]) w := by kernel_rfl
open Foot_gives in
theorem Foot_gives (x y z sx sy ax ay : Int) (w : World) : Gives Try.prog 28 #[.agg #[.int .i64 x, .int .i64 y, .int .i64 z], .agg #[.int .i64 sx, .int .i64 sy], .agg #[.int .i64 ax, .int .i64 ay]] w (.tuple #[.agg #[.int .i64 ((footF x y z sx sy ax ay).1.1), .int .i64 ((footF x y z sx sy ax ay).1.2)], .int .i64 ((footF x y z sx sy ax ay).2)]) := by
  refine calls_of (vs := [.agg #[.int .i64 x, .int .i64 y, .int .i64 z], .agg #[.int .i64 sx, .int .i64 sy], .agg #[.int .i64 ax, .int .i64 ay]]) Try.func28 rfl rfl rfl ?_
  show Cd _ _ _ _ _ [(0, .agg #[.int .i64 x, .int .i64 y, .int .i64 z]), (1, .agg #[.int .i64 sx, .int .i64 sy]), (2, .agg #[.int .i64 ax, .int .i64 ay])] []
  refine Cd.seq (Cd.region (Rg.eff (Eff.box 1 rfl rfl) rfl fun b1 _ => (Rg.eff (Eff.box 2 rfl rfl) rfl fun b2 _ => (Rg.eff (Eff.box 3 rfl rfl) rfl fun b3 _ => (Rg.eff (Eff.alloc 4 zv29 rfl) rfl fun b4 _ => (Rg.val (Val.assign rfl) rfl (Rg.nil (Rx.seq (Cd.seq (Cd.seq (Cd.region (Rg.val (Val.loadAll (l := 1) rfl rfl ag30 rfl) rfl (Rg.eff (Eff.give rfl rfl en63 rfl (fun w hm => validCentre_gives _ _ _ w)) rfl fun _ _ => (Rg.val (Val.not rfl) rfl (Rg.val (Val.move rfl) rfl (Rg.split 11 rfl (fun c1 => ?_) (fun c1 => ?_)))))))))))))))))
  · replace c1 := bnot_t c1
    refine Rg.off rfl rfl rfl rfl (Rg.off rfl rfl rfl rfl (Rg.off rfl rfl rfl rfl (Rg.val (Val.pickT rfl rfl) rfl (Rg.val (Val.move rfl) rfl (Rg.off rfl rfl rfl rfl (Rg.off rfl rfl rfl rfl (Rg.off rfl rfl rfl rfl (Rg.val (Val.pickT rfl rfl) rfl (Rg.nil (Rx.seq (Cd.yes rfl (Cd.seq (Cd.region (Rg.val (Val.build rfl (bld_0)) rfl (Rg.eff (Eff.storeAll (l := 4) sz29 rfl rfl rfl rfl rfl rfl) rfl fun _ _ => (Rg.val (Val.assign rfl) rfl (Rg.nil (Rx.seq (Cd.ret (Rx.pastR (Rx.retR rfl (RO.cell 4 rfl rfl ag29 rfl (RO.tmp rfl (RO.nil))) fun w hm_ => (⟨by rw [show footF x y z sx sy ax ay = ((0, 0), 3) from by simp [footF, *]]; rfl, hm_.below⟩))))))))))))))))))))))
  · replace c1 := bnot_f c1
    refine Rg.on rfl rfl rfl (Rg.val (Val.loadAll (l := 2) rfl rfl ag46 rfl) rfl (Rg.on rfl rfl rfl (Rg.eff (Eff.give rfl rfl en64 rfl (fun w hm => validSlope_gives _ _ w)) rfl fun _ _ => (Rg.on rfl rfl rfl (Rg.val (Val.not rfl) rfl (Rg.val (Val.pickF rfl rfl) rfl (Rg.val (Val.move rfl) rfl (Rg.split 16 rfl (fun c2 => ?_) (fun c2 => ?_)))))))))
    · replace c2 := bnot_t c2
      refine Rg.off rfl rfl rfl rfl (Rg.off rfl rfl rfl rfl (Rg.off rfl rfl rfl rfl (Rg.val (Val.pickT rfl rfl) rfl (Rg.nil (Rx.seq (Cd.yes rfl (Cd.seq (Cd.region (Rg.val (Val.build rfl (bld_0)) rfl (Rg.eff (Eff.storeAll (l := 4) sz29 rfl rfl rfl rfl rfl rfl) rfl fun _ _ => (Rg.val (Val.assign rfl) rfl (Rg.nil (Rx.seq (Cd.ret (Rx.pastR (Rx.retR rfl (RO.cell 4 rfl rfl ag29 rfl (RO.tmp rfl (RO.nil))) fun w hm_ => (⟨by rw [show footF x y z sx sy ax ay = ((0, 0), 3) from by simp [footF, *]]; rfl, hm_.below⟩)))))))))))))))))
    · replace c2 := bnot_f c2
      refine Rg.on rfl rfl rfl (Rg.val (Val.loadAll (l := 3) rfl rfl ag46 rfl) rfl (Rg.on rfl rfl rfl (Rg.eff (Eff.give rfl rfl en64 rfl (fun w hm => validSlope_gives _ _ w)) rfl fun _ _ => (Rg.on rfl rfl rfl (Rg.val (Val.not rfl) rfl (Rg.val (Val.pickF rfl rfl) rfl (Rg.nil (Rx.seq (Cd.cond rfl (fun c3 => ?_) (fun c3 => ?_))))))))))
      · replace c3 := bnot_t c3
        refine Cd.seq (Cd.region (Rg.val (Val.build rfl (bld_0)) rfl (Rg.eff (Eff.storeAll (l := 4) sz29 rfl rfl rfl rfl rfl rfl) rfl fun _ _ => (Rg.val (Val.assign rfl) rfl (Rg.nil (Rx.seq (Cd.ret (Rx.pastR (Rx.retR rfl (RO.cell 4 rfl rfl ag29 rfl (RO.tmp rfl (RO.nil))) fun w hm_ => (⟨by rw [show footF x y z sx sy ax ay = ((0, 0), 3) from by simp [footF, *]]; rfl, hm_.below⟩))))))))))
      · replace c3 := bnot_f c3
        obtain ⟨hx, hy, hz⟩ := centreOk_b (show centreOk x y z = true by assumption)
        obtain ⟨hsx, hsy⟩ := slopeOk_b (show slopeOk sx sy = true by assumption)
        obtain ⟨hax, hay⟩ := slopeOk_b (show slopeOk ax ay = true by assumption)
        have hmx := mul_abs (a := z) (b := sx + ax) (A := 131072) (B := 2000) (by omega) (by omega)
        have hnx := near_bd (n := z * (sx + ax)) (d := 1000) (K := 262144000) (by decide) (by omega) (by decide)
        have hmy := mul_abs (a := z) (b := sy + ay) (A := 131072) (B := 2000) (by omega) (by omega)
        have hny := near_bd (n := z * (sy + ay)) (d := 1000) (K := 262144000) (by decide) (by omega) (by decide)
        refine Cd.skip (Rx.seq (Cd.seq (Cd.draw [(1, blk b1 [.int .i64 x, .int .i64 y, .int .i64 z] 30), (2, blk b2 [.int .i64 sx, .int .i64 sy] 46), (3, blk b3 [.int .i64 ax, .int .i64 ay] 46)] mixed rfl (Dr.take 0 rfl (by kernel_rfl) (Val.ia rfl rfl (ia30_0 _ _)) rfl ⟨rfl, rfl, rfl, trivial⟩ (Dr.take 1 rfl (by kernel_rfl) (Val.load (l := 1) rfl rfl sc2 rfl) rfl ⟨rfl, rfl, rfl, trivial⟩ (Dr.take 2 rfl (by kernel_rfl) (Val.ia rfl rfl (ia30_2 _ _)) rfl ⟨rfl, rfl, rfl, trivial⟩ (Dr.take 3 rfl (by kernel_rfl) (Val.load (l := 1) rfl rfl sc2 rfl) rfl ⟨rfl, rfl, rfl, trivial⟩ (Dr.take 4 rfl (by kernel_rfl) (Val.fa rfl (fa46_0 _ _)) rfl ⟨rfl, rfl, rfl, trivial⟩ (Dr.take 5 rfl (by kernel_rfl) (Val.load (l := 2) rfl rfl sc2 rfl) rfl ⟨rfl, rfl, rfl, trivial⟩ (Dr.take 6 rfl (by kernel_rfl) (Val.fa rfl (fa46_0 _ _)) rfl ⟨rfl, rfl, rfl, trivial⟩ (Dr.take 7 rfl (by kernel_rfl) (Val.load (l := 3) rfl rfl sc2 rfl) rfl ⟨rfl, rfl, rfl, trivial⟩ (Dr.take 8 rfl (by kernel_rfl) (Val.addN rfl rfl (by unfold in64; omega)) rfl ⟨rfl, rfl, rfl, trivial⟩ (Dr.take 9 rfl (by kernel_rfl) (Val.mulN rfl rfl (by unfold in64; omega)) rfl ⟨rfl, rfl, rfl, trivial⟩ (Dr.take 12 rfl (by kernel_rfl) (Val.ia rfl rfl (ia30_1 _ _)) rfl ⟨rfl, rfl, rfl, trivial⟩ (Dr.take 13 rfl (by kernel_rfl) (Val.load (l := 1) rfl rfl sc2 rfl) rfl ⟨rfl, rfl, rfl, trivial⟩ (Dr.take 14 rfl (by kernel_rfl) (Val.ia rfl rfl (ia30_2 _ _)) rfl ⟨rfl, rfl, rfl, trivial⟩ (Dr.take 15 rfl (by kernel_rfl) (Val.load (l := 1) rfl rfl sc2 rfl) rfl ⟨rfl, rfl, rfl, trivial⟩ (Dr.take 16 rfl (by kernel_rfl) (Val.fa rfl (fa46_1 _ _)) rfl ⟨rfl, rfl, rfl, trivial⟩ (Dr.take 17 rfl (by kernel_rfl) (Val.load (l := 2) rfl rfl sc2 rfl) rfl ⟨rfl, rfl, rfl, trivial⟩ (Dr.take 18 rfl (by kernel_rfl) (Val.fa rfl (fa46_1 _ _)) rfl ⟨rfl, rfl, rfl, trivial⟩ (Dr.take 19 rfl (by kernel_rfl) (Val.load (l := 3) rfl rfl sc2 rfl) rfl ⟨rfl, rfl, rfl, trivial⟩ (Dr.take 20 rfl (by kernel_rfl) (Val.addN rfl rfl (by unfold in64; omega)) rfl ⟨rfl, rfl, rfl, trivial⟩ (Dr.take 21 rfl (by kernel_rfl) (Val.mulN rfl rfl (by unfold in64; omega)) rfl ⟨rfl, rfl, rfl, trivial⟩ (Dr.one 10 (by kernel_rfl) rfl (Eff.give rfl rfl en65 rfl (fun w hm => near_gives _ _ w (by omega) (by omega))) rfl (fun _ _ => ⟨rfl, rfl, rfl, trivial⟩) fun _ _ => (Dr.take 11 rfl (by kernel_rfl) (Val.addN rfl rfl (by unfold in64; omega)) rfl ⟨rfl, rfl, rfl, trivial⟩ (Dr.one 22 (by kernel_rfl) rfl (Eff.give rfl rfl en65 rfl (fun w hm => near_gives _ _ w (by omega) (by omega))) rfl (fun _ _ => ⟨rfl, rfl, rfl, trivial⟩) fun _ _ => (Dr.take 23 rfl (by kernel_rfl) (Val.addN rfl rfl (by unfold in64; omega)) rfl ⟨rfl, rfl, rfl, trivial⟩ (Dr.take 24 rfl (by kernel_rfl) (Val.build rfl (bld_1 _ _)) rfl ⟨rfl, rfl, rfl, trivial⟩ (Dr.one 25 (by kernel_rfl) rfl (Eff.storeAll (l := 4) sz29 rfl rfl rfl rfl rfl rfl) rfl (fun _ _ => ⟨rfl, rfl, rfl, trivial⟩) fun _ _ => (Dr.take 26 rfl (by kernel_rfl) (Val.assign rfl) rfl ⟨rfl, rfl, rfl, trivial⟩ (Dr.done (by kernel_rfl) (Rx.seq (Cd.ret (Rx.retR rfl (RO.cell 4 rfl rfl ag29 rfl (RO.tmp rfl (RO.nil))) fun w hm_ => (⟨by rw [show footF x y z sx sy ax ay = ((x + (nearF (z * (sx + ax)) 1000), y + (nearF (z * (sy + ay)) 1000)), 0) from by simp [footF, *]]; rfl, hm_.below⟩)))))))))))))))))))))))))))))))))))

theorem refFoot_gives.bld_0  (w : World) : (Instr.build 29 #[]).run Try.prog w = .ok (.agg #[.int .i64 0, .int .i64 0]) w := by kernel_rfl
theorem refFoot_gives.bld_1 (y0 : Int) (y1 : Int) (w : World) : (Instr.build 29 #[(0, .int .i64 y0), (1, .int .i64 y1)]).run Try.prog w = .ok (.agg #[.int .i64 y0, .int .i64 y1]) w := by kernel_rfl
open refFoot_gives in
theorem refFoot_gives (x y z sx sy ax ay : Int) (w : World) : Gives Try.prog 29 #[.agg #[.int .i64 x, .int .i64 y, .int .i64 z], .agg #[.int .i64 sx, .int .i64 sy], .agg #[.int .i64 ax, .int .i64 ay]] w (.tuple #[.agg #[.int .i64 ((footF x y z sx sy ax ay).1.1), .int .i64 ((footF x y z sx sy ax ay).1.2)], .int .i64 ((footF x y z sx sy ax ay).2)]) := by
  refine calls_of (vs := [.agg #[.int .i64 x, .int .i64 y, .int .i64 z], .agg #[.int .i64 sx, .int .i64 sy], .agg #[.int .i64 ax, .int .i64 ay]]) Try.func29 rfl rfl rfl ?_
  show Cd _ _ _ _ _ [(0, .agg #[.int .i64 x, .int .i64 y, .int .i64 z]), (1, .agg #[.int .i64 sx, .int .i64 sy]), (2, .agg #[.int .i64 ax, .int .i64 ay])] []
  refine Cd.seq (Cd.region (Rg.eff (Eff.box 1 rfl rfl) rfl fun b1 _ => (Rg.eff (Eff.box 2 rfl rfl) rfl fun b2 _ => (Rg.eff (Eff.box 3 rfl rfl) rfl fun b3 _ => (Rg.eff (Eff.alloc 4 zv29 rfl) rfl fun b4 _ => (Rg.val (Val.assign rfl) rfl (Rg.nil (Rx.seq (Cd.seq (Cd.seq (Cd.region (Rg.val (Val.loadAll (l := 1) rfl rfl ag30 rfl) rfl (Rg.eff (Eff.give rfl rfl en66 rfl (fun w hm => refcentre_gives _ _ _ w)) rfl fun _ _ => (Rg.val (Val.neq rfl rfl) rfl (Rg.val (Val.move rfl) rfl (Rg.split 11 rfl (fun c1 => ?_) (fun c1 => ?_)))))))))))))))))
  · replace c1 := bnot_t c1
    replace c1 := of_decide_eq_false c1
    have zc1 : (centreOk x y z) = false := by cases hz_ : (centreOk x y z) <;> simp [errR, hz_] at c1 ⊢
    refine Rg.off rfl rfl rfl rfl (Rg.off rfl rfl rfl rfl (Rg.off rfl rfl rfl rfl (Rg.val (Val.pickT rfl rfl) rfl (Rg.val (Val.move rfl) rfl (Rg.off rfl rfl rfl rfl (Rg.off rfl rfl rfl rfl (Rg.off rfl rfl rfl rfl (Rg.val (Val.pickT rfl rfl) rfl (Rg.nil (Rx.seq (Cd.yes rfl (Cd.seq (Cd.region (Rg.val (Val.build rfl (bld_0)) rfl (Rg.eff (Eff.storeAll (l := 4) sz29 rfl rfl rfl rfl rfl rfl) rfl fun _ _ => (Rg.val (Val.assign rfl) rfl (Rg.nil (Rx.seq (Cd.ret (Rx.pastR (Rx.retR rfl (RO.cell 4 rfl rfl ag29 rfl (RO.tmp rfl (RO.nil))) fun w hm_ => (⟨by rw [show footF x y z sx sy ax ay = ((0, 0), 3) from by simp [footF, *]]; rfl, hm_.below⟩))))))))))))))))))))))
  · replace c1 := bnot_f c1
    replace c1 := of_decide_eq_true c1
    have zc1 : (centreOk x y z) = true := by cases hz_ : (centreOk x y z) <;> simp [errR, hz_] at c1 ⊢
    refine Rg.on rfl rfl rfl (Rg.val (Val.loadAll (l := 2) rfl rfl ag46 rfl) rfl (Rg.on rfl rfl rfl (Rg.eff (Eff.give rfl rfl en67 rfl (fun w hm => refslope_gives _ _ w)) rfl fun _ _ => (Rg.on rfl rfl rfl (Rg.val (Val.neq rfl rfl) rfl (Rg.val (Val.pickF rfl rfl) rfl (Rg.val (Val.move rfl) rfl (Rg.split 16 rfl (fun c2 => ?_) (fun c2 => ?_)))))))))
    · replace c2 := bnot_t c2
      replace c2 := of_decide_eq_false c2
      have zc2 : (slopeOk sx sy) = false := by cases hz_ : (slopeOk sx sy) <;> simp [errR, hz_] at c2 ⊢
      refine Rg.off rfl rfl rfl rfl (Rg.off rfl rfl rfl rfl (Rg.off rfl rfl rfl rfl (Rg.val (Val.pickT rfl rfl) rfl (Rg.nil (Rx.seq (Cd.yes rfl (Cd.seq (Cd.region (Rg.val (Val.build rfl (bld_0)) rfl (Rg.eff (Eff.storeAll (l := 4) sz29 rfl rfl rfl rfl rfl rfl) rfl fun _ _ => (Rg.val (Val.assign rfl) rfl (Rg.nil (Rx.seq (Cd.ret (Rx.pastR (Rx.retR rfl (RO.cell 4 rfl rfl ag29 rfl (RO.tmp rfl (RO.nil))) fun w hm_ => (⟨by rw [show footF x y z sx sy ax ay = ((0, 0), 3) from by simp [footF, *]]; rfl, hm_.below⟩)))))))))))))))))
    · replace c2 := bnot_f c2
      replace c2 := of_decide_eq_true c2
      have zc2 : (slopeOk sx sy) = true := by cases hz_ : (slopeOk sx sy) <;> simp [errR, hz_] at c2 ⊢
      refine Rg.on rfl rfl rfl (Rg.val (Val.loadAll (l := 3) rfl rfl ag46 rfl) rfl (Rg.on rfl rfl rfl (Rg.eff (Eff.give rfl rfl en67 rfl (fun w hm => refslope_gives _ _ w)) rfl fun _ _ => (Rg.on rfl rfl rfl (Rg.val (Val.neq rfl rfl) rfl (Rg.val (Val.pickF rfl rfl) rfl (Rg.nil (Rx.seq (Cd.cond rfl (fun c3 => ?_) (fun c3 => ?_))))))))))
      · replace c3 := bnot_t c3
        replace c3 := of_decide_eq_false c3
        have zc3 : (slopeOk ax ay) = false := by cases hz_ : (slopeOk ax ay) <;> simp [errR, hz_] at c3 ⊢
        refine Cd.seq (Cd.region (Rg.val (Val.build rfl (bld_0)) rfl (Rg.eff (Eff.storeAll (l := 4) sz29 rfl rfl rfl rfl rfl rfl) rfl fun _ _ => (Rg.val (Val.assign rfl) rfl (Rg.nil (Rx.seq (Cd.ret (Rx.pastR (Rx.retR rfl (RO.cell 4 rfl rfl ag29 rfl (RO.tmp rfl (RO.nil))) fun w hm_ => (⟨by rw [show footF x y z sx sy ax ay = ((0, 0), 3) from by simp [footF, *]]; rfl, hm_.below⟩))))))))))
      · replace c3 := bnot_f c3
        replace c3 := of_decide_eq_true c3
        have zc3 : (slopeOk ax ay) = true := by cases hz_ : (slopeOk ax ay) <;> simp [errR, hz_] at c3 ⊢
        obtain ⟨hx, hy, hz⟩ := centreOk_b (show centreOk x y z = true by assumption)
        obtain ⟨hsx, hsy⟩ := slopeOk_b (show slopeOk sx sy = true by assumption)
        obtain ⟨hax, hay⟩ := slopeOk_b (show slopeOk ax ay = true by assumption)
        have hmx := mul_abs (a := z) (b := sx + ax) (A := 131072) (B := 2000) (by omega) (by omega)
        have hnx := near_bd (n := z * (sx + ax)) (d := 1000) (K := 262144000) (by decide) (by omega) (by decide)
        have hmy := mul_abs (a := z) (b := sy + ay) (A := 131072) (B := 2000) (by omega) (by omega)
        have hny := near_bd (n := z * (sy + ay)) (d := 1000) (K := 262144000) (by decide) (by omega) (by decide)
        refine Cd.skip (Rx.seq (Cd.seq (Cd.draw [(1, blk b1 [.int .i64 x, .int .i64 y, .int .i64 z] 30), (2, blk b2 [.int .i64 sx, .int .i64 sy] 46), (3, blk b3 [.int .i64 ax, .int .i64 ay] 46)] mixed rfl (Dr.take 0 rfl (by kernel_rfl) (Val.ia rfl rfl (ia30_0 _ _)) rfl ⟨rfl, rfl, rfl, trivial⟩ (Dr.take 1 rfl (by kernel_rfl) (Val.load (l := 1) rfl rfl sc2 rfl) rfl ⟨rfl, rfl, rfl, trivial⟩ (Dr.take 2 rfl (by kernel_rfl) (Val.ia rfl rfl (ia30_2 _ _)) rfl ⟨rfl, rfl, rfl, trivial⟩ (Dr.take 3 rfl (by kernel_rfl) (Val.load (l := 1) rfl rfl sc2 rfl) rfl ⟨rfl, rfl, rfl, trivial⟩ (Dr.take 4 rfl (by kernel_rfl) (Val.fa rfl (fa46_0 _ _)) rfl ⟨rfl, rfl, rfl, trivial⟩ (Dr.take 5 rfl (by kernel_rfl) (Val.load (l := 2) rfl rfl sc2 rfl) rfl ⟨rfl, rfl, rfl, trivial⟩ (Dr.take 6 rfl (by kernel_rfl) (Val.fa rfl (fa46_0 _ _)) rfl ⟨rfl, rfl, rfl, trivial⟩ (Dr.take 7 rfl (by kernel_rfl) (Val.load (l := 3) rfl rfl sc2 rfl) rfl ⟨rfl, rfl, rfl, trivial⟩ (Dr.take 8 rfl (by kernel_rfl) (Val.addN rfl rfl (by unfold in64; omega)) rfl ⟨rfl, rfl, rfl, trivial⟩ (Dr.take 9 rfl (by kernel_rfl) (Val.mulN rfl rfl (by unfold in64; omega)) rfl ⟨rfl, rfl, rfl, trivial⟩ (Dr.take 12 rfl (by kernel_rfl) (Val.ia rfl rfl (ia30_1 _ _)) rfl ⟨rfl, rfl, rfl, trivial⟩ (Dr.take 13 rfl (by kernel_rfl) (Val.load (l := 1) rfl rfl sc2 rfl) rfl ⟨rfl, rfl, rfl, trivial⟩ (Dr.take 14 rfl (by kernel_rfl) (Val.ia rfl rfl (ia30_2 _ _)) rfl ⟨rfl, rfl, rfl, trivial⟩ (Dr.take 15 rfl (by kernel_rfl) (Val.load (l := 1) rfl rfl sc2 rfl) rfl ⟨rfl, rfl, rfl, trivial⟩ (Dr.take 16 rfl (by kernel_rfl) (Val.fa rfl (fa46_1 _ _)) rfl ⟨rfl, rfl, rfl, trivial⟩ (Dr.take 17 rfl (by kernel_rfl) (Val.load (l := 2) rfl rfl sc2 rfl) rfl ⟨rfl, rfl, rfl, trivial⟩ (Dr.take 18 rfl (by kernel_rfl) (Val.fa rfl (fa46_1 _ _)) rfl ⟨rfl, rfl, rfl, trivial⟩ (Dr.take 19 rfl (by kernel_rfl) (Val.load (l := 3) rfl rfl sc2 rfl) rfl ⟨rfl, rfl, rfl, trivial⟩ (Dr.take 20 rfl (by kernel_rfl) (Val.addN rfl rfl (by unfold in64; omega)) rfl ⟨rfl, rfl, rfl, trivial⟩ (Dr.take 21 rfl (by kernel_rfl) (Val.mulN rfl rfl (by unfold in64; omega)) rfl ⟨rfl, rfl, rfl, trivial⟩ (Dr.one 10 (by kernel_rfl) rfl (Eff.give rfl rfl en68 rfl (fun w hm => refnear_gives _ _ w (by omega) (by omega))) rfl (fun _ _ => ⟨rfl, rfl, rfl, trivial⟩) fun _ _ => (Dr.take 11 rfl (by kernel_rfl) (Val.addN rfl rfl (by unfold in64; omega)) rfl ⟨rfl, rfl, rfl, trivial⟩ (Dr.one 22 (by kernel_rfl) rfl (Eff.give rfl rfl en68 rfl (fun w hm => refnear_gives _ _ w (by omega) (by omega))) rfl (fun _ _ => ⟨rfl, rfl, rfl, trivial⟩) fun _ _ => (Dr.take 23 rfl (by kernel_rfl) (Val.addN rfl rfl (by unfold in64; omega)) rfl ⟨rfl, rfl, rfl, trivial⟩ (Dr.take 24 rfl (by kernel_rfl) (Val.build rfl (bld_1 _ _)) rfl ⟨rfl, rfl, rfl, trivial⟩ (Dr.one 25 (by kernel_rfl) rfl (Eff.storeAll (l := 4) sz29 rfl rfl rfl rfl rfl rfl) rfl (fun _ _ => ⟨rfl, rfl, rfl, trivial⟩) fun _ _ => (Dr.take 26 rfl (by kernel_rfl) (Val.assign rfl) rfl ⟨rfl, rfl, rfl, trivial⟩ (Dr.done (by kernel_rfl) (Rx.seq (Cd.ret (Rx.retR rfl (RO.cell 4 rfl rfl ag29 rfl (RO.tmp rfl (RO.nil))) fun w hm_ => (⟨by rw [show footF x y z sx sy ax ay = ((x + (nearF (z * (sx + ax)) 1000), y + (nearF (z * (sy + ay)) 1000)), 0) from by simp [footF, *]]; rfl, hm_.below⟩)))))))))))))))))))))))))))))))))))

/-- A foot with wind, and the error. -/
def blownF (x y z sx sy ax ay wx wy h m : Int) : (Int × Int) × Int :=
  if (footF x y z sx sy ax ay).2 = 0 then
    if between wx (-1048576) 1048576 && between wy (-1048576) 1048576 && between h 0 131072 && between m 1 16777216 then (((footF x y z sx sy ax ay).1.1 + nearF (wx * h) m, (footF x y z sx sy ax ay).1.2 + nearF (wy * h) m), 0) else ((0, 0), 3)
  else footF x y z sx sy ax ay
theorem Blown_gives.bld_0  (w : World) : (Instr.build 29 #[]).run Try.prog w = .ok (.agg #[.int .i64 0, .int .i64 0]) w := by kernel_rfl
theorem Blown_gives.bld_1 (y0 : Int) (y1 : Int) (w : World) : (Instr.build 29 #[(0, .int .i64 y0), (1, .int .i64 y1)]).run Try.prog w = .ok (.agg #[.int .i64 y0, .int .i64 y1]) w := by kernel_rfl
open Blown_gives in
theorem Blown_gives (x y z sx sy ax ay wx wy h m : Int) (w : World) : Gives Try.prog 30 #[.agg #[.int .i64 x, .int .i64 y, .int .i64 z], .agg #[.int .i64 sx, .int .i64 sy], .agg #[.int .i64 ax, .int .i64 ay], .agg #[.int .i64 wx, .int .i64 wy], .int .i64 h, .int .i64 m] w (.tuple #[.agg #[.int .i64 ((blownF x y z sx sy ax ay wx wy h m).1.1), .int .i64 ((blownF x y z sx sy ax ay wx wy h m).1.2)], .int .i64 ((blownF x y z sx sy ax ay wx wy h m).2)]) := by
  have hfb := foot_bd (x := x) (y := y) (z := z) (sx := sx) (sy := sy) (ax := ax) (ay := ay)
  refine calls_of (vs := [.agg #[.int .i64 x, .int .i64 y, .int .i64 z], .agg #[.int .i64 sx, .int .i64 sy], .agg #[.int .i64 ax, .int .i64 ay], .agg #[.int .i64 wx, .int .i64 wy], .int .i64 h, .int .i64 m]) Try.func30 rfl rfl rfl ?_
  show Cd _ _ _ _ _ [(0, .agg #[.int .i64 x, .int .i64 y, .int .i64 z]), (1, .agg #[.int .i64 sx, .int .i64 sy]), (2, .agg #[.int .i64 ax, .int .i64 ay]), (3, .agg #[.int .i64 wx, .int .i64 wy]), (4, .int .i64 h), (5, .int .i64 m)] []
  refine Cd.seq (Cd.region (Rg.eff (Eff.box 1 rfl rfl) rfl fun b1 _ => (Rg.eff (Eff.box 2 rfl rfl) rfl fun b2 _ => (Rg.eff (Eff.box 3 rfl rfl) rfl fun b3 _ => (Rg.eff (Eff.box 4 rfl rfl) rfl fun b4 _ => (Rg.eff (Eff.alloc 5 zv29 rfl) rfl fun b5 _ => (Rg.val (Val.assign rfl) rfl (Rg.nil (Rx.seq (Cd.seq (Cd.region (Rg.val (Val.loadAll (l := 1) rfl rfl ag30 rfl) rfl (Rg.val (Val.loadAll (l := 2) rfl rfl ag46 rfl) rfl (Rg.val (Val.loadAll (l := 3) rfl rfl ag46 rfl) rfl (Rg.eff (Eff.give rfl rfl en28 rfl (fun w hm => Foot_gives _ _ _ _ _ _ _ w)) rfl fun _ _ => (Rg.val (Val.move rfl) rfl (Rg.val (Val.extract rfl rfl) rfl (Rg.val (Val.extract rfl rfl) rfl (Rg.eff (Eff.alloc 6 zv29 rfl) rfl fun b6 _ => (Rg.eff (Eff.storeAll (l := 6) sz29 rfl rfl rfl rfl rfl rfl) rfl fun _ _ => (Rg.val (Val.assign rfl) rfl (Rg.nil (Rx.seq (Cd.seq (Cd.seq (Cd.region (Rg.val (Val.move rfl) rfl (Rg.val (Val.neq rfl rfl) rfl (Rg.nil (Rx.seq (Cd.cond rfl (fun c1 => ?_) (fun c1 => ?_))))))))))))))))))))))))))))))))
  · replace c1 := bnot_t c1
    replace c1 := of_decide_eq_false c1
    refine Cd.seq (Cd.region (Rg.val (Val.loadAll (l := 6) rfl rfl ag29 rfl) rfl (Rg.val (Val.move rfl) rfl (Rg.eff (Eff.storeAll (l := 5) sz29 rfl rfl rfl rfl rfl rfl) rfl fun _ _ => (Rg.val (Val.assign rfl) rfl (Rg.nil (Rx.seq (Cd.ret (Rx.pastR (Rx.retR rfl (RO.cell 5 rfl rfl ag29 rfl (RO.tmp rfl (RO.nil))) fun w hm_ => (⟨by rw [show blownF x y z sx sy ax ay wx wy h m = ((0, 0), (footF x y z sx sy ax ay).2) from by unfold blownF; rw [if_neg c1]; exact foot_err c1]; rw [foot_err c1]; rfl, hm_.below⟩)))))))))))
  · replace c1 := bnot_f c1
    replace c1 := of_decide_eq_true c1
    refine Cd.skip (Rx.seq (Cd.seq (Cd.seq (Cd.region (Rg.val (Val.fa rfl (fa46_0 _ _)) rfl (Rg.val (Val.load (l := 4) rfl rfl sc2 rfl) rfl (Rg.eff (Eff.give rfl rfl en48 rfl (fun w hm => between_gives _ _ _ w)) rfl fun _ _ => (Rg.val (Val.not rfl) rfl (Rg.val (Val.move rfl) rfl (Rg.split 31 rfl (fun c2 => ?_) (fun c2 => ?_)))))))))))
    · replace c2 := bnot_t c2
      refine Rg.off rfl rfl rfl rfl (Rg.off rfl rfl rfl rfl (Rg.off rfl rfl rfl rfl (Rg.off rfl rfl rfl rfl (Rg.val (Val.pickT rfl rfl) rfl (Rg.val (Val.move rfl) rfl (Rg.off rfl rfl rfl rfl (Rg.off rfl rfl rfl rfl (Rg.off rfl rfl rfl rfl (Rg.val (Val.pickT rfl rfl) rfl (Rg.val (Val.move rfl) rfl (Rg.off rfl rfl rfl rfl (Rg.off rfl rfl rfl rfl (Rg.off rfl rfl rfl rfl (Rg.val (Val.pickT rfl rfl) rfl (Rg.nil (Rx.seq (Cd.yes rfl (Cd.seq (Cd.region (Rg.val (Val.build rfl (bld_0)) rfl (Rg.eff (Eff.storeAll (l := 5) sz29 rfl rfl rfl rfl rfl rfl) rfl fun _ _ => (Rg.val (Val.assign rfl) rfl (Rg.nil (Rx.seq (Cd.ret (Rx.pastR (Rx.retR rfl (RO.cell 5 rfl rfl ag29 rfl (RO.tmp rfl (RO.nil))) fun w hm_ => (⟨by rw [show blownF x y z sx sy ax ay wx wy h m = ((0, 0), 3) from by simp [blownF, *]]; rfl, hm_.below⟩))))))))))))))))))))))))))))
    · replace c2 := bnot_f c2
      have hwx := between_iff.1 c2
      refine Rg.on rfl rfl rfl (Rg.val (Val.fa rfl (fa46_1 _ _)) rfl (Rg.on rfl rfl rfl (Rg.val (Val.load (l := 4) rfl rfl sc2 rfl) rfl (Rg.on rfl rfl rfl (Rg.eff (Eff.give rfl rfl en48 rfl (fun w hm => between_gives _ _ _ w)) rfl fun _ _ => (Rg.on rfl rfl rfl (Rg.val (Val.not rfl) rfl (Rg.val (Val.pickF rfl rfl) rfl (Rg.val (Val.move rfl) rfl (Rg.split 37 rfl (fun c3 => ?_) (fun c3 => ?_)))))))))))
      · replace c3 := bnot_t c3
        refine Rg.off rfl rfl rfl rfl (Rg.off rfl rfl rfl rfl (Rg.off rfl rfl rfl rfl (Rg.val (Val.pickT rfl rfl) rfl (Rg.val (Val.move rfl) rfl (Rg.off rfl rfl rfl rfl (Rg.off rfl rfl rfl rfl (Rg.off rfl rfl rfl rfl (Rg.val (Val.pickT rfl rfl) rfl (Rg.nil (Rx.seq (Cd.yes rfl (Cd.seq (Cd.region (Rg.val (Val.build rfl (bld_0)) rfl (Rg.eff (Eff.storeAll (l := 5) sz29 rfl rfl rfl rfl rfl rfl) rfl fun _ _ => (Rg.val (Val.assign rfl) rfl (Rg.nil (Rx.seq (Cd.ret (Rx.pastR (Rx.retR rfl (RO.cell 5 rfl rfl ag29 rfl (RO.tmp rfl (RO.nil))) fun w hm_ => (⟨by rw [show blownF x y z sx sy ax ay wx wy h m = ((0, 0), 3) from by simp [blownF, *]]; rfl, hm_.below⟩))))))))))))))))))))))
      · replace c3 := bnot_f c3
        have hwy := between_iff.1 c3
        refine Rg.on rfl rfl rfl (Rg.val (Val.move rfl) rfl (Rg.on rfl rfl rfl (Rg.eff (Eff.give rfl rfl en48 rfl (fun w hm => between_gives _ _ _ w)) rfl fun _ _ => (Rg.on rfl rfl rfl (Rg.val (Val.not rfl) rfl (Rg.val (Val.pickF rfl rfl) rfl (Rg.val (Val.move rfl) rfl (Rg.split 42 rfl (fun c4 => ?_) (fun c4 => ?_)))))))))
        · replace c4 := bnot_t c4
          refine Rg.off rfl rfl rfl rfl (Rg.off rfl rfl rfl rfl (Rg.off rfl rfl rfl rfl (Rg.val (Val.pickT rfl rfl) rfl (Rg.nil (Rx.seq (Cd.yes rfl (Cd.seq (Cd.region (Rg.val (Val.build rfl (bld_0)) rfl (Rg.eff (Eff.storeAll (l := 5) sz29 rfl rfl rfl rfl rfl rfl) rfl fun _ _ => (Rg.val (Val.assign rfl) rfl (Rg.nil (Rx.seq (Cd.ret (Rx.pastR (Rx.retR rfl (RO.cell 5 rfl rfl ag29 rfl (RO.tmp rfl (RO.nil))) fun w hm_ => (⟨by rw [show blownF x y z sx sy ax ay wx wy h m = ((0, 0), 3) from by simp [blownF, *]]; rfl, hm_.below⟩)))))))))))))))))
        · replace c4 := bnot_f c4
          have hhh := between_iff.1 c4
          refine Rg.on rfl rfl rfl (Rg.val (Val.move rfl) rfl (Rg.on rfl rfl rfl (Rg.eff (Eff.give rfl rfl en49 rfl (fun w hm => validMass_gives _ w)) rfl fun _ _ => (Rg.on rfl rfl rfl (Rg.val (Val.not rfl) rfl (Rg.val (Val.pickF rfl rfl) rfl (Rg.nil (Rx.seq (Cd.cond rfl (fun c5 => ?_) (fun c5 => ?_))))))))))
          · replace c5 := bnot_t c5
            refine Cd.seq (Cd.region (Rg.val (Val.build rfl (bld_0)) rfl (Rg.eff (Eff.storeAll (l := 5) sz29 rfl rfl rfl rfl rfl rfl) rfl fun _ _ => (Rg.val (Val.assign rfl) rfl (Rg.nil (Rx.seq (Cd.ret (Rx.pastR (Rx.retR rfl (RO.cell 5 rfl rfl ag29 rfl (RO.tmp rfl (RO.nil))) fun w hm_ => (⟨by rw [show blownF x y z sx sy ax ay wx wy h m = ((0, 0), 3) from by simp [blownF, *]]; rfl, hm_.below⟩))))))))))
          · replace c5 := bnot_f c5
            have hmm := between_iff.1 c5
            have hkx := mul_abs (a := wx) (b := h) (A := 1048576) (B := 131072) (by omega) (by omega)
            have hlx := near_bd (n := wx * h) (d := m) (K := 137438953472) (by omega) (by omega) (by decide)
            have hky := mul_abs (a := wy) (b := h) (A := 1048576) (B := 131072) (by omega) (by omega)
            have hly := near_bd (n := wy * h) (d := m) (K := 137438953472) (by omega) (by omega) (by decide)
            refine Cd.skip (Rx.seq (Cd.seq (Cd.draw [(1, blk b1 [.int .i64 x, .int .i64 y, .int .i64 z] 30), (2, blk b2 [.int .i64 sx, .int .i64 sy] 46), (3, blk b3 [.int .i64 ax, .int .i64 ay] 46), (4, blk b4 [.int .i64 wx, .int .i64 wy] 46), (6, blk b6 [.int .i64 ((footF x y z sx sy ax ay).1.1), .int .i64 ((footF x y z sx sy ax ay).1.2)] 29)] mixed rfl (Dr.take 0 rfl (by kernel_rfl) (Val.fa rfl (fa29_0 _ _)) rfl ⟨rfl, rfl, rfl, rfl, rfl, trivial⟩ (Dr.take 1 rfl (by kernel_rfl) (Val.load (l := 6) rfl rfl sc2 rfl) rfl ⟨rfl, rfl, rfl, rfl, rfl, trivial⟩ (Dr.take 2 rfl (by kernel_rfl) (Val.fa rfl (fa46_0 _ _)) rfl ⟨rfl, rfl, rfl, rfl, rfl, trivial⟩ (Dr.take 3 rfl (by kernel_rfl) (Val.load (l := 4) rfl rfl sc2 rfl) rfl ⟨rfl, rfl, rfl, rfl, rfl, trivial⟩ (Dr.take 4 rfl (by kernel_rfl) (Val.move rfl) rfl ⟨rfl, rfl, rfl, rfl, rfl, trivial⟩ (Dr.take 5 rfl (by kernel_rfl) (Val.mulN rfl rfl (by unfold in64; omega)) rfl ⟨rfl, rfl, rfl, rfl, rfl, trivial⟩ (Dr.take 6 rfl (by kernel_rfl) (Val.move rfl) rfl ⟨rfl, rfl, rfl, rfl, rfl, trivial⟩ (Dr.take 9 rfl (by kernel_rfl) (Val.fa rfl (fa29_1 _ _)) rfl ⟨rfl, rfl, rfl, rfl, rfl, trivial⟩ (Dr.take 10 rfl (by kernel_rfl) (Val.load (l := 6) rfl rfl sc2 rfl) rfl ⟨rfl, rfl, rfl, rfl, rfl, trivial⟩ (Dr.take 11 rfl (by kernel_rfl) (Val.fa rfl (fa46_1 _ _)) rfl ⟨rfl, rfl, rfl, rfl, rfl, trivial⟩ (Dr.take 12 rfl (by kernel_rfl) (Val.load (l := 4) rfl rfl sc2 rfl) rfl ⟨rfl, rfl, rfl, rfl, rfl, trivial⟩ (Dr.take 13 rfl (by kernel_rfl) (Val.move rfl) rfl ⟨rfl, rfl, rfl, rfl, rfl, trivial⟩ (Dr.take 14 rfl (by kernel_rfl) (Val.mulN rfl rfl (by unfold in64; omega)) rfl ⟨rfl, rfl, rfl, rfl, rfl, trivial⟩ (Dr.take 15 rfl (by kernel_rfl) (Val.move rfl) rfl ⟨rfl, rfl, rfl, rfl, rfl, trivial⟩ (Dr.one 7 (by kernel_rfl) rfl (Eff.give rfl rfl en65 rfl (fun w hm => near_gives _ _ w (by omega) (by omega))) rfl (fun _ _ => ⟨rfl, rfl, rfl, rfl, rfl, trivial⟩) fun _ _ => (Dr.take 8 rfl (by kernel_rfl) (Val.addN rfl rfl (by unfold in64; omega)) rfl ⟨rfl, rfl, rfl, rfl, rfl, trivial⟩ (Dr.one 16 (by kernel_rfl) rfl (Eff.give rfl rfl en65 rfl (fun w hm => near_gives _ _ w (by omega) (by omega))) rfl (fun _ _ => ⟨rfl, rfl, rfl, rfl, rfl, trivial⟩) fun _ _ => (Dr.take 17 rfl (by kernel_rfl) (Val.addN rfl rfl (by unfold in64; omega)) rfl ⟨rfl, rfl, rfl, rfl, rfl, trivial⟩ (Dr.take 18 rfl (by kernel_rfl) (Val.build rfl (bld_1 _ _)) rfl ⟨rfl, rfl, rfl, rfl, rfl, trivial⟩ (Dr.one 19 (by kernel_rfl) rfl (Eff.storeAll (l := 5) sz29 rfl rfl rfl rfl rfl rfl) rfl (fun _ _ => ⟨rfl, rfl, rfl, rfl, rfl, trivial⟩) fun _ _ => (Dr.take 20 rfl (by kernel_rfl) (Val.assign rfl) rfl ⟨rfl, rfl, rfl, rfl, rfl, trivial⟩ (Dr.done (by kernel_rfl) (Rx.seq (Cd.ret (Rx.retR rfl (RO.cell 5 rfl rfl ag29 rfl (RO.tmp rfl (RO.nil))) fun w hm_ => (⟨by rw [show blownF x y z sx sy ax ay wx wy h m = ((((footF x y z sx sy ax ay).1.1) + (nearF (wx * h) m), ((footF x y z sx sy ax ay).1.2) + (nearF (wy * h) m)), 0) from by simp [blownF, *]]; rfl, hm_.below⟩)))))))))))))))))))))))))))))

theorem refBlown_gives.bld_0  (w : World) : (Instr.build 29 #[]).run Try.prog w = .ok (.agg #[.int .i64 0, .int .i64 0]) w := by kernel_rfl
theorem refBlown_gives.bld_1 (y0 : Int) (y1 : Int) (w : World) : (Instr.build 29 #[(0, .int .i64 y0), (1, .int .i64 y1)]).run Try.prog w = .ok (.agg #[.int .i64 y0, .int .i64 y1]) w := by kernel_rfl
open refBlown_gives in
theorem refBlown_gives (x y z sx sy ax ay wx wy h m : Int) (w : World) : Gives Try.prog 31 #[.agg #[.int .i64 x, .int .i64 y, .int .i64 z], .agg #[.int .i64 sx, .int .i64 sy], .agg #[.int .i64 ax, .int .i64 ay], .agg #[.int .i64 wx, .int .i64 wy], .int .i64 h, .int .i64 m] w (.tuple #[.agg #[.int .i64 ((blownF x y z sx sy ax ay wx wy h m).1.1), .int .i64 ((blownF x y z sx sy ax ay wx wy h m).1.2)], .int .i64 ((blownF x y z sx sy ax ay wx wy h m).2)]) := by
  have hfb := foot_bd (x := x) (y := y) (z := z) (sx := sx) (sy := sy) (ax := ax) (ay := ay)
  refine calls_of (vs := [.agg #[.int .i64 x, .int .i64 y, .int .i64 z], .agg #[.int .i64 sx, .int .i64 sy], .agg #[.int .i64 ax, .int .i64 ay], .agg #[.int .i64 wx, .int .i64 wy], .int .i64 h, .int .i64 m]) Try.func31 rfl rfl rfl ?_
  show Cd _ _ _ _ _ [(0, .agg #[.int .i64 x, .int .i64 y, .int .i64 z]), (1, .agg #[.int .i64 sx, .int .i64 sy]), (2, .agg #[.int .i64 ax, .int .i64 ay]), (3, .agg #[.int .i64 wx, .int .i64 wy]), (4, .int .i64 h), (5, .int .i64 m)] []
  refine Cd.seq (Cd.region (Rg.eff (Eff.box 1 rfl rfl) rfl fun b1 _ => (Rg.eff (Eff.box 2 rfl rfl) rfl fun b2 _ => (Rg.eff (Eff.box 3 rfl rfl) rfl fun b3 _ => (Rg.eff (Eff.box 4 rfl rfl) rfl fun b4 _ => (Rg.eff (Eff.alloc 5 zv29 rfl) rfl fun b5 _ => (Rg.val (Val.assign rfl) rfl (Rg.nil (Rx.seq (Cd.seq (Cd.region (Rg.val (Val.loadAll (l := 1) rfl rfl ag30 rfl) rfl (Rg.val (Val.loadAll (l := 2) rfl rfl ag46 rfl) rfl (Rg.val (Val.loadAll (l := 3) rfl rfl ag46 rfl) rfl (Rg.eff (Eff.give rfl rfl en29 rfl (fun w hm => refFoot_gives _ _ _ _ _ _ _ w)) rfl fun _ _ => (Rg.val (Val.move rfl) rfl (Rg.val (Val.extract rfl rfl) rfl (Rg.val (Val.extract rfl rfl) rfl (Rg.eff (Eff.alloc 6 zv29 rfl) rfl fun b6 _ => (Rg.eff (Eff.storeAll (l := 6) sz29 rfl rfl rfl rfl rfl rfl) rfl fun _ _ => (Rg.val (Val.assign rfl) rfl (Rg.nil (Rx.seq (Cd.seq (Cd.seq (Cd.region (Rg.val (Val.move rfl) rfl (Rg.val (Val.neq rfl rfl) rfl (Rg.nil (Rx.seq (Cd.cond rfl (fun c1 => ?_) (fun c1 => ?_))))))))))))))))))))))))))))))))
  · replace c1 := bnot_t c1
    replace c1 := of_decide_eq_false c1
    refine Cd.seq (Cd.region (Rg.val (Val.build rfl (bld_0)) rfl (Rg.val (Val.move rfl) rfl (Rg.eff (Eff.storeAll (l := 5) sz29 rfl rfl rfl rfl rfl rfl) rfl fun _ _ => (Rg.val (Val.assign rfl) rfl (Rg.nil (Rx.seq (Cd.ret (Rx.pastR (Rx.retR rfl (RO.cell 5 rfl rfl ag29 rfl (RO.tmp rfl (RO.nil))) fun w hm_ => (⟨by rw [show blownF x y z sx sy ax ay wx wy h m = ((0, 0), (footF x y z sx sy ax ay).2) from by unfold blownF; rw [if_neg c1]; exact foot_err c1]; rfl, hm_.below⟩)))))))))))
  · replace c1 := bnot_f c1
    replace c1 := of_decide_eq_true c1
    refine Cd.skip (Rx.seq (Cd.seq (Cd.seq (Cd.region (Rg.val (Val.fa rfl (fa46_0 _ _)) rfl (Rg.val (Val.load (l := 4) rfl rfl sc2 rfl) rfl (Rg.eff (Eff.give rfl rfl en69 rfl (fun w hm => within_gives _ _ _ w)) rfl fun _ _ => (Rg.val (Val.not rfl) rfl (Rg.val (Val.move rfl) rfl (Rg.split 31 rfl (fun c2 => ?_) (fun c2 => ?_)))))))))))
    · replace c2 := bnot_t c2
      refine Rg.off rfl rfl rfl rfl (Rg.off rfl rfl rfl rfl (Rg.off rfl rfl rfl rfl (Rg.off rfl rfl rfl rfl (Rg.val (Val.pickT rfl rfl) rfl (Rg.val (Val.move rfl) rfl (Rg.off rfl rfl rfl rfl (Rg.off rfl rfl rfl rfl (Rg.off rfl rfl rfl rfl (Rg.val (Val.pickT rfl rfl) rfl (Rg.val (Val.move rfl) rfl (Rg.off rfl rfl rfl rfl (Rg.off rfl rfl rfl rfl (Rg.off rfl rfl rfl rfl (Rg.val (Val.pickT rfl rfl) rfl (Rg.nil (Rx.seq (Cd.yes rfl (Cd.seq (Cd.region (Rg.val (Val.build rfl (bld_0)) rfl (Rg.eff (Eff.storeAll (l := 5) sz29 rfl rfl rfl rfl rfl rfl) rfl fun _ _ => (Rg.val (Val.assign rfl) rfl (Rg.nil (Rx.seq (Cd.ret (Rx.pastR (Rx.retR rfl (RO.cell 5 rfl rfl ag29 rfl (RO.tmp rfl (RO.nil))) fun w hm_ => (⟨by rw [show blownF x y z sx sy ax ay wx wy h m = ((0, 0), 3) from by simp [blownF, *]]; rfl, hm_.below⟩))))))))))))))))))))))))))))
    · replace c2 := bnot_f c2
      have hwx := between_iff.1 c2
      refine Rg.on rfl rfl rfl (Rg.val (Val.fa rfl (fa46_1 _ _)) rfl (Rg.on rfl rfl rfl (Rg.val (Val.load (l := 4) rfl rfl sc2 rfl) rfl (Rg.on rfl rfl rfl (Rg.eff (Eff.give rfl rfl en69 rfl (fun w hm => within_gives _ _ _ w)) rfl fun _ _ => (Rg.on rfl rfl rfl (Rg.val (Val.not rfl) rfl (Rg.val (Val.pickF rfl rfl) rfl (Rg.val (Val.move rfl) rfl (Rg.split 37 rfl (fun c3 => ?_) (fun c3 => ?_)))))))))))
      · replace c3 := bnot_t c3
        refine Rg.off rfl rfl rfl rfl (Rg.off rfl rfl rfl rfl (Rg.off rfl rfl rfl rfl (Rg.val (Val.pickT rfl rfl) rfl (Rg.val (Val.move rfl) rfl (Rg.off rfl rfl rfl rfl (Rg.off rfl rfl rfl rfl (Rg.off rfl rfl rfl rfl (Rg.val (Val.pickT rfl rfl) rfl (Rg.nil (Rx.seq (Cd.yes rfl (Cd.seq (Cd.region (Rg.val (Val.build rfl (bld_0)) rfl (Rg.eff (Eff.storeAll (l := 5) sz29 rfl rfl rfl rfl rfl rfl) rfl fun _ _ => (Rg.val (Val.assign rfl) rfl (Rg.nil (Rx.seq (Cd.ret (Rx.pastR (Rx.retR rfl (RO.cell 5 rfl rfl ag29 rfl (RO.tmp rfl (RO.nil))) fun w hm_ => (⟨by rw [show blownF x y z sx sy ax ay wx wy h m = ((0, 0), 3) from by simp [blownF, *]]; rfl, hm_.below⟩))))))))))))))))))))))
      · replace c3 := bnot_f c3
        have hwy := between_iff.1 c3
        refine Rg.on rfl rfl rfl (Rg.val (Val.move rfl) rfl (Rg.on rfl rfl rfl (Rg.eff (Eff.give rfl rfl en69 rfl (fun w hm => within_gives _ _ _ w)) rfl fun _ _ => (Rg.on rfl rfl rfl (Rg.val (Val.not rfl) rfl (Rg.val (Val.pickF rfl rfl) rfl (Rg.val (Val.move rfl) rfl (Rg.split 42 rfl (fun c4 => ?_) (fun c4 => ?_)))))))))
        · replace c4 := bnot_t c4
          refine Rg.off rfl rfl rfl rfl (Rg.off rfl rfl rfl rfl (Rg.off rfl rfl rfl rfl (Rg.val (Val.pickT rfl rfl) rfl (Rg.nil (Rx.seq (Cd.yes rfl (Cd.seq (Cd.region (Rg.val (Val.build rfl (bld_0)) rfl (Rg.eff (Eff.storeAll (l := 5) sz29 rfl rfl rfl rfl rfl rfl) rfl fun _ _ => (Rg.val (Val.assign rfl) rfl (Rg.nil (Rx.seq (Cd.ret (Rx.pastR (Rx.retR rfl (RO.cell 5 rfl rfl ag29 rfl (RO.tmp rfl (RO.nil))) fun w hm_ => (⟨by rw [show blownF x y z sx sy ax ay wx wy h m = ((0, 0), 3) from by simp [blownF, *]]; rfl, hm_.below⟩)))))))))))))))))
        · replace c4 := bnot_f c4
          have hhh := between_iff.1 c4
          refine Rg.on rfl rfl rfl (Rg.val (Val.move rfl) rfl (Rg.on rfl rfl rfl (Rg.eff (Eff.give rfl rfl en70 rfl (fun w hm => refmass_gives _ w)) rfl fun _ _ => (Rg.on rfl rfl rfl (Rg.val (Val.neq rfl rfl) rfl (Rg.val (Val.pickF rfl rfl) rfl (Rg.nil (Rx.seq (Cd.cond rfl (fun c5 => ?_) (fun c5 => ?_))))))))))
          · replace c5 := bnot_t c5
            replace c5 := of_decide_eq_false c5
            have zc5 : (between m 1 16777216) = false := by cases hz_ : (between m 1 16777216) <;> simp [errR, hz_] at c5 ⊢
            refine Cd.seq (Cd.region (Rg.val (Val.build rfl (bld_0)) rfl (Rg.eff (Eff.storeAll (l := 5) sz29 rfl rfl rfl rfl rfl rfl) rfl fun _ _ => (Rg.val (Val.assign rfl) rfl (Rg.nil (Rx.seq (Cd.ret (Rx.pastR (Rx.retR rfl (RO.cell 5 rfl rfl ag29 rfl (RO.tmp rfl (RO.nil))) fun w hm_ => (⟨by rw [show blownF x y z sx sy ax ay wx wy h m = ((0, 0), 3) from by simp [blownF, *]]; rfl, hm_.below⟩))))))))))
          · replace c5 := bnot_f c5
            replace c5 := of_decide_eq_true c5
            have zc5 : (between m 1 16777216) = true := by cases hz_ : (between m 1 16777216) <;> simp [errR, hz_] at c5 ⊢
            have hmm := between_iff.1 zc5
            have hkx := mul_abs (a := wx) (b := h) (A := 1048576) (B := 131072) (by omega) (by omega)
            have hlx := near_bd (n := wx * h) (d := m) (K := 137438953472) (by omega) (by omega) (by decide)
            have hky := mul_abs (a := wy) (b := h) (A := 1048576) (B := 131072) (by omega) (by omega)
            have hly := near_bd (n := wy * h) (d := m) (K := 137438953472) (by omega) (by omega) (by decide)
            refine Cd.skip (Rx.seq (Cd.seq (Cd.draw [(1, blk b1 [.int .i64 x, .int .i64 y, .int .i64 z] 30), (2, blk b2 [.int .i64 sx, .int .i64 sy] 46), (3, blk b3 [.int .i64 ax, .int .i64 ay] 46), (4, blk b4 [.int .i64 wx, .int .i64 wy] 46), (6, blk b6 [.int .i64 ((footF x y z sx sy ax ay).1.1), .int .i64 ((footF x y z sx sy ax ay).1.2)] 29)] mixed rfl (Dr.take 0 rfl (by kernel_rfl) (Val.fa rfl (fa29_0 _ _)) rfl ⟨rfl, rfl, rfl, rfl, rfl, trivial⟩ (Dr.take 1 rfl (by kernel_rfl) (Val.load (l := 6) rfl rfl sc2 rfl) rfl ⟨rfl, rfl, rfl, rfl, rfl, trivial⟩ (Dr.take 2 rfl (by kernel_rfl) (Val.fa rfl (fa46_0 _ _)) rfl ⟨rfl, rfl, rfl, rfl, rfl, trivial⟩ (Dr.take 3 rfl (by kernel_rfl) (Val.load (l := 4) rfl rfl sc2 rfl) rfl ⟨rfl, rfl, rfl, rfl, rfl, trivial⟩ (Dr.take 4 rfl (by kernel_rfl) (Val.move rfl) rfl ⟨rfl, rfl, rfl, rfl, rfl, trivial⟩ (Dr.take 5 rfl (by kernel_rfl) (Val.mulN rfl rfl (by unfold in64; omega)) rfl ⟨rfl, rfl, rfl, rfl, rfl, trivial⟩ (Dr.take 6 rfl (by kernel_rfl) (Val.move rfl) rfl ⟨rfl, rfl, rfl, rfl, rfl, trivial⟩ (Dr.take 9 rfl (by kernel_rfl) (Val.fa rfl (fa29_1 _ _)) rfl ⟨rfl, rfl, rfl, rfl, rfl, trivial⟩ (Dr.take 10 rfl (by kernel_rfl) (Val.load (l := 6) rfl rfl sc2 rfl) rfl ⟨rfl, rfl, rfl, rfl, rfl, trivial⟩ (Dr.take 11 rfl (by kernel_rfl) (Val.fa rfl (fa46_1 _ _)) rfl ⟨rfl, rfl, rfl, rfl, rfl, trivial⟩ (Dr.take 12 rfl (by kernel_rfl) (Val.load (l := 4) rfl rfl sc2 rfl) rfl ⟨rfl, rfl, rfl, rfl, rfl, trivial⟩ (Dr.take 13 rfl (by kernel_rfl) (Val.move rfl) rfl ⟨rfl, rfl, rfl, rfl, rfl, trivial⟩ (Dr.take 14 rfl (by kernel_rfl) (Val.mulN rfl rfl (by unfold in64; omega)) rfl ⟨rfl, rfl, rfl, rfl, rfl, trivial⟩ (Dr.take 15 rfl (by kernel_rfl) (Val.move rfl) rfl ⟨rfl, rfl, rfl, rfl, rfl, trivial⟩ (Dr.one 7 (by kernel_rfl) rfl (Eff.give rfl rfl en68 rfl (fun w hm => refnear_gives _ _ w (by omega) (by omega))) rfl (fun _ _ => ⟨rfl, rfl, rfl, rfl, rfl, trivial⟩) fun _ _ => (Dr.take 8 rfl (by kernel_rfl) (Val.addN rfl rfl (by unfold in64; omega)) rfl ⟨rfl, rfl, rfl, rfl, rfl, trivial⟩ (Dr.one 16 (by kernel_rfl) rfl (Eff.give rfl rfl en68 rfl (fun w hm => refnear_gives _ _ w (by omega) (by omega))) rfl (fun _ _ => ⟨rfl, rfl, rfl, rfl, rfl, trivial⟩) fun _ _ => (Dr.take 17 rfl (by kernel_rfl) (Val.addN rfl rfl (by unfold in64; omega)) rfl ⟨rfl, rfl, rfl, rfl, rfl, trivial⟩ (Dr.take 18 rfl (by kernel_rfl) (Val.build rfl (bld_1 _ _)) rfl ⟨rfl, rfl, rfl, rfl, rfl, trivial⟩ (Dr.one 19 (by kernel_rfl) rfl (Eff.storeAll (l := 5) sz29 rfl rfl rfl rfl rfl rfl) rfl (fun _ _ => ⟨rfl, rfl, rfl, rfl, rfl, trivial⟩) fun _ _ => (Dr.take 20 rfl (by kernel_rfl) (Val.assign rfl) rfl ⟨rfl, rfl, rfl, rfl, rfl, trivial⟩ (Dr.done (by kernel_rfl) (Rx.seq (Cd.ret (Rx.retR rfl (RO.cell 5 rfl rfl ag29 rfl (RO.tmp rfl (RO.nil))) fun w hm_ => (⟨by rw [show blownF x y z sx sy ax ay wx wy h m = ((((footF x y z sx sy ax ay).1.1) + (nearF (wx * h) m), ((footF x y z sx sy ax ay).1.2) + (nearF (wy * h) m)), 0) from by simp [blownF, *]]; rfl, hm_.below⟩)))))))))))))))))))))))))))))

end Go.Proofs.Ytfekoippjmojgaa
