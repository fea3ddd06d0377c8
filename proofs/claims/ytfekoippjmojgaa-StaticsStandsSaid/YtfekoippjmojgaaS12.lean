/- Walks of functions of the program: what each returns, told by plain functions; nothing that lay there is turned. -/
import Derived.Test.YtfekoippjmojgaaS11
namespace Go.Proofs.Ytfekoippjmojgaa
open Go.Kx Go.RowKit
set_option maxRecDepth 100000
set_option linter.unusedVariables false
set_option linter.unusedSimpArgs false
set_option linter.constructorNameAsVariable false
def footN (x y z wx wy n : Int) : (Int × Int) × Int := footF x y z (n * wx) (n * wy) 0 0
/-- The platform tips, or the slope is too great, at n. -/
def badN (m : M9) (x y z wx wy n : Int) : Bool := !decide ((footN x y z wx wy n).2 = 0) || decide (0 ≤ tipQ m (footN x y z wx wy n).1.1 (footN x y z wx wy n).1.2)
def tiltN (bad : Nat → Bool) : Nat → Nat → Nat
  | 0, n => n
  | k + 1, n => if bad (n + 1) then n else tiltN bad k (n + 1)
theorem tiltN_at {bad : Nat → Bool} : ∀ (k n m : Nat), n ≤ m → m ≤ n + k → (∀ j, n ≤ j → j < m → bad (j + 1) = false) → (m < n + k → bad (m + 1) = true) → tiltN bad k n = m
  | 0, n, m, h1, h2, _, _ => by simp only [tiltN]; omega
  | k + 1, n, m, h1, h2, h3, h4 => by
    simp only [tiltN]
    by_cases e : n = m
    · subst e
      rw [if_pos (h4 (by omega))]
    · rw [if_neg (by rw [h3 n (by omega) (by omega)]; decide)]
      exact tiltN_at k (n + 1) m (by omega) (by omega) (fun j a b => h3 j (by omega) b) (fun h => h4 (by omega))
def TiltF (xs : List Sup) (x y z wx wy : Int) : Int × Int :=
  if deckErr xs = 0 then
    if centreOk x y z then
      if (between wx (-10) 10 && between wy (-10) 10) && !(decide (wx = 0) && decide (wy = 0)) then
        if 0 ≤ tipQ (sumsW xs) x y then (0, 19) else ((tiltN (fun n => badN (sumsW xs) x y z wx wy n) 1000 0 : Nat), 0)
      else (0, 2)
    else (0, 3)
  else (0, deckErr xs)
theorem foot_zero {x y z wx wy : Int} (h : centreOk x y z = true) : footN x y z wx wy 0 = ((x, y), 0) := by
  unfold footN footF
  simp [h, slopeOk, between, nearF]
theorem footN_bd {x y z wx wy n : Int} : ((-300000000 ≤ (footN x y z wx wy n).1.1 ∧ (footN x y z wx wy n).1.1 ≤ 300000000) ∧ (-300000000 ≤ (footN x y z wx wy n).1.2 ∧ (footN x y z wx wy n).1.2 ≤ 300000000)) := foot_bd
def NoBad (m : M9) (x y z wx wy : Int) (i : Nat) : Prop := ∀ j : Nat, j < i → badN m x y z wx wy ((j + 1 : Nat) : Int) = false
theorem NoBad.snoc {m : M9} {x y z wx wy : Int} {i : Nat} (h : NoBad m x y z wx wy i) (hb : badN m x y z wx wy ((i + 1 : Nat) : Int) = false) : NoBad m x y z wx wy (i + 1) := fun j hj => by
  by_cases e : j = i
  · subst e; exact hb
  · exact h j (by omega)
theorem less_bad {m : M9} {x y z wx wy : Int} {i : Nat} (h : ∀ j : Nat, j + 1 < i → badN m x y z wx wy ((j + 1 : Nat) : Int) = false) (hb : badN m x y z wx wy (i : Int) = false) : ∀ j : Nat, j + 1 < i + 1 → badN m x y z wx wy ((j + 1 : Nat) : Int) = false := fun j hj => by
  by_cases e : j + 1 = i
  · subst e; exact hb
  · exact h j (by omega)
theorem badN_no {m : M9} {x y z wx wy n : Int} (h1 : (footN x y z wx wy n).2 = 0) (h2 : ¬ 0 ≤ tipQ m (footN x y z wx wy n).1.1 (footN x y z wx wy n).1.2) : badN m x y z wx wy n = false := by simp [badN, h1, h2]
theorem badN_yes1 {m : M9} {x y z wx wy n : Int} (h1 : ¬ (footN x y z wx wy n).2 = 0) : badN m x y z wx wy n = true := by simp [badN, h1]
theorem badN_yes2 {m : M9} {x y z wx wy n : Int} (h2 : 0 ≤ tipQ m (footN x y z wx wy n).1.1 (footN x y z wx wy n).1.2) : badN m x y z wx wy n = true := by simp [badN, h2]
theorem tilt_is {xs : List Sup} {x y z wx wy : Int} {n : Nat} (h0 : deckErr xs = 0) (hc : centreOk x y z = true) (hw : ((between wx (-10) 10 && between wy (-10) 10) && !(decide (wx = 0) && decide (wy = 0))) = true) (ht : ¬ 0 ≤ tipQ (sumsW xs) x y) (hn : n ≤ 1000)
    (hno : NoBad (sumsW xs) x y z wx wy n) (hy : n < 1000 → badN (sumsW xs) x y z wx wy ((n + 1 : Nat) : Int) = true) : TiltF xs x y z wx wy = ((n : Int), 0) := by
  unfold TiltF
  rw [if_pos h0, if_pos hc, if_pos hw, if_neg ht, tiltN_at 1000 0 n (by omega) (by omega) (fun j _ h => hno j h) (fun h => hy (by omega))]
theorem tilt_tip {xs : List Sup} {x y z wx wy : Int} (h0 : deckErr xs = 0) (hc : centreOk x y z = true) (hw : ((between wx (-10) 10 && between wy (-10) 10) && !(decide (wx = 0) && decide (wy = 0))) = true) (ht : 0 ≤ tipQ (sumsW xs) x y) : TiltF xs x y z wx wy = (0, 19) := by
  unfold TiltF
  rw [if_pos h0, if_pos hc, if_pos hw, if_pos ht]
theorem FootN_gives (x y z wx wy n : Int) (w : World) : Gives Try.prog 28 #[.agg #[.int .i64 x, .int .i64 y, .int .i64 z], .agg #[.int .i64 (n * wx), .int .i64 (n * wy)], .agg #[.int .i64 0, .int .i64 0]] w (.tuple #[.agg #[.int .i64 (footN x y z wx wy n).1.1, .int .i64 (footN x y z wx wy n).1.2], .int .i64 (footN x y z wx wy n).2]) := Foot_gives x y z (n * wx) (n * wy) 0 0 w
theorem refFootN_gives (x y z wx wy n : Int) (w : World) : Gives Try.prog 29 #[.agg #[.int .i64 x, .int .i64 y, .int .i64 z], .agg #[.int .i64 (n * wx), .int .i64 (n * wy)], .agg #[.int .i64 0, .int .i64 0]] w (.tuple #[.agg #[.int .i64 (footN x y z wx wy n).1.1, .int .i64 (footN x y z wx wy n).1.2], .int .i64 (footN x y z wx wy n).2]) := refFoot_gives x y z (n * wx) (n * wy) 0 0 w
theorem plus1 (i : Nat) : (i : Int) + 1 = ((i + 1 : Nat) : Int) := by omega
theorem Tilt_gives.bld_0  (w : World) : (Instr.build 46 #[]).run Try.prog w = .ok (.agg #[.int .i64 0, .int .i64 0]) w := by kernel_rfl
theorem Tilt_gives.bld_1 (y0 : Int) (y1 : Int) (w : World) : (Instr.build 29 #[(0, .int .i64 y0), (1, .int .i64 y1)]).run Try.prog w = .ok (.agg #[.int .i64 y0, .int .i64 y1]) w := by kernel_rfl
theorem Tilt_gives.bld_2 (y0 : Int) (y1 : Int) (w : World) : (Instr.build 46 #[(0, .int .i64 y0), (1, .int .i64 y1)]).run Try.prog w = .ok (.agg #[.int .i64 y0, .int .i64 y1]) w := by kernel_rfl
open Tilt_gives in
theorem Tilt_gives (a : Option Addr) (cap : Nat) (xs : List Sup) (x y z wx wy : Int) (w : World) (hR : Rdb w a 6 encSup xs) : Gives Try.prog 32 #[.slice a xs.length cap, .agg #[.int .i64 x, .int .i64 y, .int .i64 z], .agg #[.int .i64 wx, .int .i64 wy]] w (.tuple #[.int .i64 ((TiltF xs x y z wx wy).1), .int .i64 ((TiltF xs x y z wx wy).2)]) := by
  refine calls_of (vs := [.slice a xs.length cap, .agg #[.int .i64 x, .int .i64 y, .int .i64 z], .agg #[.int .i64 wx, .int .i64 wy]]) Try.func32 rfl rfl rfl ?_
  show Cd _ _ _ _ _ [(0, .slice a xs.length cap), (1, .agg #[.int .i64 x, .int .i64 y, .int .i64 z]), (2, .agg #[.int .i64 wx, .int .i64 wy])] []
  refine Cd.seq (Cd.region (Rg.eff (Eff.box 1 rfl rfl) rfl fun b1 _ => (Rg.eff (Eff.box 2 rfl rfl) rfl fun b2 _ => (Rg.val (Val.assign rfl) rfl (Rg.val (Val.assign rfl) rfl (Rg.nil (Rx.seq (Cd.seq (Cd.region (Rg.val (Val.move rfl) rfl ?_))))))))))
  by_cases e1 : deckErr xs = 0
  · refine Rg.eff (Eff.call rfl rfl en51 rfl (fun w hm => deck_ok 3 hm e1 (newDeck_calls _ _ _ w (hm.rdb hR)))) rfl fun b3 _ => (Rg.val (Val.move rfl) rfl (Rg.val (Val.extract rfl rfl) rfl (Rg.val (Val.extract rfl rfl) rfl (Rg.val (Val.assign rfl) rfl (Rg.val (Val.assign rfl) rfl (Rg.nil (Rx.seq (Cd.seq (Cd.seq (Cd.region (Rg.val (Val.move rfl) rfl (Rg.val (Val.known (c := false) (Val.neq rfl rfl) (by decide)) rfl (Rg.nil (Rx.seq (Cd.no rfl (Cd.skip (Rx.seq (Cd.seq (Cd.block (Cd.seq (Cd.region (Rg.val (Val.loadAll (l := 1) rfl rfl ag30 rfl) rfl (Rg.eff (Eff.give rfl rfl en63 rfl (fun w hm => validCentre_gives _ _ _ w)) rfl fun _ _ => (Rg.val (Val.not rfl) rfl (Rg.val (Val.assign rfl) rfl (Rg.nil (Rx.seq (Cd.cond rfl (fun c2 => ?_) (fun c2 => ?_)))))))))))))))))))))))))))))
    · replace c2 := bnot_t c2
      have hcen := c2
      refine Cd.seq (Cd.region (Rg.val (Val.assign rfl) rfl (Rg.val (Val.assign rfl) rfl (Rg.nil (Rx.seq (Cd.ret (Rx.inr (Rx.pastR (Rx.ret2 rfl rfl rfl fun w hm_ => (⟨by simp [TiltF, *], hm_.below⟩))))))))))
    · replace c2 := bnot_f c2
      have hcen := c2
      obtain ⟨hcx, hcy, hcz⟩ := centreOk_b c2
      refine Cd.seq (Cd.region (Rg.val (Val.fa rfl (fa46_0 _ _)) rfl (Rg.val (Val.load (l := 2) rfl rfl sc2 rfl) rfl (Rg.eff (Eff.give rfl rfl en48 rfl (fun w hm => between_gives _ _ _ w)) rfl fun _ _ => (Rg.val (Val.not rfl) rfl (Rg.val (Val.move rfl) rfl (Rg.split 31 rfl (fun c3 => ?_) (fun c3 => ?_))))))))
      · replace c3 := bnot_t c3
        have hbx := c3
        refine Rg.off rfl rfl rfl rfl (Rg.off rfl rfl rfl rfl (Rg.off rfl rfl rfl rfl (Rg.off rfl rfl rfl rfl (Rg.val (Val.pickT rfl rfl) rfl (Rg.val (Val.move rfl) rfl (Rg.off rfl rfl rfl rfl (Rg.off rfl rfl rfl rfl (Rg.off rfl rfl rfl rfl (Rg.val (Val.pickT rfl rfl) rfl (Rg.val (Val.assign rfl) rfl (Rg.nil (Rx.seq (Cd.yes rfl (Cd.seq (Cd.region (Rg.val (Val.assign rfl) rfl (Rg.val (Val.assign rfl) rfl (Rg.nil (Rx.seq (Cd.ret (Rx.inr (Rx.pastR (Rx.ret2 rfl rfl rfl fun w hm_ => (⟨by simp [TiltF, *], hm_.below⟩))))))))))))))))))))))))
      · replace c3 := bnot_f c3
        have hbx := c3
        have kwx := between_iff.1 hbx
        refine Rg.on rfl rfl rfl (Rg.val (Val.fa rfl (fa46_1 _ _)) rfl (Rg.on rfl rfl rfl (Rg.val (Val.load (l := 2) rfl rfl sc2 rfl) rfl (Rg.on rfl rfl rfl (Rg.eff (Eff.give rfl rfl en48 rfl (fun w hm => between_gives _ _ _ w)) rfl fun _ _ => (Rg.on rfl rfl rfl (Rg.val (Val.not rfl) rfl (Rg.val (Val.pickF rfl rfl) rfl (Rg.val (Val.move rfl) rfl (Rg.split 37 rfl (fun c4 => ?_) (fun c4 => ?_)))))))))))
        · replace c4 := bnot_t c4
          have hby := c4
          refine Rg.off rfl rfl rfl rfl (Rg.off rfl rfl rfl rfl (Rg.off rfl rfl rfl rfl (Rg.val (Val.pickT rfl rfl) rfl (Rg.val (Val.assign rfl) rfl (Rg.nil (Rx.seq (Cd.yes rfl (Cd.seq (Cd.region (Rg.val (Val.assign rfl) rfl (Rg.val (Val.assign rfl) rfl (Rg.nil (Rx.seq (Cd.ret (Rx.inr (Rx.pastR (Rx.ret2 rfl rfl rfl fun w hm_ => (⟨by simp [TiltF, *], hm_.below⟩))))))))))))))))))
        · replace c4 := bnot_f c4
          have hby := c4
          have kwy := between_iff.1 hby
          refine Rg.on rfl rfl rfl (Rg.val (Val.loadAll (l := 2) rfl rfl ag46 rfl) rfl (Rg.on rfl rfl rfl (Rg.val (Val.build rfl (bld_0)) rfl (Rg.on rfl rfl rfl (Rg.val (Val.eqA rfl rfl (by kernel_rfl) (EqV.str (by kernel_rfl) rfl (by kernel_rfl) (EqF.cons rfl (a := .int .i64 wx) (b := .int .i64 0) (fun _ => by kernel_rfl) (fun _ => by kernel_rfl) (EqV.int Try.underlying2 _ _) (EqF.cons rfl (a := .int .i64 wy) (b := .int .i64 0) (fun _ => by kernel_rfl) (fun _ => by kernel_rfl) (EqV.int Try.underlying2 _ _) (EqF.nil))))) rfl (Rg.val (Val.pickF rfl rfl) rfl (Rg.val (Val.assign rfl) rfl (Rg.nil (Rx.seq (Cd.cond rfl (fun c5 => ?_) (fun c5 => ?_)))))))))))
          · have hwz : (decide (wx = 0) && decide (wy = 0)) = true := by simpa using c5
            refine Cd.seq (Cd.region (Rg.val (Val.assign rfl) rfl (Rg.val (Val.assign rfl) rfl (Rg.nil (Rx.seq (Cd.ret (Rx.inr (Rx.pastR (Rx.ret2 rfl rfl rfl fun w hm_ => (⟨by simp [TiltF, *], hm_.below⟩))))))))))
          · have hwz : (decide (wx = 0) && decide (wy = 0)) = false := by simpa using c5
            have hway : ((between wx (-10) 10 && between wy (-10) 10) && !(decide (wx = 0) && decide (wy = 0))) = true := by rw [hbx, hby, hwz]; rfl
            refine Cd.seq (Cd.region (Rg.val (Val.move rfl) rfl (Rg.val (Val.ia rfl rfl (ia30_0 _ _)) rfl (Rg.val (Val.load (l := 1) rfl rfl sc2 rfl) rfl (Rg.val (Val.ia rfl rfl (ia30_1 _ _)) rfl (Rg.val (Val.load (l := 1) rfl rfl sc2 rfl) rfl (Rg.val (Val.build rfl (bld_1 _ _)) rfl (Rg.eff (Eff.give rfl rfl en53 rfl (fun w hm => tipsG (good e1) (by omega) (by omega) (hm.reads (l := 3) rfl))) rfl fun _ _ => (Rg.val (Val.geq rfl rfl) rfl (Rg.val (Val.assign rfl) rfl (Rg.nil (Rx.seq (Cd.cond rfl (fun c6 => ?_) (fun c6 => ?_))))))))))))))
            · replace c6 := of_decide_eq_true c6
              have ht0 := c6
              refine Cd.seq (Cd.region (Rg.val (Val.assign rfl) rfl (Rg.val (Val.assign rfl) rfl (Rg.nil (Rx.seq (Cd.ret (Rx.inr (Rx.pastR (Rx.ret2 rfl rfl rfl fun w hm_ => (⟨by rw [tilt_tip e1 hcen hway ht0], hm_.below⟩))))))))))
            · replace c6 := of_decide_eq_false c6
              have ht0 := c6
              refine Cd.skip (Rx.inb (Rx.seq (Cd.seq (Cd.region (Rg.val (Val.assign rfl) rfl (Rg.nil (Rx.seq (Cd.seq (Cd.block ?_)))))))))
              refine Cd.loop (A := Nat) (fun i : Nat => i ≤ 1000 ∧ NoBad (sumsW xs) x y z wx wy i)
                  (fun i : Nat => [(4, .pointer (some ⟨b1, 0, none⟩)), (5, .pointer (some ⟨b2, 0, none⟩)), (6, .int .i64 0), (7, .int .i64 0), (8, .pointer (some ⟨b3, 0, none⟩)), (10, .int .i64 (i : Int))])
                  (fun i : Nat => [(1, blk b1 [.int .i64 x, .int .i64 y, .int .i64 z] 30), (2, blk b2 [.int .i64 wx, .int .i64 wy] 46), (3, blk b3 [.slice a xs.length cap, .int .i64 ((sumsW xs).r0.n), .int .i64 ((sumsW xs).r0.x), .int .i64 ((sumsW xs).r0.y), .int .i64 ((sumsW xs).r1.n), .int .i64 ((sumsW xs).r1.x), .int .i64 ((sumsW xs).r1.y), .int .i64 ((sumsW xs).r2.n), .int .i64 ((sumsW xs).r2.x), .int .i64 ((sumsW xs).r2.y), .int .i64 (wdet (sumsW xs))] 90)])
                  (fun i : Nat => 1000 - i) 0 ?_ ⟨rfl, rfl, rfl, rfl, rfl, rfl, trivial⟩ ⟨rfl, rfl, rfl, trivial⟩ ?_
              · exact ⟨by omega, fun j h => absurd h (by omega)⟩
              · rintro i ⟨hi, hno⟩
                show Cd _ _ _ _ _ [(4, .pointer (some ⟨b1, 0, none⟩)), (5, .pointer (some ⟨b2, 0, none⟩)), (6, .int .i64 0), (7, .int .i64 0), (8, .pointer (some ⟨b3, 0, none⟩)), (10, .int .i64 (i : Int))] [(1, blk b1 [.int .i64 x, .int .i64 y, .int .i64 z] 30), (2, blk b2 [.int .i64 wx, .int .i64 wy] 46), (3, blk b3 [.slice a xs.length cap, .int .i64 ((sumsW xs).r0.n), .int .i64 ((sumsW xs).r0.x), .int .i64 ((sumsW xs).r0.y), .int .i64 ((sumsW xs).r1.n), .int .i64 ((sumsW xs).r1.x), .int .i64 ((sumsW xs).r1.y), .int .i64 ((sumsW xs).r2.n), .int .i64 ((sumsW xs).r2.x), .int .i64 ((sumsW xs).r2.y), .int .i64 (wdet (sumsW xs))] 90)]
                refine Cd.seq (Cd.seq (Cd.region (Rg.val (Val.move rfl) rfl (Rg.val (Val.lss rfl rfl) rfl (Rg.nil (Rx.seq (Cd.cond rfl (fun c7 => ?_) (fun c7 => ?_))))))))
                · replace c7 := of_decide_eq_true c7
                  refine Cd.skip (Rx.seq (Cd.seq (Cd.block (Cd.seq (Cd.region (Rg.val (Val.move rfl) rfl (Rg.val (Val.as (Val.addN rfl rfl (by unfold in64; omega)) (congrArg (Value.int IntKind.i64) (plus1 i))) rfl (Rg.val (Val.fa rfl (fa46_0 _ _)) rfl (Rg.val (Val.load (l := 2) rfl rfl sc2 rfl) rfl (Rg.val (Val.mulN rfl rfl (by have := mul_abs (a := ((i + 1 : Nat) : Int)) (b := wx) (A := 1001) (B := 10) (by omega) (by omega); unfold in64; omega)) rfl (Rg.val (Val.move rfl) rfl (Rg.val (Val.as (Val.addN rfl rfl (by unfold in64; omega)) (congrArg (Value.int IntKind.i64) (plus1 i))) rfl (Rg.val (Val.fa rfl (fa46_1 _ _)) rfl (Rg.val (Val.load (l := 2) rfl rfl sc2 rfl) rfl (Rg.val (Val.mulN rfl rfl (by have := mul_abs (a := ((i + 1 : Nat) : Int)) (b := wy) (A := 1001) (B := 10) (by omega) (by omega); unfold in64; omega)) rfl (Rg.val (Val.build rfl (bld_2 _ _)) rfl (Rg.eff (Eff.alloc 4 zv46 rfl) rfl fun b4 _ => (Rg.eff (Eff.storeAll (l := 4) sz46 rfl rfl rfl rfl rfl rfl) rfl fun _ _ => (Rg.nil (Rx.seq (Cd.seq (Cd.region (Rg.val (Val.loadAll (l := 1) rfl rfl ag30 rfl) rfl (Rg.val (Val.loadAll (l := 4) rfl rfl ag46 rfl) rfl (Rg.val (Val.build rfl (bld_0)) rfl ?_)))))))))))))))))))))))))
                  have hfb := footN_bd (x := x) (y := y) (z := z) (wx := wx) (wy := wy) (n := ((i + 1 : Nat) : Int))
                  refine Rg.eff (Eff.give rfl rfl en28 rfl (fun w hm => FootN_gives x y z wx wy ((i + 1 : Nat) : Int) w)) rfl fun _ _ => (Rg.val (Val.move rfl) rfl (Rg.val (Val.extract rfl rfl) rfl (Rg.val (Val.extract rfl rfl) rfl (Rg.eff (Eff.alloc 5 zv29 rfl) rfl fun b5 _ => (Rg.eff (Eff.storeAll (l := 5) sz29 rfl rfl rfl rfl rfl rfl) rfl fun _ _ => (Rg.val (Val.assign rfl) rfl (Rg.nil (Rx.seq (Cd.seq (Cd.region (Rg.val (Val.move rfl) rfl (Rg.val (Val.neq rfl rfl) rfl (Rg.val (Val.move rfl) rfl (Rg.split 75 rfl (fun c8 => ?_) (fun c8 => ?_)))))))))))))))
                  · replace c8 := bnot_t c8
                    replace c8 := of_decide_eq_false c8
                    refine Rg.off rfl rfl rfl rfl (Rg.off rfl rfl rfl rfl (Rg.off rfl rfl rfl rfl (Rg.off rfl rfl rfl rfl (Rg.val (Val.pickT rfl rfl) rfl (Rg.nil (Rx.seq (Cd.yes rfl (Cd.exit (Rx.miss rfl (Rx.pastE (Rx.pastE (Rx.hit (Rx.seq (Cd.seq (Cd.region (Rg.val (Val.move rfl) rfl (Rg.val (Val.assign rfl) rfl (Rg.val (Val.assign rfl) rfl (Rg.nil (Rx.seq (Cd.ret (Rx.ret2 rfl rfl rfl fun w hm_ => (⟨by rw [tilt_is (n := i) e1 hcen hway ht0 (by omega) hno (fun _ => badN_yes1 (n := ((i + 1 : Nat) : Int)) c8)], hm_.below⟩)))))))))))))))))))))))
                  · replace c8 := bnot_f c8
                    replace c8 := of_decide_eq_true c8
                    refine Rg.on rfl rfl rfl (Rg.val (Val.move rfl) rfl (Rg.on rfl rfl rfl (Rg.val (Val.loadAll (l := 5) rfl rfl ag29 rfl) rfl (Rg.on rfl rfl rfl (Rg.eff (Eff.give rfl rfl en53 rfl (fun w hm => tipsG (good e1) (by omega) (by omega) (hm.reads (l := 3) rfl))) rfl fun _ _ => (Rg.on rfl rfl rfl (Rg.val (Val.geq rfl rfl) rfl (Rg.val (Val.pickF rfl rfl) rfl (Rg.nil (Rx.seq (Cd.cond rfl (fun c9 => ?_) (fun c9 => ?_))))))))))))
                    · replace c9 := of_decide_eq_true c9
                      refine Cd.exit (Rx.miss rfl (Rx.pastE (Rx.pastE (Rx.hit (Rx.seq (Cd.seq (Cd.region (Rg.val (Val.move rfl) rfl (Rg.val (Val.assign rfl) rfl (Rg.val (Val.assign rfl) rfl (Rg.nil (Rx.seq (Cd.ret (Rx.ret2 rfl rfl rfl fun w hm_ => (⟨by rw [tilt_is (n := i) e1 hcen hway ht0 (by omega) hno (fun _ => badN_yes2 (n := ((i + 1 : Nat) : Int)) c9)], hm_.below⟩)))))))))))))))
                    · replace c9 := of_decide_eq_false c9
                      refine Cd.skip (Rx.inb (Rx.seq (Cd.region (Rg.val (Val.move rfl) rfl (Rg.val (Val.as (Val.addN rfl rfl (by unfold in64; omega)) (congrArg (Value.int IntKind.i64) (plus1 i))) rfl (Rg.val (Val.assign rfl) rfl (Rg.nil ?_)))))))
                      refine Rx.meet (i + 1) ⟨⟨by omega, hno.snoc (badN_no (n := ((i + 1 : Nat) : Int)) c8 c9)⟩, show 1000 - (i + 1) < 1000 - i from by omega⟩ ⟨rfl, rfl, rfl, rfl, rfl, rfl, trivial⟩ ⟨rfl, rfl, rfl, trivial⟩
                · replace c7 := of_decide_eq_false c7
                  refine Cd.exit (Rx.pastE (Rx.pastE (Rx.hit (Rx.seq (Cd.seq (Cd.region (Rg.val (Val.move rfl) rfl (Rg.val (Val.assign rfl) rfl (Rg.val (Val.assign rfl) rfl (Rg.nil (Rx.seq (Cd.ret (Rx.ret2 rfl rfl rfl fun w hm_ => (⟨by rw [tilt_is (n := i) e1 hcen hway ht0 (by omega) hno (fun h => absurd h (by omega))], hm_.below⟩))))))))))))))
  · refine Rg.eff (Eff.give rfl rfl en51 rfl (fun w hm => deck_err e1 (newDeck_calls _ _ _ w (hm.rdb hR)))) rfl fun _ _ => (Rg.val (Val.move rfl) rfl (Rg.val (Val.extract rfl rfl) rfl (Rg.val (Val.extract rfl rfl) rfl (Rg.val (Val.assign rfl) rfl (Rg.val (Val.assign rfl) rfl (Rg.nil (Rx.seq (Cd.seq (Cd.seq (Cd.region (Rg.val (Val.move rfl) rfl (Rg.val (Val.neq rfl rfl) rfl (Rg.nil (Rx.seq (Cd.know (t := 20) rfl (by simp [e1]) (Cd.yes rfl (Cd.seq (Cd.region (Rg.val (Val.move rfl) rfl (Rg.val (Val.assign rfl) rfl (Rg.val (Val.assign rfl) rfl (Rg.nil (Rx.seq (Cd.ret (Rx.pastR (Rx.ret2 rfl rfl rfl fun w hm_ => (⟨by simp [TiltF, *], hm_.below⟩)))))))))))))))))))))))))))

theorem refTilt_gives.bld_0  (w : World) : (Instr.build 46 #[]).run Try.prog w = .ok (.agg #[.int .i64 0, .int .i64 0]) w := by kernel_rfl
theorem refTilt_gives.bld_1 (y0 : Int) (y1 : Int) (w : World) : (Instr.build 46 #[(0, .int .i64 y0), (1, .int .i64 y1)]).run Try.prog w = .ok (.agg #[.int .i64 y0, .int .i64 y1]) w := by kernel_rfl
open refTilt_gives in
theorem refTilt_gives (a : Option Addr) (cap : Nat) (xs : List Sup) (x y z wx wy : Int) (w : World) (hR : Rdb w a 6 encSup xs) : Gives Try.prog 33 #[.slice a xs.length cap, .agg #[.int .i64 x, .int .i64 y, .int .i64 z], .agg #[.int .i64 wx, .int .i64 wy]] w (.tuple #[.int .i64 ((TiltF xs x y z wx wy).1), .int .i64 ((TiltF xs x y z wx wy).2)]) := by
  refine calls_of (vs := [.slice a xs.length cap, .agg #[.int .i64 x, .int .i64 y, .int .i64 z], .agg #[.int .i64 wx, .int .i64 wy]]) Try.func33 rfl rfl rfl ?_
  show Cd _ _ _ _ _ [(0, .slice a xs.length cap), (1, .agg #[.int .i64 x, .int .i64 y, .int .i64 z]), (2, .agg #[.int .i64 wx, .int .i64 wy])] []
  refine Cd.seq (Cd.region (Rg.eff (Eff.box 1 rfl rfl) rfl fun b1 _ => (Rg.eff (Eff.box 2 rfl rfl) rfl fun b2 _ => (Rg.val (Val.assign rfl) rfl (Rg.val (Val.assign rfl) rfl (Rg.nil (Rx.seq (Cd.seq (Cd.seq (Cd.region (Rg.val (Val.move rfl) rfl (Rg.eff (Eff.give rfl rfl en27 rfl (fun w hm => refCheck_gives _ _ _ w (hm.rdb hR))) rfl fun _ _ => (Rg.val (Val.neq rfl rfl) rfl (Rg.nil (Rx.seq (Cd.cond rfl (fun c1 => ?_) (fun c1 => ?_)))))))))))))))))
  · replace c1 := bnot_t c1
    replace c1 := of_decide_eq_false c1
    have hne := c1
    refine Cd.seq (Cd.region (Rg.val (Val.move rfl) rfl (Rg.eff (Eff.give rfl rfl en27 rfl (fun w hm => refCheck_gives _ _ _ w (hm.rdb hR))) rfl fun _ _ => (Rg.val (Val.assign rfl) rfl (Rg.val (Val.assign rfl) rfl (Rg.nil (Rx.seq (Cd.ret (Rx.pastR (Rx.ret2 rfl rfl rfl fun w hm_ => (⟨by simp [TiltF, *], hm_.below⟩)))))))))))
  · replace c1 := bnot_f c1
    replace c1 := of_decide_eq_true c1
    have h0 := c1
    refine Cd.skip (Rx.seq (Cd.seq (Cd.seq (Cd.region (Rg.val (Val.loadAll (l := 1) rfl rfl ag30 rfl) rfl (Rg.eff (Eff.give rfl rfl en66 rfl (fun w hm => refcentre_gives _ _ _ w)) rfl fun _ _ => (Rg.val (Val.neq rfl rfl) rfl (Rg.nil (Rx.seq (Cd.cond rfl (fun c2 => ?_) (fun c2 => ?_)))))))))))
    · replace c2 := bnot_t c2
      replace c2 := of_decide_eq_false c2
      have zc2 : (centreOk x y z) = false := by cases hz_ : (centreOk x y z) <;> simp [errR, hz_] at c2 ⊢
      have hcen := zc2
      refine Cd.seq (Cd.region (Rg.val (Val.assign rfl) rfl (Rg.val (Val.assign rfl) rfl (Rg.nil (Rx.seq (Cd.ret (Rx.pastR (Rx.ret2 rfl rfl rfl fun w hm_ => (⟨by simp [TiltF, *], hm_.below⟩)))))))))
    · replace c2 := bnot_f c2
      replace c2 := of_decide_eq_true c2
      have zc2 : (centreOk x y z) = true := by cases hz_ : (centreOk x y z) <;> simp [errR, hz_] at c2 ⊢
      have hcen := zc2
      obtain ⟨hcx, hcy, hcz⟩ := centreOk_b zc2
      refine Cd.skip (Rx.seq (Cd.seq (Cd.seq (Cd.region (Rg.val (Val.fa rfl (fa46_0 _ _)) rfl (Rg.val (Val.load (l := 2) rfl rfl sc2 rfl) rfl (Rg.eff (Eff.give rfl rfl en69 rfl (fun w hm => within_gives _ _ _ w)) rfl fun _ _ => (Rg.val (Val.not rfl) rfl (Rg.val (Val.move rfl) rfl (Rg.split 23 rfl (fun c3 => ?_) (fun c3 => ?_)))))))))))
      · replace c3 := bnot_t c3
        have hbx := c3
        refine Rg.off rfl rfl rfl rfl (Rg.off rfl rfl rfl rfl (Rg.off rfl rfl rfl rfl (Rg.off rfl rfl rfl rfl (Rg.val (Val.pickT rfl rfl) rfl (Rg.val (Val.move rfl) rfl (Rg.off rfl rfl rfl rfl (Rg.off rfl rfl rfl rfl (Rg.off rfl rfl rfl rfl (Rg.val (Val.pickT rfl rfl) rfl (Rg.nil (Rx.seq (Cd.yes rfl (Cd.seq (Cd.region (Rg.val (Val.assign rfl) rfl (Rg.val (Val.assign rfl) rfl (Rg.nil (Rx.seq (Cd.ret (Rx.pastR (Rx.ret2 rfl rfl rfl fun w hm_ => (⟨by simp [TiltF, *], hm_.below⟩))))))))))))))))))))))
      · replace c3 := bnot_f c3
        have hbx := c3
        have kwx := between_iff.1 hbx
        refine Rg.on rfl rfl rfl (Rg.val (Val.fa rfl (fa46_1 _ _)) rfl (Rg.on rfl rfl rfl (Rg.val (Val.load (l := 2) rfl rfl sc2 rfl) rfl (Rg.on rfl rfl rfl (Rg.eff (Eff.give rfl rfl en69 rfl (fun w hm => within_gives _ _ _ w)) rfl fun _ _ => (Rg.on rfl rfl rfl (Rg.val (Val.not rfl) rfl (Rg.val (Val.pickF rfl rfl) rfl (Rg.val (Val.move rfl) rfl (Rg.split 29 rfl (fun c4 => ?_) (fun c4 => ?_)))))))))))
        · replace c4 := bnot_t c4
          have hby := c4
          refine Rg.off rfl rfl rfl rfl (Rg.off rfl rfl rfl rfl (Rg.off rfl rfl rfl rfl (Rg.val (Val.pickT rfl rfl) rfl (Rg.nil (Rx.seq (Cd.yes rfl (Cd.seq (Cd.region (Rg.val (Val.assign rfl) rfl (Rg.val (Val.assign rfl) rfl (Rg.nil (Rx.seq (Cd.ret (Rx.pastR (Rx.ret2 rfl rfl rfl fun w hm_ => (⟨by simp [TiltF, *], hm_.below⟩))))))))))))))))
        · replace c4 := bnot_f c4
          have hby := c4
          have kwy := between_iff.1 hby
          refine Rg.on rfl rfl rfl (Rg.val (Val.loadAll (l := 2) rfl rfl ag46 rfl) rfl (Rg.on rfl rfl rfl (Rg.val (Val.build rfl (bld_0)) rfl (Rg.on rfl rfl rfl (Rg.val (Val.eqA rfl rfl (by kernel_rfl) (EqV.str (by kernel_rfl) rfl (by kernel_rfl) (EqF.cons rfl (a := .int .i64 wx) (b := .int .i64 0) (fun _ => by kernel_rfl) (fun _ => by kernel_rfl) (EqV.int Try.underlying2 _ _) (EqF.cons rfl (a := .int .i64 wy) (b := .int .i64 0) (fun _ => by kernel_rfl) (fun _ => by kernel_rfl) (EqV.int Try.underlying2 _ _) (EqF.nil))))) rfl (Rg.val (Val.pickF rfl rfl) rfl (Rg.nil (Rx.seq (Cd.cond rfl (fun c5 => ?_) (fun c5 => ?_))))))))))
          · have hwz : (decide (wx = 0) && decide (wy = 0)) = true := by simpa using c5
            refine Cd.seq (Cd.region (Rg.val (Val.assign rfl) rfl (Rg.val (Val.assign rfl) rfl (Rg.nil (Rx.seq (Cd.ret (Rx.pastR (Rx.ret2 rfl rfl rfl fun w hm_ => (⟨by simp [TiltF, *], hm_.below⟩)))))))))
          · have hwz : (decide (wx = 0) && decide (wy = 0)) = false := by simpa using c5
            have hway : ((between wx (-10) 10 && between wy (-10) 10) && !(decide (wx = 0) && decide (wy = 0))) = true := by rw [hbx, hby, hwz]; rfl
            refine Cd.skip (Rx.seq (Cd.seq (Cd.seq (Cd.region (Rg.val (Val.assign rfl) rfl (Rg.nil (Rx.seq (Cd.block ?_))))))))
            refine Cd.loop (A := Nat) (fun i : Nat => i ≤ 1001 ∧ (∀ j : Nat, j + 1 < i → badN (sumsW xs) x y z wx wy ((j + 1 : Nat) : Int) = false) ∧ (0 < i → ¬ 0 ≤ tipQ (sumsW xs) x y))
                (fun i : Nat => [(0, .slice a xs.length cap), (4, .pointer (some ⟨b1, 0, none⟩)), (5, .pointer (some ⟨b2, 0, none⟩)), (8, .int .i64 (i : Int))])
                (fun i : Nat => [(1, blk b1 [.int .i64 x, .int .i64 y, .int .i64 z] 30), (2, blk b2 [.int .i64 wx, .int .i64 wy] 46)])
                (fun i : Nat => 1001 - i) 0 ?_ ⟨rfl, rfl, rfl, rfl, trivial⟩ ⟨rfl, rfl, trivial⟩ ?_
            · exact ⟨by omega, fun j h => absurd h (by omega), fun h => absurd h (by omega)⟩
            · rintro i ⟨hi, hno, hti⟩
              show Cd _ _ _ _ _ [(0, .slice a xs.length cap), (4, .pointer (some ⟨b1, 0, none⟩)), (5, .pointer (some ⟨b2, 0, none⟩)), (8, .int .i64 (i : Int))] [(1, blk b1 [.int .i64 x, .int .i64 y, .int .i64 z] 30), (2, blk b2 [.int .i64 wx, .int .i64 wy] 46)]
              refine Cd.seq (Cd.seq (Cd.region (Rg.val (Val.move rfl) rfl (Rg.val (Val.leq rfl rfl) rfl (Rg.nil (Rx.seq (Cd.cond rfl (fun c6 => ?_) (fun c6 => ?_))))))))
              · replace c6 := of_decide_eq_true c6
                refine Cd.skip (Rx.seq (Cd.seq (Cd.block (Cd.seq (Cd.region (Rg.val (Val.loadAll (l := 1) rfl rfl ag30 rfl) rfl (Rg.val (Val.move rfl) rfl (Rg.val (Val.fa rfl (fa46_0 _ _)) rfl (Rg.val (Val.load (l := 2) rfl rfl sc2 rfl) rfl (Rg.val (Val.mulN rfl rfl (by have := mul_abs (a := (i : Int)) (b := wx) (A := 1001) (B := 10) (by omega) (by omega); unfold in64; omega)) rfl (Rg.val (Val.move rfl) rfl (Rg.val (Val.fa rfl (fa46_1 _ _)) rfl (Rg.val (Val.load (l := 2) rfl rfl sc2 rfl) rfl (Rg.val (Val.mulN rfl rfl (by have := mul_abs (a := (i : Int)) (b := wy) (A := 1001) (B := 10) (by omega) (by omega); unfold in64; omega)) rfl (Rg.val (Val.build rfl (bld_1 _ _)) rfl (Rg.val (Val.build rfl (bld_0)) rfl ?_))))))))))))))))
                have hfb := footN_bd (x := x) (y := y) (z := z) (wx := wx) (wy := wy) (n := (i : Int))
                refine Rg.eff (Eff.give rfl rfl en29 rfl (fun w hm => refFootN_gives x y z wx wy (i : Int) w)) rfl fun _ _ => (Rg.val (Val.move rfl) rfl (Rg.val (Val.extract rfl rfl) rfl (Rg.val (Val.extract rfl rfl) rfl (Rg.eff (Eff.alloc 3 zv29 rfl) rfl fun b3 _ => (Rg.eff (Eff.storeAll (l := 3) sz29 rfl rfl rfl rfl rfl rfl) rfl fun _ _ => (Rg.val (Val.assign rfl) rfl (Rg.nil (Rx.seq (Cd.seq (Cd.seq (Cd.region (Rg.val (Val.move rfl) rfl (Rg.val (Val.eql rfl rfl) rfl (Rg.val (Val.move rfl) rfl (Rg.split 55 rfl (fun c7 => ?_) (fun c7 => ?_))))))))))))))))
                · replace c7 := of_decide_eq_true c7
                  have hf0 : footN x y z wx wy (i : Int) = ((x, y), 0) := by rw [c7]; exact foot_zero hcen
                  refine Rg.on rfl rfl rfl (Rg.val (Val.move rfl) rfl (Rg.on rfl rfl rfl (Rg.val (Val.loadAll (l := 3) rfl rfl ag29 rfl) rfl (Rg.on rfl rfl rfl (Rg.eff (Eff.give rfl rfl en60 rfl (fun w hm => reftips_gives _ _ _ _ _ w (hm.rdb hR) h0 (by omega) (by omega))) rfl fun _ _ => (Rg.on rfl rfl rfl (Rg.val (Val.geq rfl rfl) rfl (Rg.val (Val.pickT rfl rfl) rfl (Rg.nil (Rx.seq (Cd.cond rfl (fun c8 => ?_) (fun c8 => ?_))))))))))))
                  · replace c8 := of_decide_eq_true c8
                    have htt : 0 ≤ tipQ (sumsW xs) x y := by rw [hf0] at c8; exact c8
                    refine Cd.seq (Cd.region (Rg.val (Val.assign rfl) rfl (Rg.val (Val.assign rfl) rfl (Rg.nil (Rx.seq (Cd.ret (Rx.pastR (Rx.inr (Rx.pastR (Rx.pastR (Rx.inr (Rx.pastR (Rx.ret2 rfl rfl rfl fun w hm_ => (⟨by rw [tilt_tip h0 hcen hway htt], hm_.below⟩))))))))))))))
                  · replace c8 := of_decide_eq_false c8
                    have htt : ¬ 0 ≤ tipQ (sumsW xs) x y := by rw [hf0] at c8; exact c8
                    refine Cd.skip (Rx.seq (Cd.seq (Cd.region (Rg.val (Val.move rfl) rfl (Rg.val (Val.neq rfl rfl) rfl (Rg.val (Val.move rfl) rfl (Rg.split 63 rfl (fun c9 => ?_) (fun c9 => ?_))))))))
                    · replace c9 := bnot_t c9
                      replace c9 := of_decide_eq_false c9
                      refine Rg.off rfl rfl rfl rfl (Rg.off rfl rfl rfl rfl (Rg.off rfl rfl rfl rfl (Rg.off rfl rfl rfl rfl (Rg.val (Val.pickT rfl rfl) rfl (Rg.nil (Rx.seq (Cd.yes rfl (Cd.seq (Cd.region (Rg.val (Val.move rfl) rfl (Rg.val (Val.subN rfl rfl (by unfold in64; omega)) rfl (Rg.val (Val.assign rfl) rfl (Rg.val (Val.assign rfl) rfl (Rg.nil (Rx.seq (Cd.ret (Rx.inr (Rx.pastR (Rx.pastR (Rx.inr (Rx.pastR (Rx.ret2 rfl rfl rfl fun w hm_ => (⟨by exfalso; rw [hf0] at *; simp_all, hm_.below⟩)))))))))))))))))))))))
                    · replace c9 := bnot_f c9
                      replace c9 := of_decide_eq_true c9
                      refine Rg.on rfl rfl rfl (Rg.val (Val.move rfl) rfl (Rg.on rfl rfl rfl (Rg.val (Val.loadAll (l := 3) rfl rfl ag29 rfl) rfl (Rg.on rfl rfl rfl (Rg.eff (Eff.give rfl rfl en60 rfl (fun w hm => reftips_gives _ _ _ _ _ w (hm.rdb hR) h0 (by omega) (by omega))) rfl fun _ _ => (Rg.on rfl rfl rfl (Rg.val (Val.geq rfl rfl) rfl (Rg.val (Val.pickF rfl rfl) rfl (Rg.nil (Rx.seq (Cd.know (t := 68) rfl (decide_eq_false c8) (Cd.no rfl (Cd.skip (Rx.inb (Rx.seq (Cd.region (Rg.val (Val.move rfl) rfl (Rg.val (Val.as (Val.addN rfl rfl (by unfold in64; omega)) (congrArg (Value.int IntKind.i64) (plus1 i))) rfl (Rg.val (Val.assign rfl) rfl (Rg.nil ?_))))))))))))))))))))
                      refine Rx.meet (i + 1) ⟨⟨by omega, less_bad hno (badN_no c9 c8), fun _ => htt⟩, show 1001 - (i + 1) < 1001 - i from by omega⟩ ⟨rfl, rfl, rfl, rfl, trivial⟩ ⟨rfl, rfl, trivial⟩
                · replace c7 := of_decide_eq_false c7
                  refine Rg.off rfl rfl rfl rfl (Rg.off rfl rfl rfl rfl (Rg.off rfl rfl rfl rfl (Rg.off rfl rfl rfl rfl (Rg.val (Val.pickF rfl rfl) rfl (Rg.nil (Rx.seq (Cd.no rfl (Cd.skip (Rx.seq (Cd.seq (Cd.region (Rg.val (Val.move rfl) rfl (Rg.val (Val.neq rfl rfl) rfl (Rg.val (Val.move rfl) rfl (Rg.split 63 rfl (fun c10 => ?_) (fun c10 => ?_))))))))))))))))
                  · replace c10 := bnot_t c10
                    replace c10 := of_decide_eq_false c10
                    refine Rg.off rfl rfl rfl rfl (Rg.off rfl rfl rfl rfl (Rg.off rfl rfl rfl rfl (Rg.off rfl rfl rfl rfl (Rg.val (Val.pickT rfl rfl) rfl (Rg.nil (Rx.seq (Cd.yes rfl (Cd.seq (Cd.region (Rg.val (Val.move rfl) rfl (Rg.val (Val.subN rfl rfl (by unfold in64; omega)) rfl (Rg.val (Val.assign rfl) rfl (Rg.val (Val.assign rfl) rfl (Rg.nil (Rx.seq (Cd.ret (Rx.inr (Rx.pastR (Rx.pastR (Rx.inr (Rx.pastR (Rx.ret2 rfl rfl rfl fun w hm_ => (⟨by rw [tilt_is (n := i - 1) h0 hcen hway (hti (by omega)) (by omega) (fun j hj => hno j (by omega)) (fun _ => by rw [show i - 1 + 1 = i from by omega]; exact badN_yes1 c10)]; rw [show ((i - 1 : Nat) : Int) = (i : Int) - 1 from by omega], hm_.below⟩)))))))))))))))))))))))
                  · replace c10 := bnot_f c10
                    replace c10 := of_decide_eq_true c10
                    refine Rg.on rfl rfl rfl (Rg.val (Val.move rfl) rfl (Rg.on rfl rfl rfl (Rg.val (Val.loadAll (l := 3) rfl rfl ag29 rfl) rfl (Rg.on rfl rfl rfl (Rg.eff (Eff.give rfl rfl en60 rfl (fun w hm => reftips_gives _ _ _ _ _ w (hm.rdb hR) h0 (by omega) (by omega))) rfl fun _ _ => (Rg.on rfl rfl rfl (Rg.val (Val.geq rfl rfl) rfl (Rg.val (Val.pickF rfl rfl) rfl (Rg.nil (Rx.seq (Cd.cond rfl (fun c11 => ?_) (fun c11 => ?_))))))))))))
                    · replace c11 := of_decide_eq_true c11
                      refine Cd.seq (Cd.region (Rg.val (Val.move rfl) rfl (Rg.val (Val.subN rfl rfl (by unfold in64; omega)) rfl (Rg.val (Val.assign rfl) rfl (Rg.val (Val.assign rfl) rfl (Rg.nil (Rx.seq (Cd.ret (Rx.inr (Rx.pastR (Rx.pastR (Rx.inr (Rx.pastR (Rx.ret2 rfl rfl rfl fun w hm_ => (⟨by rw [tilt_is (n := i - 1) h0 hcen hway (hti (by omega)) (by omega) (fun j hj => hno j (by omega)) (fun _ => by rw [show i - 1 + 1 = i from by omega]; exact badN_yes2 c11)]; rw [show ((i - 1 : Nat) : Int) = (i : Int) - 1 from by omega], hm_.below⟩)))))))))))))))
                    · replace c11 := of_decide_eq_false c11
                      refine Cd.skip (Rx.inb (Rx.seq (Cd.region (Rg.val (Val.move rfl) rfl (Rg.val (Val.as (Val.addN rfl rfl (by unfold in64; omega)) (congrArg (Value.int IntKind.i64) (plus1 i))) rfl (Rg.val (Val.assign rfl) rfl (Rg.nil ?_)))))))
                      refine Rx.meet (i + 1) ⟨⟨by omega, less_bad hno (badN_no c10 c11), fun _ => hti (by omega)⟩, show 1001 - (i + 1) < 1001 - i from by omega⟩ ⟨rfl, rfl, rfl, rfl, trivial⟩ ⟨rfl, rfl, trivial⟩
              · replace c6 := of_decide_eq_false c6
                refine Cd.exit (Rx.pastE (Rx.pastE (Rx.hit (Rx.seq (Cd.seq (Cd.region (Rg.val (Val.assign rfl) rfl (Rg.val (Val.assign rfl) rfl (Rg.nil (Rx.seq (Cd.ret (Rx.ret2 rfl rfl rfl fun w hm_ => (⟨by rw [tilt_is (n := 1000) h0 hcen hway (hti (by omega)) (by omega) (fun j hj => hno j (by omega)) (fun h => absurd h (by omega))]; rfl, hm_.below⟩)))))))))))))

end Go.Proofs.Ytfekoippjmojgaa
