/- Walks of functions of the program: what each returns, told by plain functions; nothing that lay there is turned. -/
import Derived.Test.YtfekoippjmojgaaL2
namespace Go.Proofs.Ytfekoippjmojgaa
open Go.Kx Go.RowKit
set_option maxRecDepth 100000
set_option linter.unusedVariables false
set_option linter.unusedSimpArgs false
set_option linter.constructorNameAsVariable false
theorem up_spec {m y d : Int} (hd : 0 < d) : ∃ r, d * upDiv m y d = m * y + r ∧ 0 ≤ r ∧ r ≤ d := by
  refine ⟨(-m * y) % d, ?_, Int.emod_nonneg _ (by omega), by have := Int.emod_lt_of_pos (-m * y) hd; omega⟩
  have h1 := Int.emod_add_mul_ediv (-m * y) d
  unfold upDiv
  have h2 : -m * y = -(m * y) := Int.neg_mul _ _
  rw [Int.mul_neg]
  omega
theorem up_sum {m d a b c n0 n1 n2 : Int} (hd : 0 < d) (h0 : 0 ≤ n0) (h1 : 0 ≤ n1) (h2 : 0 ≤ n2) (hb : a * n0 + b * n1 + c * n2 = d) :
    m ≤ upDiv m a d * n0 + upDiv m b d * n1 + upDiv m c d * n2 ∧ upDiv m a d * n0 + upDiv m b d * n1 + upDiv m c d * n2 ≤ m + (n0 + n1 + n2) := by
  obtain ⟨r0, e0, l0, u0⟩ := up_spec (m := m) (y := a) hd
  obtain ⟨r1, e1, l1, u1⟩ := up_spec (m := m) (y := b) hd
  obtain ⟨r2, e2, l2, u2⟩ := up_spec (m := m) (y := c) hd
  generalize upDiv m a d = p at *
  generalize upDiv m b d = q at *
  generalize upDiv m c d = t at *
  have k : d * (p * n0 + q * n1 + t * n2) = d * m + (r0 * n0 + r1 * n1 + r2 * n2) := by
    have : d * (p * n0 + q * n1 + t * n2) = (d * p) * n0 + (d * q) * n1 + (d * t) * n2 := by grind
    rw [this, e0, e1, e2, ← hb]; grind
  have s0 := Int.mul_nonneg l0 h0
  have s1 := Int.mul_nonneg l1 h1
  have s2 := Int.mul_nonneg l2 h2
  have t0 : r0 * n0 ≤ d * n0 := Int.mul_le_mul_of_nonneg_right u0 h0
  have t1 : r1 * n1 ≤ d * n1 := Int.mul_le_mul_of_nonneg_right u1 h1
  have t2 : r2 * n2 ≤ d * n2 := Int.mul_le_mul_of_nonneg_right u2 h2
  constructor
  · exact Int.le_of_mul_le_mul_left (a := d) (by omega) hd
  · refine Int.le_of_mul_le_mul_left (a := d) ?_ hd
    have e4 : d * (m + (n0 + n1 + n2)) = d * m + (d * n0 + d * n1 + d * n2) := by grind
    rw [k, e4]
    omega
theorem up_more {m m' y d : Int} (hy : 0 ≤ y) (hd : 0 < d) (h : m ≤ m') : upDiv m y d ≤ upDiv m' y d := by
  unfold upDiv
  have : -m' * y ≤ -m * y := Int.mul_le_mul_of_nonneg_right (by omega) hy
  have := Int.ediv_le_ediv hd this
  omega
structure AllLaw (xs : List Sup) (mass more : Int) (s : M9) (e a0 a1 a2 e1 b0 b1 b2 e2 : Int) : Prop where
  bad : e1 ≠ 0 → a0 = 0 ∧ a1 = 0 ∧ a2 = 0
  ok : e1 = 0 → e = 0 ∧ (1 ≤ mass ∧ mass ≤ 16777216) ∧ xs.length ≤ 48 ∧ (0 ≤ a0 * s.r0.n ∧ 0 ≤ a1 * s.r1.n ∧ 0 ≤ a2 * s.r2.n) ∧ (mass ≤ a0 * s.r0.n + a1 * s.r1.n + a2 * s.r2.n ∧ a0 * s.r0.n + a1 * s.r1.n + a2 * s.r2.n ≤ mass + xs.length)
  next : e1 = 0 → e2 = 0 → a0 ≤ b0 ∧ a1 ≤ b1 ∧ a2 ≤ b2
  err : e1 = 0 → e2 = 0 ∨ e2 = 14 ∨ e2 = 3
theorem sharesF_ok {xs : List Sup} {m : M9} {mass x y a0 a1 a2 e : Int} (h : sharesF xs m mass x y = ((a0, a1, a2), e)) : (e ≠ 0 → a0 = 0 ∧ a1 = 0 ∧ a2 = 0) ∧
    (e = 0 → between mass 1 16777216 = true ∧ validPt x y = true ∧ ¬ 0 ≤ tipQ m x y ∧ a0 = upDiv mass (q0 m x y) (qd m) ∧ a1 = upDiv mass (q1 m x y) (qd m) ∧ a2 = upDiv mass (q2 m x y) (qd m)) := by
  unfold sharesF at h
  split at h
  · rename_i hv
    simp only [Bool.and_eq_true] at hv
    split at h
    · injection h with h1 h2; injection h1 with h1 h3; injection h3 with h3 h4; omega
    · split at h
      · unfold shareQ at h
        injection h with h1 h2; injection h1 with h1 h3; injection h3 with h3 h4
        exact ⟨fun he => absurd h2.symm he, fun _ => ⟨hv.1, hv.2, ‹_›, h1.symm, h3.symm, h4.symm⟩⟩
      · injection h with h1 h2; injection h1 with h1 h3; injection h3 with h3 h4; omega
  · injection h with h1 h2; injection h1 with h1 h3; injection h3 with h3 h4; omega
theorem sharesF_err {xs : List Sup} {m : M9} {mass x y : Int} (h : ¬ 0 ≤ tipQ m x y) : (sharesF xs m mass x y).2 = 0 ∨ (sharesF xs m mass x y).2 = 14 ∨ (sharesF xs m mass x y).2 = 3 := by
  unfold sharesF
  rw [if_neg h]
  split
  · split
    · exact .inl rfl
    · exact .inr (.inl rfl)
  · exact .inr (.inr rfl)
theorem all_law {xs : List Sup} {mass more x y e a0 a1 a2 e1 b0 b1 b2 e2 : Int} {s : M9} (hm : 0 ≤ more) (he : deckErr xs = e) (hs : sumsR xs = s) (h1 : SharesF xs mass x y = ((a0, a1, a2), e1)) (h2 : SharesF xs (mass + more) x y = ((b0, b1, b2), e2)) : AllLaw xs mass more s e a0 a1 a2 e1 b0 b1 b2 e2 := by
  subst he; subst hs
  unfold SharesF at h1 h2
  unfold sumsR
  by_cases h0 : deckErr xs = 0
  · rw [if_pos h0] at h1 h2 ⊢
    have g := good h0
    obtain ⟨hw, hd, _⟩ := g.wh
    obtain ⟨n0, n1, n2⟩ := g.one
    have tot := g.b.tot
    obtain ⟨k1, k2⟩ := sharesF_ok h1
    refine ⟨k1, fun ez => ?_, fun ez ez2 => ?_, fun ez => ?_⟩
    · obtain ⟨hv, hp, ht, rfl, rfl, rfl⟩ := k2 ez
      have hq := tipsW_none ht
      have hs := up_sum (m := mass) hd (show 0 ≤ (sumsW xs).r0.n by omega) (show 0 ≤ (sumsW xs).r1.n by omega) (show 0 ≤ (sumsW xs).r2.n by omega) (g.bal x y)
      rw [between_iff] at hv
      have z0 := up_more (m := 0) (m' := mass) hq.1 hd (by omega)
      have z1 := up_more (m := 0) (m' := mass) hq.2.1 hd (by omega)
      have z2 := up_more (m := 0) (m' := mass) hq.2.2 hd (by omega)
      have zz : ∀ q, upDiv 0 q (qd (sumsW xs)) = 0 := fun q => by unfold upDiv; simp
      rw [zz] at z0 z1 z2
      exact ⟨h0, hv, g.len.2, ⟨Int.mul_nonneg z0 (by omega), Int.mul_nonneg z1 (by omega), Int.mul_nonneg z2 (by omega)⟩, by omega⟩
    · obtain ⟨hv, hp, ht, rfl, rfl, rfl⟩ := k2 ez
      obtain ⟨_, _, _, rfl, rfl, rfl⟩ := (sharesF_ok h2).2 ez2
      have hq := tipsW_none ht
      exact ⟨up_more hq.1 hd (by omega), up_more hq.2.1 hd (by omega), up_more hq.2.2 hd (by omega)⟩
    · obtain ⟨hv, hp, ht, _⟩ := k2 ez
      have := sharesF_err (xs := xs) (mass := mass + more) (x := x) (y := y) ht
      rw [h2] at this
      exact this
  · rw [if_neg h0] at h1 h2 ⊢
    injection h1 with h1 h3; injection h1 with h1 h4; injection h4 with h4 h5
    exact ⟨fun _ => ⟨h1.symm, h4.symm, h5.symm⟩, fun h => absurd (h3.trans h) h0, fun h => absurd (h3.trans h) h0, fun h => absurd (h3.trans h) h0⟩
theorem Shares_gives' {a : Option Addr} {cap : Nat} {xs : List Sup} {w : World} {mass x y a0 a1 a2 e : Int} (h : SharesF xs mass x y = ((a0, a1, a2), e)) (hR : Rdb w a 6 encSup xs) : Gives Try.prog 20 #[.slice a xs.length cap, .int .i64 mass, .agg #[.int .i64 x, .int .i64 y]] w (.tuple #[.agg #[.int .i64 a0, .int .i64 a1, .int .i64 a2], .int .i64 e]) := by
  have := Shares_gives a cap xs mass x y w hR
  rw [h] at this
  exact this
theorem StaticsAll_gives.bld_0  (w : World) : (Instr.build 30 #[]).run Try.prog w = .ok (.agg #[.int .i64 0, .int .i64 0, .int .i64 0]) w := by kernel_rfl
open StaticsAll_gives in
theorem StaticsAll_gives (a : Option Addr) (cap : Nat) (xs : List Sup) (mass x y more : Int) (w : World) (hR : Rdb w a 6 encSup xs) (hmore : 0 ≤ more ∧ more ≤ 65535) : Gives Try.prog 5 #[.slice a xs.length cap, .int .i64 mass, .agg #[.int .i64 x, .int .i64 y], .int .u16 more] w (.bool true) := by
  obtain ⟨e, he⟩ : ∃ e, deckErr xs = e := ⟨_, rfl⟩
  obtain ⟨s, hs⟩ : ∃ s, sumsR xs = s := ⟨_, rfl⟩
  obtain ⟨a0, a1, a2, e1, h1⟩ : ∃ a0 a1 a2 e1, SharesF xs mass x y = ((a0, a1, a2), e1) := ⟨_, _, _, _, rfl⟩
  obtain ⟨b0, b1, b2, e2, h2⟩ : ∃ b0 b1 b2 e2, SharesF xs (mass + more) x y = ((b0, b1, b2), e2) := ⟨_, _, _, _, rfl⟩
  have hal := all_law hmore.1 he hs h1 h2
  obtain ⟨hbad, hok, hnext, herrs⟩ := hal
  refine calls_of (vs := [.slice a xs.length cap, .int .i64 mass, .agg #[.int .i64 x, .int .i64 y], .int .u16 more]) Try.func5 rfl rfl rfl ?_
  show Cd _ _ _ _ _ [(0, .slice a xs.length cap), (1, .int .i64 mass), (2, .agg #[.int .i64 x, .int .i64 y]), (3, .int .u16 more)] []
  refine Cd.seq (Cd.region (Rg.eff (Eff.box 1 rfl rfl) rfl fun b1 _ => (Rg.val (Val.assign rfl) rfl (Rg.nil (Rx.seq (Cd.seq (Cd.seq (Cd.region (Rg.val (Val.move rfl) rfl (Rg.val (Val.len Try.underlying27 rfl) rfl (Rg.val (Val.gtr rfl rfl) rfl (Rg.nil (Rx.seq (Cd.cond rfl (fun c1 => ?_) (fun c1 => ?_)))))))))))))))
  · replace c1 := of_decide_eq_true c1
    refine Cd.seq (Cd.region (Rg.eff (Eff.give rfl rfl en16 rfl (fun w hm => known_gives w)) rfl fun _ _ => (Rg.val (Val.assign rfl) rfl (Rg.nil (Rx.seq (Cd.ret (Rx.pastR (Rx.ret1 rfl rfl fun w hm_ => (⟨rfl, hm_.below⟩)))))))))
  · replace c1 := of_decide_eq_false c1
    refine Cd.skip (Rx.seq (Cd.seq (Cd.region (Rg.val (Val.move rfl) rfl (Rg.val (Val.move rfl) rfl (Rg.val (Val.loadAll (l := 1) rfl rfl ag29 rfl) rfl (Rg.eff (Eff.give rfl rfl en20 rfl (fun w hm => Shares_gives' h1 (hm.rdb hR))) rfl fun _ _ => (Rg.val (Val.move rfl) rfl (Rg.val (Val.extract rfl rfl) rfl (Rg.val (Val.extract rfl rfl) rfl (Rg.eff (Eff.alloc 2 zv30 rfl) rfl fun b2 _ => (Rg.eff (Eff.storeAll (l := 2) sz30 rfl rfl rfl rfl rfl rfl) rfl fun _ _ => (Rg.val (Val.assign rfl) rfl (Rg.nil (Rx.seq (Cd.seq (Cd.seq (Cd.region (Rg.val (Val.move rfl) rfl (Rg.val (Val.neq rfl rfl) rfl (Rg.nil (Rx.seq (Cd.cond rfl (fun c2 => ?_) (fun c2 => ?_))))))))))))))))))))))))
    · replace c2 := bnot_t c2
      replace c2 := of_decide_eq_false c2
      refine Cd.seq (Cd.region (Rg.val (Val.loadAll (l := 2) rfl rfl ag30 rfl) rfl (Rg.val (Val.build rfl (bld_0)) rfl (Rg.val (Val.eqA rfl rfl (by kernel_rfl) (EqV.arr Try.underlying30 (by kernel_rfl) (c := 1) (by kernel_rfl) rfl (EqI.cons (a := .int .i64 a0) (b := .int .i64 0) (fun _ => by kernel_rfl) (fun _ => by kernel_rfl) (EqV.int Try.underlying2 _ _) (EqI.cons (a := .int .i64 a1) (b := .int .i64 0) (fun _ => by kernel_rfl) (fun _ => by kernel_rfl) (EqV.int Try.underlying2 _ _) (EqI.cons (a := .int .i64 a2) (b := .int .i64 0) (fun _ => by kernel_rfl) (fun _ => by kernel_rfl) (EqV.int Try.underlying2 _ _) (EqI.nil)))))) rfl (Rg.val (Val.move rfl) rfl (Rg.know (t := 31) rfl (by obtain ⟨z0, z1, z2⟩ := hbad c2; simp [z0, z1, z2]) (Rg.on rfl rfl rfl (Rg.eff (Eff.give rfl rfl en16 rfl (fun w hm => known_gives w)) rfl fun _ _ => (Rg.val (Val.pickT rfl rfl) rfl (Rg.val (Val.assign rfl) rfl (Rg.nil (Rx.seq (Cd.ret (Rx.pastR (Rx.ret1 rfl rfl fun w hm_ => (⟨rfl, hm_.below⟩))))))))))))))))
    · replace c2 := bnot_f c2
      replace c2 := of_decide_eq_true c2
      obtain ⟨ke, km, kl, ⟨kp0, kp1, kp2⟩, ks, ks2⟩ := hok c2
      have herr := herrs c2
      refine Cd.skip (Rx.seq (Cd.seq (Cd.region (Rg.val (Val.move rfl) rfl (Rg.eff (Eff.give rfl rfl en17 rfl (fun w hm => Sums_gives' he hs (hm.rdb hR))) rfl fun _ _ => (Rg.val (Val.move rfl) rfl (Rg.val (Val.extract rfl rfl) rfl (Rg.val (Val.extract rfl rfl) rfl (Rg.eff (Eff.alloc 3 zv31 rfl) rfl fun b3 _ => (Rg.eff (Eff.storeAll (l := 3) sz31 rfl rfl rfl rfl rfl rfl) rfl fun _ _ => (Rg.val (Val.assign rfl) rfl (Rg.nil (Rx.seq (Cd.seq (Cd.region (Rg.val (Val.ia rfl rfl (ia30_0 _ _)) rfl (Rg.val (Val.load (l := 2) rfl rfl sc2 rfl) rfl (Rg.val (Val.ia rfl rfl (ia31_0 _ _)) rfl (Rg.val (Val.ia rfl rfl (ia30_0 _ _)) rfl (Rg.val (Val.load (l := 3) rfl rfl sc2 rfl) rfl (Rg.val (Val.mulN rfl rfl (by unfold in64; omega)) rfl (Rg.val (Val.ia rfl rfl (ia30_1 _ _)) rfl (Rg.val (Val.load (l := 2) rfl rfl sc2 rfl) rfl (Rg.val (Val.ia rfl rfl (ia31_1 _ _)) rfl (Rg.val (Val.ia rfl rfl (ia30_0 _ _)) rfl (Rg.val (Val.load (l := 3) rfl rfl sc2 rfl) rfl (Rg.val (Val.mulN rfl rfl (by unfold in64; omega)) rfl (Rg.val (Val.addN rfl rfl (by unfold in64; omega)) rfl (Rg.val (Val.ia rfl rfl (ia30_2 _ _)) rfl (Rg.val (Val.load (l := 2) rfl rfl sc2 rfl) rfl (Rg.val (Val.ia rfl rfl (ia31_2 _ _)) rfl (Rg.val (Val.ia rfl rfl (ia30_0 _ _)) rfl (Rg.val (Val.load (l := 3) rfl rfl sc2 rfl) rfl (Rg.val (Val.mulN rfl rfl (by unfold in64; omega)) rfl (Rg.val (Val.addN rfl rfl (by unfold in64; omega)) rfl (Rg.val (Val.assign rfl) rfl (Rg.nil (Rx.seq (Cd.seq ?_)))))))))))))))))))))))))))))))))))))))
      refine Cd.seq (Cd.region (Rg.val (Val.move rfl) rfl (Rg.val (Val.neq rfl rfl) rfl (Rg.val (Val.move rfl) rfl (Rg.know (t := 61) rfl (by simp [ke]) (Rg.on rfl rfl rfl (Rg.val (Val.move rfl) rfl (Rg.on rfl rfl rfl (Rg.val (Val.move rfl) rfl (Rg.on rfl rfl rfl (Rg.val (Val.lss rfl rfl) rfl (Rg.val (Val.pickF rfl rfl) rfl (Rg.val (Val.move rfl) rfl (Rg.know (t := 66) rfl (decide_eq_false (by omega)) (Rg.on rfl rfl rfl (Rg.val (Val.move rfl) rfl (Rg.on rfl rfl rfl (Rg.val (Val.move rfl) rfl (Rg.on rfl rfl rfl (Rg.val (Val.move rfl) rfl (Rg.on rfl rfl rfl (Rg.val (Val.len Try.underlying27 rfl) rfl (Rg.on rfl rfl rfl (Rg.val (Val.addN rfl rfl (by unfold in64; omega)) rfl (Rg.on rfl rfl rfl (Rg.val (Val.gtr rfl rfl) rfl (Rg.val (Val.pickF rfl rfl) rfl (Rg.nil (Rx.seq (Cd.know (t := 73) rfl (decide_eq_false (by omega)) (Cd.no rfl (Cd.skip (Rx.seq (Cd.seq (Cd.region (Rg.val (Val.move rfl) rfl (Rg.val (Val.move rfl) rfl (Rg.val (Val.move rfl) rfl (Rg.val (Val.as (Val.conv Try.underlying38 Try.underlying2 rfl) (congrArg (Value.int IntKind.i64) (i64_in' (by unfold in64; omega)))) rfl ?_)))))))))))))))))))))))))))))))))))))))
      refine Rg.val (Val.addN rfl rfl (by unfold in64; omega)) rfl (Rg.val (Val.loadAll (l := 1) rfl rfl ag29 rfl) rfl (Rg.eff (Eff.give rfl rfl en20 rfl (fun w hm => Shares_gives' h2 (hm.rdb hR))) rfl fun _ _ => (Rg.val (Val.move rfl) rfl (Rg.val (Val.extract rfl rfl) rfl (Rg.val (Val.extract rfl rfl) rfl (Rg.eff (Eff.alloc 4 zv30 rfl) rfl fun b4 _ => (Rg.eff (Eff.storeAll (l := 4) sz30 rfl rfl rfl rfl rfl rfl) rfl fun _ _ => (Rg.val (Val.assign rfl) rfl (Rg.nil (Rx.seq (Cd.seq (Cd.seq (Cd.region (Rg.val (Val.move rfl) rfl (Rg.val (Val.neq rfl rfl) rfl (Rg.nil (Rx.seq (Cd.cond rfl (fun c6 => ?_) (fun c6 => ?_)))))))))))))))))))
      · replace c6 := bnot_t c6
        replace c6 := of_decide_eq_false c6
        refine Cd.seq (Cd.region (Rg.val (Val.move rfl) rfl (Rg.val (Val.eql rfl rfl) rfl (Rg.val (Val.move rfl) rfl (Rg.split 88 rfl (fun c7 => ?_) (fun c7 => ?_))))))
        · replace c7 := of_decide_eq_true c7
          refine Rg.off rfl rfl rfl rfl (Rg.off rfl rfl rfl rfl (Rg.val (Val.pickT rfl rfl) rfl (Rg.val (Val.move rfl) rfl (Rg.on rfl rfl rfl (Rg.eff (Eff.give rfl rfl en16 rfl (fun w hm => known_gives w)) rfl fun _ _ => (Rg.val (Val.pickT rfl rfl) rfl (Rg.val (Val.assign rfl) rfl (Rg.nil (Rx.seq (Cd.ret (Rx.pastR (Rx.ret1 rfl rfl fun w hm_ => (⟨rfl, hm_.below⟩)))))))))))))
        · replace c7 := of_decide_eq_false c7
          refine Rg.on rfl rfl rfl (Rg.val (Val.move rfl) rfl (Rg.on rfl rfl rfl (Rg.val (Val.eql rfl rfl) rfl (Rg.val (Val.pickF rfl rfl) rfl (Rg.val (Val.move rfl) rfl (Rg.know (t := 92) rfl (decide_eq_true (by omega)) (Rg.on rfl rfl rfl (Rg.eff (Eff.give rfl rfl en16 rfl (fun w hm => known_gives w)) rfl fun _ _ => (Rg.val (Val.pickT rfl rfl) rfl (Rg.val (Val.assign rfl) rfl (Rg.nil (Rx.seq (Cd.ret (Rx.pastR (Rx.ret1 rfl rfl fun w hm_ => (⟨rfl, hm_.below⟩))))))))))))))))
      · replace c6 := bnot_f c6
        replace c6 := of_decide_eq_true c6
        obtain ⟨kb0, kb1, kb2⟩ := hnext c2 c6
        refine Cd.skip (Rx.seq (Cd.seq (Cd.region (Rg.val (Val.ia rfl rfl (ia30_0 _ _)) rfl (Rg.val (Val.load (l := 4) rfl rfl sc2 rfl) rfl (Rg.val (Val.ia rfl rfl (ia30_0 _ _)) rfl (Rg.val (Val.load (l := 2) rfl rfl sc2 rfl) rfl (Rg.val (Val.geq rfl rfl) rfl (Rg.val (Val.move rfl) rfl (Rg.know (t := 100) rfl (decide_eq_true (by omega)) (Rg.on rfl rfl rfl (Rg.val (Val.ia rfl rfl (ia30_1 _ _)) rfl (Rg.on rfl rfl rfl (Rg.val (Val.load (l := 4) rfl rfl sc2 rfl) rfl (Rg.on rfl rfl rfl (Rg.val (Val.ia rfl rfl (ia30_1 _ _)) rfl (Rg.on rfl rfl rfl (Rg.val (Val.load (l := 2) rfl rfl sc2 rfl) rfl (Rg.on rfl rfl rfl (Rg.val (Val.geq rfl rfl) rfl (Rg.val (Val.pickT rfl rfl) rfl (Rg.val (Val.move rfl) rfl (Rg.know (t := 107) rfl (decide_eq_true (by omega)) (Rg.on rfl rfl rfl (Rg.val (Val.ia rfl rfl (ia30_2 _ _)) rfl (Rg.on rfl rfl rfl (Rg.val (Val.load (l := 4) rfl rfl sc2 rfl) rfl (Rg.on rfl rfl rfl (Rg.val (Val.ia rfl rfl (ia30_2 _ _)) rfl (Rg.on rfl rfl rfl (Rg.val (Val.load (l := 2) rfl rfl sc2 rfl) rfl (Rg.on rfl rfl rfl (Rg.val (Val.geq rfl rfl) rfl (Rg.val (Val.pickT rfl rfl) rfl (Rg.val (Val.move rfl) rfl (Rg.know (t := 114) rfl (decide_eq_true (by omega)) (Rg.on rfl rfl rfl (Rg.eff (Eff.give rfl rfl en16 rfl (fun w hm => known_gives w)) rfl fun _ _ => (Rg.val (Val.pickT rfl rfl) rfl ?_)))))))))))))))))))))))))))))))))))))))
        refine Rg.val (Val.assign rfl) rfl (Rg.nil (Rx.seq (Cd.ret (Rx.ret1 rfl rfl fun w hm_ => (⟨rfl, hm_.below⟩)))))

end Go.Proofs.Ytfekoippjmojgaa
