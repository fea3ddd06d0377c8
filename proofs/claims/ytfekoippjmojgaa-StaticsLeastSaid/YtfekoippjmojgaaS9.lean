/- Walks of functions of the program: what each returns, told by plain functions; nothing that lay there is turned. -/
import Derived.Test.YtfekoippjmojgaaS8
namespace Go.Proofs.Ytfekoippjmojgaa
open Go.Kx Go.RowKit
set_option maxRecDepth 100000
set_option linter.unusedVariables false
set_option linter.unusedSimpArgs false
set_option linter.constructorNameAsVariable false
theorem floor_t {x y : Int} (hy : 0 < y) : (Int.tmod x y < 0 → x / y = Int.tdiv x y - 1) ∧ (¬ Int.tmod x y < 0 → x / y = Int.tdiv x y) := by
  rw [Int.tdiv_eq_ediv, Int.tmod_eq_emod]
  have hs : y.sign = 1 := Int.sign_eq_one_of_pos hy
  have h2 := Int.emod_nonneg x (show y ≠ 0 by omega)
  have h3 := Int.emod_lt_of_pos x hy
  by_cases h : 0 ≤ x ∨ y ∣ x
  · rw [if_pos h, if_pos h]; omega
  · rw [if_neg h, if_neg h]; omega
theorem floor_in {x y : Int} (hx : in64 x) (hy : 0 < y) : in64 (x / y) := by
  unfold in64 at *
  by_cases h : 0 ≤ x
  · have := Int.ediv_nonneg h (by omega : 0 ≤ y)
    have := Int.ediv_le_self y h
    omega
  · have h1 := Int.emod_add_mul_ediv x y
    have h2 := Int.emod_nonneg x (show y ≠ 0 by omega)
    have h3 := Int.emod_lt_of_pos x hy
    have hle : x / y < 0 := Int.ediv_lt_of_lt_mul hy (by omega)
    have hge : x ≤ x / y := by
      have : y * (x / y) + y ≤ 1 * (x / y) + 1 := by
        have := Int.mul_le_mul_of_nonneg_left (show 1 ≤ y by omega) (show 0 ≤ -(x / y) - 1 by omega)
        rw [Int.sub_mul, Int.sub_mul, Int.neg_mul, Int.neg_mul] at this
        rw [Int.mul_comm y]
        omega
      omega
    omega
theorem tdiv_bd {x y : Int} (hx : in64 x) (hy : 0 < y) : in64 (Int.tdiv x y) := by
  have h1 := floor_in hx hy
  unfold in64 at *
  by_cases h : Int.tmod x y < 0
  · have h2 := (floor_t hy).1 h
    have h3 : x < 0 := by
      by_cases hx0 : 0 ≤ x
      · rw [Int.tmod_eq_emod_of_nonneg hx0] at h
        have := Int.emod_nonneg x (show y ≠ 0 by omega)
        omega
      · omega
    have h4 : x / y < 0 := Int.ediv_lt_of_lt_mul hy (by omega)
    omega
  · have h2 := (floor_t hy).2 h
    omega
theorem pow31 : (2 : Int) ^ 31 = 2147483648 := by decide
theorem floor_gives (x y : Int) (w : World) (hx : in64 x) (hy : 0 < y) : Gives Try.prog 91 #[.int .i64 x, .int .i64 y] w (.int .i64 (x / y)) := by
  refine calls_of (vs := [.int .i64 x, .int .i64 y]) Try.func91 rfl rfl rfl ?_
  show Cd _ _ _ _ _ [(0, .int .i64 x), (1, .int .i64 y)] []
  refine Cd.seq (Cd.region (Rg.val (Val.assign rfl) rfl (Rg.nil (Rx.seq (Cd.seq (Cd.region (Rg.val (Val.move rfl) rfl (Rg.val (Val.move rfl) rfl (Rg.val (Val.as (Val.quo rfl rfl (by omega)) (congrArg (Value.int IntKind.i64) (i64_in' (tdiv_bd hx hy)))) rfl (Rg.val (Val.assign rfl) rfl (Rg.nil (Rx.seq (Cd.seq (Cd.seq (Cd.region (Rg.val (Val.move rfl) rfl (Rg.val (Val.move rfl) rfl (Rg.val (Val.rem rfl rfl (by omega)) rfl (Rg.val (Val.lss rfl rfl) rfl (Rg.nil (Rx.seq (Cd.cond rfl (fun c1 => ?_) (fun c1 => ?_)))))))))))))))))))))))
  · replace c1 := of_decide_eq_true c1
    refine Cd.region (Rg.val (Val.move rfl) rfl (Rg.val (Val.subN rfl rfl (by have := floor_in hx hy; rw [(floor_t hy).1 c1] at this; exact this)) rfl (Rg.val (Val.assign rfl) rfl (Rg.nil (Rx.seq (Cd.seq (Cd.region (Rg.val (Val.move rfl) rfl (Rg.val (Val.assign rfl) rfl (Rg.nil (Rx.seq (Cd.ret (Rx.ret1 rfl rfl fun w hm_ => (⟨by rw [(floor_t hy).1 c1], hm_.below⟩))))))))))))))
  · replace c1 := of_decide_eq_false c1
    refine Cd.skip (Rx.seq (Cd.seq (Cd.region (Rg.val (Val.move rfl) rfl (Rg.val (Val.assign rfl) rfl (Rg.nil (Rx.seq (Cd.ret (Rx.ret1 rfl rfl fun w hm_ => (⟨by rw [(floor_t hy).2 c1], hm_.below⟩))))))))))

theorem q_bd {q d r A s : Int} (hd : 0 < d) (hr : 0 ≤ r) (h : A * s = q * d + r) (hA : 0 ≤ A ∧ A ≤ 1073741824) (hs : 0 ≤ s ∧ s < d) : q ≤ 1073741824 := by
  have h1 : A * s ≤ 1073741824 * s := Int.mul_le_mul_of_nonneg_right hA.2 hs.1
  by_cases hq : q ≤ 1073741824
  · exact hq
  · have h2 : 1073741825 * d ≤ q * d := Int.mul_le_mul_of_nonneg_right (by omega) (by omega)
    omega
theorem down_end {a b d q r : Int} (hd : 0 < d) (hr : 0 ≤ r ∧ r < d) (h : a * (b % d) = q * d + r) : a * b / d = b / d * a + q := by
  have h1 : a * b = r + (b / d * a + q) * d := by
    have h2 : b = b % d + d * (b / d) := (Int.emod_add_mul_ediv b d).symm
    have h3 : a * b = a * (b % d) + a * (d * (b / d)) := by rw [← Int.mul_add, ← h2]
    rw [h3, h]; grind
  rw [h1, Int.add_mul_ediv_right _ _ (by omega), Int.ediv_eq_zero_of_lt hr.1 hr.2]; omega
theorem half_pow {a m M : Int} {i : Nat} (hi : 1 ≤ i) (hm : (2 : Int) ^ (i - 1) = m) (hM : (2 : Int) ^ i = M) (h : 0 ≤ a) : 0 < m ∧ a / m = 2 * (a / M) + Int.tmod (a / m) 2 ∧ (Int.tmod (a / m) 2 = 0 ∨ Int.tmod (a / m) 2 = 1) ∧ 0 ≤ a / m ∧ a / m ≤ a := by
  have hm0 : 0 < m := by rw [← hm]; exact Int.pow_pos (by decide)
  have e : M = m * 2 := by rw [← hM, ← hm, show i = (i - 1) + 1 from by omega, Int.pow_succ]; rfl
  have hn : 0 ≤ a / m := Int.ediv_nonneg h (by omega)
  rw [Int.tmod_eq_emod_of_nonneg hn, e, ← Int.ediv_ediv_of_nonneg (by omega)]
  exact ⟨hm0, by omega, by omega, hn, Int.ediv_le_self m h⟩
theorem refdown_gives (a b d : Int) (w : World) (ha : 0 ≤ a ∧ a ≤ 1073741824) (hb : in64 b) (hd : 0 < d ∧ d ≤ 1152921504606846976) : Gives Try.prog 92 #[.int .i64 a, .int .i64 b, .int .i64 d] w (.int .i64 (wrap64 (a * b / d))) := by
  have hmod : 0 ≤ b % d ∧ b % d < d := ⟨Int.emod_nonneg _ (by omega), Int.emod_lt_of_pos _ hd.1⟩
  refine calls_of (vs := [.int .i64 a, .int .i64 b, .int .i64 d]) Try.func92 rfl rfl rfl ?_
  show Cd _ _ _ _ _ [(0, .int .i64 a), (1, .int .i64 b), (2, .int .i64 d)] []
  refine Cd.seq (Cd.region (Rg.val (Val.assign rfl) rfl (Rg.nil (Rx.seq (Cd.seq (Cd.region (Rg.val (Val.move rfl) rfl (Rg.val (Val.move rfl) rfl (Rg.eff (Eff.give rfl rfl en91 rfl (fun w hm => floor_gives _ _ w hb hd.1)) rfl fun _ _ => (Rg.val (Val.assign rfl) rfl (Rg.nil (Rx.seq (Cd.seq (Cd.region (Rg.val (Val.move rfl) rfl (Rg.val (Val.move rfl) rfl (Rg.val (Val.move rfl) rfl (Rg.val (Val.mul rfl rfl) rfl (Rg.val (Val.as (Val.sub rfl rfl) (congrArg (Value.int IntKind.i64) (show wrap64 (b - wrap64 (b / d * d)) = b % d from by rw [wrap_sub_r, show b - b / d * d = b % d from by have := Int.emod_add_mul_ediv b d; rw [Int.mul_comm] at this; omega]; exact wrap_of (by unfold in64; omega)))) rfl (Rg.val (Val.assign rfl) rfl (Rg.nil (Rx.seq (Cd.seq (Cd.region (Rg.val (Val.assign rfl) rfl (Rg.val (Val.assign rfl) rfl (Rg.nil (Rx.seq (Cd.seq (Cd.seq (Cd.region (Rg.val (Val.assign rfl) rfl (Rg.nil (Rx.seq (Cd.block ?_)))))))))))))))))))))))))))))))))))
  refine Cd.loop (A := Nat × Int × Int) (fun pr_ : Nat × Int × Int => match pr_ with | (i, q, r) => i ≤ 31 ∧ (0 ≤ r ∧ r < d) ∧ 0 ≤ q ∧ a / (2 : Int) ^ i * (b % d) = q * d + r)
      (fun pr_ : Nat × Int × Int => match pr_ with | (i, q, r) => [(0, .int .i64 a), (2, .int .i64 d), (6, .int .i64 0), (7, .int .i64 (b / d)), (8, .int .i64 (b % d)), (9, .int .i64 q), (10, .int .i64 r), (11, .int .i64 ((i : Int) - 1))])
      (fun pr_ : Nat × Int × Int => match pr_ with | (i, q, r) => [])
      (fun pr_ : Nat × Int × Int => match pr_ with | (i, q, r) => i) (31, 0, 0) ?_ ⟨rfl, rfl, rfl, rfl, rfl, rfl, rfl, rfl, trivial⟩ trivial ?_
  · exact ⟨by decide, by omega, by decide, by rw [pow31, Int.ediv_eq_zero_of_lt ha.1 (by omega)]; simp⟩
  · rintro ⟨i, q, r⟩ ⟨hi, hr, hq, hI⟩
    show Cd _ _ _ _ _ [(0, .int .i64 a), (2, .int .i64 d), (6, .int .i64 0), (7, .int .i64 (b / d)), (8, .int .i64 (b % d)), (9, .int .i64 q), (10, .int .i64 r), (11, .int .i64 ((i : Int) - 1))] []
    refine Cd.seq (Cd.seq (Cd.region (Rg.val (Val.move rfl) rfl (Rg.val (Val.geq rfl rfl) rfl (Rg.nil (Rx.seq (Cd.cond rfl (fun c1 => ?_) (fun c1 => ?_))))))))
    · replace c1 := of_decide_eq_true c1
      obtain ⟨m, hmp⟩ : ∃ m, (2 : Int) ^ (i - 1) = m := ⟨_, rfl⟩
      obtain ⟨M, hMp⟩ : ∃ M, (2 : Int) ^ i = M := ⟨_, rfl⟩
      rw [hMp] at hI
      obtain ⟨hm0, hmd, hbit, hn0, hna⟩ := half_pow (a := a) (by omega) hmp hMp ha.1
      have hmm : (2 : Int) ^ (Nat.min ((i : Int) - 1).toNat IntKind.i64.bits) = m := by rw [show Nat.min ((i : Int) - 1).toNat IntKind.i64.bits = i - 1 from by show Nat.min ((i : Int) - 1).toNat 64 = i - 1; rw [show ((i : Int) - 1).toNat = i - 1 from by omega]; exact Nat.min_eq_left (by omega)]; exact hmp
      have hMA : 0 ≤ a / M ∧ a / M ≤ 1073741824 := by omega
      have hqb := q_bd (d := d) (s := b % d) (by omega) hr.1 hI hMA (by omega)
      refine Cd.skip (Rx.seq (Cd.seq (Cd.block (Cd.seq (Cd.region (Rg.val (Val.move rfl) rfl (Rg.val (Val.mulN rfl rfl (by unfold in64; omega)) rfl (Rg.val (Val.move rfl) rfl (Rg.val (Val.mulN rfl rfl (by unfold in64; omega)) rfl (Rg.val (Val.assign rfl) rfl (Rg.val (Val.assign rfl) rfl (Rg.nil (Rx.seq ?_)))))))))))))
      refine Cd.cut (A := Int) (fun r1 : Int => (0 ≤ r1 ∧ r1 < 3 * d) ∧ a / m * (b % d) = 2 * q * d + r1) (fun r1 : Int => [(0, .int .i64 a), (2, .int .i64 d), (6, .int .i64 0), (7, .int .i64 (b / d)), (8, .int .i64 (b % d)), (9, .int .i64 (2 * q)), (10, .int .i64 r1), (11, .int .i64 ((i : Int) - 1))]) (fun r1 : Int => []) ?_ ?_
      · refine Cd.seq (Cd.region (Rg.val (Val.move rfl) rfl (Rg.val (Val.move rfl) rfl (Rg.val (Val.as (Val.conv Try.underlying3 Try.underlying139 rfl) (congrArg (Value.int IntKind.u64) (show IntKind.u64.wrap ((i : Int) - 1) = (i : Int) - 1 from u64_in (by omega)))) rfl (Rg.val (Val.shr (m := m) rfl rfl (by omega) hmm) rfl (Rg.val (Val.rem rfl rfl (by omega)) rfl (Rg.val (Val.eql rfl rfl) rfl (Rg.nil (Rx.seq (Cd.cond rfl (fun c2 => ?_) (fun c2 => ?_)))))))))))
        · replace c2 := of_decide_eq_true c2
          refine Cd.region (Rg.val (Val.move rfl) rfl (Rg.val (Val.move rfl) rfl (Rg.val (Val.addN rfl rfl (by unfold in64; omega)) rfl (Rg.val (Val.assign rfl) rfl (Rg.nil ?_)))))
          refine Rx.meet ((2 * r) + (b % d)) ⟨⟨by omega, by omega⟩, by have e1 : a / m = 2 * (a / M) + 1 := (by omega); rw [e1, Int.add_mul, Int.mul_assoc, hI]; grind⟩ ⟨rfl, rfl, rfl, rfl, rfl, rfl, rfl, rfl, trivial⟩ trivial
        · replace c2 := of_decide_eq_false c2
          refine Cd.skip ?_
          refine Rx.meet (2 * r) ⟨⟨by omega, by omega⟩, by have e1 : a / m = 2 * (a / M) := (by omega); rw [e1, Int.mul_assoc, hI]; grind⟩ ⟨rfl, rfl, rfl, rfl, rfl, rfl, rfl, rfl, trivial⟩ trivial
      · rintro r1 ⟨hr1, hI1⟩
        show Cd _ _ _ _ _ [(0, .int .i64 a), (2, .int .i64 d), (6, .int .i64 0), (7, .int .i64 (b / d)), (8, .int .i64 (b % d)), (9, .int .i64 (2 * q)), (10, .int .i64 r1), (11, .int .i64 ((i : Int) - 1))] []
        refine Cd.block ?_
        refine Cd.loop (A := Int × Int) (fun pr_ : Int × Int => match pr_ with | (q1, r2) => (0 ≤ r2 ∧ r2 < 3 * d) ∧ 0 ≤ q1 ∧ a / m * (b % d) = q1 * d + r2)
            (fun pr_ : Int × Int => match pr_ with | (q1, r2) => [(0, .int .i64 a), (2, .int .i64 d), (6, .int .i64 0), (7, .int .i64 (b / d)), (8, .int .i64 (b % d)), (9, .int .i64 q1), (10, .int .i64 r2), (11, .int .i64 ((i : Int) - 1))])
            (fun pr_ : Int × Int => match pr_ with | (q1, r2) => [])
            (fun pr_ : Int × Int => match pr_ with | (q1, r2) => r2.toNat) (2 * q, r1) ?_ ⟨rfl, rfl, rfl, rfl, rfl, rfl, rfl, rfl, trivial⟩ trivial ?_
        · exact ⟨hr1, by omega, hI1⟩
        · rintro ⟨q1, r2⟩ ⟨hr2, hq1, hI2⟩
          show Cd _ _ _ _ _ [(0, .int .i64 a), (2, .int .i64 d), (6, .int .i64 0), (7, .int .i64 (b / d)), (8, .int .i64 (b % d)), (9, .int .i64 q1), (10, .int .i64 r2), (11, .int .i64 ((i : Int) - 1))] []
          have hqb1 := q_bd (d := d) (s := b % d) (by omega) hr2.1 hI2 (by omega) (by omega)
          refine Cd.seq (Cd.seq (Cd.region (Rg.val (Val.move rfl) rfl (Rg.val (Val.move rfl) rfl (Rg.val (Val.geq rfl rfl) rfl (Rg.nil (Rx.seq (Cd.cond rfl (fun c3 => ?_) (fun c3 => ?_)))))))))
          · replace c3 := of_decide_eq_true c3
            refine Cd.skip (Rx.seq (Cd.block (Cd.seq (Cd.region (Rg.val (Val.move rfl) rfl (Rg.val (Val.move rfl) rfl (Rg.val (Val.subN rfl rfl (by unfold in64; omega)) rfl (Rg.val (Val.assign rfl) rfl (Rg.nil (Rx.seq (Cd.region (Rg.val (Val.move rfl) rfl (Rg.val (Val.addN rfl rfl (by unfold in64; omega)) rfl (Rg.val (Val.assign rfl) rfl (Rg.nil (Rx.inb ?_))))))))))))))))
            refine Rx.meet (q1 + 1, r2 - d) ⟨⟨by omega, by omega, by rw [Int.add_mul]; omega⟩, by show (r2 - d).toNat < r2.toNat; omega⟩ ⟨rfl, rfl, rfl, rfl, rfl, rfl, rfl, rfl, trivial⟩ trivial
          · replace c3 := of_decide_eq_false c3
            refine Cd.exit (Rx.pastE (Rx.pastE (Rx.hit (Rx.inb (Rx.seq (Cd.region (Rg.val (Val.move rfl) rfl (Rg.val (Val.as (Val.subN rfl rfl (by unfold in64; omega)) (congrArg (Value.int IntKind.i64) (show (i : Int) - 1 - 1 = ((i - 1 : Nat) : Int) - 1 from by omega))) rfl (Rg.val (Val.assign rfl) rfl (Rg.nil ?_))))))))))
            refine Rx.meet (i - 1, q1, r2) ⟨⟨by omega, by omega, hq1, by rw [hmp]; exact hI2⟩, by show i - 1 < i; omega⟩ ⟨rfl, rfl, rfl, rfl, rfl, rfl, rfl, rfl, trivial⟩ trivial
    · replace c1 := of_decide_eq_false c1
      refine Cd.exit (Rx.pastE (Rx.pastE (Rx.hit (Rx.seq (Cd.seq (Cd.region (Rg.val (Val.move rfl) rfl (Rg.val (Val.move rfl) rfl (Rg.val (Val.mul rfl rfl) rfl (Rg.val (Val.move rfl) rfl (Rg.val (Val.add rfl rfl) rfl (Rg.val (Val.assign rfl) rfl (Rg.nil (Rx.seq (Cd.ret (Rx.ret1 rfl rfl fun w hm_ => (⟨by have hz : i = 0 := (by omega); subst hz; rw [Int.pow_zero, Int.ediv_one] at hI; rw [down_end hd.1 hr hI, wrap_add_l], hm_.below⟩)))))))))))))))))

theorem refup_gives (a b d : Int) (w : World) (ha : 0 ≤ a ∧ a ≤ 1073741824) (hb : -9223372036854775808 < b ∧ b ≤ 9223372036854775807) (hd : 0 < d ∧ d ≤ 1152921504606846976) : Gives Try.prog 107 #[.int .i64 a, .int .i64 b, .int .i64 d] w (.int .i64 (wrap64 (upDiv a b d))) := by
  refine calls_of (vs := [.int .i64 a, .int .i64 b, .int .i64 d]) Try.func107 rfl rfl rfl ?_
  show Cd _ _ _ _ _ [(0, .int .i64 a), (1, .int .i64 b), (2, .int .i64 d)] []
  refine Cd.seq (Cd.region (Rg.val (Val.assign rfl) rfl (Rg.nil (Rx.seq (Cd.seq (Cd.region (Rg.val (Val.move rfl) rfl (Rg.val (Val.move rfl) rfl (Rg.val (Val.negN rfl (by unfold in64; omega)) rfl (Rg.val (Val.move rfl) rfl (Rg.eff (Eff.give rfl rfl en92 rfl (fun w hm => refdown_gives _ _ _ w ha (by unfold in64; omega) hd)) rfl fun _ _ => (Rg.val (Val.neg rfl) rfl (Rg.val (Val.assign rfl) rfl (Rg.nil (Rx.seq (Cd.ret (Rx.ret1 rfl rfl fun w hm_ => (⟨by rw [wrap_neg]; unfold upDiv; rw [Int.mul_neg, Int.neg_mul], hm_.below⟩))))))))))))))))))

end Go.Proofs.Ytfekoippjmojgaa
