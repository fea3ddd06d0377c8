/- Walks of functions of the program: what each returns, told by plain functions; nothing that lay there is turned. -/
import Derived.Test.YtfekoippjmojgaaS1
namespace Go.Proofs.Ytfekoippjmojgaa
open Go.Kx Go.RowKit
set_option maxRecDepth 100000
set_option linter.unusedVariables false
set_option linter.unusedSimpArgs false
set_option linter.constructorNameAsVariable false
theorem mul_bd {q b : Int} (hq : 0 ≤ q) (hq2 : q < 4294967296) (hb : 0 ≤ b ∧ b < 4294967296) : 0 ≤ q * b ∧ q * b < 18446744073709551616 := by
  have h1 : q * b ≤ 4294967295 * b := Int.mul_le_mul_of_nonneg_right (by omega) hb.1
  exact ⟨Int.mul_nonneg hq hb.1, by omega⟩
theorem div64_gives (hi lo y : Int) (w : World) (hh : 0 ≤ hi ∧ hi < y) (hl : 0 ≤ lo ∧ lo < 18446744073709551616) (hy : y < 18446744073709551616) : Gives Try.prog 121 #[.int .u64 hi, .int .u64 lo, .int .u64 y] w (.tuple #[.int .u64 ((hi * 18446744073709551616 + lo) / y), .int .u64 ((hi * 18446744073709551616 + lo) % y)]) := by
  obtain ⟨s, m, m2, hs, hslt, hm, hm2, hm0, hm20, hmm, hv1, hv2⟩ := norm_spec (y := y) (by omega)
  have hm1 : (2 : Int) ^ (Nat.min ((s : Int)).toNat IntKind.u64.bits) = m := by rw [Int.toNat_natCast, show Nat.min s IntKind.u64.bits = s from Nat.min_eq_left (by show s ≤ 64; omega)]; exact hm
  have hm3 : (2 : Int) ^ (Nat.min (64 - (s : Int)).toNat IntKind.u64.bits) = m2 := by rw [show (64 - (s : Int)).toNat = 64 - s from by omega, show Nat.min (64 - s) IntKind.u64.bits = 64 - s from Nat.min_eq_left (by show 64 - s ≤ 64; omega)]; exact hm2
  obtain ⟨v, hv⟩ : ∃ v, y * m = v := ⟨_, rfl⟩
  obtain ⟨a, ha⟩ : ∃ a, v / 4294967296 = a := ⟨_, rfl⟩
  obtain ⟨b, hb⟩ : ∃ b, v % 4294967296 = b := ⟨_, rfl⟩
  obtain ⟨R, hR⟩ : ∃ R, hi * m + lo / m2 = R := ⟨_, rfl⟩
  obtain ⟨L, hL⟩ : ∃ L, wu64 (lo * m) = L := ⟨_, rfl⟩
  rw [hv] at hv1 hv2
  have hz : 0 ≤ lo / m2 ∧ lo / m2 < m := ⟨Int.ediv_nonneg (by omega) (by omega), Int.ediv_lt_of_lt_mul hm20 (by omega)⟩
  have hhm : 0 ≤ hi * m := Int.mul_nonneg (by omega) (by omega)
  have hym : (hi + 1) * m ≤ y * m := Int.mul_le_mul_of_nonneg_right (by omega) (by omega)
  have hym2 : (hi + 1) * m = hi * m + m := by rw [Int.add_mul, Int.one_mul]
  have hLb := wu64_bd (lo * m)
  rw [hL] at hLb
  have hU : R * 18446744073709551616 + L = (hi * 18446744073709551616 + lo) * m := by
    have h1 := lo_part (lo := lo) (s := s) (by omega)
    rw [hm, hm2] at h1
    have e64 : (2 : Int) ^ 64 = 18446744073709551616 := by decide
    rw [e64] at h1
    unfold wu64 at hL
    rw [Int.add_mul]
    have h2 : hi * 18446744073709551616 * m = hi * m * 18446744073709551616 := by rw [Int.mul_assoc, Int.mul_comm 18446744073709551616 m, ← Int.mul_assoc]
    omega
  have hD := Digit.start (R := R) (d := L / 4294967296) (v := v) (a := a) (b := b) (by omega) (by omega) (by omega) (by omega) (by omega)
  refine calls_of (vs := [.int .u64 hi, .int .u64 lo, .int .u64 y]) Try.func121 rfl rfl rfl ?_
  show Cd _ _ _ _ _ [(0, .int .u64 hi), (1, .int .u64 lo), (2, .int .u64 y)] []
  refine Cd.seq (Cd.region (Rg.val (Val.assign rfl) rfl (Rg.val (Val.assign rfl) rfl (Rg.nil (Rx.seq (Cd.seq (Cd.seq (Cd.region (Rg.val (Val.move rfl) rfl (Rg.val (Val.eql rfl rfl) rfl (Rg.nil (Rx.seq (Cd.cond rfl (fun c1 => ?_) (fun c1 => ?_))))))))))))))
  · replace c1 := of_decide_eq_true c1
    exfalso; omega
  · replace c1 := of_decide_eq_false c1
    refine Cd.skip (Rx.seq (Cd.seq (Cd.seq (Cd.region (Rg.val (Val.move rfl) rfl (Rg.val (Val.move rfl) rfl (Rg.val (Val.leq rfl rfl) rfl (Rg.nil (Rx.seq (Cd.cond rfl (fun c2 => ?_) (fun c2 => ?_)))))))))))
    · replace c2 := of_decide_eq_true c2
      exfalso; omega
    · replace c2 := of_decide_eq_false c2
      refine Cd.skip (Rx.seq (Cd.seq (Cd.seq (Cd.region (Rg.val (Val.move rfl) rfl (Rg.val (Val.eql rfl rfl) rfl (Rg.nil (Rx.seq (Cd.cond rfl (fun c3 => ?_) (fun c3 => ?_))))))))))
      · replace c3 := of_decide_eq_true c3
        refine Cd.seq (Cd.draw [] mixed rfl (Dr.take 0 rfl (by kernel_rfl) (Val.move rfl) rfl trivial (Dr.take 1 rfl (by kernel_rfl) (Val.move rfl) rfl trivial (Dr.take 2 rfl (by kernel_rfl) (Val.quo rfl rfl (by omega)) rfl trivial (Dr.take 3 rfl (by kernel_rfl) (Val.move rfl) rfl trivial (Dr.take 4 rfl (by kernel_rfl) (Val.move rfl) rfl trivial (Dr.take 5 rfl (by kernel_rfl) (Val.rem rfl rfl (by omega)) rfl trivial (Dr.take 6 rfl (by kernel_rfl) (Val.assign rfl) rfl trivial (Dr.take 7 rfl (by kernel_rfl) (Val.assign rfl) rfl trivial (Dr.done (by kernel_rfl) (Rx.seq (Cd.ret (Rx.pastR (Rx.ret2 rfl rfl rfl fun w hm_ => (⟨by rw [Int.tdiv_eq_ediv_of_nonneg (by omega), Int.tmod_eq_emod_of_nonneg (by omega), c3]; simp only [Int.zero_mul, Int.zero_add]; rw [u64_in ⟨Int.ediv_nonneg (by omega) (by omega), by have := Int.ediv_le_self y hl.1; omega⟩], hm_.below⟩)))))))))))))))
      · replace c3 := of_decide_eq_false c3
        refine Cd.skip (Rx.seq (Cd.seq (Cd.region (Rg.val (Val.move rfl) rfl (Rg.eff (Eff.give rfl rfl en126 rfl (fun w hm => lz64_gives _ w (by omega))) rfl fun _ _ => (Rg.val (Val.as (Val.conv Try.underlying3 Try.underlying139 rfl) (congrArg (Value.int IntKind.u64) (show IntKind.u64.wrap (64 - (len64 y : Int)) = (s : Int) from by rw [hs]; exact u64_in (by omega)))) rfl (Rg.val (Val.assign rfl) rfl (Rg.nil (Rx.seq (Cd.seq (Cd.region (Rg.val (Val.move rfl) rfl (Rg.val (Val.move rfl) rfl (Rg.val (Val.as (Val.shl (m := m) rfl rfl (by omega) hm1) (congrArg (Value.int IntKind.u64) (show IntKind.u64.wrap (y * m) = v from by rw [hv]; exact u64_in (by omega)))) rfl (Rg.val (Val.assign rfl) rfl (Rg.nil (Rx.seq (Cd.seq (Cd.region (Rg.val (Val.move rfl) rfl (Rg.val (Val.as (Val.shr (m := 4294967296) rfl rfl (by decide) (by decide)) (congrArg (Value.int IntKind.u64) (ha))) rfl (Rg.val (Val.assign rfl) rfl (Rg.nil (Rx.seq (Cd.seq (Cd.region (Rg.val (Val.move rfl) rfl (Rg.val (Val.as (Val.maskU rfl rfl (by omega)) (congrArg (Value.int IntKind.u64) (hb))) rfl (Rg.val (Val.assign rfl) rfl (Rg.nil (Rx.seq (Cd.seq (Cd.region (Rg.val (Val.move rfl) rfl (Rg.val (Val.move rfl) rfl (Rg.val (Val.as (Val.shl (m := m) rfl rfl (by omega) hm1) (congrArg (Value.int IntKind.u64) (show IntKind.u64.wrap (hi * m) = hi * m from u64_in (by omega)))) rfl (Rg.val (Val.move rfl) rfl (Rg.val (Val.move rfl) rfl (Rg.val (Val.as (Val.subU rfl rfl) (congrArg (Value.int IntKind.u64) (show wu64 (64 - (s : Int)) = 64 - (s : Int) from wu64_id (by omega)))) rfl ?_)))))))))))))))))))))))))))))))))))))))
        refine Rg.val (Val.as (Val.shr (m := m2) rfl rfl (by omega) hm3) (congrArg (Value.int IntKind.u64) (rfl))) rfl (Rg.val (Val.orU (r := R) rfl rfl (hR ▸ or_word hslt hm hh.1 (by omega) hz) (by omega)) rfl (Rg.val (Val.assign rfl) rfl (Rg.nil (Rx.seq (Cd.seq (Cd.region (Rg.val (Val.move rfl) rfl (Rg.val (Val.move rfl) rfl (Rg.val (Val.as (Val.shl (m := m) rfl rfl (by omega) hm1) (congrArg (Value.int IntKind.u64) (show IntKind.u64.wrap (lo * m) = L from u64_wrap.trans hL))) rfl (Rg.val (Val.assign rfl) rfl (Rg.nil (Rx.seq (Cd.seq (Cd.region (Rg.val (Val.move rfl) rfl (Rg.val (Val.shr (m := 4294967296) rfl rfl (by decide) (by decide)) rfl (Rg.val (Val.assign rfl) rfl (Rg.nil (Rx.seq (Cd.seq (Cd.region (Rg.val (Val.move rfl) rfl (Rg.val (Val.maskU rfl rfl (by first | omega | exact wu64_bd _)) rfl (Rg.val (Val.assign rfl) rfl (Rg.nil (Rx.seq (Cd.seq (Cd.region (Rg.val (Val.move rfl) rfl (Rg.val (Val.move rfl) rfl (Rg.val (Val.as (Val.quo rfl rfl (by omega)) (congrArg (Value.int IntKind.u64) (show IntKind.u64.wrap (Int.tdiv R a) = R / a from by rw [Int.tdiv_eq_ediv_of_nonneg (by omega)]; exact u64_in ⟨(hD.1.hq).1, by have := hD.1.hq; omega⟩))) rfl (Rg.val (Val.assign rfl) rfl (Rg.nil (Rx.seq (Cd.seq (Cd.region (Rg.val (Val.move rfl) rfl (Rg.val (Val.move rfl) rfl (Rg.val (Val.move rfl) rfl ?_)))))))))))))))))))))))))))))))))))))))
        refine Rg.val (Val.as (Val.mulU rfl rfl) (congrArg (Value.int IntKind.u64) (show wu64 (R / a * a) = R / a * a from wu64_id (by have := hD.1.hr; have := hD.1.he; have := hD.2; have := Int.mul_nonneg hD.1.hq.1 (show 0 ≤ a by omega); omega)))) rfl (Rg.val (Val.as (Val.subU rfl rfl) (congrArg (Value.int IntKind.u64) (show wu64 (R - R / a * a) = R - R / a * a from wu64_id (by have := hD.1.hr; have := hD.2; omega)))) rfl (Rg.val (Val.assign rfl) rfl (Rg.nil (Rx.seq ?_))))
        refine Cd.cut (A := Int) (fun q1 : Int => q1 = (R * 4294967296 + L / 4294967296) / v) (fun q1 : Int => [(2, .int .u64 v), (6, .int .u64 0), (7, .int .u64 0), (8, .int .u64 (s : Int)), (9, .int .u64 a), (10, .int .u64 b), (11, .int .u64 R), (13, .int .u64 (L / 4294967296)), (14, .int .u64 (L % 4294967296)), (15, .int .u64 q1)]) (fun q1 : Int => []) ?_ ?_
        · refine Cd.block ?_
          refine Cd.loop (A := Int × Int) (fun pr_ : Int × Int => match pr_ with | (q, r) => Digit R (L / 4294967296) v a b q r ∧ r < 4294967296)
              (fun pr_ : Int × Int => match pr_ with | (q, r) => [(2, .int .u64 v), (6, .int .u64 0), (7, .int .u64 0), (8, .int .u64 (s : Int)), (9, .int .u64 a), (10, .int .u64 b), (11, .int .u64 R), (13, .int .u64 (L / 4294967296)), (14, .int .u64 (L % 4294967296)), (15, .int .u64 q), (16, .int .u64 r)])
              (fun pr_ : Int × Int => match pr_ with | (q, r) => [])
              (fun pr_ : Int × Int => match pr_ with | (q, r) => (4294967296 - r).toNat) (R / a, R - R / a * a) ?_ ⟨rfl, rfl, rfl, rfl, rfl, rfl, rfl, rfl, rfl, rfl, rfl, trivial⟩ trivial ?_
          · exact ⟨hD.1, by have := hD.2; omega⟩
          · rintro ⟨q, r⟩ ⟨hI, hr⟩
            show Cd _ _ _ _ _ [(2, .int .u64 v), (6, .int .u64 0), (7, .int .u64 0), (8, .int .u64 (s : Int)), (9, .int .u64 a), (10, .int .u64 b), (11, .int .u64 R), (13, .int .u64 (L / 4294967296)), (14, .int .u64 (L % 4294967296)), (15, .int .u64 q), (16, .int .u64 r)] []
            refine Cd.seq (Cd.seq (Cd.region (Rg.val (Val.move rfl) rfl (Rg.val (Val.geq rfl rfl) rfl (Rg.val (Val.move rfl) rfl (Rg.split 69 rfl (fun c4 => ?_) (fun c4 => ?_)))))))
            · replace c4 := of_decide_eq_true c4
              have hI' := hI.less (by omega)
              refine Rg.off rfl rfl rfl rfl (Rg.off rfl rfl rfl rfl (Rg.off rfl rfl rfl rfl (Rg.off rfl rfl rfl rfl (Rg.off rfl rfl rfl rfl (Rg.off rfl rfl rfl rfl (Rg.off rfl rfl rfl rfl (Rg.off rfl rfl rfl rfl (Rg.val (Val.pickT rfl rfl) rfl (Rg.nil (Rx.seq (Cd.yes rfl (Cd.skip (Rx.seq (Cd.block (Cd.seq (Cd.region (Rg.val (Val.move rfl) rfl (Rg.val (Val.as (Val.subU rfl rfl) (congrArg (Value.int IntKind.u64) (show wu64 (q - 1) = q - 1 from wu64_id (by have := hI'.hq; have := hI.hq; omega)))) rfl (Rg.val (Val.assign rfl) rfl (Rg.nil (Rx.seq (Cd.seq (Cd.region (Rg.val (Val.move rfl) rfl (Rg.val (Val.move rfl) rfl (Rg.val (Val.as (Val.addU rfl rfl) (congrArg (Value.int IntKind.u64) (show wu64 (r + a) = r + a from wu64_id (by have := hI.hr; omega)))) rfl (Rg.val (Val.assign rfl) rfl (Rg.nil (Rx.seq (Cd.seq (Cd.region (Rg.val (Val.move rfl) rfl (Rg.val (Val.geq rfl rfl) rfl (Rg.nil (Rx.seq (Cd.cond rfl (fun c5 => ?_) (fun c5 => ?_)))))))))))))))))))))))))))))))))))))
              · replace c5 := of_decide_eq_true c5
                refine Cd.exit (Rx.miss rfl (Rx.pastE (Rx.hit ?_)))
                refine Rx.meet (q - 1) (by first | exact hI.right (by omega) | exact hI'.right' (by have := hI.hq; have := hI'.hq; omega) (by omega)) ⟨rfl, rfl, rfl, rfl, rfl, rfl, rfl, rfl, rfl, rfl, trivial⟩ trivial
              · replace c5 := of_decide_eq_false c5
                refine Cd.skip (Rx.inb ?_)
                refine Rx.meet (q - 1, r + a) ⟨⟨hI', by omega⟩, by show (4294967296 - (r + a)).toNat < (4294967296 - r).toNat; have := hI'.hr; have := hI.hr; have := hI.ha; omega⟩ ⟨rfl, rfl, rfl, rfl, rfl, rfl, rfl, rfl, rfl, rfl, rfl, trivial⟩ trivial
            · replace c4 := of_decide_eq_false c4
              refine Rg.on rfl rfl rfl (Rg.val (Val.move rfl) rfl (Rg.on rfl rfl rfl (Rg.val (Val.move rfl) rfl (Rg.on rfl rfl rfl (Rg.val (Val.as (Val.mulU rfl rfl) (congrArg (Value.int IntKind.u64) (show wu64 (q * b) = q * b from wu64_id (mul_bd hI.hq.1 (by omega) hI.hb)))) rfl (Rg.on rfl rfl rfl (Rg.val (Val.move rfl) rfl (Rg.on rfl rfl rfl (Rg.val (Val.as (Val.mulU rfl rfl) (congrArg (Value.int IntKind.u64) (show wu64 (4294967296 * r) = 4294967296 * r from wu64_id (by have := hI.hr; omega)))) rfl (Rg.on rfl rfl rfl (Rg.val (Val.move rfl) rfl (Rg.on rfl rfl rfl (Rg.val (Val.as (Val.addU rfl rfl) (congrArg (Value.int IntKind.u64) (show wu64 (4294967296 * r + L / 4294967296) = 4294967296 * r + L / 4294967296 from wu64_id (by have := hI.hr; omega)))) rfl (Rg.on rfl rfl rfl (Rg.val (Val.gtr rfl rfl) rfl (Rg.val (Val.pickF rfl rfl) rfl (Rg.nil (Rx.seq (Cd.cond rfl (fun c6 => ?_) (fun c6 => ?_))))))))))))))))))))
              · replace c6 := of_decide_eq_true c6
                have hI' := hI.less (by omega)
                refine Cd.skip (Rx.seq (Cd.block (Cd.seq (Cd.region (Rg.val (Val.move rfl) rfl (Rg.val (Val.as (Val.subU rfl rfl) (congrArg (Value.int IntKind.u64) (show wu64 (q - 1) = q - 1 from wu64_id (by have := hI'.hq; have := hI.hq; omega)))) rfl (Rg.val (Val.assign rfl) rfl (Rg.nil (Rx.seq (Cd.seq (Cd.region (Rg.val (Val.move rfl) rfl (Rg.val (Val.move rfl) rfl (Rg.val (Val.as (Val.addU rfl rfl) (congrArg (Value.int IntKind.u64) (show wu64 (r + a) = r + a from wu64_id (by have := hI.hr; omega)))) rfl (Rg.val (Val.assign rfl) rfl (Rg.nil (Rx.seq (Cd.seq (Cd.region (Rg.val (Val.move rfl) rfl (Rg.val (Val.geq rfl rfl) rfl (Rg.nil (Rx.seq (Cd.cond rfl (fun c7 => ?_) (fun c7 => ?_)))))))))))))))))))))))))
                · replace c7 := of_decide_eq_true c7
                  refine Cd.exit (Rx.miss rfl (Rx.pastE (Rx.hit ?_)))
                  refine Rx.meet (q - 1) (by first | exact hI.right (by omega) | exact hI'.right' (by have := hI.hq; have := hI'.hq; omega) (by omega)) ⟨rfl, rfl, rfl, rfl, rfl, rfl, rfl, rfl, rfl, rfl, trivial⟩ trivial
                · replace c7 := of_decide_eq_false c7
                  refine Cd.skip (Rx.inb ?_)
                  refine Rx.meet (q - 1, r + a) ⟨⟨hI', by omega⟩, by show (4294967296 - (r + a)).toNat < (4294967296 - r).toNat; have := hI'.hr; have := hI.hr; have := hI.ha; omega⟩ ⟨rfl, rfl, rfl, rfl, rfl, rfl, rfl, rfl, rfl, rfl, rfl, trivial⟩ trivial
              · replace c6 := of_decide_eq_false c6
                refine Cd.exit (Rx.pastE (Rx.pastE (Rx.hit ?_)))
                refine Rx.meet q (by first | exact hI.right (by omega) | exact hI'.right' (by have := hI.hq; have := hI'.hq; omega) (by omega)) ⟨rfl, rfl, rfl, rfl, rfl, rfl, rfl, rfl, rfl, rfl, trivial⟩ trivial
        · rintro q1 hq1
          show Cd _ _ _ _ _ [(2, .int .u64 v), (6, .int .u64 0), (7, .int .u64 0), (8, .int .u64 (s : Int)), (9, .int .u64 a), (10, .int .u64 b), (11, .int .u64 R), (13, .int .u64 (L / 4294967296)), (14, .int .u64 (L % 4294967296)), (15, .int .u64 q1)] []
          obtain ⟨R1, hR1⟩ : ∃ R1, R * 4294967296 + L / 4294967296 - q1 * v = R1 := ⟨_, rfl⟩
          have hRv := div_unit (R := R) (d := L / 4294967296) (v := v) (q := q1) (by omega) hq1
          have hR1w : wu64 (wu64 (wu64 (R * 4294967296) + L / 4294967296) - wu64 (q1 * v)) = R1 := by unfold wu64; omega
          have hD1 := Digit.start (R := R1) (d := L % 4294967296) (v := v) (a := a) (b := b) (by omega) (by omega) (by omega) (by omega) (by omega)
          have hq1b := (Digit.start (R := R) (d := L / 4294967296) (v := v) (a := a) (b := b) (by omega) (by omega) (by omega) (by omega) (by omega)).1.big
          have hq10 : 0 ≤ q1 := by rw [hq1]; exact Int.ediv_nonneg (by omega) (by omega)
          rw [← hq1] at hq1b
          refine Cd.seq (Cd.region (Rg.val (Val.move rfl) rfl (Rg.val (Val.mulU rfl rfl) rfl (Rg.val (Val.move rfl) rfl (Rg.val (Val.addU rfl rfl) rfl (Rg.val (Val.move rfl) rfl (Rg.val (Val.move rfl) rfl (Rg.val (Val.mulU rfl rfl) rfl (Rg.val (Val.as (Val.subU rfl rfl) (congrArg (Value.int IntKind.u64) (hR1w))) rfl (Rg.val (Val.assign rfl) rfl (Rg.nil (Rx.seq (Cd.seq (Cd.region (Rg.val (Val.move rfl) rfl (Rg.val (Val.move rfl) rfl (Rg.val (Val.as (Val.quo rfl rfl (by omega)) (congrArg (Value.int IntKind.u64) (show IntKind.u64.wrap (Int.tdiv R1 a) = R1 / a from by rw [Int.tdiv_eq_ediv_of_nonneg (by omega)]; exact u64_in ⟨(hD1.1.hq).1, by have := hD1.1.hq; omega⟩))) rfl (Rg.val (Val.assign rfl) rfl (Rg.nil (Rx.seq (Cd.seq (Cd.region (Rg.val (Val.move rfl) rfl (Rg.val (Val.move rfl) rfl (Rg.val (Val.move rfl) rfl (Rg.val (Val.as (Val.mulU rfl rfl) (congrArg (Value.int IntKind.u64) (show wu64 (R1 / a * a) = R1 / a * a from wu64_id (by have := hD1.1.hr; have := hD1.1.he; have := hD1.2; have := Int.mul_nonneg hD1.1.hq.1 (show 0 ≤ a by omega); omega)))) rfl (Rg.val (Val.as (Val.subU rfl rfl) (congrArg (Value.int IntKind.u64) (show wu64 (R1 - R1 / a * a) = R1 - R1 / a * a from wu64_id (by have := hD1.1.hr; have := hD1.2; omega)))) rfl (Rg.val (Val.assign rfl) rfl (Rg.nil (Rx.seq ?_))))))))))))))))))))))))))))))
          refine Cd.cut (A := Int) (fun q0 : Int => q0 = (R1 * 4294967296 + L % 4294967296) / v) (fun q0 : Int => [(2, .int .u64 v), (6, .int .u64 0), (7, .int .u64 0), (8, .int .u64 (s : Int)), (14, .int .u64 (L % 4294967296)), (15, .int .u64 q1), (17, .int .u64 R1), (18, .int .u64 q0)]) (fun q0 : Int => []) ?_ ?_
          · refine Cd.block ?_
            refine Cd.loop (A := Int × Int) (fun pr_ : Int × Int => match pr_ with | (q, r) => Digit R1 (L % 4294967296) v a b q r ∧ r < 4294967296)
                (fun pr_ : Int × Int => match pr_ with | (q, r) => [(2, .int .u64 v), (6, .int .u64 0), (7, .int .u64 0), (8, .int .u64 (s : Int)), (9, .int .u64 a), (10, .int .u64 b), (14, .int .u64 (L % 4294967296)), (15, .int .u64 q1), (16, .int .u64 r), (17, .int .u64 R1), (18, .int .u64 q)])
                (fun pr_ : Int × Int => match pr_ with | (q, r) => [])
                (fun pr_ : Int × Int => match pr_ with | (q, r) => (4294967296 - r).toNat) (R1 / a, R1 - R1 / a * a) ?_ ⟨rfl, rfl, rfl, rfl, rfl, rfl, rfl, rfl, rfl, rfl, rfl, trivial⟩ trivial ?_
            · exact ⟨hD1.1, by have := hD1.2; omega⟩
            · rintro ⟨q, r⟩ ⟨hI, hr⟩
              show Cd _ _ _ _ _ [(2, .int .u64 v), (6, .int .u64 0), (7, .int .u64 0), (8, .int .u64 (s : Int)), (9, .int .u64 a), (10, .int .u64 b), (14, .int .u64 (L % 4294967296)), (15, .int .u64 q1), (16, .int .u64 r), (17, .int .u64 R1), (18, .int .u64 q)] []
              refine Cd.seq (Cd.seq (Cd.region (Rg.val (Val.move rfl) rfl (Rg.val (Val.geq rfl rfl) rfl (Rg.val (Val.move rfl) rfl (Rg.split 104 rfl (fun c8 => ?_) (fun c8 => ?_)))))))
              · replace c8 := of_decide_eq_true c8
                have hI' := hI.less (by omega)
                refine Rg.off rfl rfl rfl rfl (Rg.off rfl rfl rfl rfl (Rg.off rfl rfl rfl rfl (Rg.off rfl rfl rfl rfl (Rg.off rfl rfl rfl rfl (Rg.off rfl rfl rfl rfl (Rg.off rfl rfl rfl rfl (Rg.off rfl rfl rfl rfl (Rg.val (Val.pickT rfl rfl) rfl (Rg.nil (Rx.seq (Cd.yes rfl (Cd.skip (Rx.seq (Cd.block (Cd.seq (Cd.region (Rg.val (Val.move rfl) rfl (Rg.val (Val.as (Val.subU rfl rfl) (congrArg (Value.int IntKind.u64) (show wu64 (q - 1) = q - 1 from wu64_id (by have := hI'.hq; have := hI.hq; omega)))) rfl (Rg.val (Val.assign rfl) rfl (Rg.nil (Rx.seq (Cd.seq (Cd.region (Rg.val (Val.move rfl) rfl (Rg.val (Val.move rfl) rfl (Rg.val (Val.as (Val.addU rfl rfl) (congrArg (Value.int IntKind.u64) (show wu64 (r + a) = r + a from wu64_id (by have := hI.hr; omega)))) rfl (Rg.val (Val.assign rfl) rfl (Rg.nil (Rx.seq (Cd.seq (Cd.region (Rg.val (Val.move rfl) rfl (Rg.val (Val.geq rfl rfl) rfl (Rg.nil (Rx.seq (Cd.cond rfl (fun c9 => ?_) (fun c9 => ?_)))))))))))))))))))))))))))))))))))))
                · replace c9 := of_decide_eq_true c9
                  refine Cd.exit (Rx.miss rfl (Rx.pastE (Rx.hit ?_)))
                  refine Rx.meet (q - 1) (by first | exact hI.right (by omega) | exact hI'.right' (by have := hI.hq; have := hI'.hq; omega) (by omega)) ⟨rfl, rfl, rfl, rfl, rfl, rfl, rfl, rfl, trivial⟩ trivial
                · replace c9 := of_decide_eq_false c9
                  refine Cd.skip (Rx.inb ?_)
                  refine Rx.meet (q - 1, r + a) ⟨⟨hI', by omega⟩, by show (4294967296 - (r + a)).toNat < (4294967296 - r).toNat; have := hI'.hr; have := hI.hr; have := hI.ha; omega⟩ ⟨rfl, rfl, rfl, rfl, rfl, rfl, rfl, rfl, rfl, rfl, rfl, trivial⟩ trivial
              · replace c8 := of_decide_eq_false c8
                refine Rg.on rfl rfl rfl (Rg.val (Val.move rfl) rfl (Rg.on rfl rfl rfl (Rg.val (Val.move rfl) rfl (Rg.on rfl rfl rfl (Rg.val (Val.as (Val.mulU rfl rfl) (congrArg (Value.int IntKind.u64) (show wu64 (q * b) = q * b from wu64_id (mul_bd hI.hq.1 (by omega) hI.hb)))) rfl (Rg.on rfl rfl rfl (Rg.val (Val.move rfl) rfl (Rg.on rfl rfl rfl (Rg.val (Val.as (Val.mulU rfl rfl) (congrArg (Value.int IntKind.u64) (show wu64 (4294967296 * r) = 4294967296 * r from wu64_id (by have := hI.hr; omega)))) rfl (Rg.on rfl rfl rfl (Rg.val (Val.move rfl) rfl (Rg.on rfl rfl rfl (Rg.val (Val.as (Val.addU rfl rfl) (congrArg (Value.int IntKind.u64) (show wu64 (4294967296 * r + L % 4294967296) = 4294967296 * r + L % 4294967296 from wu64_id (by have := hI.hr; omega)))) rfl (Rg.on rfl rfl rfl (Rg.val (Val.gtr rfl rfl) rfl (Rg.val (Val.pickF rfl rfl) rfl (Rg.nil (Rx.seq (Cd.cond rfl (fun c10 => ?_) (fun c10 => ?_))))))))))))))))))))
                · replace c10 := of_decide_eq_true c10
                  have hI' := hI.less (by omega)
                  refine Cd.skip (Rx.seq (Cd.block (Cd.seq (Cd.region (Rg.val (Val.move rfl) rfl (Rg.val (Val.as (Val.subU rfl rfl) (congrArg (Value.int IntKind.u64) (show wu64 (q - 1) = q - 1 from wu64_id (by have := hI'.hq; have := hI.hq; omega)))) rfl (Rg.val (Val.assign rfl) rfl (Rg.nil (Rx.seq (Cd.seq (Cd.region (Rg.val (Val.move rfl) rfl (Rg.val (Val.move rfl) rfl (Rg.val (Val.as (Val.addU rfl rfl) (congrArg (Value.int IntKind.u64) (show wu64 (r + a) = r + a from wu64_id (by have := hI.hr; omega)))) rfl (Rg.val (Val.assign rfl) rfl (Rg.nil (Rx.seq (Cd.seq (Cd.region (Rg.val (Val.move rfl) rfl (Rg.val (Val.geq rfl rfl) rfl (Rg.nil (Rx.seq (Cd.cond rfl (fun c11 => ?_) (fun c11 => ?_)))))))))))))))))))))))))
                  · replace c11 := of_decide_eq_true c11
                    refine Cd.exit (Rx.miss rfl (Rx.pastE (Rx.hit ?_)))
                    refine Rx.meet (q - 1) (by first | exact hI.right (by omega) | exact hI'.right' (by have := hI.hq; have := hI'.hq; omega) (by omega)) ⟨rfl, rfl, rfl, rfl, rfl, rfl, rfl, rfl, trivial⟩ trivial
                  · replace c11 := of_decide_eq_false c11
                    refine Cd.skip (Rx.inb ?_)
                    refine Rx.meet (q - 1, r + a) ⟨⟨hI', by omega⟩, by show (4294967296 - (r + a)).toNat < (4294967296 - r).toNat; have := hI'.hr; have := hI.hr; have := hI.ha; omega⟩ ⟨rfl, rfl, rfl, rfl, rfl, rfl, rfl, rfl, rfl, rfl, rfl, trivial⟩ trivial
                · replace c10 := of_decide_eq_false c10
                  refine Cd.exit (Rx.pastE (Rx.pastE (Rx.hit ?_)))
                  refine Rx.meet q (by first | exact hI.right (by omega) | exact hI'.right' (by have := hI.hq; have := hI'.hq; omega) (by omega)) ⟨rfl, rfl, rfl, rfl, rfl, rfl, rfl, rfl, trivial⟩ trivial
          · rintro q0 hq0
            show Cd _ _ _ _ _ [(2, .int .u64 v), (6, .int .u64 0), (7, .int .u64 0), (8, .int .u64 (s : Int)), (14, .int .u64 (L % 4294967296)), (15, .int .u64 q1), (17, .int .u64 R1), (18, .int .u64 q0)] []
            have hremw : wu64 (wu64 (wu64 (R1 * 4294967296) + L % 4294967296) - wu64 (q0 * v)) = R1 * 4294967296 + L % 4294967296 - q0 * v := by have := div_unit (R := R1) (d := L % 4294967296) (v := v) (q := q0) (by omega) hq0; unfold wu64; omega
            have hq0b := hD1.1.big
            rw [← hq0] at hq0b
            have hq00 : 0 ≤ q0 := by rw [hq0]; exact Int.ediv_nonneg (by omega) (by omega)
            obtain ⟨hquo, hrem⟩ := div_two (R := R) (L := L) (v := v) (by omega) hq1 hR1.symm hq0
            refine Cd.seq (Cd.region (Rg.val (Val.move rfl) rfl (Rg.val (Val.as (Val.mulU rfl rfl) (congrArg (Value.int IntKind.u64) (show wu64 (q1 * 4294967296) = q1 * 4294967296 from wu64_id (by omega)))) rfl (Rg.val (Val.move rfl) rfl (Rg.val (Val.as (Val.addU rfl rfl) (congrArg (Value.int IntKind.u64) (show wu64 (q1 * 4294967296 + q0) = q1 * 4294967296 + q0 from wu64_id (by omega)))) rfl (Rg.val (Val.move rfl) rfl (Rg.val (Val.mulU rfl rfl) rfl (Rg.val (Val.move rfl) rfl (Rg.val (Val.addU rfl rfl) rfl (Rg.val (Val.move rfl) rfl (Rg.val (Val.move rfl) rfl (Rg.val (Val.mulU rfl rfl) rfl (Rg.val (Val.as (Val.subU rfl rfl) (congrArg (Value.int IntKind.u64) (hremw))) rfl (Rg.val (Val.move rfl) rfl (Rg.val (Val.as (Val.shr (m := m) rfl rfl (by omega) hm1) (congrArg (Value.int IntKind.u64) (rfl))) rfl (Rg.val (Val.assign rfl) rfl (Rg.val (Val.assign rfl) rfl (Rg.nil (Rx.seq (Cd.ret (Rx.ret2 rfl rfl rfl fun w hm_ => (⟨by rw [hquo, hrem, hU, ← hv, (shift_div hm0).1, (shift_div hm0).2], hm_.below⟩))))))))))))))))))))))

end Go.Proofs.Ytfekoippjmojgaa
