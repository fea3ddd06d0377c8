/- Walks of functions of the program: what each returns, told by plain functions. -/
import Derived.Test.YtdmkedbmoboamaaD4
import Derived.Test.YtdmkedbmoboamaaPB3
import Derived.Test.YtdmkedbmoboamaaA16
import Derived.Test.YtdmkedbmoboamaaA12
namespace Go.Proofs.Ytdmkedbmoboamaa
open Go.Kx Go.RowKit
set_option maxRecDepth 100000
set_option linter.unusedVariables false
set_option linter.unusedSimpArgs false
set_option linter.unnecessarySimpa false
set_option linter.constructorNameAsVariable false
theorem BestB_some {J : Jb} {o : List (List Int)} {s : List Int} (h : BestB J = some (o, s)) : chkF J = 0 ∧ ¬ 5040 < prodN J J.gs.length ∧ o ∈ ordD (tss J) [] ∧ EJ J o = some s := by
  unfold BestB at h
  split at h
  · rename_i h0
    split at h
    · cases h
    · rename_i h1
      exact ⟨h0, h1, (bestF_spec (EJ J) (fun l => endF 0 l J.ts) (ordD (tss J) [])).at_ _ _ h⟩
  · cases h
theorem bestO_bd {J : Jb} {rs : List Rw} (h : xss rs = BestO J) : rs.length ≤ 1000 ∧ ∀ r ∈ rs, r.xs.length ≤ 1000 := by
  cases hb : BestB J with
  | none =>
    have : xss rs = [] := by rw [h]; unfold BestO; rw [hb]; rfl
    have : rs = [] := by simpa using this
    subst this; simp
  | some b =>
    obtain ⟨o, s⟩ := b
    have e : xss rs = o := by rw [h]; unfold BestO; rw [hb]; rfl
    obtain ⟨h0, _, h2, _⟩ := BestB_some hb
    rw [← e] at h2
    obtain ⟨hK, hV, _⟩ := OrdOk.of (ord_ok h0 h2)
    have := hV.len
    have := hK.ngs
    exact ⟨by omega, fun r hr => by have := hV.row r hr; omega⟩
theorem bestS_le {J : Jb} : (BestS J).length ≤ 24 := by
  cases hb : BestB J with
  | none => unfold BestS; rw [hb]; simp
  | some b =>
    obtain ⟨o, s⟩ := b
    obtain ⟨h0, _, _, h3⟩ := BestB_some hb
    have h4 := (earlF_spec h3).plan.len
    have := (JobOk.of h0).nts
    have e : BestS J = s := by unfold BestS; rw [hb]; rfl
    rw [e]; omega
theorem planF_zero {J : Jb} {os : List Rw} {ss : List Int} (h0 : chkO J os = 0) (h : IsPlan J (linksF J os) ss) : planF J os ss = (0, 0) := by
  have h2 := planF_of h0 h
  by_cases h3 : stF J.ts.length ss = 0
  · by_cases h4 : 0 ≤ unfitF J ss
    · rw [planF_u h0 h3 h4] at h2; cases h2
    · by_cases h5 : 0 ≤ brokenF (linksF J os) ss
      · rw [planF_b h0 h3 h4 h5] at h2; cases h2
      · exact planF_0 h0 h3 h4 h5
  · rw [planF_s h0 h3] at h2; exact absurd h2 h3
theorem chkF_of {J : Jb} {os : List Rw} (h : chkO J os = 0) : chkF J = 0 := by
  unfold chkO at h
  split at h
  · assumption
  · rename_i h1; exact absurd h h1
theorem row_bd {J : Jb} {rs : List Rw} (h : chkO J rs = 0) : rs.length ≤ 1000 ∧ ∀ r ∈ rs, r.xs.length ≤ 1000 := by
  obtain ⟨hK, hV, _⟩ := OrdOk.of h
  have := hV.len
  have := hK.ngs
  exact ⟨by omega, fun r hr => by have := hV.row r hr; omega⟩
theorem ScheduleOrders_gives (J : Jb) (ao : Option Addr) (co : Nat) (os : List Rw) (sa : Option Addr) (sc : Nat) (ss : List Int) (w : World) (hJ : JobAt w J) (hO : OrdAt w ao os) (hSs : Rdb w sa 1 encI ss) (hsl : ss.length ≤ 9223372036854775807) : Gives Try.prog 4 #[.agg #[.slice J.ta J.ts.length J.tc, .slice J.aa J.ls.length J.ac, .slice J.ga J.gs.length J.gc], .slice ao os.length co, .slice sa ss.length sc] w (.bool true) := by
  refine calls_of (vs := [.agg #[.slice J.ta J.ts.length J.tc, .slice J.aa J.ls.length J.ac, .slice J.ga J.gs.length J.gc], .slice ao os.length co, .slice sa ss.length sc]) Try.func4 rfl rfl rfl ?_
  show Cd _ _ _ _ _ [(0, .agg #[.slice J.ta J.ts.length J.tc, .slice J.aa J.ls.length J.ac, .slice J.ga J.gs.length J.gc]), (1, .slice ao os.length co), (2, .slice sa ss.length sc)] []
  refine Cd.seq (Cd.region (Rg.eff (Eff.box 1 rfl rfl) rfl fun b1 _ => (Rg.val (Val.assign rfl) rfl (Rg.nil (Rx.seq (Cd.seq (Cd.seq (Cd.region (Rg.val (Val.loadAll (l := 1) rfl rfl ag26 rfl) rfl (Rg.val (Val.move rfl) rfl (Rg.eff (Eff.give rfl rfl en31 rfl (fun w hm => valid_gives J _ _ os w (Mem.job hm hJ) (Mem.ord hm hO))) rfl fun _ _ => (Rg.val (Val.not rfl) rfl (Rg.val (Val.move rfl) rfl (Rg.split 23 rfl (fun c1 => ?_) (fun c1 => ?_)))))))))))))))
  · replace c1 := bnot_t c1
    refine Rg.off rfl rfl rfl rfl (Rg.off rfl rfl rfl rfl (Rg.off rfl rfl rfl rfl (Rg.val (Val.pickT rfl rfl) rfl (Rg.val (Val.move rfl) rfl (Rg.off rfl rfl rfl rfl (Rg.off rfl rfl rfl rfl (Rg.off rfl rfl rfl rfl (Rg.val (Val.pickT rfl rfl) rfl (Rg.nil (Rx.seq (Cd.yes rfl (Cd.seq (Cd.region (Rg.eff (Eff.give rfl rfl en14 rfl (fun w hm => works_gives w)) rfl fun _ _ => (Rg.val (Val.assign rfl) rfl (Rg.nil (Rx.seq (Cd.ret (Rx.pastR (Rx.ret1 rfl rfl fun w hm_ => (⟨rfl, hm_.below⟩)))))))))))))))))))))
  · replace c1 := bnot_f c1
    obtain ⟨hw, h0_, h8_⟩ := valid_of c1
    obtain ⟨hK, hV, _⟩ := OrdOk.of h0_
    have hc0 := chkF_of h0_
    have hn := hK.nts.2
    have h12_ : chkF J = 0 → J.ts.length ≤ 12 := fun _ => by omega
    have hmb : ∀ t ∈ J.ts, 0 ≤ t.m ∧ t.m ≤ 10080 := fun t ht => (hK.tk t ht).1
    refine Rg.on rfl rfl rfl (Rg.val (Val.move rfl) rfl (Rg.on rfl rfl rfl (Rg.val (Val.len Try.underlying24 rfl) rfl (Rg.on rfl rfl rfl (Rg.val (Val.gtr rfl rfl) rfl (Rg.val (Val.pickF rfl rfl) rfl (Rg.val (Val.move rfl) rfl (Rg.split 28 rfl (fun c2 => ?_) (fun c2 => ?_)))))))))
    · replace c2 := of_decide_eq_true c2
      refine Rg.off rfl rfl rfl rfl (Rg.off rfl rfl rfl rfl (Rg.off rfl rfl rfl rfl (Rg.val (Val.pickT rfl rfl) rfl (Rg.nil (Rx.seq (Cd.yes rfl (Cd.seq (Cd.region (Rg.eff (Eff.give rfl rfl en14 rfl (fun w hm => works_gives w)) rfl fun _ _ => (Rg.val (Val.assign rfl) rfl (Rg.nil (Rx.seq (Cd.ret (Rx.pastR (Rx.ret1 rfl rfl fun w hm_ => (⟨rfl, hm_.below⟩))))))))))))))))
    · replace c2 := of_decide_eq_false c2
      refine Rg.on rfl rfl rfl (Rg.val (Val.loadAll (l := 1) rfl rfl ag26 rfl) rfl (Rg.on rfl rfl rfl (Rg.eff (Eff.give rfl rfl en32 rfl (fun w hm => many_gives J w (Mem.job hm hJ) hn)) rfl fun _ _ => (Rg.on rfl rfl rfl (Rg.val (Val.gtr rfl rfl) rfl (Rg.val (Val.pickF rfl rfl) rfl (Rg.nil (Rx.seq (Cd.cond rfl (fun c3 => ?_) (fun c3 => ?_))))))))))
      · replace c3 := of_decide_eq_true c3
        refine Cd.seq (Cd.region (Rg.eff (Eff.give rfl rfl en14 rfl (fun w hm => works_gives w)) rfl fun _ _ => (Rg.val (Val.assign rfl) rfl (Rg.nil (Rx.seq (Cd.ret (Rx.pastR (Rx.ret1 rfl rfl fun w hm_ => (⟨rfl, hm_.below⟩)))))))))
      · replace c3 := of_decide_eq_false c3
        have hmany : ¬ 5040 < prodN J J.gs.length := by have := many_eq J; omega
        have he_ := best_e hc0 hmany
        refine Cd.skip (Rx.seq (Cd.seq (Cd.region (Rg.val (Val.loadAll (l := 1) rfl rfl ag26 rfl) rfl (Rg.eff (Eff.made (A := Option Addr × Nat × List Rw × Option Addr × Nat × List Rw) (Bs := fun p_ => [(91, rowL 62 1 encRw p_.1 p_.2.1 p_.2.2.1), (92, rowsR 3 p_.2.2.2.2.2), (93, rowL 2 1 encI p_.2.2.2.1 p_.2.2.2.2.1 (BestS J))]) rfl rfl en33 rfl (fun _ => rfl) (fun w hm => Best_calls J w (Mem.job hm hJ))) rfl fun p4 hp4 => (Rg.val (Val.move rfl) rfl (Rg.val (Val.extract rfl rfl) rfl (Rg.val (Val.extract rfl rfl) rfl (Rg.val (Val.extract rfl rfl) rfl (Rg.val (Val.extract rfl rfl) rfl (Rg.val (Val.assign rfl) rfl (Rg.val (Val.assign rfl) rfl (Rg.val (Val.assign rfl) rfl (Rg.val (Val.assign rfl) rfl (Rg.nil (Rx.seq (Cd.seq (Cd.seq (Cd.region (Rg.val (Val.move rfl) rfl (Rg.val (Val.neq rfl rfl) rfl (Rg.val (Val.move rfl) rfl (Rg.split 43 rfl (fun c5 => ?_) (fun c5 => ?_))))))))))))))))))))))))
        · replace c5 := bnot_t c5
          replace c5 := of_decide_eq_false c5
          refine Rg.on rfl rfl rfl (Rg.val (Val.move rfl) rfl (Rg.on rfl rfl rfl (Rg.val (Val.neq rfl rfl) rfl (Rg.val (Val.pickT rfl rfl) rfl (Rg.nil (Rx.seq (Cd.know (t := 46) rfl (by have h_ : BestE J = 15 := (by omega); simp [h_]) (Cd.no rfl (Cd.skip (Rx.seq (Cd.seq (Cd.seq (Cd.region (Rg.val (Val.move rfl) rfl (Rg.val (Val.eql rfl rfl) rfl (Rg.nil (Rx.seq (Cd.know (t := 48) rfl (decide_eq_false c5) (Cd.no rfl (Cd.skip (Rx.seq (Cd.seq (Cd.region (Rg.val (Val.loadAll (l := 1) rfl rfl ag26 rfl) rfl (Rg.val (Val.move rfl) rfl (Rg.val (Val.move rfl) rfl (Rg.eff (Eff.give rfl rfl en23 rfl (fun w hm => CheckPlan_gives J _ _ os _ _ ss w (Mem.job hm hJ) (Mem.ord hm hO) hw (hm.rdb hSs) hsl)) rfl fun _ _ => (Rg.val (Val.move rfl) rfl (Rg.val (Val.extract rfl rfl) rfl (Rg.val (Val.extract rfl rfl) rfl (Rg.val (Val.assign rfl) rfl (Rg.val (Val.assign rfl) rfl (Rg.nil (Rx.seq (Cd.seq (Cd.seq (Cd.region (Rg.val (Val.move rfl) rfl (Rg.val (Val.neq rfl rfl) rfl ?_)))))))))))))))))))))))))))))))))))))))
          refine Rg.nil (Rx.seq (Cd.cond rfl (fun c6 => ?_) (fun c6 => ?_)))
          · replace c6 := bnot_t c6
            replace c6 := of_decide_eq_false c6
            refine Cd.seq (Cd.region (Rg.eff (Eff.give rfl rfl en14 rfl (fun w hm => works_gives w)) rfl fun _ _ => (Rg.val (Val.assign rfl) rfl (Rg.nil (Rx.seq (Cd.ret (Rx.pastR (Rx.ret1 rfl rfl fun w hm_ => (⟨rfl, hm_.below⟩)))))))))
          · replace c6 := bnot_f c6
            replace c6 := of_decide_eq_true c6
            have hpl_ := (planF_plan c6).2
            have hll := hpl_.len
            obtain ⟨hb0, hbl⟩ := best_le h0_ hmany hpl_
            have hssb := hpl_.bd hK
            exact absurd hb0 c5
        · replace c5 := bnot_f c5
          replace c5 := of_decide_eq_true c5
          obtain ⟨hcb, hpb, hnb⟩ := best_good hc0 hmany c5 hp4.1
          have hbll := hpb.len
          have hbsb := hpb.bd hK
          refine Rg.off rfl rfl rfl rfl (Rg.off rfl rfl rfl rfl (Rg.val (Val.pickF rfl rfl) rfl (Rg.nil (Rx.seq (Cd.no rfl (Cd.skip (Rx.seq (Cd.seq (Cd.seq (Cd.region (Rg.val (Val.move rfl) rfl (Rg.val (Val.eql rfl rfl) rfl (Rg.nil (Rx.seq (Cd.know (t := 48) rfl (decide_eq_true c5) (Cd.yes rfl (Cd.seq (Cd.region (Rg.val (Val.loadAll (l := 1) rfl rfl ag26 rfl) rfl (Rg.val (Val.move rfl) rfl (Rg.val (Val.move rfl) rfl (Rg.eff (Eff.give rfl rfl en23 rfl (fun w hm => (by have h_ := CheckPlan_gives J _ p4.2.1 p4.2.2.1 _ p4.2.2.2.2.1 (BestS J) w (Mem.job hm hJ) (OrdAt.of_pool 91 92 hm rfl rfl hp4.2 (bestO_bd hp4.1).1 (bestO_bd hp4.1).2) (bestO_bd hp4.1) (Rdb.of_row (l := 93) hm rfl (fun _ => rfl)) (by omega); rw [planF_zero hcb hpb] at h_; exact h_))) rfl fun _ _ => (Rg.val (Val.move rfl) rfl (Rg.val (Val.extract rfl rfl) rfl (Rg.val (Val.extract rfl rfl) rfl (Rg.val (Val.assign rfl) rfl (Rg.val (Val.assign rfl) rfl (Rg.nil (Rx.seq (Cd.seq (Cd.region (Rg.val (Val.move rfl) rfl (Rg.val (Val.known (c := false) (Val.neq rfl rfl) (by decide)) rfl (Rg.val (Val.move rfl) rfl (Rg.on rfl rfl rfl (Rg.val (Val.move rfl) rfl (Rg.on rfl rfl rfl (Rg.val (Val.len Try.underlying24 rfl) rfl (Rg.on rfl rfl rfl ?_)))))))))))))))))))))))))))))))))))))))
          refine Rg.val (Val.fa rfl (fa26_0 _ _)) rfl (Rg.on rfl rfl rfl (Rg.val (Val.load (l := 1) rfl rfl sc22 rfl) rfl (Rg.on rfl rfl rfl (Rg.val (Val.len Try.underlying22 rfl) rfl (Rg.on rfl rfl rfl (Rg.val (Val.neq rfl rfl) rfl (Rg.val (Val.pickF rfl rfl) rfl (Rg.val (Val.move rfl) rfl (Rg.know (t := 66) rfl (by simp [hbll]) (Rg.on rfl rfl rfl (Rg.val (Val.move rfl) rfl (Rg.on rfl rfl rfl (Rg.val (Val.loadAll (l := 1) rfl rfl ag26 rfl) rfl (Rg.on rfl rfl rfl (Rg.val (Val.move rfl) rfl (Rg.on rfl rfl rfl (Rg.eff (Eff.give rfl rfl en34 rfl (fun w hm => (by have h_ := ends_gives J _ p4.2.2.2.2.1 (BestS J) w (Mem.job hm hJ) (Rdb.of_row (l := 93) hm rfl (fun _ => rfl)) (by omega) hbll hbsb hmb; rw [← hnb] at h_; exact h_))) rfl fun _ _ => (Rg.on rfl rfl rfl (Rg.val (Val.known (c := false) (Val.neq rfl rfl) (by simp)) rfl (Rg.val (Val.pickF rfl rfl) rfl (Rg.nil (Rx.seq (Cd.no rfl (Cd.skip (Rx.seq (Cd.seq (Cd.region (Rg.val (Val.loadAll (l := 1) rfl rfl ag26 rfl) rfl (Rg.val (Val.move rfl) rfl (Rg.val (Val.move rfl) rfl (Rg.eff (Eff.give rfl rfl en23 rfl (fun w hm => CheckPlan_gives J _ _ os _ _ ss w (Mem.job hm hJ) (Mem.ord hm hO) hw (hm.rdb hSs) hsl)) rfl fun _ _ => (Rg.val (Val.move rfl) rfl (Rg.val (Val.extract rfl rfl) rfl (Rg.val (Val.extract rfl rfl) rfl (Rg.val (Val.assign rfl) rfl (Rg.val (Val.assign rfl) rfl (Rg.nil (Rx.seq (Cd.seq ?_)))))))))))))))))))))))))))))))))))))))
          refine Cd.seq (Cd.region (Rg.val (Val.move rfl) rfl (Rg.val (Val.neq rfl rfl) rfl (Rg.nil (Rx.seq (Cd.cond rfl (fun c8 => ?_) (fun c8 => ?_)))))))
          · replace c8 := bnot_t c8
            replace c8 := of_decide_eq_false c8
            refine Cd.seq (Cd.region (Rg.eff (Eff.give rfl rfl en14 rfl (fun w hm => works_gives w)) rfl fun _ _ => (Rg.val (Val.assign rfl) rfl (Rg.nil (Rx.seq (Cd.ret (Rx.pastR (Rx.ret1 rfl rfl fun w hm_ => (⟨rfl, hm_.below⟩)))))))))
          · replace c8 := bnot_f c8
            replace c8 := of_decide_eq_true c8
            have hpl_ := (planF_plan c8).2
            have hll := hpl_.len
            obtain ⟨hb0, hbl⟩ := best_le h0_ hmany hpl_
            have hssb := hpl_.bd hK
            refine Cd.skip (Rx.seq (Cd.seq (Cd.region (Rg.val (Val.loadAll (l := 1) rfl rfl ag26 rfl) rfl (Rg.val (Val.move rfl) rfl (Rg.eff (Eff.made (A := Option Addr × Nat × List Rw) (Bs := fun p_ => [(192, rowL 62 1 encRw p_.1 p_.2.1 p_.2.2), (193, rowsR 3 p_.2.2)]) rfl rfl en25 rfl (fun _ => rfl) (fun w hm => (OrderOf_calls J _ _ ss w (Mem.job hm hJ) (hm.rdb hSs) hsl h12_).mono fun _ _ ⟨p, h1, h2, h3⟩ => ⟨p, h1, h2, Mem.shift 100 h3⟩)) rfl fun p9 hp9 => ?_))))))
            obtain ⟨hoe, hcr, hpr⟩ := plan_resort h0_ hp9 hpl_
            refine Rg.val (Val.move rfl) rfl (Rg.val (Val.extract rfl rfl) rfl (Rg.val (Val.extract rfl rfl) rfl (Rg.val (Val.assign rfl) rfl (Rg.val (Val.assign rfl) rfl (Rg.nil (Rx.seq (Cd.seq (Cd.region (Rg.val (Val.loadAll (l := 1) rfl rfl ag26 rfl) rfl (Rg.val (Val.move rfl) rfl (Rg.val (Val.move rfl) rfl (Rg.eff (Eff.give rfl rfl en23 rfl (fun w hm => (by have h_ := CheckPlan_gives J _ p9.2.1 p9.2.2 _ sc ss w (Mem.job hm hJ) (OrdAt.of_rows 192 193 hm rfl rfl (row_bd hcr).1 (row_bd hcr).2) (row_bd hcr) (hm.rdb hSs) hsl; rw [planF_zero hcr hpr] at h_; exact h_))) rfl fun _ _ => (Rg.val (Val.move rfl) rfl (Rg.val (Val.extract rfl rfl) rfl (Rg.val (Val.extract rfl rfl) rfl (Rg.val (Val.assign rfl) rfl (Rg.val (Val.assign rfl) rfl (Rg.nil (Rx.seq (Cd.seq (Cd.region (Rg.val (Val.move rfl) rfl (Rg.val (Val.eql rfl rfl) rfl (Rg.val (Val.move rfl) rfl (Rg.know (t := 98) rfl (decide_eq_true hoe) (Rg.on rfl rfl rfl (Rg.val (Val.move rfl) rfl (Rg.on rfl rfl rfl (Rg.val (Val.known (c := true) (Val.eql rfl rfl) (by decide)) rfl (Rg.val (Val.pickT rfl rfl) rfl (Rg.val (Val.move rfl) rfl (Rg.on rfl rfl rfl (Rg.val (Val.move rfl) rfl (Rg.on rfl rfl rfl (Rg.val (Val.eql rfl rfl) rfl (Rg.val (Val.pickT rfl rfl) rfl (Rg.val (Val.move rfl) rfl (Rg.know (t := 106) rfl (decide_eq_true c5) (Rg.on rfl rfl rfl ?_)))))))))))))))))))))))))))))))))))))))
            refine Rg.val (Val.move rfl) rfl (Rg.on rfl rfl rfl (Rg.val (Val.len Try.underlying24 rfl) rfl (Rg.on rfl rfl rfl (Rg.val (Val.fa rfl (fa26_0 _ _)) rfl (Rg.on rfl rfl rfl (Rg.val (Val.load (l := 1) rfl rfl sc22 rfl) rfl (Rg.on rfl rfl rfl (Rg.val (Val.len Try.underlying22 rfl) rfl (Rg.on rfl rfl rfl (Rg.val (Val.eql rfl rfl) rfl (Rg.val (Val.pickT rfl rfl) rfl (Rg.val (Val.move rfl) rfl (Rg.know (t := 114) rfl (decide_eq_true (by omega)) (Rg.on rfl rfl rfl (Rg.val (Val.move rfl) rfl (Rg.on rfl rfl rfl (Rg.val (Val.loadAll (l := 1) rfl rfl ag26 rfl) rfl (Rg.on rfl rfl rfl (Rg.val (Val.move rfl) rfl (Rg.on rfl rfl rfl (Rg.eff (Eff.give rfl rfl en34 rfl (fun w hm => ends_gives J _ _ ss w (Mem.job hm hJ) (hm.rdb hSs) (by omega) hll hssb hmb)) rfl fun _ _ => (Rg.on rfl rfl rfl (Rg.val (Val.leq rfl rfl) rfl (Rg.val (Val.pickT rfl rfl) rfl (Rg.val (Val.move rfl) rfl (Rg.know (t := 121) rfl (decide_eq_true hbl) (Rg.on rfl rfl rfl (Rg.eff (Eff.give rfl rfl en14 rfl (fun w hm => works_gives w)) rfl fun _ _ => (Rg.val (Val.pickT rfl rfl) rfl (Rg.val (Val.assign rfl) rfl (Rg.nil (Rx.seq (Cd.ret (Rx.ret1 rfl rfl fun w hm_ => (⟨rfl, hm_.below⟩)))))))))))))))))))))))))))))))))))

end Go.Proofs.Ytdmkedbmoboamaa
