/- Walks of functions of the program: what each returns, told by plain functions. -/
import Derived.Test.YtdmkedbmoboamaaD5
import Derived.Test.YtdmkedbmoboamaaA13
import Derived.Test.YtdmkedbmoboamaaPG
namespace Go.Proofs.Ytdmkedbmoboamaa
open Go.Kx Go.RowKit
set_option maxRecDepth 100000
set_option linter.unusedVariables false
set_option linter.unusedSimpArgs false
set_option linter.unnecessarySimpa false
set_option linter.constructorNameAsVariable false
section
variable {P : Program} {W : World} {n : Cx} {Q : Exit → Act → World → Prop} {T : List (Nat × Value)} {B : List (Nat × Res)} {os : List Oper} {S : List (Nat × Res)} {fuel : Nat} {listed : Array Bool}
theorem Dr.twoW (i i' : Nat) {o o' : Oper} {A A' : Type} {R : A → Prop} {R' : A' → Prop} {T' : A → List (Nat × Value)} {B' : A → List (Nat × Res)} {T'' : A' → List (Nat × Value)} {B'' : A' → List (Nat × Res)} (hr : Region.ready .any os.toArray listed = [i, i']) (hi : os[i]? = some o) (hi' : os[i']? = some o')
    (he : Eff P W n o T B R T' B') (hw : ∀ a, Tm n T a → Region.wanted o (yielded os.toArray a.tmps) = true) (hS : ∀ p, R p → subl S (B' p)) (he' : Eff P W n o' T B R' T'' B'') (hw' : ∀ a, Tm n T a → Region.wanted o' (yielded os.toArray a.tmps) = true) (hS' : ∀ p, R' p → subl S (B'' p))
    (k : ∀ p, R p → Dr P W n os Q S fuel (listed.setIfInBounds i true) (T' p) (B' p)) (k' : ∀ p, R' p → Dr P W n os Q S fuel (listed.setIfInBounds i' true) (T'' p) (B'' p)) : Dr P W n os Q S (fuel + 1) listed T B :=
  fun a w hT hm => wpAnyI.all hr (by simp) fun j hj => by
    simp only [List.mem_cons, List.not_mem_nil, or_false] at hj
    rcases hj with rfl | rfl
    · exact Dr.step _ hi (hw a hT) hT hm he hS k
    · exact Dr.step _ hi' (hw' a hT) hT hm he' hS' k'
end
theorem isSome_none {α : Type} {o : Option α} (h : o.isSome = false) : o = none := by cases o <;> first | rfl | cases h
/-- What is kept after i orders: its place and its plan. -/
structure RbI (J : Jb) (all : List Oy) (i : Nat) (best : Int) (ss : List Int) : Prop where
  st : (bestF (EJ J) (fun l => endF 0 l J.ts) ((oys all).take i) = none ∧ best = -1 ∧ ss = []) ∨ ∃ (b : Nat) (y : Oy), bestF (EJ J) (fun l => endF 0 l J.ts) ((oys all).take i) = some (xss y.rs, ss) ∧ best = (b : Int) ∧ all[b]? = some y
theorem RbI.start {J : Jb} {all : List Oy} : RbI J all 0 (-1) [] := ⟨.inl ⟨rfl, rfl, rfl⟩⟩
theorem RbI.plan {J : Jb} (hK : JobOk J) {all : List Oy} {i : Nat} {best : Int} {ss : List Int} (h : RbI J all i best ss) (h0 : ¬ best < 0) : ss.length = J.ts.length ∧ ∀ x ∈ ss, 0 ≤ x ∧ x ≤ 1099511627776 := by
  rcases h.st with ⟨_, h2, _⟩ | ⟨b, y, h1, _, _⟩
  · omega
  · have h2 := ((bestF_spec (EJ J) (fun l => endF 0 l J.ts) ((oys all).take i)).at_ _ _ h1).2
    rw [EJ_xs] at h2
    have h3 := (earlF_spec h2).plan
    exact ⟨h3.len, h3.bd hK⟩
section
variable {J : Jb} {all : List Oy} {i : Nat} {best : Int} {ss : List Int} {y : Oy}
theorem RbI.takes (hy : all[i]? = some y) : (oys all).take (i + 1) = (oys all).take i ++ [xss y.rs] := take_snoc (by rw [oys, List.getElem?_map, hy]; rfl)
theorem RbI.skip (h : RbI J all i best ss) (hy : all[i]? = some y) (hE : earlF J (linksF J y.rs) = none) : RbI J all (i + 1) best ss := by
  refine ⟨?_⟩
  rw [RbI.takes hy, bestF_snoc]
  unfold keepF
  rw [EJ_xs, hE]
  exact h.st
theorem RbI.better {s : List Int} (h : RbI J all i best ss) (hy : all[i]? = some y) (hE : earlF J (linksF J y.rs) = some s) (h1 : best < 0 ∨ endF 0 s J.ts < endF 0 ss J.ts) : RbI J all (i + 1) (i : Int) s := by
  refine ⟨.inr ⟨i, y, ?_, rfl, hy⟩⟩
  rw [RbI.takes hy, bestF_snoc]
  unfold keepF
  rw [EJ_xs, hE]
  rcases h.st with ⟨h2, _⟩ | ⟨b, z, h2, h3, _⟩
  · rw [h2]
  · rw [h2]
    show (if endF 0 s J.ts < endF 0 ss J.ts then some (xss y.rs, s) else some (xss z.rs, ss)) = _
    rw [if_pos (by omega)]
theorem RbI.worse {s : List Int} (h : RbI J all i best ss) (hy : all[i]? = some y) (hE : earlF J (linksF J y.rs) = some s) (h0 : ¬ best < 0) (h1 : ¬ endF 0 s J.ts < endF 0 ss J.ts) : RbI J all (i + 1) best ss := by
  refine ⟨?_⟩
  rw [RbI.takes hy, bestF_snoc]
  unfold keepF
  rw [EJ_xs, hE]
  rcases h.st with ⟨_, h4, _⟩ | ⟨b, z, h2, h3, h4⟩
  · omega
  · refine .inr ⟨b, z, ?_, h3, h4⟩
    rw [h2]
    show (if endF 0 s J.ts < endF 0 ss J.ts then some (xss y.rs, s) else some (xss z.rs, ss)) = _
    rw [if_neg h1]
theorem RbI.done (h : RbI J all i best ss) (hi : all.length ≤ i) (ha : oys all = ordD (tss J) []) : (best < 0 → bestJ J = none) ∧ (¬ best < 0 → ∃ (b : Nat) (y : Oy), bestJ J = some (xss y.rs, ss) ∧ best = (b : Int) ∧ all[b]? = some y) := by
  have e : (oys all).take i = ordD (tss J) [] := by rw [List.take_of_length_le (by rw [oys, List.length_map]; exact hi), ha]
  unfold bestJ
  rw [← e]
  rcases h.st with ⟨h2, h3, _⟩ | ⟨b, z, h2, h3, h4⟩
  · exact ⟨fun _ => h2, fun h => by omega⟩
  · exact ⟨fun h => by omega, fun _ => ⟨b, z, h2, h3, h4⟩⟩
end
theorem ord_total {J : Jb} {all : List Oy} (h : oys all = ordD (tss J) []) (hm : ¬ 5040 < prodN J J.gs.length) : all.length ≤ 5040 := by
  have h1 := congrArg List.length h
  have h2 := ordB_len (J := J) J.gs.length (Nat.le_refl _)
  rw [List.take_of_length_le (by rw [tss_len]; omega), ordB_nil] at h2
  rw [oys, List.length_map] at h1
  omega
theorem rBest_calls (J : Jb) (w : World) (hJ : JobAt w J) (h8 : chkF J = 0 → J.ts.length ≤ 8) : Calls Try.prog 35 #[.agg #[.slice J.ta J.ts.length J.tc, .slice J.aa J.ls.length J.ac, .slice J.ga J.gs.length J.gc]] w fun e w' => ∃ p : Oy × Option Addr × Nat × List Oy × List Rw, (xss p.1.rs = BestO J ∧ p.1 ∈ p.2.2.2.1 ∧ ∀ r ∈ p.1.rs, r ∈ p.2.2.2.2) ∧ e = .returned (.tuple #[.slice p.1.a p.1.rs.length p.1.cap, .slice p.2.1 (BestS J).length p.2.2.1, .int .i64 (BestN J), .int .i64 (BestE J)]) ∧ Mem w [(82, ordsR 62 p.2.2.2.1), (83, rowsR 3 p.2.2.2.2), (84, rowL 2 1 encI p.2.1 p.2.2.1 (BestS J))] w' := by
  refine calls_of (vs := [.agg #[.slice J.ta J.ts.length J.tc, .slice J.aa J.ls.length J.ac, .slice J.ga J.gs.length J.gc]]) Try.func35 rfl rfl rfl ?_
  show Cd _ _ _ _ _ [(0, .agg #[.slice J.ta J.ts.length J.tc, .slice J.aa J.ls.length J.ac, .slice J.ga J.gs.length J.gc])] []
  refine Cd.seq (Cd.region (Rg.eff (Eff.box 21 rfl rfl) rfl fun b21 _ => (Rg.val (Val.assign rfl) rfl (Rg.val (Val.assign rfl) rfl (Rg.val (Val.assign rfl) rfl (Rg.val (Val.assign rfl) rfl (Rg.nil (Rx.seq (Cd.seq (Cd.region (Rg.val (Val.loadAll (l := 21) rfl rfl ag26 rfl) rfl (Rg.eff (Eff.give rfl rfl en18 rfl (fun w hm => rCheck_gives J w (Mem.job hm hJ))) rfl fun _ _ => (Rg.val (Val.assign rfl) rfl (Rg.nil (Rx.seq (Cd.seq (Cd.seq (Cd.region (Rg.val (Val.move rfl) rfl (Rg.val (Val.neq rfl rfl) rfl (Rg.nil (Rx.seq (Cd.cond rfl (fun c1 => ?_) (fun c1 => ?_))))))))))))))))))))))))
  · replace c1 := bnot_t c1
    replace c1 := of_decide_eq_false c1
    refine Cd.seq (Cd.region (Rg.val (Val.move rfl) rfl (Rg.val (Val.assign rfl) rfl (Rg.val (Val.assign rfl) rfl (Rg.val (Val.assign rfl) rfl (Rg.val (Val.assign rfl) rfl (Rg.nil (Rx.seq (Cd.ret (Rx.pastR (Rx.retR rfl (RO.tmp rfl (RO.tmp rfl (RO.tmp rfl (RO.tmp rfl (RO.nil))))) fun w hm_ => ((by have bv_ := best_chk c1; rw [bv_.e, bv_.s, bv_.n]; exact ⟨(⟨none, 0, []⟩, none, 0, [⟨none, 0, []⟩], []), ⟨by rw [bv_.o]; rfl, by simp, fun r h => (nomatch h)⟩, rfl, (Mem.ordsN 82 62 (Mem.rows0 83 3 (Mem.nilRow 84 2 1 encI hm_))).weak ⟨rfl, rfl, rfl, trivial⟩⟩)))))))))))))
  · replace c1 := bnot_f c1
    replace c1 := of_decide_eq_true c1
    have h0_ := c1
    have hK := JobOk.of h0_
    have hn := hK.nts.2
    have hng := hK.ngs
    have h8_ := h8 h0_
    have hmb : ∀ t ∈ J.ts, 0 ≤ t.m ∧ t.m ≤ 10080 := fun t ht => (hK.tk t ht).1
    refine Cd.skip (Rx.seq (Cd.seq (Cd.seq (Cd.region (Rg.val (Val.loadAll (l := 21) rfl rfl ag26 rfl) rfl (Rg.eff (Eff.give rfl rfl en32 rfl (fun w hm => many_gives J w (Mem.job hm hJ) hn)) rfl fun _ _ => (Rg.val (Val.gtr rfl rfl) rfl (Rg.nil (Rx.seq (Cd.cond rfl (fun c2 => ?_) (fun c2 => ?_)))))))))))
    · replace c2 := of_decide_eq_true c2
      have hmany : 5040 < prodN J J.gs.length := by have := many_eq J; omega
      refine Cd.seq (Cd.region (Rg.val (Val.assign rfl) rfl (Rg.val (Val.assign rfl) rfl (Rg.val (Val.assign rfl) rfl (Rg.val (Val.assign rfl) rfl (Rg.nil (Rx.seq (Cd.ret (Rx.pastR (Rx.retR rfl (RO.tmp rfl (RO.tmp rfl (RO.tmp rfl (RO.tmp rfl (RO.nil))))) fun w hm_ => ((by have bv_ := best_many h0_ hmany; rw [bv_.e, bv_.s, bv_.n]; exact ⟨(⟨none, 0, []⟩, none, 0, [⟨none, 0, []⟩], []), ⟨by rw [bv_.o]; rfl, by simp, fun r h => (nomatch h)⟩, rfl, (Mem.ordsN 82 62 (Mem.rows0 83 3 (Mem.nilRow 84 2 1 encI hm_))).weak ⟨rfl, rfl, rfl, trivial⟩⟩))))))))))))
    · replace c2 := of_decide_eq_false c2
      have hmany : ¬ 5040 < prodN J J.gs.length := by have := many_eq J; omega
      refine Cd.skip (Rx.seq (Cd.seq (Cd.region (Rg.val (Val.loadAll (l := 21) rfl rfl ag26 rfl) rfl (Rg.eff (Eff.made (A := Option Addr × Nat × List Oy × List Rw) (Bs := fun p_ => [(81, rowL 27 1 encOy p_.1 p_.2.1 p_.2.2.1), (82, ordsR 62 p_.2.2.1), (83, rowsR 3 p_.2.2.2)]) rfl rfl en84 rfl (fun _ => rfl) (fun w hm => rorders_calls J w (Mem.job hm hJ) h8_ hmany hng)) rfl fun p3 hp3 => (Rg.val (Val.assign rfl) rfl (Rg.nil (Rx.seq (Cd.seq (Cd.region (Rg.val (Val.assign rfl) rfl (Rg.nil (Rx.seq (Cd.seq (Cd.region (Rg.val (Val.assign rfl) rfl (Rg.nil (Rx.seq (Cd.seq (Cd.seq (Cd.region (Rg.val (Val.assign rfl) rfl (Rg.nil (Rx.seq (Cd.block ?_)))))))))))))))))))))))))
      have hal := ord_total hp3.1 hmany
      refine Cd.gain (fun w hm => Mem.nilRow 84 2 1 encI hm) ?_
      refine Cd.loop (A := Nat × Int × Option Addr × Nat × List Int) (fun pr_ : Nat × Int × Option Addr × Nat × List Int => match pr_ with | (i, best, sa, sc, ss) => i ≤ p3.2.2.1.length ∧ RbI J p3.2.2.1 i best ss)
          (fun pr_ : Nat × Int × Option Addr × Nat × List Int => match pr_ with | (i, best, sa, sc, ss) => [(1, .pointer (some ⟨b21, 0, none⟩)), (2, .slice none 0 0), (3, .slice none 0 0), (4, .int .i64 0), (5, .int .i64 0), (7, .slice p3.1 p3.2.2.1.length p3.2.1), (8, .int .i64 best), (9, .slice sa ss.length sc), (10, .int .i64 (i : Int))])
          (fun pr_ : Nat × Int × Option Addr × Nat × List Int => match pr_ with | (i, best, sa, sc, ss) => [(21, blk b21 [.slice J.ta J.ts.length J.tc, .slice J.aa J.ls.length J.ac, .slice J.ga J.gs.length J.gc] 26), (81, rowL 27 1 encOy p3.1 p3.2.1 p3.2.2.1), (82, ordsR 62 p3.2.2.1), (83, rowsR 3 p3.2.2.2), (84, rowL 2 1 encI sa sc ss)])
          (fun pr_ : Nat × Int × Option Addr × Nat × List Int => match pr_ with | (i, best, sa, sc, ss) => p3.2.2.1.length - i) (0, -1, none, 0, []) ?_ ⟨rfl, rfl, rfl, rfl, rfl, rfl, rfl, rfl, rfl, trivial⟩ ⟨rfl, rfl, rfl, rfl, rfl, trivial⟩ ?_
      · exact ⟨Nat.zero_le _, RbI.start⟩
      · rintro ⟨i, best, sa, sc, ss⟩ ⟨hi, hB⟩
        show Cd _ _ _ _ _ [(1, .pointer (some ⟨b21, 0, none⟩)), (2, .slice none 0 0), (3, .slice none 0 0), (4, .int .i64 0), (5, .int .i64 0), (7, .slice p3.1 p3.2.2.1.length p3.2.1), (8, .int .i64 best), (9, .slice sa ss.length sc), (10, .int .i64 (i : Int))] [(21, blk b21 [.slice J.ta J.ts.length J.tc, .slice J.aa J.ls.length J.ac, .slice J.ga J.gs.length J.gc] 26), (81, rowL 27 1 encOy p3.1 p3.2.1 p3.2.2.1), (82, ordsR 62 p3.2.2.1), (83, rowsR 3 p3.2.2.2), (84, rowL 2 1 encI sa sc ss)]
        refine Cd.seq (Cd.seq (Cd.region (Rg.val (Val.move rfl) rfl (Rg.val (Val.move rfl) rfl (Rg.val (Val.len Try.underlying120 rfl) rfl (Rg.val (Val.lss rfl rfl) rfl (Rg.nil (Rx.seq (Cd.cond rfl (fun c4 => ?_) (fun c4 => ?_))))))))))
        · replace c4 := of_decide_eq_true c4
          obtain ⟨y, hy⟩ : ∃ y, p3.2.2.1[i]? = some y := ⟨_, List.getElem?_eq_getElem (by omega)⟩
          have hcy := ord_ok h0_ (os := y.rs) (by rw [← hp3.1]; exact List.mem_map_of_mem (List.mem_of_getElem? hy))
          obtain ⟨_, hVy, _⟩ := OrdOk.of hcy
          have hVl := hVy.len
          refine Cd.skip (Rx.seq (Cd.seq (Cd.block (Cd.seq (Cd.draw [(21, blk b21 [.slice J.ta J.ts.length J.tc, .slice J.aa J.ls.length J.ac, .slice J.ga J.gs.length J.gc] 26), (81, rowL 27 1 encOy p3.1 p3.2.1 p3.2.2.1), (82, ordsR 62 p3.2.2.1), (83, rowsR 3 p3.2.2.2), (84, rowL 2 1 encI sa sc ss)] mixed rfl (Dr.take 0 rfl (by kernel_rfl) (Val.loadAll (l := 21) rfl rfl ag26 rfl) rfl ⟨rfl, rfl, rfl, rfl, rfl, trivial⟩ (Dr.take 1 rfl (by kernel_rfl) (Val.move rfl) rfl ⟨rfl, rfl, rfl, rfl, rfl, trivial⟩ (Dr.take 2 rfl (by kernel_rfl) (Val.move rfl) rfl ⟨rfl, rfl, rfl, rfl, rfl, trivial⟩ (Dr.take 3 rfl (by kernel_rfl) (Val.ideRow 81 Try.underlying120 sz27 rfl rfl rfl rfl (by first | rfl | omega | (simp; done)) hy) rfl ⟨rfl, rfl, rfl, rfl, rfl, trivial⟩ (Dr.take 4 rfl (by kernel_rfl) (Val.loadRow (k := 0) 81 rfl sc27 rfl (fun _ => rfl) hy rfl) rfl ⟨rfl, rfl, rfl, rfl, rfl, trivial⟩ (Dr.one 5 (by kernel_rfl) rfl (Eff.call rfl rfl en82 rfl (fun w hm => RowPost.mem 94 hm (rearliest_calls J _ _ y.rs w (Mem.job hm hJ) (OrdAt.of_ords 82 83 hm rfl (List.mem_of_getElem? hy) rfl (hp3.2 _ (List.mem_of_getElem? hy)) (by have := hK.ngs; omega) (fun r hr => by have := hVy.row r hr; omega)) hK hVy))) rfl (fun _ _ => ⟨rfl, rfl, rfl, rfl, rfl, trivial⟩) fun pd35 _ => (Dr.take 6 rfl (by kernel_rfl) (Val.move rfl) rfl ⟨rfl, rfl, rfl, rfl, rfl, trivial⟩ (Dr.take 7 rfl (by kernel_rfl) (Val.extract rfl rfl) rfl ⟨rfl, rfl, rfl, rfl, rfl, trivial⟩ (Dr.take 8 rfl (by kernel_rfl) (Val.extract rfl rfl) rfl ⟨rfl, rfl, rfl, rfl, rfl, trivial⟩ (Dr.take 9 rfl (by kernel_rfl) (Val.assign rfl) rfl ⟨rfl, rfl, rfl, rfl, rfl, trivial⟩ (Dr.take 10 rfl (by kernel_rfl) (Val.assign rfl) rfl ⟨rfl, rfl, rfl, rfl, rfl, trivial⟩ (Dr.done (by kernel_rfl) (Rx.seq (Cd.seq (Cd.draw [(21, blk b21 [.slice J.ta J.ts.length J.tc, .slice J.aa J.ls.length J.ac, .slice J.ga J.gs.length J.gc] 26), (81, rowL 27 1 encOy p3.1 p3.2.1 p3.2.2.1), (82, ordsR 62 p3.2.2.1), (83, rowsR 3 p3.2.2.2), (84, rowL 2 1 encI sa sc ss), (94, rowL 2 1 encI pd35.1 pd35.2 ((earlF J (linksF J y.rs)).getD []))] mixed rfl (Dr.take 0 rfl (by kernel_rfl) (Val.move rfl) rfl ⟨rfl, rfl, rfl, rfl, rfl, rfl, trivial⟩ (Dr.take 1 rfl (by kernel_rfl) (Val.move rfl) rfl ⟨rfl, rfl, rfl, rfl, rfl, rfl, trivial⟩ (Dr.split 39 rfl (fun c5 => ?_) (fun c5 => ?_))))))))))))))))))))))))
          · obtain ⟨sl, hsl⟩ := Option.isSome_iff_exists.1 c5
            have hpl := (earlF_spec hsl).plan
            have hsll : sl.length = J.ts.length := hpl.len
            have hslb := hpl.bd hK
            rw [show ((earlF J (linksF J y.rs)).getD []) = sl from by rw [hsl]; rfl]
            refine Dr.takeG 2 rfl (by kernel_rfl) rfl rfl rfl (Val.move rfl) rfl ⟨rfl, rfl, rfl, rfl, rfl, rfl, trivial⟩ (Dr.takeG 3 rfl (by kernel_rfl) rfl rfl rfl (Val.lss rfl rfl) rfl ⟨rfl, rfl, rfl, rfl, rfl, rfl, trivial⟩ (Dr.takeG 4 rfl (by kernel_rfl) rfl rfl rfl (Val.move rfl) rfl ⟨rfl, rfl, rfl, rfl, rfl, rfl, trivial⟩ (Dr.split 42 rfl (fun c6 => ?_) (fun c6 => ?_))))
            · replace c6 := of_decide_eq_true c6
              refine Dr.off 5 rfl (by kernel_rfl) rfl rfl rfl rfl ⟨rfl, rfl, rfl, rfl, rfl, rfl, trivial⟩ (Dr.off 6 rfl (by kernel_rfl) rfl rfl rfl rfl ⟨rfl, rfl, rfl, rfl, rfl, rfl, trivial⟩ (Dr.off 7 rfl (by kernel_rfl) rfl rfl rfl rfl ⟨rfl, rfl, rfl, rfl, rfl, rfl, trivial⟩ (Dr.off 8 rfl (by kernel_rfl) rfl rfl rfl rfl ⟨rfl, rfl, rfl, rfl, rfl, rfl, trivial⟩ (Dr.off 9 rfl (by kernel_rfl) rfl rfl rfl rfl ⟨rfl, rfl, rfl, rfl, rfl, rfl, trivial⟩ (Dr.off 10 rfl (by kernel_rfl) rfl rfl rfl rfl ⟨rfl, rfl, rfl, rfl, rfl, rfl, trivial⟩ (Dr.off 11 rfl (by kernel_rfl) rfl rfl rfl rfl ⟨rfl, rfl, rfl, rfl, rfl, rfl, trivial⟩ (Dr.takeG 12 rfl (by kernel_rfl) rfl rfl rfl (Val.pickT rfl rfl) rfl ⟨rfl, rfl, rfl, rfl, rfl, rfl, trivial⟩ (Dr.take 13 rfl (by kernel_rfl) (Val.pickT rfl rfl) rfl ⟨rfl, rfl, rfl, rfl, rfl, rfl, trivial⟩ (Dr.done (by kernel_rfl) (Rx.seq (Cd.yes rfl (Cd.seq (Cd.region (Rg.val (Val.move rfl) rfl (Rg.val (Val.assign rfl) rfl (Rg.nil (Rx.seq (Cd.region (Rg.val (Val.move rfl) rfl (Rg.val (Val.assign rfl) rfl (Rg.nil (Rx.inb (Rx.seq (Cd.region (Rg.val (Val.move rfl) rfl (Rg.val (Val.addN rfl rfl (by unfold in64; omega)) rfl (Rg.val (Val.assign rfl) rfl (Rg.nil (Rx.gain (fun w hm => Mem.moved (l := 94) (q := 84) (B0 := [(21, blk b21 [.slice J.ta J.ts.length J.tc, .slice J.aa J.ls.length J.ac, .slice J.ga J.gs.length J.gc] 26), (81, rowL 27 1 encOy p3.1 p3.2.1 p3.2.2.1), (82, ordsR 62 p3.2.2.1), (83, rowsR 3 p3.2.2.2)]) hm rfl ⟨rfl, rfl, rfl, rfl, trivial⟩ rfl rfl) ?_)))))))))))))))))))))))))))))
              refine Rx.meet (i + 1, (i : Int), pd35.1, pd35.2, sl) ⟨⟨by omega, hB.better hy hsl (.inl c6)⟩, by show p3.2.2.1.length - (i + 1) < p3.2.2.1.length - i; omega⟩ ⟨rfl, rfl, rfl, rfl, rfl, rfl, rfl, rfl, rfl, trivial⟩ ⟨rfl, rfl, rfl, rfl, rfl, trivial⟩
            · replace c6 := of_decide_eq_false c6
              obtain ⟨hssl, hssb⟩ := hB.plan hK c6
              refine Dr.takeG 5 rfl (by kernel_rfl) rfl rfl rfl (Val.loadAll (l := 21) rfl rfl ag26 rfl) rfl ⟨rfl, rfl, rfl, rfl, rfl, rfl, trivial⟩ (Dr.takeG 6 rfl (by kernel_rfl) rfl rfl rfl (Val.move rfl) rfl ⟨rfl, rfl, rfl, rfl, rfl, rfl, trivial⟩ (Dr.takeG 8 rfl (by kernel_rfl) rfl rfl rfl (Val.loadAll (l := 21) rfl rfl ag26 rfl) rfl ⟨rfl, rfl, rfl, rfl, rfl, rfl, trivial⟩ (Dr.takeG 9 rfl (by kernel_rfl) rfl rfl rfl (Val.move rfl) rfl ⟨rfl, rfl, rfl, rfl, rfl, rfl, trivial⟩ (Dr.oneG 7 (by kernel_rfl) rfl rfl rfl rfl (Eff.give rfl rfl en34 rfl (fun w hm => ends_gives J _ _ sl w (Mem.job hm hJ) (Rdb.of_row (l := 94) hm rfl (fun _ => rfl)) (by have := hJ.lts; omega) hsll hslb hmb)) (fun _ _ => ⟨rfl, rfl, rfl, rfl, rfl, rfl, trivial⟩) fun _ _ => (Dr.oneG 10 (by kernel_rfl) rfl rfl rfl rfl (Eff.give rfl rfl en34 rfl (fun w hm => ends_gives J _ _ ss w (Mem.job hm hJ) (Rdb.of_row (l := 84) hm rfl (fun _ => rfl)) (by have := hJ.lts; omega) hssl hssb hmb)) (fun _ _ => ⟨rfl, rfl, rfl, rfl, rfl, rfl, trivial⟩) fun _ _ => (Dr.takeG 11 rfl (by kernel_rfl) rfl rfl rfl (Val.lss rfl rfl) rfl ⟨rfl, rfl, rfl, rfl, rfl, rfl, trivial⟩ (Dr.takeG 12 rfl (by kernel_rfl) rfl rfl rfl (Val.pickF rfl rfl) rfl ⟨rfl, rfl, rfl, rfl, rfl, rfl, trivial⟩ (Dr.take 13 rfl (by kernel_rfl) (Val.pickT rfl rfl) rfl ⟨rfl, rfl, rfl, rfl, rfl, rfl, trivial⟩ (Dr.done (by kernel_rfl) (Rx.seq (Cd.cond rfl (fun c7 => ?_) (fun c7 => ?_))))))))))))
              · replace c7 := of_decide_eq_true c7
                refine Cd.seq (Cd.region (Rg.val (Val.move rfl) rfl (Rg.val (Val.assign rfl) rfl (Rg.nil (Rx.seq (Cd.region (Rg.val (Val.move rfl) rfl (Rg.val (Val.assign rfl) rfl (Rg.nil (Rx.inb (Rx.seq (Cd.region (Rg.val (Val.move rfl) rfl (Rg.val (Val.addN rfl rfl (by unfold in64; omega)) rfl (Rg.val (Val.assign rfl) rfl (Rg.nil (Rx.gain (fun w hm => Mem.moved (l := 94) (q := 84) (B0 := [(21, blk b21 [.slice J.ta J.ts.length J.tc, .slice J.aa J.ls.length J.ac, .slice J.ga J.gs.length J.gc] 26), (81, rowL 27 1 encOy p3.1 p3.2.1 p3.2.2.1), (82, ordsR 62 p3.2.2.1), (83, rowsR 3 p3.2.2.2)]) hm rfl ⟨rfl, rfl, rfl, rfl, trivial⟩ rfl rfl) ?_)))))))))))))))))
                refine Rx.meet (i + 1, (i : Int), pd35.1, pd35.2, sl) ⟨⟨by omega, hB.better hy hsl (.inr (by omega))⟩, by show p3.2.2.1.length - (i + 1) < p3.2.2.1.length - i; omega⟩ ⟨rfl, rfl, rfl, rfl, rfl, rfl, rfl, rfl, rfl, trivial⟩ ⟨rfl, rfl, rfl, rfl, rfl, trivial⟩
              · replace c7 := of_decide_eq_false c7
                refine Cd.skip (Rx.inb (Rx.seq (Cd.region (Rg.val (Val.move rfl) rfl (Rg.val (Val.addN rfl rfl (by unfold in64; omega)) rfl (Rg.val (Val.assign rfl) rfl (Rg.nil ?_)))))))
                refine Rx.meet (i + 1, best, sa, sc, ss) ⟨⟨by omega, hB.worse hy hsl c6 (by omega)⟩, by show p3.2.2.1.length - (i + 1) < p3.2.2.1.length - i; omega⟩ ⟨rfl, rfl, rfl, rfl, rfl, rfl, rfl, rfl, rfl, trivial⟩ ⟨rfl, rfl, rfl, rfl, rfl, trivial⟩
          · have hno_ := isSome_none c5
            refine Dr.off 2 rfl (by kernel_rfl) rfl rfl rfl rfl ⟨rfl, rfl, rfl, rfl, rfl, rfl, trivial⟩ (Dr.off 3 rfl (by kernel_rfl) rfl rfl rfl rfl ⟨rfl, rfl, rfl, rfl, rfl, rfl, trivial⟩ (Dr.off 4 rfl (by kernel_rfl) rfl rfl rfl rfl ⟨rfl, rfl, rfl, rfl, rfl, rfl, trivial⟩ (Dr.off 5 rfl (by kernel_rfl) rfl rfl rfl rfl ⟨rfl, rfl, rfl, rfl, rfl, rfl, trivial⟩ (Dr.off 6 rfl (by kernel_rfl) rfl rfl rfl rfl ⟨rfl, rfl, rfl, rfl, rfl, rfl, trivial⟩ (Dr.off 7 rfl (by kernel_rfl) rfl rfl rfl rfl ⟨rfl, rfl, rfl, rfl, rfl, rfl, trivial⟩ (Dr.off 8 rfl (by kernel_rfl) rfl rfl rfl rfl ⟨rfl, rfl, rfl, rfl, rfl, rfl, trivial⟩ (Dr.off 9 rfl (by kernel_rfl) rfl rfl rfl rfl ⟨rfl, rfl, rfl, rfl, rfl, rfl, trivial⟩ (Dr.off 10 rfl (by kernel_rfl) rfl rfl rfl rfl ⟨rfl, rfl, rfl, rfl, rfl, rfl, trivial⟩ (Dr.off 11 rfl (by kernel_rfl) rfl rfl rfl rfl ⟨rfl, rfl, rfl, rfl, rfl, rfl, trivial⟩ (Dr.off 12 rfl (by kernel_rfl) rfl rfl rfl rfl ⟨rfl, rfl, rfl, rfl, rfl, rfl, trivial⟩ (Dr.take 13 rfl (by kernel_rfl) (Val.pickF rfl rfl) rfl ⟨rfl, rfl, rfl, rfl, rfl, rfl, trivial⟩ (Dr.done (by kernel_rfl) (Rx.seq (Cd.no rfl (Cd.skip (Rx.inb (Rx.seq (Cd.region (Rg.val (Val.move rfl) rfl (Rg.val (Val.addN rfl rfl (by unfold in64; omega)) rfl (Rg.val (Val.assign rfl) rfl (Rg.nil ?_))))))))))))))))))))))
            refine Rx.meet (i + 1, best, sa, sc, ss) ⟨⟨by omega, hB.skip hy hno_⟩, by show p3.2.2.1.length - (i + 1) < p3.2.2.1.length - i; omega⟩ ⟨rfl, rfl, rfl, rfl, rfl, rfl, rfl, rfl, rfl, trivial⟩ ⟨rfl, rfl, rfl, rfl, rfl, trivial⟩
        · replace c4 := of_decide_eq_false c4
          refine Cd.exit (Rx.pastE (Rx.pastE (Rx.hit (Rx.seq (Cd.seq (Cd.seq (Cd.region (Rg.val (Val.move rfl) rfl (Rg.val (Val.lss rfl rfl) rfl (Rg.nil (Rx.seq (Cd.cond rfl (fun c8 => ?_) (fun c8 => ?_)))))))))))))
          · replace c8 := of_decide_eq_true c8
            have hbn_ := (hB.done (by omega) hp3.1).1 c8
            refine Cd.seq (Cd.region (Rg.val (Val.assign rfl) rfl (Rg.val (Val.assign rfl) rfl (Rg.val (Val.assign rfl) rfl (Rg.val (Val.assign rfl) rfl (Rg.nil (Rx.seq (Cd.ret (Rx.pastR (Rx.retR rfl (RO.tmp rfl (RO.tmp rfl (RO.tmp rfl (RO.tmp rfl (RO.nil))))) fun w hm_ => ((by have bv_ := best_no h0_ hmany hbn_; rw [bv_.e, bv_.s, bv_.n]; exact ⟨(⟨none, 0, []⟩, none, 0, [⟨none, 0, []⟩], []), ⟨by rw [bv_.o]; rfl, by simp, fun r h => (nomatch h)⟩, rfl, (Mem.ordsN 82 62 (Mem.rows0 83 3 (Mem.nilRow 84 2 1 encI hm_))).weak ⟨rfl, rfl, rfl, trivial⟩⟩))))))))))))
          · replace c8 := of_decide_eq_false c8
            obtain ⟨hssl, hssb⟩ := hB.plan hK c8
            obtain ⟨b, z, hbs_, hbb, hz0⟩ := (hB.done (by omega) hp3.1).2 c8
            have hz : p3.2.2.1[Int.toNat best]? = some z := by rw [hbb]; exact hz0
            refine Cd.skip (Rx.seq (Cd.seq (Cd.draw [(21, blk b21 [.slice J.ta J.ts.length J.tc, .slice J.aa J.ls.length J.ac, .slice J.ga J.gs.length J.gc] 26), (81, rowL 27 1 encOy p3.1 p3.2.1 p3.2.2.1), (82, ordsR 62 p3.2.2.1), (83, rowsR 3 p3.2.2.2), (84, rowL 2 1 encI sa sc ss)] mixed rfl (Dr.take 0 rfl (by kernel_rfl) (Val.move rfl) rfl ⟨rfl, rfl, rfl, rfl, rfl, trivial⟩ (Dr.take 1 rfl (by kernel_rfl) (Val.move rfl) rfl ⟨rfl, rfl, rfl, rfl, rfl, trivial⟩ (Dr.take 2 rfl (by kernel_rfl) (Val.ideRow 81 Try.underlying120 sz27 rfl rfl rfl rfl (by first | rfl | omega | (simp; done)) hz) rfl ⟨rfl, rfl, rfl, rfl, rfl, trivial⟩ (Dr.take 3 rfl (by kernel_rfl) (Val.loadRow (k := 0) 81 rfl sc27 rfl (fun _ => rfl) hz rfl) rfl ⟨rfl, rfl, rfl, rfl, rfl, trivial⟩ (Dr.take 4 rfl (by kernel_rfl) (Val.move rfl) rfl ⟨rfl, rfl, rfl, rfl, rfl, trivial⟩ (Dr.take 5 rfl (by kernel_rfl) (Val.loadAll (l := 21) rfl rfl ag26 rfl) rfl ⟨rfl, rfl, rfl, rfl, rfl, trivial⟩ (Dr.take 6 rfl (by kernel_rfl) (Val.move rfl) rfl ⟨rfl, rfl, rfl, rfl, rfl, trivial⟩ (Dr.one 7 (by kernel_rfl) rfl (Eff.give rfl rfl en34 rfl (fun w hm => ends_gives J _ _ ss w (Mem.job hm hJ) (Rdb.of_row (l := 84) hm rfl (fun _ => rfl)) (by have := hJ.lts; omega) hssl hssb hmb)) rfl (fun _ _ => ⟨rfl, rfl, rfl, rfl, rfl, trivial⟩) fun _ _ => (Dr.take 8 rfl (by kernel_rfl) (Val.assign rfl) rfl ⟨rfl, rfl, rfl, rfl, rfl, trivial⟩ (Dr.take 9 rfl (by kernel_rfl) (Val.assign rfl) rfl ⟨rfl, rfl, rfl, rfl, rfl, trivial⟩ (Dr.take 10 rfl (by kernel_rfl) (Val.assign rfl) rfl ⟨rfl, rfl, rfl, rfl, rfl, trivial⟩ (Dr.take 11 rfl (by kernel_rfl) (Val.assign rfl) rfl ⟨rfl, rfl, rfl, rfl, rfl, trivial⟩ (Dr.done (by kernel_rfl) (Rx.seq (Cd.ret (Rx.retR rfl (RO.tmp rfl (RO.tmp rfl (RO.tmp rfl (RO.tmp rfl (RO.nil))))) fun w hm_ => ((by have bv_ := best_got h0_ hmany hbs_; rw [bv_.e, bv_.s, bv_.n]; exact ⟨(z, sa, sc, p3.2.2.1, p3.2.2.2), ⟨by rw [bv_.o], List.mem_of_getElem? hz, hp3.2 _ (List.mem_of_getElem? hz)⟩, rfl, hm_.weak ⟨rfl, rfl, rfl, trivial⟩⟩)))))))))))))))))))))

end Go.Proofs.Ytdmkedbmoboamaa
