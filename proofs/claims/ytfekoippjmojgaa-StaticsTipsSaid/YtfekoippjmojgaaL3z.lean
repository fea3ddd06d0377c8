/- Walks of functions of the program: what each returns, told by plain functions; nothing that lay there is turned. -/
import Derived.Test.YtfekoippjmojgaaL3n
namespace Go.Proofs.Ytfekoippjmojgaa
open Go.Kx Go.RowKit
set_option maxRecDepth 100000
set_option linter.unusedVariables false
set_option linter.unusedSimpArgs false
set_option linter.constructorNameAsVariable false
theorem tips_case_bad (a : Option Addr) (cap : Nat) (xs : List Sup) (x y e g f : Int) (s : M9) (w : World) (hR : Rdb w a 6 encSup xs) (he : deckErr xs = e) (hs : sumsR xs = s) (hT : TipsF xs x y = (g, f)) (hbad : e ≠ 0 → f = e) (hor : e ≠ 0 ∨ f = 3) : Gives Try.prog 4 #[.slice a xs.length cap, .agg #[.int .i64 x, .int .i64 y]] w (.bool true) := by
  refine calls_of (vs := [.slice a xs.length cap, .agg #[.int .i64 x, .int .i64 y]]) Try.func4 rfl rfl rfl ?_
  show Cd _ _ _ _ _ [(0, .slice a xs.length cap), (1, .agg #[.int .i64 x, .int .i64 y])] []
  refine Cd.seq (Cd.region (Rg.eff (Eff.box 1 rfl rfl) rfl fun b1 _ => (Rg.val (Val.assign rfl) rfl (Rg.nil (Rx.seq (Cd.seq (Cd.seq (Cd.region (Rg.val (Val.move rfl) rfl (Rg.val (Val.len Try.underlying27 rfl) rfl (Rg.val (Val.gtr rfl rfl) rfl (Rg.nil (Rx.seq (Cd.cond rfl (fun c1 => ?_) (fun c1 => ?_)))))))))))))))
  · replace c1 := of_decide_eq_true c1
    refine Cd.seq (Cd.region (Rg.eff (Eff.give rfl rfl en16 rfl (fun w hm => known_gives w)) rfl fun _ _ => (Rg.val (Val.assign rfl) rfl (Rg.nil (Rx.seq (Cd.ret (Rx.pastR (Rx.ret1 rfl rfl fun w hm_ => (⟨rfl, hm_.below⟩)))))))))
  · replace c1 := of_decide_eq_false c1
    refine Cd.skip (Rx.seq (Cd.seq (Cd.region (Rg.val (Val.move rfl) rfl (Rg.eff (Eff.give rfl rfl en17 rfl (fun w hm => Sums_gives' he hs (hm.rdb hR))) rfl fun _ _ => (Rg.val (Val.move rfl) rfl (Rg.val (Val.extract rfl rfl) rfl (Rg.val (Val.extract rfl rfl) rfl (Rg.eff (Eff.alloc 2 zv31 rfl) rfl fun b2 _ => (Rg.eff (Eff.storeAll (l := 2) sz31 rfl rfl rfl rfl rfl rfl) rfl fun _ _ => (Rg.val (Val.assign rfl) rfl (Rg.nil (Rx.seq (Cd.seq (Cd.region (Rg.val (Val.move rfl) rfl (Rg.val (Val.loadAll (l := 1) rfl rfl ag29 rfl) rfl (Rg.eff (Eff.give rfl rfl en18 rfl (fun w hm => Tips_gives' hT (hm.rdb hR))) rfl fun _ _ => (Rg.val (Val.move rfl) rfl (Rg.val (Val.extract rfl rfl) rfl (Rg.val (Val.extract rfl rfl) rfl (Rg.val (Val.assign rfl) rfl (Rg.val (Val.assign rfl) rfl (Rg.nil (Rx.seq (Cd.seq (Cd.seq (Cd.region (Rg.val (Val.move rfl) rfl (Rg.val (Val.neq rfl rfl) rfl (Rg.val (Val.move rfl) rfl (Rg.split 32 rfl (fun c2 => ?_) (fun c2 => ?_)))))))))))))))))))))))))))))))))
    · replace c2 := bnot_t c2
      replace c2 := of_decide_eq_false c2
      refine Rg.off rfl rfl rfl rfl (Rg.off rfl rfl rfl rfl (Rg.val (Val.pickT rfl rfl) rfl (Rg.nil (Rx.seq (Cd.yes rfl (Cd.seq (Cd.region (Rg.val (Val.move rfl) rfl (Rg.val (Val.move rfl) rfl (Rg.val (Val.eql rfl rfl) rfl (Rg.val (Val.move rfl) rfl (Rg.know (t := 39) rfl (decide_eq_true (hbad c2)) (Rg.off rfl rfl rfl rfl (Rg.off rfl rfl rfl rfl (Rg.val (Val.pickT rfl rfl) rfl (Rg.val (Val.move rfl) rfl (Rg.on rfl rfl rfl (Rg.eff (Eff.give rfl rfl en16 rfl (fun w hm => known_gives w)) rfl fun _ _ => (Rg.val (Val.pickT rfl rfl) rfl (Rg.val (Val.assign rfl) rfl (Rg.nil (Rx.seq (Cd.ret (Rx.pastR (Rx.ret1 rfl rfl fun w hm_ => (⟨rfl, hm_.below⟩))))))))))))))))))))))))))
    · replace c2 := bnot_f c2
      replace c2 := of_decide_eq_true c2
      refine Rg.on rfl rfl rfl (Rg.val (Val.move rfl) rfl (Rg.on rfl rfl rfl (Rg.val (Val.eql rfl rfl) rfl (Rg.val (Val.pickF rfl rfl) rfl (Rg.nil (Rx.seq (Cd.know (t := 35) rfl (decide_eq_true (hor.resolve_left (fun h => h c2))) (Cd.yes rfl (Cd.seq (Cd.region (Rg.val (Val.move rfl) rfl (Rg.val (Val.move rfl) rfl (Rg.val (Val.eql rfl rfl) rfl (Rg.val (Val.move rfl) rfl (Rg.split 39 rfl (fun c4 => ?_) (fun c4 => ?_))))))))))))))))
      · replace c4 := of_decide_eq_true c4
        refine Rg.off rfl rfl rfl rfl (Rg.off rfl rfl rfl rfl (Rg.val (Val.pickT rfl rfl) rfl (Rg.val (Val.move rfl) rfl (Rg.on rfl rfl rfl (Rg.eff (Eff.give rfl rfl en16 rfl (fun w hm => known_gives w)) rfl fun _ _ => (Rg.val (Val.pickT rfl rfl) rfl (Rg.val (Val.assign rfl) rfl (Rg.nil (Rx.seq (Cd.ret (Rx.pastR (Rx.ret1 rfl rfl fun w hm_ => (⟨rfl, hm_.below⟩)))))))))))))
      · replace c4 := of_decide_eq_false c4
        refine Rg.on rfl rfl rfl (Rg.val (Val.move rfl) rfl (Rg.on rfl rfl rfl (Rg.val (Val.eql rfl rfl) rfl (Rg.val (Val.pickF rfl rfl) rfl (Rg.val (Val.move rfl) rfl (Rg.know (t := 43) rfl (decide_eq_true c2) (Rg.on rfl rfl rfl (Rg.eff (Eff.give rfl rfl en16 rfl (fun w hm => known_gives w)) rfl fun _ _ => (Rg.val (Val.pickT rfl rfl) rfl (Rg.val (Val.assign rfl) rfl (Rg.nil (Rx.seq (Cd.ret (Rx.pastR (Rx.ret1 rfl rfl fun w hm_ => (⟨rfl, hm_.below⟩))))))))))))))))

theorem tips_case_long (a : Option Addr) (cap : Nat) (xs : List Sup) (x y : Int) (w : World) (hR : Rdb w a 6 encSup xs) (hl : 48 < xs.length) : Gives Try.prog 4 #[.slice a xs.length cap, .agg #[.int .i64 x, .int .i64 y]] w (.bool true) := by
  refine calls_of (vs := [.slice a xs.length cap, .agg #[.int .i64 x, .int .i64 y]]) Try.func4 rfl rfl rfl ?_
  show Cd _ _ _ _ _ [(0, .slice a xs.length cap), (1, .agg #[.int .i64 x, .int .i64 y])] []
  refine Cd.seq (Cd.region (Rg.eff (Eff.box 1 rfl rfl) rfl fun b1 _ => (Rg.val (Val.assign rfl) rfl (Rg.nil (Rx.seq (Cd.seq (Cd.seq (Cd.region (Rg.val (Val.move rfl) rfl (Rg.val (Val.len Try.underlying27 rfl) rfl (Rg.val (Val.gtr rfl rfl) rfl (Rg.nil (Rx.seq (Cd.know (t := 17) rfl (decide_eq_true (by omega)) (Cd.yes rfl (Cd.seq (Cd.region (Rg.eff (Eff.give rfl rfl en16 rfl (fun w hm => known_gives w)) rfl fun _ _ => (Rg.val (Val.assign rfl) rfl (Rg.nil (Rx.seq (Cd.ret (Rx.pastR (Rx.ret1 rfl rfl fun w hm_ => (⟨rfl, hm_.below⟩)))))))))))))))))))))))))

theorem StaticsTips_gives (a : Option Addr) (cap : Nat) (xs : List Sup) (x y : Int) (w : World) (hR : Rdb w a 6 encSup xs) : Gives Try.prog 4 #[.slice a xs.length cap, .agg #[.int .i64 x, .int .i64 y]] w (.bool true) := by
  by_cases hl : 48 < xs.length
  · exact tips_case_long a cap xs x y w hR hl
  obtain ⟨g, f, hT⟩ : ∃ g f, TipsF xs x y = (g, f) := ⟨_, _, rfl⟩
  by_cases h0 : deckErr xs = 0
  · by_cases hf : f = 3
    · exact tips_case_bad a cap xs x y _ g f _ w hR rfl rfl hT (fun h => absurd h0 h) (.inr hf)
    · obtain ⟨D, t0, t1, t2, hS, hz, hp, hn⟩ := tips_sides h0 hT hf
      by_cases hD : 0 < D
      · rcases hp hD with ⟨rfl, rfl, ht⟩ | ⟨rfl, rfl, ht⟩ | ⟨rfl, rfl, ht⟩ | ⟨rfl, rfl, ht⟩
        · exact tips_case_p0 a cap xs x y _ D t0 t1 t2 w hR (by omega) h0 rfl hT hS hD ht
        · exact tips_case_p1 a cap xs x y _ D t0 t1 t2 w hR (by omega) h0 rfl hT hS hD ht
        · exact tips_case_p2 a cap xs x y _ D t0 t1 t2 w hR (by omega) h0 rfl hT hS hD ht
        · exact tips_case_p3 a cap xs x y _ D t0 t1 t2 w hR (by omega) h0 rfl hT hS hD ht
      · have hD' : D < 0 := by omega
        rcases hn hD' with ⟨rfl, rfl, ht⟩ | ⟨rfl, rfl, ht⟩ | ⟨rfl, rfl, ht⟩ | ⟨rfl, rfl, ht⟩
        · exact tips_case_n0 a cap xs x y _ D t0 t1 t2 w hR (by omega) h0 rfl hT hS hD' ht
        · exact tips_case_n1 a cap xs x y _ D t0 t1 t2 w hR (by omega) h0 rfl hT hS hD' ht
        · exact tips_case_n2 a cap xs x y _ D t0 t1 t2 w hR (by omega) h0 rfl hT hS hD' ht
        · exact tips_case_n3 a cap xs x y _ D t0 t1 t2 w hR (by omega) h0 rfl hT hS hD' ht
  · exact tips_case_bad a cap xs x y _ g f _ w hR rfl rfl hT (fun _ => tips_bad h0 hT) (.inl h0)
end Go.Proofs.Ytfekoippjmojgaa
