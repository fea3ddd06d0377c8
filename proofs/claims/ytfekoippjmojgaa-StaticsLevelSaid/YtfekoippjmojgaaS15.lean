/- Walks of functions of the program: what each returns, told by plain functions; nothing that lay there is turned. -/
import Derived.Test.YtfekoippjmojgaaS14
namespace Go.Proofs.Ytfekoippjmojgaa
open Go.Kx Go.RowKit
set_option maxRecDepth 100000
set_option linter.unusedVariables false
set_option linter.unusedSimpArgs false
set_option linter.constructorNameAsVariable false
/-- The length of one cylinder, and the error. -/
def st1 (m : M9) (n0 n1 n2 : Int) (s : Sup) (g : Int) : Int × Int :=
  if (heightQ m n0 n1 n2 s.x s.y).2 = 0 then (if between ((heightQ m n0 n1 n2 s.x s.y).1 - g) s.least s.most then ((heightQ m n0 n1 n2 s.x s.y).1 - g, 0) else (0, 14)) else (0, (heightQ m n0 n1 n2 s.x s.y).2)
def strokesL (xs : List Sup) (gs : List Int) (f0 f1 f2 : Int) : List (Int × Int) := List.zipWith (st1 (sumsW xs) (f0 + hsum 0 xs gs) (f1 + hsum 1 xs gs) (f2 + hsum 2 xs gs)) xs gs
def okp (p : Int × Int) : Bool := decide (p.2 = 0)
def errL : List (Int × Int) → Int
  | [] => 0
  | p :: r => if p.2 = 0 then errL r else p.2
theorem errL_ok : ∀ {l : List (Int × Int)}, l.all okp = true → errL l = 0
  | [], _ => rfl
  | p :: r, h => by
    simp only [List.all_cons, Bool.and_eq_true, okp, decide_eq_true_eq] at h
    simp only [errL, h.1, if_true]
    exact errL_ok h.2
theorem errL_at : ∀ {l : List (Int × Int)} {i : Nat} {p : Int × Int}, l[i]? = some p → (l.take i).all okp = true → p.2 ≠ 0 → errL l = p.2
  | [], _, _, h, _, _ => by simp at h
  | q :: r, 0, p, h, _, hp => by simp at h; subst h; simp [errL, hp]
  | q :: r, i + 1, p, h, ha, hp => by
    simp only [List.take_succ_cons, List.all_cons, Bool.and_eq_true] at ha
    have h1 : q.2 = 0 := by simpa [okp] using ha.1
    simp only [errL, h1, if_true]
    exact errL_at (by simpa using h) ha.2 hp
def StrokesE (xs : List Sup) (gs : List Int) (f0 f1 f2 : Int) : Int := if groundErr xs gs f0 f1 f2 = 0 then errL (strokesL xs gs f0 f1 f2) else groundErr xs gs f0 f1 f2
def StrokesY (xs : List Sup) (gs : List Int) (f0 f1 f2 : Int) : List Int := if StrokesE xs gs f0 f1 f2 = 0 then (strokesL xs gs f0 f1 f2).map (·.1) else []
theorem strokesL_at {xs : List Sup} {gs : List Int} {f0 f1 f2 : Int} {i : Nat} {x : Sup} {g : Int} (h1 : xs[i]? = some x) (h2 : gs[i]? = some g) : (strokesL xs gs f0 f1 f2)[i]? = some (st1 (sumsW xs) (f0 + hsum 0 xs gs) (f1 + hsum 1 xs gs) (f2 + hsum 2 xs gs) x g) := by
  unfold strokesL
  rw [List.getElem?_zipWith, h1, h2]
theorem strokesY_len {xs : List Sup} {gs : List Int} {f0 f1 f2 : Int} : (StrokesY xs gs f0 f1 f2).length ≤ xs.length := by
  unfold StrokesY
  split
  · rw [List.length_map]; unfold strokesL; rw [List.length_zipWith]; omega
  · simp
theorem strokes_fail {xs : List Sup} {gs : List Int} {f0 f1 f2 : Int} {i : Nat} {x : Sup} {g e : Int} (h0 : groundErr xs gs f0 f1 f2 = 0) (h1 : xs[i]? = some x) (h2 : gs[i]? = some g) (ha : ((strokesL xs gs f0 f1 f2).take i).all okp = true) (he : st1 (sumsW xs) (f0 + hsum 0 xs gs) (f1 + hsum 1 xs gs) (f2 + hsum 2 xs gs) x g = (0, e)) (hz : e ≠ 0) : StrokesE xs gs f0 f1 f2 = e ∧ StrokesY xs gs f0 f1 f2 = [] := by
  have := errL_at (strokesL_at h1 h2) ha (by rw [he]; exact hz)
  rw [he] at this
  have hE : StrokesE xs gs f0 f1 f2 = e := by unfold StrokesE; rw [if_pos h0, this]
  exact ⟨hE, by unfold StrokesY; rw [if_neg (by rw [hE]; exact hz)]⟩
theorem strokes_done {xs : List Sup} {gs : List Int} {f0 f1 f2 : Int} {i : Nat} {o : List Int} (h0 : groundErr xs gs f0 f1 f2 = 0) (hi : xs.length ≤ i) (ha : ((strokesL xs gs f0 f1 f2).take i).all okp = true) (ho : o = ((strokesL xs gs f0 f1 f2).take i).map (·.1)) : StrokesE xs gs f0 f1 f2 = 0 ∧ StrokesY xs gs f0 f1 f2 = o := by
  have hl : (strokesL xs gs f0 f1 f2).length ≤ i := by unfold strokesL; rw [List.length_zipWith]; omega
  rw [List.take_of_length_le hl] at ha ho
  have hE : StrokesE xs gs f0 f1 f2 = 0 := by unfold StrokesE; rw [if_pos h0, errL_ok ha]
  exact ⟨hE, by unfold StrokesY; rw [if_pos hE, ho]⟩
theorem strokes_bad {xs : List Sup} {gs : List Int} {f0 f1 f2 : Int} (h0 : ¬ groundErr xs gs f0 f1 f2 = 0) : StrokesE xs gs f0 f1 f2 = groundErr xs gs f0 f1 f2 ∧ StrokesY xs gs f0 f1 f2 = [] := by
  have hE : StrokesE xs gs f0 f1 f2 = groundErr xs gs f0 f1 f2 := by unfold StrokesE; rw [if_neg h0]
  exact ⟨hE, by unfold StrokesY; rw [if_neg (by rw [hE]; exact h0)]⟩
theorem strokes_next {xs : List Sup} {gs : List Int} {f0 f1 f2 : Int} {i : Nat} {x : Sup} {g n : Int} {o : List Int} (h1 : xs[i]? = some x) (h2 : gs[i]? = some g) (ha : ((strokesL xs gs f0 f1 f2).take i).all okp = true) (ho : o = ((strokesL xs gs f0 f1 f2).take i).map (·.1)) (he : st1 (sumsW xs) (f0 + hsum 0 xs gs) (f1 + hsum 1 xs gs) (f2 + hsum 2 xs gs) x g = (n, 0)) :
    ((strokesL xs gs f0 f1 f2).take (i + 1)).all okp = true ∧ o ++ [n] = ((strokesL xs gs f0 f1 f2).take (i + 1)).map (·.1) := by
  have h := strokesL_at (f0 := f0) (f1 := f1) (f2 := f2) h1 h2
  rw [he] at h
  exact ⟨all_snoc h ha rfl, by rw [take_snoc' h, List.map_append, ho]; rfl⟩
theorem heightQ_bd {m : M9} {n0 n1 n2 x y : Int} (hn0 : -1179648 ≤ n0 ∧ n0 ≤ 1179648) (hn1 : -1179648 ≤ n1 ∧ n1 ≤ 1179648) (hn2 : -1179648 ≤ n2 ∧ n2 ≤ 1179648) (hf : Fits m x y) : -4000000000 ≤ (heightQ m n0 n1 n2 x y).1 ∧ (heightQ m n0 n1 n2 x y).1 ≤ 4000000000 := by
  unfold heightQ
  split
  · exact ⟨by decide, by decide⟩
  · rename_i h
    simp only [Bool.or_eq_true, not_or, Bool.not_eq_true] at h
    have h0 := frac_bd (n := n0) hn0 hf.d.1 (over_no h.1 hf.d.1)
    have h1 := frac_bd (n := n1) hn1 hf.d.1 (over_no h.2.1 hf.d.1)
    have h2 := frac_bd (n := n2) hn2 hf.d.1 (over_no h.2.2 hf.d.1)
    dsimp only
    omega
theorem Strokes_calls.bld_0 (y0 : Int) (y1 : Int) (w : World) : (Instr.build 29 #[(0, .int .i64 y0), (1, .int .i64 y1)]).run Try.prog w = .ok (.agg #[.int .i64 y0, .int .i64 y1]) w := by kernel_rfl
theorem Strokes_calls.bsl_1 (y0 : Int) (w : World) : (Instr.buildSlice 54 1 #[(0, .int .i64 y0)]).run Try.prog w = .ok (.slice (some ⟨w.heap.size, 0, none⟩) 1 1) (w.alloc (.cells #[.int .i64 y0] 2)) := by kernel_rfl
open Strokes_calls in
theorem Strokes_calls (a : Option Addr) (cap : Nat) (xs : List Sup) (ag : Option Addr) (capg : Nat) (gs : List Int) (f0 f1 f2 : Int) (w : World) (hR : Rdb w a 6 encSup xs) (hRg : Rdb w ag 1 (fun i => [Value.int .i64 i]) gs) (hgl : gs.length ≤ 60) : Calls Try.prog 37 #[.slice a xs.length cap, .agg #[.int .i64 f0, .int .i64 f1, .int .i64 f2], .slice ag gs.length capg] w (RowPost w 2 1 (fun i : Int => [Value.int .i64 i]) (StrokesY xs gs f0 f1 f2) fun a_ c_ => .tuple #[.slice a_ (StrokesY xs gs f0 f1 f2).length c_, .int .i64 (StrokesE xs gs f0 f1 f2)]) := by
  refine calls_of (vs := [.slice a xs.length cap, .agg #[.int .i64 f0, .int .i64 f1, .int .i64 f2], .slice ag gs.length capg]) Try.func37 rfl rfl rfl ?_
  show Cd _ _ _ _ _ [(0, .slice a xs.length cap), (1, .agg #[.int .i64 f0, .int .i64 f1, .int .i64 f2]), (2, .slice ag gs.length capg)] []
  refine Cd.seq (Cd.region (Rg.eff (Eff.box 1 rfl rfl) rfl fun b1 _ => (Rg.val (Val.assign rfl) rfl (Rg.val (Val.assign rfl) rfl (Rg.nil (Rx.seq (Cd.seq (Cd.region (Rg.val (Val.move rfl) rfl (Rg.val (Val.loadAll (l := 1) rfl rfl ag30 rfl) rfl (Rg.val (Val.move rfl) rfl ?_)))))))))))
  by_cases e1 : groundErr xs gs f0 f1 f2 = 0
  · obtain ⟨kd, kl, kg, kf0, kf1, kf2⟩ := groundErr_ok e1
    refine Rg.eff (Eff.call rfl rfl en71 rfl (fun w hm => ground_ok 2 hm e1 (newGround_calls _ _ _ _ _ _ _ _ _ w (hm.rdb hR) (hm.rdb hRg) hgl))) rfl fun b2 _ => (Rg.val (Val.move rfl) rfl (Rg.val (Val.extract rfl rfl) rfl (Rg.val (Val.extract rfl rfl) rfl (Rg.val (Val.extract rfl rfl) rfl (Rg.eff (Eff.alloc 3 zv30 rfl) rfl fun b3 _ => (Rg.val (Val.assign rfl) rfl (Rg.eff (Eff.storeAll (l := 3) sz30 rfl rfl rfl rfl rfl rfl) rfl fun _ _ => (Rg.val (Val.assign rfl) rfl (Rg.nil (Rx.seq (Cd.seq (Cd.seq (Cd.region (Rg.val (Val.move rfl) rfl (Rg.val (Val.known (c := false) (Val.neq rfl rfl) (by decide)) rfl (Rg.nil (Rx.seq (Cd.no rfl (Cd.skip (Rx.seq (Cd.seq (Cd.region (Rg.val (Val.assign rfl) rfl (Rg.nil (Rx.seq (Cd.seq (Cd.seq (Cd.region (Rg.val (Val.move rfl) rfl (Rg.val (Val.len Try.underlying27 rfl) rfl (Rg.val (Val.move rfl) rfl (Rg.nil (Rx.seq (Cd.block ?_))))))))))))))))))))))))))))))))))
    have hh0 := hs_all (xs := xs) kg hgl 0
    have hh1 := hs_all (xs := xs) kg hgl 1
    have hh2 := hs_all (xs := xs) kg hgl 2
    refine Cd.gain (fun w hm => Mem.nilRow 500 2 1 (fun i : Int => [Value.int .i64 i]) hm) ?_
    refine Cd.loop (A := Nat × Option Addr × Nat × List Int) (fun p : Nat × Option Addr × Nat × List Int => match p with | (i, ar, cr, o) => i ≤ xs.length ∧ ((strokesL xs gs f0 f1 f2).take i).all okp = true ∧ o = ((strokesL xs gs f0 f1 f2).take i).map (·.1) ∧ o.length = i)
        (fun p : Nat × Option Addr × Nat × List Int => match p with | (i, ar, cr, o) => [(2, .slice ag gs.length capg), (8, .pointer (some ⟨b2, 0, none⟩)), (9, .pointer (some ⟨b3, 0, none⟩)), (11, .slice ar o.length cr), (28, .slice a xs.length cap), (29, .int .i64 (xs.length : Int)), (30, .int .i64 (i : Int))])
        (fun p : Nat × Option Addr × Nat × List Int => match p with | (i, ar, cr, o) => [(1, blk b1 [.int .i64 f0, .int .i64 f1, .int .i64 f2] 30), (2, blk b2 [.slice a xs.length cap, .int .i64 ((sumsW xs).r0.n), .int .i64 ((sumsW xs).r0.x), .int .i64 ((sumsW xs).r0.y), .int .i64 ((sumsW xs).r1.n), .int .i64 ((sumsW xs).r1.x), .int .i64 ((sumsW xs).r1.y), .int .i64 ((sumsW xs).r2.n), .int .i64 ((sumsW xs).r2.x), .int .i64 ((sumsW xs).r2.y), .int .i64 (wdet (sumsW xs))] 90), (3, blk b3 [.int .i64 (f0 + hsum 0 xs gs), .int .i64 (f1 + hsum 1 xs gs), .int .i64 (f2 + hsum 2 xs gs)] 30), (500, rowL 2 1 (fun i : Int => [Value.int .i64 i]) ar cr o)])
        (fun p : Nat × Option Addr × Nat × List Int => match p with | (i, ar, cr, o) => xs.length - i) (0, none, 0, []) ?_ ⟨rfl, rfl, rfl, rfl, rfl, rfl, rfl, trivial⟩ ⟨rfl, rfl, rfl, rfl, trivial⟩ ?_
    · exact ⟨by omega, by simp, by simp, rfl⟩
    · rintro ⟨i, ar, cr, o⟩ ⟨hi, ha, ho, hol⟩
      show Cd _ _ _ _ _ [(2, .slice ag gs.length capg), (8, .pointer (some ⟨b2, 0, none⟩)), (9, .pointer (some ⟨b3, 0, none⟩)), (11, .slice ar o.length cr), (28, .slice a xs.length cap), (29, .int .i64 (xs.length : Int)), (30, .int .i64 (i : Int))] [(1, blk b1 [.int .i64 f0, .int .i64 f1, .int .i64 f2] 30), (2, blk b2 [.slice a xs.length cap, .int .i64 ((sumsW xs).r0.n), .int .i64 ((sumsW xs).r0.x), .int .i64 ((sumsW xs).r0.y), .int .i64 ((sumsW xs).r1.n), .int .i64 ((sumsW xs).r1.x), .int .i64 ((sumsW xs).r1.y), .int .i64 ((sumsW xs).r2.n), .int .i64 ((sumsW xs).r2.x), .int .i64 ((sumsW xs).r2.y), .int .i64 (wdet (sumsW xs))] 90), (3, blk b3 [.int .i64 (f0 + hsum 0 xs gs), .int .i64 (f1 + hsum 1 xs gs), .int .i64 (f2 + hsum 2 xs gs)] 30), (500, rowL 2 1 (fun i : Int => [Value.int .i64 i]) ar cr o)]
      refine Cd.seq (Cd.region (Rg.val (Val.lss rfl rfl) rfl (Rg.nil (Rx.seq (Cd.seq (Cd.cond rfl (fun c2 => ?_) (fun c2 => ?_)))))))
      · replace c2 := of_decide_eq_true c2
        refine Cd.skip (Rx.seq (Cd.seq (Cd.block (Cd.seq (Cd.region (Rg.val (Val.move rfl) rfl ?_))))))
        obtain ⟨x3, hx4⟩ : ∃ x, xs[i]? = some x := ⟨_, List.getElem?_eq_getElem (by omega)⟩
        have hv_x3 := validSup_b (List.all_eq_true.1 (good kd).all _ (List.mem_of_getElem? hx4))
        have hq_x3 := heightQ_bd (n0 := f0 + hsum 0 xs gs) (n1 := f1 + hsum 1 xs gs) (n2 := f2 + hsum 2 xs gs) (by omega) (by omega) (by omega) ((good kd).fits (x := x3.x) (y := x3.y) (by omega) (by omega))
        refine Rg.val (Val.ide Try.underlying27 sz62 rfl rfl hR (by first | rfl | simp | omega) hx4 (Nat.le_refl _)) rfl (Rg.val (Val.loadEA rfl ag62 hR hx4) rfl (Rg.eff (Eff.alloc 4 zv62 rfl) rfl fun b4 _ => (Rg.val (Val.assign rfl) rfl (Rg.eff (Eff.storeAll (l := 4) sz62 rfl rfl rfl rfl rfl rfl) rfl fun _ _ => (Rg.nil (Rx.seq (Cd.seq (Cd.region (Rg.val (Val.move rfl) rfl (Rg.val (Val.loadAll (l := 3) rfl rfl ag30 rfl) rfl (Rg.val (Val.fa rfl (fa62_0 _ _)) rfl (Rg.val (Val.load (l := 4) rfl rfl sc2 rfl) rfl (Rg.val (Val.fa rfl (fa62_1 _ _)) rfl (Rg.val (Val.load (l := 4) rfl rfl sc2 rfl) rfl (Rg.val (Val.build rfl (bld_0 _ _)) rfl (Rg.eff (Eff.give rfl rfl en72 rfl (fun w hm => height_gives _ _ _ _ _ _ _ _ _ _ w (good kd) (by omega) (by omega) (by omega) (by omega) (by omega) (hm.reads (l := 2) rfl))) rfl fun _ _ => (Rg.val (Val.move rfl) rfl (Rg.val (Val.extract rfl rfl) rfl (Rg.val (Val.extract rfl rfl) rfl (Rg.val (Val.assign rfl) rfl (Rg.val (Val.assign rfl) rfl (Rg.nil (Rx.seq (Cd.seq (Cd.seq (Cd.region (Rg.val (Val.move rfl) rfl (Rg.val (Val.neq rfl rfl) rfl (Rg.nil (Rx.seq (Cd.cond rfl (fun c5 => ?_) (fun c5 => ?_))))))))))))))))))))))))))))))))
        · replace c5 := bnot_t c5
          replace c5 := of_decide_eq_false c5
          refine Cd.seq (Cd.region (Rg.val (Val.move rfl) rfl (Rg.val (Val.assign rfl) rfl (Rg.val (Val.assign rfl) rfl (Rg.nil (Rx.seq (Cd.ret (Rx.pastR (Rx.inr (Rx.pastR (Rx.pastR (Rx.inr (Rx.pastR ?_)))))))))))))
          obtain ⟨ge_, hge_⟩ : ∃ x, gs[i]? = some x := ⟨_, List.getElem?_eq_getElem (by omega)⟩
          refine Rx.ret2 rfl rfl rfl fun w hm_ => ((by have hf_ := strokes_fail e1 hx4 hge_ ha (show st1 _ _ _ _ _ _ = (0, (heightQ (sumsW xs) (f0 + hsum 0 xs gs) (f1 + hsum 1 xs gs) (f2 + hsum 2 xs gs) x3.x x3.y).2) from by simp [st1, c5]) c5; rw [hf_.1]; exact RowPost.none hm_.below hf_.2 (by rw [hf_.2]; rfl)))
        · replace c5 := bnot_f c5
          replace c5 := of_decide_eq_true c5
          refine Cd.skip (Rx.seq (Cd.seq (Cd.region (Rg.val (Val.move rfl) rfl (Rg.val (Val.move rfl) rfl (Rg.val (Val.move rfl) rfl ?_))))))
          obtain ⟨x6, hx7⟩ : ∃ x, gs[i]? = some x := ⟨_, List.getElem?_eq_getElem (by omega)⟩
          have hg_x6 := between_iff.1 (List.all_eq_true.1 kg _ (List.mem_of_getElem? hx7))
          refine Rg.val (Val.ide Try.underlying54 sz2 rfl rfl hRg (by first | rfl | simp | omega) hx7 (Nat.le_refl _)) rfl (Rg.val (Val.loadE (k := 0) rfl sc2 hRg hx7 rfl) rfl (Rg.val (Val.subN rfl rfl (by unfold in64; omega)) rfl (Rg.val (Val.assign rfl) rfl (Rg.nil (Rx.seq (Cd.seq (Cd.seq (Cd.region (Rg.val (Val.move rfl) rfl (Rg.val (Val.fa rfl (fa62_4 _ _)) rfl (Rg.val (Val.load (l := 4) rfl rfl sc2 rfl) rfl (Rg.val (Val.fa rfl (fa62_5 _ _)) rfl (Rg.val (Val.load (l := 4) rfl rfl sc2 rfl) rfl (Rg.eff (Eff.give rfl rfl en48 rfl (fun w hm => between_gives _ _ _ w)) rfl fun _ _ => (Rg.val (Val.not rfl) rfl (Rg.nil (Rx.seq (Cd.cond rfl (fun c8 => ?_) (fun c8 => ?_)))))))))))))))))))
          · replace c8 := bnot_t c8
            refine Cd.seq (Cd.region (Rg.val (Val.assign rfl) rfl (Rg.val (Val.assign rfl) rfl (Rg.nil (Rx.seq (Cd.ret (Rx.pastR (Rx.inr (Rx.pastR (Rx.pastR (Rx.inr (Rx.pastR (Rx.ret2 rfl rfl rfl fun w hm_ => ((by have hf_ := strokes_fail (e := 14) e1 hx4 hx7 ha (by simp [st1, *]) (by decide); rw [hf_.1]; exact RowPost.none hm_.below hf_.2 (by rw [hf_.2]; rfl))))))))))))))))
          · replace c8 := bnot_f c8
            refine Cd.skip (Rx.seq (Cd.region (Rg.val (Val.move rfl) rfl (Rg.val (Val.move rfl) rfl (Rg.eff (Eff.buildSlice (cs := [.int .i64 (((heightQ (sumsW xs) (f0 + hsum 0 xs gs) (f1 + hsum 1 xs gs) (f2 + hsum 2 xs gs) x3.x x3.y).1) - x6)]) 5 rfl (fun w => (bsl_1 _) w) rfl) rfl fun b5 _ => (Rg.eff (Eff.append (enc := (fun i : Int => [Value.int .i64 i])) (ys := [((heightQ (sumsW xs) (f0 + hsum 0 xs gs) (f1 + hsum 1 xs gs) (f2 + hsum 2 xs gs) x3.x x3.y).1) - x6]) (bytes := 8) 500 Try.underlying54 (by kernel_rfl) rfl rfl rfl rfl (fun w hm => hm.news (l := 5) rfl rfl) (fun _ => rfl) ones_int (by simp only [List.length_cons, List.length_nil, maxLen]; omega) rfl) rfl fun p9 _ => (Rg.val (Val.assign rfl) rfl (Rg.nil (Rx.inb (Rx.seq (Cd.region (Rg.val (Val.addN rfl rfl (by unfold in64; omega)) rfl (Rg.val (Val.move rfl) rfl (Rg.nil ?_))))))))))))))
            have hnx := strokes_next hx4 hx7 ha ho (show st1 _ _ _ _ _ _ = (((heightQ (sumsW xs) (f0 + hsum 0 xs gs) (f1 + hsum 1 xs gs) (f2 + hsum 2 xs gs) x3.x x3.y).1) - x6, 0) from by simp [st1, *])
            refine Rx.meet (i + 1, p9.1, p9.2, (o ++ [((heightQ (sumsW xs) (f0 + hsum 0 xs gs) (f1 + hsum 1 xs gs) (f2 + hsum 2 xs gs) x3.x x3.y).1) - x6])) ⟨⟨by omega, hnx.1, hnx.2, by simp only [List.length_append, List.length_cons, List.length_nil]; omega⟩, show xs.length - (i + 1) < xs.length - i from by omega⟩ ⟨rfl, rfl, rfl, rfl, rfl, rfl, rfl, trivial⟩ ⟨rfl, rfl, rfl, rfl, trivial⟩
      · replace c2 := of_decide_eq_false c2
        refine Cd.exit (Rx.pastE (Rx.pastE (Rx.hit (Rx.seq (Cd.seq (Cd.region (Rg.val (Val.move rfl) rfl (Rg.val (Val.assign rfl) rfl (Rg.val (Val.assign rfl) rfl (Rg.nil (Rx.seq (Cd.ret (Rx.ret2 rfl rfl rfl fun w hm_ => ((by have hdn := strokes_done e1 (by omega) ha ho; rw [hdn.1, hdn.2]; exact RowPost.row 500 hm_ rfl rfl)))))))))))))))
  · refine Rg.eff (Eff.give rfl rfl en71 rfl (fun w hm => ground_err e1 (newGround_calls _ _ _ _ _ _ _ _ _ w (hm.rdb hR) (hm.rdb hRg) hgl))) rfl fun _ _ => (Rg.val (Val.move rfl) rfl (Rg.val (Val.extract rfl rfl) rfl (Rg.val (Val.extract rfl rfl) rfl (Rg.val (Val.extract rfl rfl) rfl (Rg.eff (Eff.alloc 6 zv30 rfl) rfl fun b6 _ => (Rg.val (Val.assign rfl) rfl (Rg.eff (Eff.storeAll (l := 6) sz30 rfl rfl rfl rfl rfl rfl) rfl fun _ _ => (Rg.val (Val.assign rfl) rfl (Rg.nil (Rx.seq (Cd.seq (Cd.seq (Cd.region (Rg.val (Val.move rfl) rfl (Rg.val (Val.neq rfl rfl) rfl (Rg.nil (Rx.seq (Cd.know (t := 26) rfl (by simp [e1]) (Cd.yes rfl (Cd.seq (Cd.region (Rg.val (Val.move rfl) rfl (Rg.val (Val.assign rfl) rfl (Rg.val (Val.assign rfl) rfl (Rg.nil (Rx.seq (Cd.ret (Rx.pastR (Rx.ret2 rfl rfl rfl fun w hm_ => ((by have hb_ := strokes_bad e1; rw [hb_.1]; exact RowPost.none hm_.below hb_.2 (by rw [hb_.2]; rfl))))))))))))))))))))))))))))))))

theorem refStrokes_calls.bld_0 (y0 : Int) (y1 : Int) (w : World) : (Instr.build 29 #[(0, .int .i64 y0), (1, .int .i64 y1)]).run Try.prog w = .ok (.agg #[.int .i64 y0, .int .i64 y1]) w := by kernel_rfl
theorem refStrokes_calls.bsl_1 (y0 : Int) (w : World) : (Instr.buildSlice 54 1 #[(0, .int .i64 y0)]).run Try.prog w = .ok (.slice (some ⟨w.heap.size, 0, none⟩) 1 1) (w.alloc (.cells #[.int .i64 y0] 2)) := by kernel_rfl
open refStrokes_calls in
theorem refStrokes_calls (a : Option Addr) (cap : Nat) (xs : List Sup) (ag : Option Addr) (capg : Nat) (gs : List Int) (f0 f1 f2 : Int) (w : World) (hR : Rdb w a 6 encSup xs) (hRg : Rdb w ag 1 (fun i => [Value.int .i64 i]) gs) (hgl : gs.length ≤ 60) : Calls Try.prog 38 #[.slice a xs.length cap, .agg #[.int .i64 f0, .int .i64 f1, .int .i64 f2], .slice ag gs.length capg] w (RowPost w 2 1 (fun i : Int => [Value.int .i64 i]) (StrokesY xs gs f0 f1 f2) fun a_ c_ => .tuple #[.slice a_ (StrokesY xs gs f0 f1 f2).length c_, .int .i64 (StrokesE xs gs f0 f1 f2)]) := by
  refine calls_of (vs := [.slice a xs.length cap, .agg #[.int .i64 f0, .int .i64 f1, .int .i64 f2], .slice ag gs.length capg]) Try.func38 rfl rfl rfl ?_
  show Cd _ _ _ _ _ [(0, .slice a xs.length cap), (1, .agg #[.int .i64 f0, .int .i64 f1, .int .i64 f2]), (2, .slice ag gs.length capg)] []
  refine Cd.seq (Cd.region (Rg.eff (Eff.box 1 rfl rfl) rfl fun b1 _ => (Rg.val (Val.assign rfl) rfl (Rg.val (Val.assign rfl) rfl (Rg.nil (Rx.seq (Cd.seq (Cd.seq (Cd.region (Rg.val (Val.move rfl) rfl (Rg.val (Val.loadAll (l := 1) rfl rfl ag30 rfl) rfl (Rg.val (Val.move rfl) rfl (Rg.eff (Eff.give rfl rfl en73 rfl (fun w hm => refground_gives _ _ _ _ _ _ _ _ _ w (hm.rdb hR) (hm.rdb hRg) hgl)) rfl fun _ _ => (Rg.val (Val.neq rfl rfl) rfl (Rg.nil (Rx.seq (Cd.cond rfl (fun c1 => ?_) (fun c1 => ?_))))))))))))))))))
  · replace c1 := bnot_t c1
    replace c1 := of_decide_eq_false c1
    have hge := c1
    refine Cd.seq (Cd.region (Rg.val (Val.move rfl) rfl (Rg.val (Val.loadAll (l := 1) rfl rfl ag30 rfl) rfl (Rg.val (Val.move rfl) rfl (Rg.eff (Eff.give rfl rfl en73 rfl (fun w hm => refground_gives _ _ _ _ _ _ _ _ _ w (hm.rdb hR) (hm.rdb hRg) hgl)) rfl fun _ _ => (Rg.val (Val.assign rfl) rfl (Rg.val (Val.assign rfl) rfl (Rg.nil (Rx.seq (Cd.ret (Rx.pastR (Rx.ret2 rfl rfl rfl fun w hm_ => ((by have hb_ := strokes_bad hge; rw [hb_.1]; exact RowPost.none hm_.below hb_.2 (by rw [hb_.2]; rfl)))))))))))))))
  · replace c1 := bnot_f c1
    replace c1 := of_decide_eq_true c1
    have hge := c1
    obtain ⟨kd, kl, kg, kf0, kf1, kf2⟩ := groundErr_ok c1
    refine Cd.skip (Rx.seq (Cd.seq (Cd.region (Rg.val (Val.assign rfl) rfl (Rg.nil (Rx.seq (Cd.seq (Cd.seq (Cd.region (Rg.val (Val.assign rfl) rfl (Rg.nil (Rx.seq (Cd.block ?_)))))))))))))
    have hh0 := hs_all (xs := xs) kg hgl 0
    have hh1 := hs_all (xs := xs) kg hgl 1
    have hh2 := hs_all (xs := xs) kg hgl 2
    refine Cd.gain (fun w hm => Mem.nilRow 500 2 1 (fun i : Int => [Value.int .i64 i]) hm) ?_
    refine Cd.loop (A := Nat × Option Addr × Nat × List Int) (fun p : Nat × Option Addr × Nat × List Int => match p with | (i, ar, cr, o) => i ≤ xs.length ∧ ((strokesL xs gs f0 f1 f2).take i).all okp = true ∧ o = ((strokesL xs gs f0 f1 f2).take i).map (·.1) ∧ o.length = i)
        (fun p : Nat × Option Addr × Nat × List Int => match p with | (i, ar, cr, o) => [(0, .slice a xs.length cap), (2, .slice ag gs.length capg), (4, .pointer (some ⟨b1, 0, none⟩)), (8, .slice ar o.length cr), (9, .int .i64 (i : Int))])
        (fun p : Nat × Option Addr × Nat × List Int => match p with | (i, ar, cr, o) => [(1, blk b1 [.int .i64 f0, .int .i64 f1, .int .i64 f2] 30), (500, rowL 2 1 (fun i : Int => [Value.int .i64 i]) ar cr o)])
        (fun p : Nat × Option Addr × Nat × List Int => match p with | (i, ar, cr, o) => xs.length - i) (0, none, 0, []) ?_ ⟨rfl, rfl, rfl, rfl, rfl, trivial⟩ ⟨rfl, rfl, trivial⟩ ?_
    · exact ⟨by omega, by simp, by simp, rfl⟩
    · rintro ⟨i, ar, cr, o⟩ ⟨hi, ha, ho, hol⟩
      show Cd _ _ _ _ _ [(0, .slice a xs.length cap), (2, .slice ag gs.length capg), (4, .pointer (some ⟨b1, 0, none⟩)), (8, .slice ar o.length cr), (9, .int .i64 (i : Int))] [(1, blk b1 [.int .i64 f0, .int .i64 f1, .int .i64 f2] 30), (500, rowL 2 1 (fun i : Int => [Value.int .i64 i]) ar cr o)]
      refine Cd.seq (Cd.seq (Cd.region (Rg.val (Val.move rfl) rfl (Rg.val (Val.move rfl) rfl (Rg.val (Val.len Try.underlying27 rfl) rfl (Rg.val (Val.lss rfl rfl) rfl (Rg.nil (Rx.seq (Cd.cond rfl (fun c2 => ?_) (fun c2 => ?_))))))))))
      · replace c2 := of_decide_eq_true c2
        refine Cd.skip (Rx.seq (Cd.seq (Cd.block (Cd.seq (Cd.draw [(1, blk b1 [.int .i64 f0, .int .i64 f1, .int .i64 f2] 30), (500, rowL 2 1 (fun i : Int => [Value.int .i64 i]) ar cr o)] mixed rfl (Dr.take 0 rfl (by kernel_rfl) (Val.move rfl) rfl ⟨rfl, rfl, trivial⟩ (Dr.take 1 rfl (by kernel_rfl) (Val.move rfl) rfl ⟨rfl, rfl, trivial⟩ ?_)))))))
        obtain ⟨x3, hx4⟩ : ∃ x, xs[i]? = some x := ⟨_, List.getElem?_eq_getElem (by omega)⟩
        have hv_x3 := validSup_b (List.all_eq_true.1 (good kd).all _ (List.mem_of_getElem? hx4))
        have hq_x3 := heightQ_bd (n0 := f0 + hsum 0 xs gs) (n1 := f1 + hsum 1 xs gs) (n2 := f2 + hsum 2 xs gs) (by omega) (by omega) (by omega) ((good kd).fits (x := x3.x) (y := x3.y) (by omega) (by omega))
        refine Dr.take 2 rfl (by kernel_rfl) (Val.ide Try.underlying27 sz62 rfl rfl hR (by first | rfl | simp | omega) hx4 (Nat.le_refl _)) rfl ⟨rfl, rfl, trivial⟩ (Dr.take 3 rfl (by kernel_rfl) (Val.fae (k := 0) rfl (hR.ne hx4) fa62_0) rfl ⟨rfl, rfl, trivial⟩ (Dr.take 4 rfl (by kernel_rfl) (Val.loadE (k := 0) rfl sc2 hR hx4 rfl) rfl ⟨rfl, rfl, trivial⟩ (Dr.take 5 rfl (by kernel_rfl) (Val.move rfl) rfl ⟨rfl, rfl, trivial⟩ (Dr.take 6 rfl (by kernel_rfl) (Val.move rfl) rfl ⟨rfl, rfl, trivial⟩ (Dr.take 7 rfl (by kernel_rfl) (Val.ide Try.underlying27 sz62 rfl rfl hR (by first | rfl | simp | omega) hx4 (Nat.le_refl _)) rfl ⟨rfl, rfl, trivial⟩ (Dr.take 8 rfl (by kernel_rfl) (Val.fae (k := 1) rfl (hR.ne hx4) fa62_1) rfl ⟨rfl, rfl, trivial⟩ (Dr.take 9 rfl (by kernel_rfl) (Val.loadE (k := 1) rfl sc2 hR hx4 rfl) rfl ⟨rfl, rfl, trivial⟩ (Dr.take 10 rfl (by kernel_rfl) (Val.build rfl (bld_0 _ _)) rfl ⟨rfl, rfl, trivial⟩ (Dr.one 11 (by kernel_rfl) rfl (Eff.alloc 1010 zv29 rfl) rfl (fun _ _ => ⟨rfl, rfl, trivial⟩) fun b1010 _ => (Dr.one 12 (by kernel_rfl) rfl (Eff.storeAll (l := 1010) sz29 rfl rfl rfl rfl rfl rfl) rfl (fun _ _ => ⟨rfl, rfl, trivial⟩) fun _ _ => (Dr.done (by kernel_rfl) (Rx.seq (Cd.seq (Cd.seq (Cd.region (Rg.val (Val.move rfl) rfl (Rg.val (Val.loadAll (l := 1010) rfl rfl ag29 rfl) rfl (Rg.eff (Eff.give rfl rfl en74 rfl (fun w hm => refbeyond_gives _ _ _ _ _ w (hm.rdb hR) kd (by omega) (by omega))) rfl fun _ _ => (Rg.nil (Rx.seq (Cd.cond rfl (fun c5 => ?_) (fun c5 => ?_))))))))))))))))))))))
        · have hQ4 : heightQ (sumsW xs) (f0 + hsum 0 xs gs) (f1 + hsum 1 xs gs) (f2 + hsum 2 xs gs) x3.x x3.y = (0, 4) := by unfold heightQ; rw [if_pos c5]
          refine Cd.seq (Cd.region (Rg.val (Val.assign rfl) rfl (Rg.val (Val.assign rfl) rfl (Rg.nil (Rx.seq (Cd.ret (Rx.pastR (Rx.inr (Rx.pastR (Rx.pastR (Rx.inr (Rx.pastR ?_))))))))))))
          obtain ⟨ge_, hge_⟩ : ∃ x, gs[i]? = some x := ⟨_, List.getElem?_eq_getElem (by omega)⟩
          refine Rx.ret2 rfl rfl rfl fun w hm_ => ((by have hf_ := strokes_fail (e := 4) hge hx4 hge_ ha (by simp [st1, hQ4, *]) (by decide); rw [hf_.1]; exact RowPost.none hm_.below hf_.2 (by rw [hf_.2]; rfl)))
        · have hQ0 : (heightQ (sumsW xs) (f0 + hsum 0 xs gs) (f1 + hsum 1 xs gs) (f2 + hsum 2 xs gs) x3.x x3.y).2 = 0 := by unfold heightQ; rw [if_neg (by rw [c5]; decide)]
          refine Cd.skip (Rx.seq (Cd.seq (Cd.draw [(1, blk b1 [.int .i64 f0, .int .i64 f1, .int .i64 f2] 30), (500, rowL 2 1 (fun i : Int => [Value.int .i64 i]) ar cr o), (1010, blk b1010 [.int .i64 x3.x, .int .i64 x3.y] 29)] mixed rfl (Dr.take 0 rfl (by kernel_rfl) (Val.move rfl) rfl ⟨rfl, rfl, rfl, trivial⟩ (Dr.take 1 rfl (by kernel_rfl) (Val.loadAll (l := 1) rfl rfl ag30 rfl) rfl ⟨rfl, rfl, rfl, trivial⟩ (Dr.take 2 rfl (by kernel_rfl) (Val.move rfl) rfl ⟨rfl, rfl, rfl, trivial⟩ (Dr.take 3 rfl (by kernel_rfl) (Val.loadAll (l := 1010) rfl rfl ag29 rfl) rfl ⟨rfl, rfl, rfl, trivial⟩ (Dr.take 5 rfl (by kernel_rfl) (Val.move rfl) rfl ⟨rfl, rfl, rfl, trivial⟩ (Dr.take 6 rfl (by kernel_rfl) (Val.move rfl) rfl ⟨rfl, rfl, rfl, trivial⟩ ?_)))))))))
          obtain ⟨x6, hx7⟩ : ∃ x, gs[i]? = some x := ⟨_, List.getElem?_eq_getElem (by omega)⟩
          have hg_x6 := between_iff.1 (List.all_eq_true.1 kg _ (List.mem_of_getElem? hx7))
          refine Dr.take 7 rfl (by kernel_rfl) (Val.ide Try.underlying54 sz2 rfl rfl hRg (by first | rfl | simp | omega) hx7 (Nat.le_refl _)) rfl ⟨rfl, rfl, rfl, trivial⟩ (Dr.take 8 rfl (by kernel_rfl) (Val.loadE (k := 0) rfl sc2 hRg hx7 rfl) rfl ⟨rfl, rfl, rfl, trivial⟩ (Dr.one 4 (by kernel_rfl) rfl (Eff.give rfl rfl en75 rfl (fun w hm => refheight_gives _ _ _ _ _ _ _ _ _ _ _ w (hm.rdb hR) (hm.rdb hRg) hgl kd kl kg kf0 kf1 kf2 (by omega) (by omega) c5)) rfl (fun _ _ => ⟨rfl, rfl, rfl, trivial⟩) fun _ _ => (Dr.take 9 rfl (by kernel_rfl) (Val.subN rfl rfl (by unfold in64; omega)) rfl ⟨rfl, rfl, rfl, trivial⟩ (Dr.take 10 rfl (by kernel_rfl) (Val.assign rfl) rfl ⟨rfl, rfl, rfl, trivial⟩ (Dr.done (by kernel_rfl) (Rx.seq (Cd.seq (Cd.seq (Cd.draw [(1, blk b1 [.int .i64 f0, .int .i64 f1, .int .i64 f2] 30), (500, rowL 2 1 (fun i : Int => [Value.int .i64 i]) ar cr o), (1010, blk b1010 [.int .i64 x3.x, .int .i64 x3.y] 29)] mixed rfl (Dr.take 0 rfl (by kernel_rfl) (Val.move rfl) rfl ⟨rfl, rfl, rfl, trivial⟩ (Dr.take 1 rfl (by kernel_rfl) (Val.move rfl) rfl ⟨rfl, rfl, rfl, trivial⟩ (Dr.take 2 rfl (by kernel_rfl) (Val.move rfl) rfl ⟨rfl, rfl, rfl, trivial⟩ (Dr.take 3 rfl (by kernel_rfl) (Val.ide Try.underlying27 sz62 rfl rfl hR (by first | rfl | simp | omega) hx4 (Nat.le_refl _)) rfl ⟨rfl, rfl, rfl, trivial⟩ (Dr.take 4 rfl (by kernel_rfl) (Val.fae (k := 4) rfl (hR.ne hx4) fa62_4) rfl ⟨rfl, rfl, rfl, trivial⟩ (Dr.take 5 rfl (by kernel_rfl) (Val.loadE (k := 4) rfl sc2 hR hx4 rfl) rfl ⟨rfl, rfl, rfl, trivial⟩ (Dr.take 6 rfl (by kernel_rfl) (Val.move rfl) rfl ⟨rfl, rfl, rfl, trivial⟩ (Dr.take 7 rfl (by kernel_rfl) (Val.move rfl) rfl ⟨rfl, rfl, rfl, trivial⟩ (Dr.take 8 rfl (by kernel_rfl) (Val.ide Try.underlying27 sz62 rfl rfl hR (by first | rfl | simp | omega) hx4 (Nat.le_refl _)) rfl ⟨rfl, rfl, rfl, trivial⟩ (Dr.take 9 rfl (by kernel_rfl) (Val.fae (k := 5) rfl (hR.ne hx4) fa62_5) rfl ⟨rfl, rfl, rfl, trivial⟩ (Dr.take 10 rfl (by kernel_rfl) (Val.loadE (k := 5) rfl sc2 hR hx4 rfl) rfl ⟨rfl, rfl, rfl, trivial⟩ (Dr.one 11 (by kernel_rfl) rfl (Eff.give rfl rfl en69 rfl (fun w hm => within_gives _ _ _ w)) rfl (fun _ _ => ⟨rfl, rfl, rfl, trivial⟩) fun _ _ => (Dr.take 12 rfl (by kernel_rfl) (Val.not rfl) rfl ⟨rfl, rfl, rfl, trivial⟩ (Dr.done (by kernel_rfl) (Rx.seq (Cd.cond rfl (fun c8 => ?_) (fun c8 => ?_))))))))))))))))))))))))))
          · replace c8 := bnot_t c8
            refine Cd.seq (Cd.region (Rg.val (Val.assign rfl) rfl (Rg.val (Val.assign rfl) rfl (Rg.nil (Rx.seq (Cd.ret (Rx.pastR (Rx.inr (Rx.pastR (Rx.pastR (Rx.inr (Rx.pastR (Rx.ret2 rfl rfl rfl fun w hm_ => ((by have hf_ := strokes_fail (e := 14) hge hx4 hx7 ha (by simp [st1, hQ0, *]) (by decide); rw [hf_.1]; exact RowPost.none hm_.below hf_.2 (by rw [hf_.2]; rfl))))))))))))))))
          · replace c8 := bnot_f c8
            refine Cd.skip (Rx.seq (Cd.region (Rg.val (Val.move rfl) rfl (Rg.val (Val.move rfl) rfl (Rg.eff (Eff.buildSlice (cs := [.int .i64 (((heightQ (sumsW xs) (f0 + hsum 0 xs gs) (f1 + hsum 1 xs gs) (f2 + hsum 2 xs gs) x3.x x3.y).1) - x6)]) 2 rfl (fun w => (bsl_1 _) w) rfl) rfl fun b2 _ => (Rg.eff (Eff.append (enc := (fun i : Int => [Value.int .i64 i])) (ys := [((heightQ (sumsW xs) (f0 + hsum 0 xs gs) (f1 + hsum 1 xs gs) (f2 + hsum 2 xs gs) x3.x x3.y).1) - x6]) (bytes := 8) 500 Try.underlying54 (by kernel_rfl) rfl rfl rfl rfl (fun w hm => hm.news (l := 2) rfl rfl) (fun _ => rfl) ones_int (by simp only [List.length_cons, List.length_nil, maxLen]; omega) rfl) rfl fun p9 _ => (Rg.val (Val.assign rfl) rfl (Rg.nil (Rx.inb (Rx.seq (Cd.region (Rg.val (Val.move rfl) rfl (Rg.val (Val.addN rfl rfl (by unfold in64; omega)) rfl (Rg.val (Val.assign rfl) rfl (Rg.nil ?_)))))))))))))))
            have hnx := strokes_next hx4 hx7 ha ho (show st1 _ _ _ _ _ _ = (((heightQ (sumsW xs) (f0 + hsum 0 xs gs) (f1 + hsum 1 xs gs) (f2 + hsum 2 xs gs) x3.x x3.y).1) - x6, 0) from by simp [st1, hQ0, *])
            refine Rx.meet (i + 1, p9.1, p9.2, (o ++ [((heightQ (sumsW xs) (f0 + hsum 0 xs gs) (f1 + hsum 1 xs gs) (f2 + hsum 2 xs gs) x3.x x3.y).1) - x6])) ⟨⟨by omega, hnx.1, hnx.2, by simp only [List.length_append, List.length_cons, List.length_nil]; omega⟩, show xs.length - (i + 1) < xs.length - i from by omega⟩ ⟨rfl, rfl, rfl, rfl, rfl, trivial⟩ ⟨rfl, rfl, trivial⟩
      · replace c2 := of_decide_eq_false c2
        refine Cd.exit (Rx.pastE (Rx.pastE (Rx.hit (Rx.seq (Cd.seq (Cd.region (Rg.val (Val.move rfl) rfl (Rg.val (Val.assign rfl) rfl (Rg.val (Val.assign rfl) rfl (Rg.nil (Rx.seq (Cd.ret (Rx.ret2 rfl rfl rfl fun w hm_ => ((by have hdn := strokes_done hge (by omega) ha ho; rw [hdn.1, hdn.2]; exact RowPost.row 500 hm_ rfl rfl)))))))))))))))

theorem same_gives (a1 : Option Addr) (c1 : Nat) (a2 : Option Addr) (c2 : Nat) (ys : List Int) (w : World) (h1 : Rdb w a1 1 (fun i => [Value.int .i64 i]) ys) (h2 : Rdb w a2 1 (fun i => [Value.int .i64 i]) ys) (hl : ys.length ≤ 100) : Gives Try.prog 39 #[.slice a1 ys.length c1, .slice a2 ys.length c2] w (.bool true) := by
  refine calls_of (vs := [.slice a1 ys.length c1, .slice a2 ys.length c2]) Try.func39 rfl rfl rfl ?_
  show Cd _ _ _ _ _ [(0, .slice a1 ys.length c1), (1, .slice a2 ys.length c2)] []
  refine Cd.seq (Cd.region (Rg.val (Val.assign rfl) rfl (Rg.nil (Rx.seq (Cd.seq (Cd.seq (Cd.region (Rg.val (Val.move rfl) rfl (Rg.val (Val.len Try.underlying54 rfl) rfl (Rg.val (Val.move rfl) rfl (Rg.val (Val.len Try.underlying54 rfl) rfl (Rg.val (Val.known (c := false) (Val.neq rfl rfl) (by simp)) rfl (Rg.nil (Rx.seq (Cd.no rfl (Cd.skip (Rx.seq (Cd.seq (Cd.seq (Cd.region (Rg.val (Val.assign rfl) rfl (Rg.nil (Rx.seq (Cd.block ?_))))))))))))))))))))))))
  refine Cd.loop (A := Nat) (fun i : Nat => i ≤ ys.length)
      (fun i : Nat => [(0, .slice a1 ys.length c1), (1, .slice a2 ys.length c2), (5, .int .i64 (i : Int))])
      (fun i : Nat => [])
      (fun i : Nat => ys.length - i) 0 ?_ ⟨rfl, rfl, rfl, trivial⟩ trivial ?_
  · exact Nat.zero_le _
  · rintro i hi
    show Cd _ _ _ _ _ [(0, .slice a1 ys.length c1), (1, .slice a2 ys.length c2), (5, .int .i64 (i : Int))] []
    refine Cd.seq (Cd.seq (Cd.region (Rg.val (Val.move rfl) rfl (Rg.val (Val.move rfl) rfl (Rg.val (Val.len Try.underlying54 rfl) rfl (Rg.val (Val.lss rfl rfl) rfl (Rg.nil (Rx.seq (Cd.cond rfl (fun c1 => ?_) (fun c1 => ?_))))))))))
    · replace c1 := of_decide_eq_true c1
      refine Cd.skip (Rx.seq (Cd.seq (Cd.block (Cd.seq (Cd.draw [] mixed rfl (Dr.take 0 rfl (by kernel_rfl) (Val.move rfl) rfl trivial (Dr.take 1 rfl (by kernel_rfl) (Val.move rfl) rfl trivial ?_)))))))
      obtain ⟨x2, hx3⟩ : ∃ x, ys[i]? = some x := ⟨_, List.getElem?_eq_getElem (by omega)⟩
      refine Dr.take 2 rfl (by kernel_rfl) (Val.ide Try.underlying54 sz2 rfl rfl h1 (by first | rfl | simp | omega) hx3 (Nat.le_refl _)) rfl trivial (Dr.take 3 rfl (by kernel_rfl) (Val.loadE (k := 0) rfl sc2 h1 hx3 rfl) rfl trivial (Dr.take 4 rfl (by kernel_rfl) (Val.move rfl) rfl trivial (Dr.take 5 rfl (by kernel_rfl) (Val.move rfl) rfl trivial (Dr.take 6 rfl (by kernel_rfl) (Val.ide Try.underlying54 sz2 rfl rfl h2 (by first | rfl | simp | omega) hx3 (Nat.le_refl _)) rfl trivial (Dr.take 7 rfl (by kernel_rfl) (Val.loadE (k := 0) rfl sc2 h2 hx3 rfl) rfl trivial (Dr.take 8 rfl (by kernel_rfl) (Val.known (c := false) (Val.neq rfl rfl) (by simp)) rfl trivial (Dr.done (by kernel_rfl) (Rx.seq (Cd.no rfl (Cd.skip (Rx.inb (Rx.seq (Cd.region (Rg.val (Val.move rfl) rfl (Rg.val (Val.addN rfl rfl (by unfold in64; omega)) rfl (Rg.val (Val.assign rfl) rfl (Rg.nil ?_)))))))))))))))))
      refine Rx.meet (i + 1) ⟨by omega, show ys.length - (i + 1) < ys.length - i from by omega⟩ ⟨rfl, rfl, rfl, trivial⟩ trivial
    · replace c1 := of_decide_eq_false c1
      refine Cd.exit (Rx.pastE (Rx.pastE (Rx.hit (Rx.seq (Cd.seq (Cd.region (Rg.val (Val.assign rfl) rfl (Rg.nil (Rx.seq (Cd.ret (Rx.ret1 rfl rfl fun w hm_ => (⟨rfl, hm_.below⟩))))))))))))

end Go.Proofs.Ytfekoippjmojgaa
