/- Walks of functions of the program: what each returns, told by plain functions. -/
import Derived.Test.YtdmkedbmoboamaaB1
namespace Go.Proofs.Ytdmkedbmoboamaa
open Go.Kx Go.RowKit
set_option maxRecDepth 100000
set_option linter.unusedVariables false
set_option linter.unusedSimpArgs false
set_option linter.unnecessarySimpa false
set_option linter.constructorNameAsVariable false
theorem badAt_hit {Z : List (Lg × Int)} {i : Nat} {p : Lg × Int} {at0 a : Int} (hG : a = badAt at0 i (Z.drop i)) (hp : Z[i]? = some p) (hD : p.2 < at0 ∨ (¬ p.2 < at0 ∧ fitsF p.1.m p.2 p.1.ws = false)) : a = i := by
  rw [hG, dropc hp, badAt]
  rcases hD with hD | ⟨hD, hD2⟩
  · rw [if_pos hD]
  · rw [if_neg hD, if_pos hD2]
theorem badAt_next {Z : List (Lg × Int)} {i : Nat} {p : Lg × Int} {at0 a : Int} (hG : a = badAt at0 i (Z.drop i)) (hp : Z[i]? = some p) (h1 : ¬ p.2 < at0) (h2 : fitsF p.1.m p.2 p.1.ws = true) : a = badAt (p.2 + p.1.m) ((i + 1 : Nat) : Int) (Z.drop (i + 1)) := by
  rw [hG, dropc hp, badAt, if_neg h1, if_neg (by rw [h2]; simp)]; rfl
theorem badAt_end {Z : List (Lg × Int)} {i : Nat} {at0 a : Int} (hG : a = badAt at0 i (Z.drop i)) (hi : ¬ (i : Int) < (Z.length : Int)) : a = -1 := by
  rw [hG, drop_all hi, badAt]
theorem badAt_fit : ∀ {Z : List (Lg × Int)} {at0 i : Int}, 0 ≤ i → badAt at0 i Z = -1 → ∀ p ∈ Z, fitsF p.1.m p.2 p.1.ws = true
  | [], _, _, _, _, p, hp => by cases hp
  | q :: r, at0, i, hi, h, p, hp => by
    rw [badAt] at h
    split at h
    · omega
    · split at h
      · omega
      · rename_i h2
        rcases List.mem_cons.1 hp with rfl | hp
        · simpa using h2
        · exact badAt_fit (by omega) h p hp
theorem fit_bd {most rest start : Int} {gs : List Lg} (hK : CrewOk gs most rest start) {l : Lg} {x : Int} (hl : l ∈ gs) (h : fitsF l.m x l.ws = true) : 0 ≤ x ∧ x ≤ 1099511627776 := by
  obtain ⟨w, hw, h1, h2⟩ := fitsF_iff.1 h
  have g := hK.leg l hl
  have := winF_mem g.2.1 w hw
  omega
theorem zip_at {gs : List Lg} {ts : List Int} {i : Nat} {l : Lg} {x : Int} (h1 : gs[i]? = some l) (h2 : ts[i]? = some x) : (gs.zip ts)[i]? = some (l, x) := List.getElem?_zip_eq_some.2 ⟨h1, h2⟩
theorem drv_hit {most rest d i0 a : Int} {prev : Option Int} {Z : List (Lg × Int)} {i : Nat} {p : Lg × Int} (hG : a = drvAt most rest d prev i (Z.drop i)) (hp : Z[i]? = some p) (hD : most < drvNow rest d prev p.2 + p.1.m) : a = i := by
  rw [hG, dropc hp, drvAt, if_pos hD]
theorem drv_next {most rest d d' a : Int} {prev : Option Int} {Z : List (Lg × Int)} {i : Nat} {p : Lg × Int} (hG : a = drvAt most rest d prev i (Z.drop i)) (hp : Z[i]? = some p) (he : drvNow rest d prev p.2 + p.1.m = d') (hD : ¬ most < d') : a = drvAt most rest d' (some (p.2 + p.1.m)) ((i + 1 : Nat) : Int) (Z.drop (i + 1)) := by
  rw [hG, dropc hp, drvAt, he, if_neg hD]; rfl
theorem drv_end {most rest d a : Int} {prev : Option Int} {Z : List (Lg × Int)} {i : Nat} (hG : a = drvAt most rest d prev i (Z.drop i)) (hi : ¬ (i : Int) < (Z.length : Int)) : a = -1 := by
  rw [hG, drop_all hi, drvAt]
def prevO (j : Nat) (e : Int) : Option Int := if j = 0 then none else some e
theorem drvNow_0 {rest d x e : Int} {j : Nat} (h : ¬ (0 : Int) < (j : Int) ∨ ¬ rest ≤ x - e) : drvNow rest d (prevO j e) x = d := by
  unfold prevO drvNow
  by_cases hj : j = 0
  · rw [if_pos hj]
  · rw [if_neg hj]
    dsimp only
    rw [if_neg (by rcases h with h | h <;> omega)]
theorem drvNow_1 {rest d x e : Int} {j : Nat} (h : (0 : Int) < (j : Int)) (h2 : rest ≤ x - e) : drvNow rest d (prevO j e) x = 0 := by
  unfold prevO drvNow
  rw [if_neg (by omega)]
  dsimp only
  rw [if_pos h2]
theorem prev_e {gs : List Lg} {ts : List Int} {j : Nat} {e x : Int} {l : Lg} (h : j = 0 ∨ ∃ l x, gs[j - 1]? = some l ∧ ts[j - 1]? = some x ∧ e = x + l.m) (h0 : 0 < j) (h1 : gs[j - 1]? = some l) (h2 : ts[j - 1]? = some x) : e = x + l.m := by
  rcases h with h | ⟨l', x', g1, g2, g3⟩
  · omega
  · rw [h1] at g1; rw [h2] at g2
    injection g1 with g1; injection g2 with g2
    subst g1 g2; exact g3
theorem chk_e {gs : List Lg} {most rest start : Int} {ts : List Int} (h : ¬ crewF gs most rest start = 0) : chkCrew gs most rest start ts = (0, crewF gs most rest start) := by unfold chkCrew; rw [if_neg h]
theorem chk_17 {gs : List Lg} {most rest start : Int} {ts : List Int} (h : crewF gs most rest start = 0) (h1 : ¬ (ts.length : Int) = (gs.length : Int)) : chkCrew gs most rest start ts = (0, 17) := by unfold chkCrew; rw [if_pos h, if_neg h1]
theorem chk_21 {gs : List Lg} {most rest start : Int} {ts : List Int} {i : Nat} (h : crewF gs most rest start = 0) (h1 : (ts.length : Int) = (gs.length : Int)) (h2 : badAt start 0 (gs.zip ts) = i) : chkCrew gs most rest start ts = ((i : Int), 21) := by unfold chkCrew; rw [if_pos h, if_pos h1, if_pos (by omega), h2]
theorem chk_12 {gs : List Lg} {most rest start : Int} {ts : List Int} {i : Nat} (h : crewF gs most rest start = 0) (h1 : (ts.length : Int) = (gs.length : Int)) (h2 : badAt start 0 (gs.zip ts) = -1) (h3 : drvAt most rest 0 none 0 (gs.zip ts) = i) : chkCrew gs most rest start ts = ((i : Int), 12) := by unfold chkCrew; rw [if_pos h, if_pos h1, if_neg (by omega), if_pos (by omega), h3]
theorem chk_0 {gs : List Lg} {most rest start : Int} {ts : List Int} (h : crewF gs most rest start = 0) (h1 : (ts.length : Int) = (gs.length : Int)) (h2 : badAt start 0 (gs.zip ts) = -1) (h3 : drvAt most rest 0 none 0 (gs.zip ts) = -1) : chkCrew gs most rest start ts = (0, 0) := by unfold chkCrew; rw [if_pos h, if_pos h1, if_neg (by omega), if_neg (by omega)]
theorem CheckCrew_gives.bld_0 (y0 : Option Addr) (y0l y0c : Nat) (y1 : Int) (y2 : Int) (y3 : Int) (w : World) : (Instr.build 134 #[(0, .slice y0 y0l y0c), (1, .int .i64 y1), (2, .int .i64 y2), (3, .int .i64 y3)]).run Try.prog w = .ok (.agg #[.slice y0 y0l y0c, .int .i64 y1, .int .i64 y2, .int .i64 y3]) w := by kernel_rfl
open CheckCrew_gives in
theorem CheckCrew_gives (ga : Option Addr) (gc : Nat) (gs : List Lg) (most rest start : Int) (sa : Option Addr) (sc : Nat) (ss : List Int) (w : World) (hL : LegAt w ga gs) (hSs : Rdb w sa 1 encI ss) (hsl : ss.length ≤ 9223372036854775807) : Gives Try.prog 45 #[.slice ga gs.length gc, .int .i64 most, .int .i64 rest, .int .i64 start, .slice sa ss.length sc] w (.tuple #[.int .i64 (chkCrew gs most rest start ss).1, .int .i64 (chkCrew gs most rest start ss).2]) := by
  refine calls_of (vs := [.slice ga gs.length gc, .int .i64 most, .int .i64 rest, .int .i64 start, .slice sa ss.length sc]) Try.func45 rfl rfl rfl ?_
  show Cd _ _ _ _ _ [(0, .slice ga gs.length gc), (1, .int .i64 most), (2, .int .i64 rest), (3, .int .i64 start), (4, .slice sa ss.length sc)] []
  refine Cd.seq (Cd.region (Rg.val (Val.assign rfl) rfl (Rg.val (Val.assign rfl) rfl (Rg.nil (Rx.seq (Cd.seq (Cd.region (Rg.val (Val.move rfl) rfl (Rg.val (Val.move rfl) rfl (Rg.val (Val.move rfl) rfl (Rg.val (Val.move rfl) rfl (Rg.val (Val.build rfl (bld_0 _ _ _ _ _ _)) rfl (Rg.eff (Eff.alloc 1 zv134 rfl) rfl fun b1 _ => (Rg.eff (Eff.storeAll (l := 1) sz134 rfl rfl rfl rfl rfl rfl) rfl fun _ _ => (Rg.nil (Rx.seq (Cd.seq (Cd.seq (Cd.region (Rg.val (Val.loadAll (l := 1) rfl rfl ag134 rfl) rfl (Rg.eff (Eff.give rfl rfl en93 rfl (fun w hm => crew_gives _ _ gs most rest start w (Mem.leg hm hL))) rfl fun _ _ => (Rg.val (Val.assign rfl) rfl (Rg.nil (Rx.seq (Cd.seq (Cd.region (Rg.val (Val.move rfl) rfl (Rg.val (Val.neq rfl rfl) rfl (Rg.nil (Rx.seq (Cd.cond rfl (fun c1 => ?_) (fun c1 => ?_))))))))))))))))))))))))))))))))
  · replace c1 := bnot_t c1
    replace c1 := of_decide_eq_false c1
    refine Cd.seq (Cd.region (Rg.val (Val.move rfl) rfl (Rg.val (Val.assign rfl) rfl (Rg.val (Val.assign rfl) rfl (Rg.nil (Rx.seq (Cd.ret (Rx.pastR (Rx.ret2 rfl rfl rfl fun w hm_ => (⟨by rw [chk_e c1], hm_.below⟩))))))))))
  · replace c1 := bnot_f c1
    replace c1 := of_decide_eq_true c1
    have hK := CrewOk.of c1
    have h0_ := c1
    have hkn := hK.n
    have hks := hK.start
    have hkm := hK.most
    have hkr := hK.rest
    refine Cd.skip (Rx.seq (Cd.seq (Cd.seq (Cd.region (Rg.val (Val.move rfl) rfl (Rg.val (Val.len Try.underlying24 rfl) rfl (Rg.val (Val.move rfl) rfl (Rg.val (Val.len Try.underlying74 rfl) rfl (Rg.val (Val.neq rfl rfl) rfl (Rg.nil (Rx.seq (Cd.cond rfl (fun c2 => ?_) (fun c2 => ?_)))))))))))))
    · replace c2 := bnot_t c2
      replace c2 := of_decide_eq_false c2
      refine Cd.seq (Cd.region (Rg.val (Val.assign rfl) rfl (Rg.val (Val.assign rfl) rfl (Rg.nil (Rx.seq (Cd.ret (Rx.pastR (Rx.ret2 rfl rfl rfl fun w hm_ => (⟨by rw [chk_17 h0_ c2], hm_.below⟩)))))))))
    · replace c2 := bnot_f c2
      replace c2 := of_decide_eq_true c2
      have hln_ := c2
      refine Cd.skip (Rx.seq (Cd.seq (Cd.region (Rg.val (Val.move rfl) rfl (Rg.val (Val.assign rfl) rfl (Rg.nil (Rx.seq (Cd.seq (Cd.seq (Cd.region (Rg.val (Val.move rfl) rfl (Rg.val (Val.len Try.underlying74 rfl) rfl (Rg.val (Val.move rfl) rfl (Rg.nil (Rx.seq (Cd.block ?_))))))))))))))))
      refine Cd.loop (A := Nat × Int) (fun pr_ : Nat × Int => match pr_ with | (i, at1) => i ≤ gs.length ∧ badAt start 0 (gs.zip ss) = badAt at1 i ((gs.zip ss).drop i) ∧ (0 ≤ at1 ∧ at1 ≤ 2199023255552))
          (fun pr_ : Nat × Int => match pr_ with | (i, at1) => [(0, .slice ga gs.length gc), (1, .int .i64 most), (2, .int .i64 rest), (4, .slice sa ss.length sc), (14, .int .i64 at1), (36, .slice ga gs.length gc), (37, .int .i64 (gs.length : Int)), (38, .int .i64 (i : Int))])
          (fun pr_ : Nat × Int => match pr_ with | (i, at1) => [(1, blk b1 [.slice ga gs.length gc, .int .i64 most, .int .i64 rest, .int .i64 start] 134)])
          (fun pr_ : Nat × Int => match pr_ with | (i, at1) => gs.length - i) (0, start) ?_ ⟨rfl, rfl, rfl, rfl, rfl, rfl, rfl, rfl, trivial⟩ ⟨rfl, trivial⟩ ?_
      · exact ⟨Nat.zero_le _, rfl, by have := hK.start; omega⟩
      · rintro ⟨i, at1⟩ ⟨hi, hG, hab⟩
        show Cd _ _ _ _ _ [(0, .slice ga gs.length gc), (1, .int .i64 most), (2, .int .i64 rest), (4, .slice sa ss.length sc), (14, .int .i64 at1), (36, .slice ga gs.length gc), (37, .int .i64 (gs.length : Int)), (38, .int .i64 (i : Int))] [(1, blk b1 [.slice ga gs.length gc, .int .i64 most, .int .i64 rest, .int .i64 start] 134)]
        refine Cd.seq (Cd.region (Rg.val (Val.lss rfl rfl) rfl (Rg.nil (Rx.seq (Cd.seq (Cd.cond rfl (fun c3 => ?_) (fun c3 => ?_)))))))
        · replace c3 := of_decide_eq_true c3
          refine Cd.skip (Rx.seq (Cd.seq (Cd.block (Cd.seq (Cd.region (Rg.val (Val.move rfl) rfl ?_))))))
          obtain ⟨x4, hx5⟩ : ∃ x, gs[i]? = some x := ⟨_, List.getElem?_eq_getElem (by omega)⟩
          have hk_x4 := hK.leg _ (List.mem_of_getElem? hx5)
          refine Rg.val (Val.ide Try.underlying74 sz132 rfl rfl hL.rds (by first | rfl | omega | (simp; done)) hx5 (Nat.le_refl _)) rfl (Rg.val (Val.loadEA rfl ag132 hL.rds hx5) rfl (Rg.eff (Eff.alloc 2 zv132 rfl) rfl fun b2 _ => (Rg.val (Val.assign rfl) rfl (Rg.eff (Eff.storeAll (l := 2) sz132 rfl rfl rfl rfl rfl rfl) rfl fun _ _ => (Rg.nil (Rx.seq (Cd.seq (Cd.seq (Cd.draw [(1, blk b1 [.slice ga gs.length gc, .int .i64 most, .int .i64 rest, .int .i64 start] 134), (2, blk b2 [.int .i64 x4.m, .slice x4.aw x4.ws.length x4.cw] 132)] mixed rfl (Dr.take 0 rfl (by kernel_rfl) (Val.move rfl) rfl ⟨rfl, rfl, trivial⟩ (Dr.take 1 rfl (by kernel_rfl) (Val.move rfl) rfl ⟨rfl, rfl, trivial⟩ ?_)))))))))))
          obtain ⟨x6, hx7⟩ : ∃ x, ss[i]? = some x := ⟨_, List.getElem?_eq_getElem (by omega)⟩
          refine Dr.take 2 rfl (by kernel_rfl) (Val.ide Try.underlying24 sz2 rfl rfl hSs (by first | rfl | omega | (simp; done)) hx7 (Nat.le_refl _)) rfl ⟨rfl, rfl, trivial⟩ (Dr.take 3 rfl (by kernel_rfl) (Val.loadE (k := 0) rfl sc2 hSs hx7 rfl) rfl ⟨rfl, rfl, trivial⟩ (Dr.take 4 rfl (by kernel_rfl) (Val.move rfl) rfl ⟨rfl, rfl, trivial⟩ (Dr.take 5 rfl (by kernel_rfl) (Val.lss rfl rfl) rfl ⟨rfl, rfl, trivial⟩ (Dr.take 6 rfl (by kernel_rfl) (Val.move rfl) rfl ⟨rfl, rfl, trivial⟩ (Dr.split 49 rfl (fun c8 => ?_) (fun c8 => ?_))))))
          · replace c8 := of_decide_eq_true c8
            refine Dr.off 7 rfl (by kernel_rfl) rfl rfl rfl rfl ⟨rfl, rfl, trivial⟩ (Dr.off 8 rfl (by kernel_rfl) rfl rfl rfl rfl ⟨rfl, rfl, trivial⟩ (Dr.off 9 rfl (by kernel_rfl) rfl rfl rfl rfl ⟨rfl, rfl, trivial⟩ (Dr.off 10 rfl (by kernel_rfl) rfl rfl rfl rfl ⟨rfl, rfl, trivial⟩ (Dr.off 11 rfl (by kernel_rfl) rfl rfl rfl rfl ⟨rfl, rfl, trivial⟩ (Dr.off 12 rfl (by kernel_rfl) rfl rfl rfl rfl ⟨rfl, rfl, trivial⟩ (Dr.off 13 rfl (by kernel_rfl) rfl rfl rfl rfl ⟨rfl, rfl, trivial⟩ (Dr.off 14 rfl (by kernel_rfl) rfl rfl rfl rfl ⟨rfl, rfl, trivial⟩ (Dr.off 15 rfl (by kernel_rfl) rfl rfl rfl rfl ⟨rfl, rfl, trivial⟩ (Dr.off 16 rfl (by kernel_rfl) rfl rfl rfl rfl ⟨rfl, rfl, trivial⟩ (Dr.take 17 rfl (by kernel_rfl) (Val.pickT rfl rfl) rfl ⟨rfl, rfl, trivial⟩ (Dr.done (by kernel_rfl) (Rx.seq (Cd.yes rfl (Cd.seq (Cd.region (Rg.val (Val.move rfl) rfl (Rg.val (Val.assign rfl) rfl (Rg.val (Val.assign rfl) rfl (Rg.nil (Rx.seq (Cd.ret (Rx.pastR (Rx.inr (Rx.pastR (Rx.pastR (Rx.inr (Rx.pastR (Rx.ret2 rfl rfl rfl fun w hm_ => (⟨by rw [chk_21 h0_ hln_ (badAt_hit hG (zip_at hx5 hx7) (.inl c8))], hm_.below⟩)))))))))))))))))))))))))))))
          · replace c8 := of_decide_eq_false c8
            refine Dr.takeG 7 rfl (by kernel_rfl) rfl rfl rfl (Val.fa rfl (fa132_1 _ _)) rfl ⟨rfl, rfl, trivial⟩ (Dr.takeG 8 rfl (by kernel_rfl) rfl rfl rfl (Val.load (l := 2) rfl rfl sc28 rfl) rfl ⟨rfl, rfl, trivial⟩ (Dr.takeG 9 rfl (by kernel_rfl) rfl rfl rfl (Val.fa rfl (fa132_0 _ _)) rfl ⟨rfl, rfl, trivial⟩ (Dr.takeG 10 rfl (by kernel_rfl) rfl rfl rfl (Val.load (l := 2) rfl rfl sc2 rfl) rfl ⟨rfl, rfl, trivial⟩ (Dr.takeG 11 rfl (by kernel_rfl) rfl rfl rfl (Val.move rfl) rfl ⟨rfl, rfl, trivial⟩ (Dr.takeG 12 rfl (by kernel_rfl) rfl rfl rfl (Val.move rfl) rfl ⟨rfl, rfl, trivial⟩ (Dr.takeG 13 rfl (by kernel_rfl) rfl rfl rfl (Val.ide Try.underlying24 sz2 rfl rfl hSs (by first | rfl | omega | (simp; done)) hx7 (Nat.le_refl _)) rfl ⟨rfl, rfl, trivial⟩ (Dr.takeG 14 rfl (by kernel_rfl) rfl rfl rfl (Val.loadE (k := 0) rfl sc2 hSs hx7 rfl) rfl ⟨rfl, rfl, trivial⟩ (Dr.oneG 15 (by kernel_rfl) rfl rfl rfl rfl (Eff.give rfl rfl en94 rfl (fun w hm => fits_gives _ _ _ _ _ w (hm.rdb (hL.win _ (List.mem_of_getElem? hx5))) (by have := hk_x4.2.2; omega) (fun w_ hw_ => winF_mem hk_x4.2.1 w_ hw_) (by omega))) (fun _ _ => ⟨rfl, rfl, trivial⟩) fun _ _ => (Dr.takeG 16 rfl (by kernel_rfl) rfl rfl rfl (Val.not rfl) rfl ⟨rfl, rfl, trivial⟩ (Dr.take 17 rfl (by kernel_rfl) (Val.pickF rfl rfl) rfl ⟨rfl, rfl, trivial⟩ (Dr.done (by kernel_rfl) (Rx.seq (Cd.cond rfl (fun c9 => ?_) (fun c9 => ?_))))))))))))))
            · replace c9 := bnot_t c9
              refine Cd.seq (Cd.region (Rg.val (Val.move rfl) rfl (Rg.val (Val.assign rfl) rfl (Rg.val (Val.assign rfl) rfl (Rg.nil (Rx.seq (Cd.ret (Rx.pastR (Rx.inr (Rx.pastR (Rx.pastR (Rx.inr (Rx.pastR (Rx.ret2 rfl rfl rfl fun w hm_ => (⟨by rw [chk_21 h0_ hln_ (badAt_hit hG (zip_at hx5 hx7) (.inr ⟨c8, c9⟩))], hm_.below⟩)))))))))))))))
            · replace c9 := bnot_f c9
              have hfb_ := fit_bd hK (List.mem_of_getElem? hx5) c9
              refine Cd.skip (Rx.seq (Cd.draw [(1, blk b1 [.slice ga gs.length gc, .int .i64 most, .int .i64 rest, .int .i64 start] 134), (2, blk b2 [.int .i64 x4.m, .slice x4.aw x4.ws.length x4.cw] 132)] mixed rfl (Dr.take 0 rfl (by kernel_rfl) (Val.move rfl) rfl ⟨rfl, rfl, trivial⟩ (Dr.take 1 rfl (by kernel_rfl) (Val.move rfl) rfl ⟨rfl, rfl, trivial⟩ (Dr.take 2 rfl (by kernel_rfl) (Val.ide Try.underlying24 sz2 rfl rfl hSs (by first | rfl | omega | (simp; done)) hx7 (Nat.le_refl _)) rfl ⟨rfl, rfl, trivial⟩ (Dr.take 3 rfl (by kernel_rfl) (Val.loadE (k := 0) rfl sc2 hSs hx7 rfl) rfl ⟨rfl, rfl, trivial⟩ (Dr.take 4 rfl (by kernel_rfl) (Val.fa rfl (fa132_0 _ _)) rfl ⟨rfl, rfl, trivial⟩ (Dr.take 5 rfl (by kernel_rfl) (Val.load (l := 2) rfl rfl sc2 rfl) rfl ⟨rfl, rfl, trivial⟩ (Dr.take 6 rfl (by kernel_rfl) (Val.addN rfl rfl (by unfold in64; omega)) rfl ⟨rfl, rfl, trivial⟩ (Dr.take 7 rfl (by kernel_rfl) (Val.assign rfl) rfl ⟨rfl, rfl, trivial⟩ (Dr.done (by kernel_rfl) (Rx.inb (Rx.seq (Cd.region (Rg.val (Val.addN rfl rfl (by unfold in64; omega)) rfl (Rg.val (Val.move rfl) rfl (Rg.nil ?_)))))))))))))))))
              refine Rx.meet (i + 1, x6 + x4.m) ⟨⟨by omega, badAt_next hG (zip_at hx5 hx7) c8 c9, by omega⟩, by show gs.length - (i + 1) < gs.length - i; omega⟩ ⟨rfl, rfl, rfl, rfl, rfl, rfl, rfl, rfl, trivial⟩ ⟨rfl, trivial⟩
        · replace c3 := of_decide_eq_false c3
          have hb1_ := badAt_end hG (by rw [List.length_zip]; omega)
          have hfit := badAt_fit (Int.le_refl 0) hb1_
          refine Cd.exit (Rx.pastE (Rx.pastE (Rx.hit (Rx.seq (Cd.seq (Cd.region (Rg.val (Val.assign rfl) rfl (Rg.nil (Rx.seq (Cd.seq (Cd.region (Rg.val (Val.assign rfl) rfl (Rg.nil (Rx.seq (Cd.seq (Cd.seq (Cd.region (Rg.val (Val.move rfl) rfl (Rg.val (Val.len Try.underlying74 rfl) rfl (Rg.val (Val.move rfl) rfl (Rg.nil (Rx.seq (Cd.block ?_)))))))))))))))))))))))
          refine Cd.loop (A := Nat × Int × Int) (fun pr_ : Nat × Int × Int => match pr_ with | (j, d, e) => j ≤ gs.length ∧ drvAt most rest 0 none 0 (gs.zip ss) = drvAt most rest d (prevO j e) j ((gs.zip ss).drop j) ∧ (0 ≤ d ∧ d ≤ 10080) ∧ (0 ≤ e ∧ e ≤ 2199023255552))
              (fun pr_ : Nat × Int × Int => match pr_ with | (j, d, e) => [(1, .int .i64 most), (2, .int .i64 rest), (4, .slice sa ss.length sc), (14, .int .i64 e), (17, .int .i64 d), (70, .slice ga gs.length gc), (71, .int .i64 (gs.length : Int)), (72, .int .i64 (j : Int))])
              (fun pr_ : Nat × Int × Int => match pr_ with | (j, d, e) => [(1, blk b1 [.slice ga gs.length gc, .int .i64 most, .int .i64 rest, .int .i64 start] 134)])
              (fun pr_ : Nat × Int × Int => match pr_ with | (j, d, e) => gs.length - j) (0, 0, 0) ?_ ⟨rfl, rfl, rfl, rfl, rfl, rfl, rfl, rfl, trivial⟩ ⟨rfl, trivial⟩ ?_
          · exact ⟨Nat.zero_le _, rfl, by omega, by omega⟩
          · rintro ⟨j, d, e⟩ ⟨hj, hD, hdb, heb⟩
            show Cd _ _ _ _ _ [(1, .int .i64 most), (2, .int .i64 rest), (4, .slice sa ss.length sc), (14, .int .i64 e), (17, .int .i64 d), (70, .slice ga gs.length gc), (71, .int .i64 (gs.length : Int)), (72, .int .i64 (j : Int))] [(1, blk b1 [.slice ga gs.length gc, .int .i64 most, .int .i64 rest, .int .i64 start] 134)]
            refine Cd.seq (Cd.region (Rg.val (Val.lss rfl rfl) rfl (Rg.nil (Rx.seq (Cd.seq (Cd.cond rfl (fun c10 => ?_) (fun c10 => ?_)))))))
            · replace c10 := of_decide_eq_true c10
              refine Cd.skip (Rx.seq (Cd.seq (Cd.block (Cd.seq (Cd.region (Rg.val (Val.move rfl) rfl ?_))))))
              obtain ⟨x11, hx12⟩ : ∃ x, gs[j]? = some x := ⟨_, List.getElem?_eq_getElem (by omega)⟩
              have hk_x11 := hK.leg _ (List.mem_of_getElem? hx12)
              obtain ⟨x13, hx14⟩ : ∃ x, ss[j]? = some x := ⟨_, List.getElem?_eq_getElem (by omega)⟩
              have hb_x13 := fit_bd hK (List.mem_of_getElem? hx12) (hfit _ (List.mem_of_getElem? (zip_at hx12 hx14)))
              refine Rg.val (Val.ide Try.underlying74 sz132 rfl rfl hL.rds (by first | rfl | omega | (simp; done)) hx12 (Nat.le_refl _)) rfl (Rg.val (Val.loadEA rfl ag132 hL.rds hx12) rfl (Rg.eff (Eff.alloc 3 zv132 rfl) rfl fun b3 _ => (Rg.val (Val.assign rfl) rfl (Rg.eff (Eff.storeAll (l := 3) sz132 rfl rfl rfl rfl rfl rfl) rfl fun _ _ => (Rg.nil (Rx.seq (Cd.seq (Cd.seq (Cd.region (Rg.val (Val.move rfl) rfl (Rg.val (Val.gtr rfl rfl) rfl (Rg.val (Val.move rfl) rfl (Rg.split 79 rfl (fun c15 => ?_) (fun c15 => ?_))))))))))))))
              · replace c15 := of_decide_eq_true c15
                refine Rg.on rfl rfl rfl (Rg.val (Val.move rfl) rfl (Rg.on rfl rfl rfl (Rg.val (Val.move rfl) rfl (Rg.on rfl rfl rfl (Rg.val (Val.ide Try.underlying24 sz2 rfl rfl hSs (by first | rfl | omega | (simp; done)) hx14 (Nat.le_refl _)) rfl (Rg.on rfl rfl rfl (Rg.val (Val.loadE (k := 0) rfl sc2 hSs hx14 rfl) rfl (Rg.on rfl rfl rfl (Rg.val (Val.move rfl) rfl (Rg.on rfl rfl rfl (Rg.val (Val.subN rfl rfl (by unfold in64; omega)) rfl (Rg.on rfl rfl rfl (Rg.val (Val.move rfl) rfl (Rg.on rfl rfl rfl (Rg.val (Val.geq rfl rfl) rfl (Rg.val (Val.pickT rfl rfl) rfl (Rg.nil (Rx.seq (Cd.cond rfl (fun c16 => ?_) (fun c16 => ?_))))))))))))))))))))
                · replace c16 := of_decide_eq_true c16
                  refine Cd.region (Rg.val (Val.assign rfl) rfl (Rg.nil (Rx.seq (Cd.seq (Cd.seq (Cd.region (Rg.val (Val.move rfl) rfl (Rg.val (Val.fa rfl (fa132_0 _ _)) rfl (Rg.val (Val.load (l := 3) rfl rfl sc2 rfl) rfl (Rg.val (Val.addN rfl rfl (by unfold in64; omega)) rfl (Rg.val (Val.assign rfl) rfl (Rg.nil (Rx.seq (Cd.seq (Cd.region (Rg.val (Val.move rfl) rfl (Rg.val (Val.move rfl) rfl (Rg.val (Val.gtr rfl rfl) rfl (Rg.nil (Rx.seq (Cd.cond rfl (fun c17 => ?_) (fun c17 => ?_))))))))))))))))))))))
                  · replace c17 := of_decide_eq_true c17
                    refine Cd.seq (Cd.region (Rg.val (Val.move rfl) rfl (Rg.val (Val.assign rfl) rfl (Rg.val (Val.assign rfl) rfl (Rg.nil (Rx.seq (Cd.ret (Rx.pastR (Rx.inr (Rx.pastR (Rx.pastR (Rx.inr (Rx.pastR (Rx.ret2 rfl rfl rfl fun w hm_ => (⟨by rw [chk_12 h0_ hln_ hb1_ (drv_hit (i0 := 0) hD (zip_at hx12 hx14) (by rw [drvNow_1 c15 (by omega)]; exact c17))], hm_.below⟩)))))))))))))))
                  · replace c17 := of_decide_eq_false c17
                    refine Cd.skip (Rx.seq (Cd.draw [(1, blk b1 [.slice ga gs.length gc, .int .i64 most, .int .i64 rest, .int .i64 start] 134), (3, blk b3 [.int .i64 x11.m, .slice x11.aw x11.ws.length x11.cw] 132)] mixed rfl (Dr.take 0 rfl (by kernel_rfl) (Val.move rfl) rfl ⟨rfl, rfl, trivial⟩ (Dr.take 1 rfl (by kernel_rfl) (Val.move rfl) rfl ⟨rfl, rfl, trivial⟩ (Dr.take 2 rfl (by kernel_rfl) (Val.ide Try.underlying24 sz2 rfl rfl hSs (by first | rfl | omega | (simp; done)) hx14 (Nat.le_refl _)) rfl ⟨rfl, rfl, trivial⟩ (Dr.take 3 rfl (by kernel_rfl) (Val.loadE (k := 0) rfl sc2 hSs hx14 rfl) rfl ⟨rfl, rfl, trivial⟩ (Dr.take 4 rfl (by kernel_rfl) (Val.fa rfl (fa132_0 _ _)) rfl ⟨rfl, rfl, trivial⟩ (Dr.take 5 rfl (by kernel_rfl) (Val.load (l := 3) rfl rfl sc2 rfl) rfl ⟨rfl, rfl, trivial⟩ (Dr.take 6 rfl (by kernel_rfl) (Val.addN rfl rfl (by unfold in64; omega)) rfl ⟨rfl, rfl, trivial⟩ (Dr.take 7 rfl (by kernel_rfl) (Val.assign rfl) rfl ⟨rfl, rfl, trivial⟩ (Dr.done (by kernel_rfl) (Rx.inb (Rx.seq (Cd.region (Rg.val (Val.addN rfl rfl (by unfold in64; omega)) rfl (Rg.val (Val.move rfl) rfl (Rg.nil ?_)))))))))))))))))
                    refine Rx.meet (j + 1, 0 + x11.m, x13 + x11.m) ⟨⟨by omega, drv_next hD (zip_at hx12 hx14) (by rw [drvNow_1 c15 (by omega)]) c17, by omega, by omega⟩, by show gs.length - (j + 1) < gs.length - j; omega⟩ ⟨rfl, rfl, rfl, rfl, rfl, rfl, rfl, rfl, trivial⟩ ⟨rfl, trivial⟩
                · replace c16 := of_decide_eq_false c16
                  refine Cd.skip (Rx.seq (Cd.seq (Cd.seq (Cd.region (Rg.val (Val.move rfl) rfl (Rg.val (Val.fa rfl (fa132_0 _ _)) rfl (Rg.val (Val.load (l := 3) rfl rfl sc2 rfl) rfl (Rg.val (Val.addN rfl rfl (by unfold in64; omega)) rfl (Rg.val (Val.assign rfl) rfl (Rg.nil (Rx.seq (Cd.seq (Cd.region (Rg.val (Val.move rfl) rfl (Rg.val (Val.move rfl) rfl (Rg.val (Val.gtr rfl rfl) rfl (Rg.nil (Rx.seq (Cd.cond rfl (fun c18 => ?_) (fun c18 => ?_))))))))))))))))))))
                  · replace c18 := of_decide_eq_true c18
                    refine Cd.seq (Cd.region (Rg.val (Val.move rfl) rfl (Rg.val (Val.assign rfl) rfl (Rg.val (Val.assign rfl) rfl (Rg.nil (Rx.seq (Cd.ret (Rx.pastR (Rx.inr (Rx.pastR (Rx.pastR (Rx.inr (Rx.pastR (Rx.ret2 rfl rfl rfl fun w hm_ => (⟨by rw [chk_12 h0_ hln_ hb1_ (drv_hit (i0 := 0) hD (zip_at hx12 hx14) (by rw [drvNow_0 (.inr (by omega))]; exact c18))], hm_.below⟩)))))))))))))))
                  · replace c18 := of_decide_eq_false c18
                    refine Cd.skip (Rx.seq (Cd.draw [(1, blk b1 [.slice ga gs.length gc, .int .i64 most, .int .i64 rest, .int .i64 start] 134), (3, blk b3 [.int .i64 x11.m, .slice x11.aw x11.ws.length x11.cw] 132)] mixed rfl (Dr.take 0 rfl (by kernel_rfl) (Val.move rfl) rfl ⟨rfl, rfl, trivial⟩ (Dr.take 1 rfl (by kernel_rfl) (Val.move rfl) rfl ⟨rfl, rfl, trivial⟩ (Dr.take 2 rfl (by kernel_rfl) (Val.ide Try.underlying24 sz2 rfl rfl hSs (by first | rfl | omega | (simp; done)) hx14 (Nat.le_refl _)) rfl ⟨rfl, rfl, trivial⟩ (Dr.take 3 rfl (by kernel_rfl) (Val.loadE (k := 0) rfl sc2 hSs hx14 rfl) rfl ⟨rfl, rfl, trivial⟩ (Dr.take 4 rfl (by kernel_rfl) (Val.fa rfl (fa132_0 _ _)) rfl ⟨rfl, rfl, trivial⟩ (Dr.take 5 rfl (by kernel_rfl) (Val.load (l := 3) rfl rfl sc2 rfl) rfl ⟨rfl, rfl, trivial⟩ (Dr.take 6 rfl (by kernel_rfl) (Val.addN rfl rfl (by unfold in64; omega)) rfl ⟨rfl, rfl, trivial⟩ (Dr.take 7 rfl (by kernel_rfl) (Val.assign rfl) rfl ⟨rfl, rfl, trivial⟩ (Dr.done (by kernel_rfl) (Rx.inb (Rx.seq (Cd.region (Rg.val (Val.addN rfl rfl (by unfold in64; omega)) rfl (Rg.val (Val.move rfl) rfl (Rg.nil ?_)))))))))))))))))
                    refine Rx.meet (j + 1, d + x11.m, x13 + x11.m) ⟨⟨by omega, drv_next hD (zip_at hx12 hx14) (by rw [drvNow_0 (.inr (by omega))]) c18, by omega, by omega⟩, by show gs.length - (j + 1) < gs.length - j; omega⟩ ⟨rfl, rfl, rfl, rfl, rfl, rfl, rfl, rfl, trivial⟩ ⟨rfl, trivial⟩
              · replace c15 := of_decide_eq_false c15
                refine Rg.off rfl rfl rfl rfl (Rg.off rfl rfl rfl rfl (Rg.off rfl rfl rfl rfl (Rg.off rfl rfl rfl rfl (Rg.off rfl rfl rfl rfl (Rg.off rfl rfl rfl rfl (Rg.off rfl rfl rfl rfl (Rg.off rfl rfl rfl rfl (Rg.val (Val.pickF rfl rfl) rfl (Rg.nil (Rx.seq (Cd.no rfl (Cd.skip (Rx.seq (Cd.seq (Cd.seq (Cd.region (Rg.val (Val.move rfl) rfl (Rg.val (Val.fa rfl (fa132_0 _ _)) rfl (Rg.val (Val.load (l := 3) rfl rfl sc2 rfl) rfl (Rg.val (Val.addN rfl rfl (by unfold in64; omega)) rfl (Rg.val (Val.assign rfl) rfl (Rg.nil (Rx.seq (Cd.seq (Cd.region (Rg.val (Val.move rfl) rfl (Rg.val (Val.move rfl) rfl (Rg.val (Val.gtr rfl rfl) rfl (Rg.nil (Rx.seq (Cd.cond rfl (fun c19 => ?_) (fun c19 => ?_))))))))))))))))))))))))))))))))
                · replace c19 := of_decide_eq_true c19
                  refine Cd.seq (Cd.region (Rg.val (Val.move rfl) rfl (Rg.val (Val.assign rfl) rfl (Rg.val (Val.assign rfl) rfl (Rg.nil (Rx.seq (Cd.ret (Rx.pastR (Rx.inr (Rx.pastR (Rx.pastR (Rx.inr (Rx.pastR (Rx.ret2 rfl rfl rfl fun w hm_ => (⟨by rw [chk_12 h0_ hln_ hb1_ (drv_hit (i0 := 0) hD (zip_at hx12 hx14) (by rw [drvNow_0 (.inl c15)]; exact c19))], hm_.below⟩)))))))))))))))
                · replace c19 := of_decide_eq_false c19
                  refine Cd.skip (Rx.seq (Cd.draw [(1, blk b1 [.slice ga gs.length gc, .int .i64 most, .int .i64 rest, .int .i64 start] 134), (3, blk b3 [.int .i64 x11.m, .slice x11.aw x11.ws.length x11.cw] 132)] mixed rfl (Dr.take 0 rfl (by kernel_rfl) (Val.move rfl) rfl ⟨rfl, rfl, trivial⟩ (Dr.take 1 rfl (by kernel_rfl) (Val.move rfl) rfl ⟨rfl, rfl, trivial⟩ (Dr.take 2 rfl (by kernel_rfl) (Val.ide Try.underlying24 sz2 rfl rfl hSs (by first | rfl | omega | (simp; done)) hx14 (Nat.le_refl _)) rfl ⟨rfl, rfl, trivial⟩ (Dr.take 3 rfl (by kernel_rfl) (Val.loadE (k := 0) rfl sc2 hSs hx14 rfl) rfl ⟨rfl, rfl, trivial⟩ (Dr.take 4 rfl (by kernel_rfl) (Val.fa rfl (fa132_0 _ _)) rfl ⟨rfl, rfl, trivial⟩ (Dr.take 5 rfl (by kernel_rfl) (Val.load (l := 3) rfl rfl sc2 rfl) rfl ⟨rfl, rfl, trivial⟩ (Dr.take 6 rfl (by kernel_rfl) (Val.addN rfl rfl (by unfold in64; omega)) rfl ⟨rfl, rfl, trivial⟩ (Dr.take 7 rfl (by kernel_rfl) (Val.assign rfl) rfl ⟨rfl, rfl, trivial⟩ (Dr.done (by kernel_rfl) (Rx.inb (Rx.seq (Cd.region (Rg.val (Val.addN rfl rfl (by unfold in64; omega)) rfl (Rg.val (Val.move rfl) rfl (Rg.nil ?_)))))))))))))))))
                  refine Rx.meet (j + 1, d + x11.m, x13 + x11.m) ⟨⟨by omega, drv_next hD (zip_at hx12 hx14) (by rw [drvNow_0 (.inl c15)]) c19, by omega, by omega⟩, by show gs.length - (j + 1) < gs.length - j; omega⟩ ⟨rfl, rfl, rfl, rfl, rfl, rfl, rfl, rfl, trivial⟩ ⟨rfl, trivial⟩
            · replace c10 := of_decide_eq_false c10
              refine Cd.exit (Rx.pastE (Rx.pastE (Rx.hit (Rx.seq (Cd.seq (Cd.region (Rg.val (Val.assign rfl) rfl (Rg.val (Val.assign rfl) rfl (Rg.nil (Rx.seq (Cd.ret (Rx.ret2 rfl rfl rfl fun w hm_ => (⟨by rw [chk_0 h0_ hln_ hb1_ (drv_end hD (by rw [List.length_zip]; omega))], hm_.below⟩)))))))))))))

theorem rCheckCrew_gives (ga : Option Addr) (gc : Nat) (gs : List Lg) (most rest start : Int) (sa : Option Addr) (sc : Nat) (ss : List Int) (w : World) (hL : LegAt w ga gs) (hSs : Rdb w sa 1 encI ss) (hsl : ss.length ≤ 9223372036854775807) : Gives Try.prog 46 #[.slice ga gs.length gc, .int .i64 most, .int .i64 rest, .int .i64 start, .slice sa ss.length sc] w (.tuple #[.int .i64 (chkCrew gs most rest start ss).1, .int .i64 (chkCrew gs most rest start ss).2]) := by
  refine calls_of (vs := [.slice ga gs.length gc, .int .i64 most, .int .i64 rest, .int .i64 start, .slice sa ss.length sc]) Try.func46 rfl rfl rfl ?_
  show Cd _ _ _ _ _ [(0, .slice ga gs.length gc), (1, .int .i64 most), (2, .int .i64 rest), (3, .int .i64 start), (4, .slice sa ss.length sc)] []
  refine Cd.seq (Cd.region (Rg.val (Val.assign rfl) rfl (Rg.val (Val.assign rfl) rfl (Rg.nil (Rx.seq (Cd.seq (Cd.region (Rg.val (Val.move rfl) rfl (Rg.val (Val.move rfl) rfl (Rg.val (Val.move rfl) rfl (Rg.val (Val.move rfl) rfl (Rg.eff (Eff.give rfl rfl en95 rfl (fun w hm => rcrew_gives _ _ gs most rest start w (Mem.leg hm hL))) rfl fun _ _ => (Rg.val (Val.assign rfl) rfl (Rg.nil (Rx.seq (Cd.seq (Cd.seq (Cd.region (Rg.val (Val.move rfl) rfl (Rg.val (Val.neq rfl rfl) rfl (Rg.nil (Rx.seq (Cd.cond rfl (fun c1 => ?_) (fun c1 => ?_))))))))))))))))))))))))
  · replace c1 := bnot_t c1
    replace c1 := of_decide_eq_false c1
    refine Cd.seq (Cd.region (Rg.val (Val.move rfl) rfl (Rg.val (Val.assign rfl) rfl (Rg.val (Val.assign rfl) rfl (Rg.nil (Rx.seq (Cd.ret (Rx.pastR (Rx.ret2 rfl rfl rfl fun w hm_ => (⟨by rw [chk_e c1], hm_.below⟩))))))))))
  · replace c1 := bnot_f c1
    replace c1 := of_decide_eq_true c1
    have hK := CrewOk.of c1
    have h0_ := c1
    have hkn := hK.n
    have hks := hK.start
    have hkm := hK.most
    have hkr := hK.rest
    refine Cd.skip (Rx.seq (Cd.seq (Cd.seq (Cd.region (Rg.val (Val.move rfl) rfl (Rg.val (Val.len Try.underlying24 rfl) rfl (Rg.val (Val.move rfl) rfl (Rg.val (Val.len Try.underlying74 rfl) rfl (Rg.val (Val.neq rfl rfl) rfl (Rg.nil (Rx.seq (Cd.cond rfl (fun c2 => ?_) (fun c2 => ?_)))))))))))))
    · replace c2 := bnot_t c2
      replace c2 := of_decide_eq_false c2
      refine Cd.seq (Cd.region (Rg.val (Val.assign rfl) rfl (Rg.val (Val.assign rfl) rfl (Rg.nil (Rx.seq (Cd.ret (Rx.pastR (Rx.ret2 rfl rfl rfl fun w hm_ => (⟨by rw [chk_17 h0_ c2], hm_.below⟩)))))))))
    · replace c2 := bnot_f c2
      replace c2 := of_decide_eq_true c2
      have hln_ := c2
      refine Cd.skip (Rx.seq (Cd.seq (Cd.region (Rg.val (Val.move rfl) rfl (Rg.val (Val.assign rfl) rfl (Rg.nil (Rx.seq (Cd.seq (Cd.seq (Cd.region (Rg.val (Val.assign rfl) rfl (Rg.nil (Rx.seq (Cd.block ?_))))))))))))))
      refine Cd.loop (A := Nat × Int) (fun pr_ : Nat × Int => match pr_ with | (i, at1) => i ≤ ss.length ∧ badAt start 0 (gs.zip ss) = badAt at1 i ((gs.zip ss).drop i) ∧ (0 ≤ at1 ∧ at1 ≤ 2199023255552))
          (fun pr_ : Nat × Int => match pr_ with | (i, at1) => [(0, .slice ga gs.length gc), (1, .int .i64 most), (2, .int .i64 rest), (4, .slice sa ss.length sc), (13, .int .i64 at1), (14, .int .i64 (i : Int))])
          (fun pr_ : Nat × Int => match pr_ with | (i, at1) => [])
          (fun pr_ : Nat × Int => match pr_ with | (i, at1) => ss.length - i) (0, start) ?_ ⟨rfl, rfl, rfl, rfl, rfl, rfl, trivial⟩ trivial ?_
      · exact ⟨Nat.zero_le _, rfl, by have := hK.start; omega⟩
      · rintro ⟨i, at1⟩ ⟨hi, hG, hab⟩
        show Cd _ _ _ _ _ [(0, .slice ga gs.length gc), (1, .int .i64 most), (2, .int .i64 rest), (4, .slice sa ss.length sc), (13, .int .i64 at1), (14, .int .i64 (i : Int))] []
        refine Cd.seq (Cd.seq (Cd.region (Rg.val (Val.move rfl) rfl (Rg.val (Val.move rfl) rfl (Rg.val (Val.len Try.underlying24 rfl) rfl (Rg.val (Val.lss rfl rfl) rfl (Rg.nil (Rx.seq (Cd.cond rfl (fun c3 => ?_) (fun c3 => ?_))))))))))
        · replace c3 := of_decide_eq_true c3
          refine Cd.skip (Rx.seq (Cd.seq (Cd.block (Cd.seq (Cd.seq (Cd.draw [] mixed rfl (Dr.take 0 rfl (by kernel_rfl) (Val.move rfl) rfl trivial (Dr.take 1 rfl (by kernel_rfl) (Val.move rfl) rfl trivial ?_))))))))
          obtain ⟨x4, hx5⟩ : ∃ x, ss[i]? = some x := ⟨_, List.getElem?_eq_getElem (by omega)⟩
          refine Dr.take 2 rfl (by kernel_rfl) (Val.ide Try.underlying24 sz2 rfl rfl hSs (by first | rfl | omega | (simp; done)) hx5 (Nat.le_refl _)) rfl trivial (Dr.take 3 rfl (by kernel_rfl) (Val.loadE (k := 0) rfl sc2 hSs hx5 rfl) rfl trivial (Dr.take 4 rfl (by kernel_rfl) (Val.move rfl) rfl trivial (Dr.take 5 rfl (by kernel_rfl) (Val.lss rfl rfl) rfl trivial (Dr.take 6 rfl (by kernel_rfl) (Val.move rfl) rfl trivial (Dr.split 43 rfl (fun c6 => ?_) (fun c6 => ?_))))))
          · replace c6 := of_decide_eq_true c6
            refine Dr.off 7 rfl (by kernel_rfl) rfl rfl rfl rfl trivial (Dr.off 8 rfl (by kernel_rfl) rfl rfl rfl rfl trivial (Dr.off 9 rfl (by kernel_rfl) rfl rfl rfl rfl trivial (Dr.off 10 rfl (by kernel_rfl) rfl rfl rfl rfl trivial (Dr.off 11 rfl (by kernel_rfl) rfl rfl rfl rfl trivial (Dr.off 12 rfl (by kernel_rfl) rfl rfl rfl rfl trivial (Dr.off 13 rfl (by kernel_rfl) rfl rfl rfl rfl trivial (Dr.off 14 rfl (by kernel_rfl) rfl rfl rfl rfl trivial (Dr.off 15 rfl (by kernel_rfl) rfl rfl rfl rfl trivial (Dr.off 16 rfl (by kernel_rfl) rfl rfl rfl rfl trivial (Dr.off 17 rfl (by kernel_rfl) rfl rfl rfl rfl trivial (Dr.off 18 rfl (by kernel_rfl) rfl rfl rfl rfl trivial (Dr.off 19 rfl (by kernel_rfl) rfl rfl rfl rfl trivial (Dr.off 20 rfl (by kernel_rfl) rfl rfl rfl rfl trivial (Dr.off 21 rfl (by kernel_rfl) rfl rfl rfl rfl trivial (Dr.off 22 rfl (by kernel_rfl) rfl rfl rfl rfl trivial (Dr.take 23 rfl (by kernel_rfl) (Val.pickT rfl rfl) rfl trivial (Dr.done (by kernel_rfl) (Rx.seq (Cd.yes rfl (Cd.seq (Cd.region (Rg.val (Val.move rfl) rfl (Rg.val (Val.assign rfl) rfl (Rg.val (Val.assign rfl) rfl (Rg.nil (Rx.seq (Cd.ret (Rx.pastR (Rx.inr (Rx.pastR (Rx.pastR (Rx.inr (Rx.pastR ?_)))))))))))))))))))))))))))))))))
            obtain ⟨x7, hx8⟩ : ∃ x, gs[i]? = some x := ⟨_, List.getElem?_eq_getElem (by omega)⟩
            have hk_x7 := hK.leg _ (List.mem_of_getElem? hx8)
            refine Rx.ret2 rfl rfl rfl fun w hm_ => (⟨by rw [chk_21 h0_ hln_ (badAt_hit hG (zip_at hx8 hx5) (.inl c6))], hm_.below⟩)
          · replace c6 := of_decide_eq_false c6
            refine Dr.takeG 7 rfl (by kernel_rfl) rfl rfl rfl (Val.move rfl) rfl trivial (Dr.takeG 8 rfl (by kernel_rfl) rfl rfl rfl (Val.move rfl) rfl trivial ?_)
            obtain ⟨x9, hx10⟩ : ∃ x, gs[i]? = some x := ⟨_, List.getElem?_eq_getElem (by omega)⟩
            have hk_x9 := hK.leg _ (List.mem_of_getElem? hx10)
            refine Dr.takeG 9 rfl (by kernel_rfl) rfl rfl rfl (Val.ide Try.underlying74 sz132 rfl rfl hL.rds (by first | rfl | omega | (simp; done)) hx10 (Nat.le_refl _)) rfl trivial (Dr.takeG 10 rfl (by kernel_rfl) rfl rfl rfl (Val.fae (k := 1) rfl (hL.rds.ne hx10) fa132_1) rfl trivial (Dr.takeG 11 rfl (by kernel_rfl) rfl rfl rfl (Val.loadE (k := 1) rfl sc28 hL.rds hx10 rfl) rfl trivial (Dr.takeG 12 rfl (by kernel_rfl) rfl rfl rfl (Val.move rfl) rfl trivial (Dr.takeG 13 rfl (by kernel_rfl) rfl rfl rfl (Val.move rfl) rfl trivial (Dr.takeG 14 rfl (by kernel_rfl) rfl rfl rfl (Val.ide Try.underlying74 sz132 rfl rfl hL.rds (by first | rfl | omega | (simp; done)) hx10 (Nat.le_refl _)) rfl trivial (Dr.takeG 15 rfl (by kernel_rfl) rfl rfl rfl (Val.fae (k := 0) rfl (hL.rds.ne hx10) fa132_0) rfl trivial (Dr.takeG 16 rfl (by kernel_rfl) rfl rfl rfl (Val.loadE (k := 0) rfl sc2 hL.rds hx10 rfl) rfl trivial (Dr.takeG 17 rfl (by kernel_rfl) rfl rfl rfl (Val.move rfl) rfl trivial (Dr.takeG 18 rfl (by kernel_rfl) rfl rfl rfl (Val.move rfl) rfl trivial (Dr.takeG 19 rfl (by kernel_rfl) rfl rfl rfl (Val.ide Try.underlying24 sz2 rfl rfl hSs (by first | rfl | omega | (simp; done)) hx5 (Nat.le_refl _)) rfl trivial (Dr.takeG 20 rfl (by kernel_rfl) rfl rfl rfl (Val.loadE (k := 0) rfl sc2 hSs hx5 rfl) rfl trivial (Dr.oneG 21 (by kernel_rfl) rfl rfl rfl rfl (Eff.give rfl rfl en75 rfl (fun w hm => rfits_gives _ _ _ _ _ w (hm.rdb (hL.win _ (List.mem_of_getElem? hx10))) (by have := hk_x9.2.2; omega) (fun w_ hw_ => winF_mem hk_x9.2.1 w_ hw_) (by omega))) (fun _ _ => trivial) fun _ _ => (Dr.takeG 22 rfl (by kernel_rfl) rfl rfl rfl (Val.not rfl) rfl trivial (Dr.take 23 rfl (by kernel_rfl) (Val.pickF rfl rfl) rfl trivial (Dr.done (by kernel_rfl) (Rx.seq (Cd.cond rfl (fun c11 => ?_) (fun c11 => ?_))))))))))))))))))
            · replace c11 := bnot_t c11
              refine Cd.seq (Cd.region (Rg.val (Val.move rfl) rfl (Rg.val (Val.assign rfl) rfl (Rg.val (Val.assign rfl) rfl (Rg.nil (Rx.seq (Cd.ret (Rx.pastR (Rx.inr (Rx.pastR (Rx.pastR (Rx.inr (Rx.pastR (Rx.ret2 rfl rfl rfl fun w hm_ => (⟨by rw [chk_21 h0_ hln_ (badAt_hit hG (zip_at hx10 hx5) (.inr ⟨c6, c11⟩))], hm_.below⟩)))))))))))))))
            · replace c11 := bnot_f c11
              have hfb_ := fit_bd hK (List.mem_of_getElem? hx10) c11
              refine Cd.skip (Rx.seq (Cd.draw [] mixed rfl (Dr.take 0 rfl (by kernel_rfl) (Val.move rfl) rfl trivial (Dr.take 1 rfl (by kernel_rfl) (Val.move rfl) rfl trivial (Dr.take 2 rfl (by kernel_rfl) (Val.ide Try.underlying24 sz2 rfl rfl hSs (by first | rfl | omega | (simp; done)) hx5 (Nat.le_refl _)) rfl trivial (Dr.take 3 rfl (by kernel_rfl) (Val.loadE (k := 0) rfl sc2 hSs hx5 rfl) rfl trivial (Dr.take 4 rfl (by kernel_rfl) (Val.move rfl) rfl trivial (Dr.take 5 rfl (by kernel_rfl) (Val.move rfl) rfl trivial (Dr.take 6 rfl (by kernel_rfl) (Val.ide Try.underlying74 sz132 rfl rfl hL.rds (by first | rfl | omega | (simp; done)) hx10 (Nat.le_refl _)) rfl trivial (Dr.take 7 rfl (by kernel_rfl) (Val.fae (k := 0) rfl (hL.rds.ne hx10) fa132_0) rfl trivial (Dr.take 8 rfl (by kernel_rfl) (Val.loadE (k := 0) rfl sc2 hL.rds hx10 rfl) rfl trivial (Dr.take 9 rfl (by kernel_rfl) (Val.addN rfl rfl (by unfold in64; omega)) rfl trivial (Dr.take 10 rfl (by kernel_rfl) (Val.assign rfl) rfl trivial (Dr.done (by kernel_rfl) (Rx.inb (Rx.seq (Cd.region (Rg.val (Val.move rfl) rfl (Rg.val (Val.addN rfl rfl (by unfold in64; omega)) rfl (Rg.val (Val.assign rfl) rfl (Rg.nil ?_)))))))))))))))))))))
              refine Rx.meet (i + 1, x4 + x9.m) ⟨⟨by omega, badAt_next hG (zip_at hx10 hx5) c6 c11, by omega⟩, by show ss.length - (i + 1) < ss.length - i; omega⟩ ⟨rfl, rfl, rfl, rfl, rfl, rfl, trivial⟩ trivial
        · replace c3 := of_decide_eq_false c3
          have hb1_ := badAt_end hG (by rw [List.length_zip]; omega)
          have hfit := badAt_fit (Int.le_refl 0) hb1_
          refine Cd.exit (Rx.pastE (Rx.pastE (Rx.hit (Rx.seq (Cd.seq (Cd.region (Rg.val (Val.assign rfl) rfl (Rg.nil (Rx.seq (Cd.seq (Cd.seq (Cd.region (Rg.val (Val.assign rfl) rfl (Rg.nil (Rx.seq (Cd.block ?_))))))))))))))))
          refine Cd.loop (A := Nat × Int × Int) (fun pr_ : Nat × Int × Int => match pr_ with | (j, d, e) => j ≤ ss.length ∧ drvAt most rest 0 none 0 (gs.zip ss) = drvAt most rest d (prevO j e) j ((gs.zip ss).drop j) ∧ (0 ≤ d ∧ d ≤ 10080) ∧ (0 ≤ e ∧ e ≤ 2199023255552) ∧ (j = 0 ∨ ∃ l x, gs[j - 1]? = some l ∧ ss[j - 1]? = some x ∧ e = x + l.m))
              (fun pr_ : Nat × Int × Int => match pr_ with | (j, d, e) => [(0, .slice ga gs.length gc), (1, .int .i64 most), (2, .int .i64 rest), (4, .slice sa ss.length sc), (15, .int .i64 d), (16, .int .i64 (j : Int))])
              (fun pr_ : Nat × Int × Int => match pr_ with | (j, d, e) => [])
              (fun pr_ : Nat × Int × Int => match pr_ with | (j, d, e) => ss.length - j) (0, 0, 0) ?_ ⟨rfl, rfl, rfl, rfl, rfl, rfl, trivial⟩ trivial ?_
          · exact ⟨Nat.zero_le _, rfl, by omega, by omega, .inl rfl⟩
          · rintro ⟨j, d, e⟩ ⟨hj, hD, hdb, heb, hpe⟩
            show Cd _ _ _ _ _ [(0, .slice ga gs.length gc), (1, .int .i64 most), (2, .int .i64 rest), (4, .slice sa ss.length sc), (15, .int .i64 d), (16, .int .i64 (j : Int))] []
            refine Cd.seq (Cd.seq (Cd.region (Rg.val (Val.move rfl) rfl (Rg.val (Val.move rfl) rfl (Rg.val (Val.len Try.underlying24 rfl) rfl (Rg.val (Val.lss rfl rfl) rfl (Rg.nil (Rx.seq (Cd.cond rfl (fun c12 => ?_) (fun c12 => ?_))))))))))
            · replace c12 := of_decide_eq_true c12
              refine Cd.skip (Rx.seq (Cd.seq (Cd.block (Cd.seq (Cd.seq (Cd.draw [] mixed rfl (Dr.take 0 rfl (by kernel_rfl) (Val.move rfl) rfl trivial (Dr.take 1 rfl (by kernel_rfl) (Val.gtr rfl rfl) rfl trivial (Dr.take 2 rfl (by kernel_rfl) (Val.move rfl) rfl trivial (Dr.split 80 rfl (fun c13 => ?_) (fun c13 => ?_)))))))))))
              · replace c13 := of_decide_eq_true c13
                refine Dr.takeG 3 rfl (by kernel_rfl) rfl rfl rfl (Val.move rfl) rfl trivial (Dr.takeG 4 rfl (by kernel_rfl) rfl rfl rfl (Val.move rfl) rfl trivial ?_)
                obtain ⟨x14, hx15⟩ : ∃ x, ss[j]? = some x := ⟨_, List.getElem?_eq_getElem (by omega)⟩
                obtain ⟨x16, hx17⟩ : ∃ x, gs[j]? = some x := ⟨_, List.getElem?_eq_getElem (by omega)⟩
                have hk_x16 := hK.leg _ (List.mem_of_getElem? hx17)
                have hb_x14 := fit_bd hK (List.mem_of_getElem? hx17) (hfit _ (List.mem_of_getElem? (zip_at hx17 hx15)))
                refine Dr.takeG 5 rfl (by kernel_rfl) rfl rfl rfl (Val.ide Try.underlying24 sz2 rfl rfl hSs (by first | rfl | omega | (simp; done)) hx15 (Nat.le_refl _)) rfl trivial (Dr.takeG 6 rfl (by kernel_rfl) rfl rfl rfl (Val.loadE (k := 0) rfl sc2 hSs hx15 rfl) rfl trivial (Dr.takeG 7 rfl (by kernel_rfl) rfl rfl rfl (Val.move rfl) rfl trivial (Dr.takeG 8 rfl (by kernel_rfl) rfl rfl rfl (Val.move rfl) rfl trivial (Dr.takeG 9 rfl (by kernel_rfl) rfl rfl rfl (Val.subN rfl rfl (by unfold in64; omega)) rfl trivial ?_))))
                obtain ⟨x18, hx19⟩ : ∃ x, ss[(j - 1)]? = some x := ⟨_, List.getElem?_eq_getElem (by omega)⟩
                obtain ⟨x20, hx21⟩ : ∃ x, gs[(j - 1)]? = some x := ⟨_, List.getElem?_eq_getElem (by omega)⟩
                have hk_x20 := hK.leg _ (List.mem_of_getElem? hx21)
                have hb_x18 := fit_bd hK (List.mem_of_getElem? hx21) (hfit _ (List.mem_of_getElem? (zip_at hx21 hx19)))
                have hee_ := prev_e hpe (by omega) hx21 hx19
                refine Dr.takeG 10 rfl (by kernel_rfl) rfl rfl rfl (Val.ide Try.underlying24 sz2 rfl rfl hSs (by first | rfl | omega | (simp; done)) hx19 (Nat.le_refl _)) rfl trivial (Dr.takeG 11 rfl (by kernel_rfl) rfl rfl rfl (Val.loadE (k := 0) rfl sc2 hSs hx19 rfl) rfl trivial (Dr.takeG 12 rfl (by kernel_rfl) rfl rfl rfl (Val.subN rfl rfl (by unfold in64; omega)) rfl trivial (Dr.takeG 13 rfl (by kernel_rfl) rfl rfl rfl (Val.move rfl) rfl trivial (Dr.takeG 14 rfl (by kernel_rfl) rfl rfl rfl (Val.move rfl) rfl trivial (Dr.takeG 15 rfl (by kernel_rfl) rfl rfl rfl (Val.subN rfl rfl (by unfold in64; omega)) rfl trivial (Dr.takeG 16 rfl (by kernel_rfl) rfl rfl rfl (Val.ide Try.underlying74 sz132 rfl rfl hL.rds (by first | rfl | omega | (simp; done)) hx21 (Nat.le_refl _)) rfl trivial (Dr.takeG 17 rfl (by kernel_rfl) rfl rfl rfl (Val.fae (k := 0) rfl (hL.rds.ne hx21) fa132_0) rfl trivial (Dr.takeG 18 rfl (by kernel_rfl) rfl rfl rfl (Val.loadE (k := 0) rfl sc2 hL.rds hx21 rfl) rfl trivial (Dr.takeG 19 rfl (by kernel_rfl) rfl rfl rfl (Val.subN rfl rfl (by unfold in64; omega)) rfl trivial (Dr.takeG 20 rfl (by kernel_rfl) rfl rfl rfl (Val.move rfl) rfl trivial (Dr.takeG 21 rfl (by kernel_rfl) rfl rfl rfl (Val.geq rfl rfl) rfl trivial (Dr.take 22 rfl (by kernel_rfl) (Val.pickT rfl rfl) rfl trivial (Dr.done (by kernel_rfl) (Rx.seq (Cd.cond rfl (fun c22 => ?_) (fun c22 => ?_))))))))))))))))
                · replace c22 := of_decide_eq_true c22
                  refine Cd.region (Rg.val (Val.assign rfl) rfl (Rg.nil (Rx.seq (Cd.seq (Cd.region (Rg.val (Val.move rfl) rfl (Rg.val (Val.move rfl) rfl (Rg.val (Val.move rfl) rfl (Rg.val (Val.ide Try.underlying74 sz132 rfl rfl hL.rds (by first | rfl | omega | (simp; done)) hx17 (Nat.le_refl _)) rfl (Rg.val (Val.fae (k := 0) rfl (hL.rds.ne hx17) fa132_0) rfl (Rg.val (Val.loadE (k := 0) rfl sc2 hL.rds hx17 rfl) rfl (Rg.val (Val.addN rfl rfl (by unfold in64; omega)) rfl (Rg.val (Val.assign rfl) rfl (Rg.nil (Rx.seq (Cd.seq (Cd.region (Rg.val (Val.move rfl) rfl (Rg.val (Val.move rfl) rfl (Rg.val (Val.gtr rfl rfl) rfl (Rg.nil (Rx.seq (Cd.cond rfl (fun c23 => ?_) (fun c23 => ?_))))))))))))))))))))))))
                  · replace c23 := of_decide_eq_true c23
                    refine Cd.seq (Cd.region (Rg.val (Val.move rfl) rfl (Rg.val (Val.assign rfl) rfl (Rg.val (Val.assign rfl) rfl (Rg.nil (Rx.seq (Cd.ret (Rx.inr (Rx.pastR (Rx.pastR (Rx.inr (Rx.pastR (Rx.ret2 rfl rfl rfl fun w hm_ => (⟨by rw [chk_12 h0_ hln_ hb1_ (drv_hit (i0 := 0) hD (zip_at hx17 hx15) (by rw [drvNow_1 c13 (by omega)]; exact c23))], hm_.below⟩))))))))))))))
                  · replace c23 := of_decide_eq_false c23
                    refine Cd.skip (Rx.inb (Rx.seq (Cd.region (Rg.val (Val.move rfl) rfl (Rg.val (Val.addN rfl rfl (by unfold in64; omega)) rfl (Rg.val (Val.assign rfl) rfl (Rg.nil ?_)))))))
                    refine Rx.meet (j + 1, 0 + x16.m, x14 + x16.m) ⟨⟨by omega, drv_next hD (zip_at hx17 hx15) (by rw [drvNow_1 c13 (by omega)]) c23, by omega, by omega, .inr ⟨_, _, by simpa using hx17, by simpa using hx15, rfl⟩⟩, by show ss.length - (j + 1) < ss.length - j; omega⟩ ⟨rfl, rfl, rfl, rfl, rfl, rfl, trivial⟩ trivial
                · replace c22 := of_decide_eq_false c22
                  refine Cd.skip (Rx.seq (Cd.seq (Cd.region (Rg.val (Val.move rfl) rfl (Rg.val (Val.move rfl) rfl (Rg.val (Val.move rfl) rfl (Rg.val (Val.ide Try.underlying74 sz132 rfl rfl hL.rds (by first | rfl | omega | (simp; done)) hx17 (Nat.le_refl _)) rfl (Rg.val (Val.fae (k := 0) rfl (hL.rds.ne hx17) fa132_0) rfl (Rg.val (Val.loadE (k := 0) rfl sc2 hL.rds hx17 rfl) rfl (Rg.val (Val.addN rfl rfl (by unfold in64; omega)) rfl (Rg.val (Val.assign rfl) rfl (Rg.nil (Rx.seq (Cd.seq (Cd.region (Rg.val (Val.move rfl) rfl (Rg.val (Val.move rfl) rfl (Rg.val (Val.gtr rfl rfl) rfl (Rg.nil (Rx.seq (Cd.cond rfl (fun c24 => ?_) (fun c24 => ?_))))))))))))))))))))))
                  · replace c24 := of_decide_eq_true c24
                    refine Cd.seq (Cd.region (Rg.val (Val.move rfl) rfl (Rg.val (Val.assign rfl) rfl (Rg.val (Val.assign rfl) rfl (Rg.nil (Rx.seq (Cd.ret (Rx.inr (Rx.pastR (Rx.pastR (Rx.inr (Rx.pastR (Rx.ret2 rfl rfl rfl fun w hm_ => (⟨by rw [chk_12 h0_ hln_ hb1_ (drv_hit (i0 := 0) hD (zip_at hx17 hx15) (by rw [drvNow_0 (.inr (by omega))]; exact c24))], hm_.below⟩))))))))))))))
                  · replace c24 := of_decide_eq_false c24
                    refine Cd.skip (Rx.inb (Rx.seq (Cd.region (Rg.val (Val.move rfl) rfl (Rg.val (Val.addN rfl rfl (by unfold in64; omega)) rfl (Rg.val (Val.assign rfl) rfl (Rg.nil ?_)))))))
                    refine Rx.meet (j + 1, d + x16.m, x14 + x16.m) ⟨⟨by omega, drv_next hD (zip_at hx17 hx15) (by rw [drvNow_0 (.inr (by omega))]) c24, by omega, by omega, .inr ⟨_, _, by simpa using hx17, by simpa using hx15, rfl⟩⟩, by show ss.length - (j + 1) < ss.length - j; omega⟩ ⟨rfl, rfl, rfl, rfl, rfl, rfl, trivial⟩ trivial
              · replace c13 := of_decide_eq_false c13
                refine Dr.off 3 rfl (by kernel_rfl) rfl rfl rfl rfl trivial (Dr.off 4 rfl (by kernel_rfl) rfl rfl rfl rfl trivial (Dr.off 5 rfl (by kernel_rfl) rfl rfl rfl rfl trivial (Dr.off 6 rfl (by kernel_rfl) rfl rfl rfl rfl trivial (Dr.off 7 rfl (by kernel_rfl) rfl rfl rfl rfl trivial (Dr.off 8 rfl (by kernel_rfl) rfl rfl rfl rfl trivial (Dr.off 9 rfl (by kernel_rfl) rfl rfl rfl rfl trivial (Dr.off 10 rfl (by kernel_rfl) rfl rfl rfl rfl trivial (Dr.off 11 rfl (by kernel_rfl) rfl rfl rfl rfl trivial (Dr.off 12 rfl (by kernel_rfl) rfl rfl rfl rfl trivial (Dr.off 13 rfl (by kernel_rfl) rfl rfl rfl rfl trivial (Dr.off 14 rfl (by kernel_rfl) rfl rfl rfl rfl trivial (Dr.off 15 rfl (by kernel_rfl) rfl rfl rfl rfl trivial (Dr.off 16 rfl (by kernel_rfl) rfl rfl rfl rfl trivial (Dr.off 17 rfl (by kernel_rfl) rfl rfl rfl rfl trivial (Dr.off 18 rfl (by kernel_rfl) rfl rfl rfl rfl trivial (Dr.off 19 rfl (by kernel_rfl) rfl rfl rfl rfl trivial (Dr.off 20 rfl (by kernel_rfl) rfl rfl rfl rfl trivial (Dr.off 21 rfl (by kernel_rfl) rfl rfl rfl rfl trivial (Dr.take 22 rfl (by kernel_rfl) (Val.pickF rfl rfl) rfl trivial (Dr.done (by kernel_rfl) (Rx.seq (Cd.no rfl (Cd.skip (Rx.seq (Cd.seq (Cd.region (Rg.val (Val.move rfl) rfl (Rg.val (Val.move rfl) rfl (Rg.val (Val.move rfl) rfl ?_)))))))))))))))))))))))))))))
                obtain ⟨x25, hx26⟩ : ∃ x, gs[j]? = some x := ⟨_, List.getElem?_eq_getElem (by omega)⟩
                have hk_x25 := hK.leg _ (List.mem_of_getElem? hx26)
                obtain ⟨x27, hx28⟩ : ∃ x, ss[j]? = some x := ⟨_, List.getElem?_eq_getElem (by omega)⟩
                have hb_x27 := fit_bd hK (List.mem_of_getElem? hx26) (hfit _ (List.mem_of_getElem? (zip_at hx26 hx28)))
                refine Rg.val (Val.ide Try.underlying74 sz132 rfl rfl hL.rds (by first | rfl | omega | (simp; done)) hx26 (Nat.le_refl _)) rfl (Rg.val (Val.fae (k := 0) rfl (hL.rds.ne hx26) fa132_0) rfl (Rg.val (Val.loadE (k := 0) rfl sc2 hL.rds hx26 rfl) rfl (Rg.val (Val.addN rfl rfl (by unfold in64; omega)) rfl (Rg.val (Val.assign rfl) rfl (Rg.nil (Rx.seq (Cd.seq (Cd.region (Rg.val (Val.move rfl) rfl (Rg.val (Val.move rfl) rfl (Rg.val (Val.gtr rfl rfl) rfl (Rg.nil (Rx.seq (Cd.cond rfl (fun c29 => ?_) (fun c29 => ?_)))))))))))))))
                · replace c29 := of_decide_eq_true c29
                  refine Cd.seq (Cd.region (Rg.val (Val.move rfl) rfl (Rg.val (Val.assign rfl) rfl (Rg.val (Val.assign rfl) rfl (Rg.nil (Rx.seq (Cd.ret (Rx.inr (Rx.pastR (Rx.pastR (Rx.inr (Rx.pastR (Rx.ret2 rfl rfl rfl fun w hm_ => (⟨by rw [chk_12 h0_ hln_ hb1_ (drv_hit (i0 := 0) hD (zip_at hx26 hx28) (by rw [drvNow_0 (.inl c13)]; exact c29))], hm_.below⟩))))))))))))))
                · replace c29 := of_decide_eq_false c29
                  refine Cd.skip (Rx.inb (Rx.seq (Cd.region (Rg.val (Val.move rfl) rfl (Rg.val (Val.addN rfl rfl (by unfold in64; omega)) rfl (Rg.val (Val.assign rfl) rfl (Rg.nil ?_)))))))
                  refine Rx.meet (j + 1, d + x25.m, x27 + x25.m) ⟨⟨by omega, drv_next hD (zip_at hx26 hx28) (by rw [drvNow_0 (.inl c13)]) c29, by omega, by omega, .inr ⟨_, _, by simpa using hx26, by simpa using hx28, rfl⟩⟩, by show ss.length - (j + 1) < ss.length - j; omega⟩ ⟨rfl, rfl, rfl, rfl, rfl, rfl, trivial⟩ trivial
            · replace c12 := of_decide_eq_false c12
              refine Cd.exit (Rx.pastE (Rx.pastE (Rx.hit (Rx.seq (Cd.seq (Cd.region (Rg.val (Val.assign rfl) rfl (Rg.val (Val.assign rfl) rfl (Rg.nil (Rx.seq (Cd.ret (Rx.ret2 rfl rfl rfl fun w hm_ => (⟨by rw [chk_0 h0_ hln_ hb1_ (drv_end hD (by rw [List.length_zip]; omega))], hm_.below⟩)))))))))))))

end Go.Proofs.Ytdmkedbmoboamaa
