/- Walks of functions of the program: what each returns, told by plain functions. -/
import Derived.Test.YtdmkedbmoboamaaPQ2
namespace Go.Proofs.Ytdmkedbmoboamaa
open Go.Kx Go.RowKit
set_option maxRecDepth 100000
set_option linter.unusedVariables false
set_option linter.unusedSimpArgs false
set_option linter.unnecessarySimpa false
set_option linter.constructorNameAsVariable false
theorem pow_bd {i : Nat} (h : i ≤ 12) : (1 : Int) ≤ 2 ^ i ∧ (2 : Int) ^ i ≤ 4096 := by
  have : i = 0 ∨ i = 1 ∨ i = 2 ∨ i = 3 ∨ i = 4 ∨ i = 5 ∨ i = 6 ∨ i = 7 ∨ i = 8 ∨ i = 9 ∨ i = 10 ∨ i = 11 ∨ i = 12 := by omega
  rcases this with h | h | h | h | h | h | h | h | h | h | h | h | h <;> subst h <;> decide
theorem shl_min {i : Nat} (h : i ≤ 12) : (2 : Int) ^ (Nat.min ((i : Int)).toNat (IntKind.i64.bits)) = 2 ^ i := by
  rw [show Nat.min ((i : Int)).toNat (IntKind.i64.bits) = i from by
    show min ((i : Int)).toNat 64 = i
    omega]
theorem shl_wrap {i : Nat} (h : i ≤ 12) : Value.int .i64 (IntKind.i64.wrap (1 * 2 ^ i)) = .int .i64 (2 ^ i) := by
  have := pow_bd h
  rw [Int.one_mul, IntKind.wrap_i64]
  generalize (2 : Int) ^ i = m at this ⊢
  congr 1; omega
theorem natpow (i : Nat) : ((2 ^ i : Nat) : Int) = (2 : Int) ^ i := by
  induction i with
  | zero => rfl
  | succ i ih => rw [Nat.pow_succ, Int.pow_succ, ← ih]; rfl
theorem quo_at {k i : Nat} (hk : k ≤ 4096) : IntKind.i64.wrap (Int.tdiv (k : Int) (2 ^ i)) = ((k / 2 ^ i : Nat) : Int) := by
  have e : Int.tdiv (k : Int) (2 ^ i) = ((k / 2 ^ i : Nat) : Int) := by rw [← natpow]; rfl
  rw [e, IntKind.wrap_i64]
  have : k / 2 ^ i ≤ k := Nat.div_le_self _ _
  generalize k / 2 ^ i = m at this ⊢
  omega
theorem rem2_at {a : Nat} : Int.tmod (a : Int) 2 = ((a % 2 : Nat) : Int) := rfl
theorem conv_u {i : Nat} (h : i ≤ 12) : IntKind.u64.wrap (i : Int) = (i : Int) := by rw [IntKind.wrap_u64]; omega
def timesB (gs : List Lg) (most rest start : Int) (k : Nat) : Bool := match tK rest k gs 0 start with
  | none => false
  | some c => decide ((chkCrew gs most rest start c).2 = 0)
theorem tK_next {rest : Int} {k : Nat} {gs : List Lg} {i : Nat} {at0 z : Int} {l : Lg} {o : List Int} {a : Option (List Int)} (hG : a = (tK rest k (gs.drop i) i at0).map (fun c => o ++ c)) (hl : gs[i]? = some l) (hz : firstF l.m (frK rest at0 i k) l.ws = some z) : a = (tK rest k (gs.drop (i + 1)) (i + 1) (z + l.m)).map (fun c => (o ++ [z]) ++ c) := by
  rw [hG, dropc hl, tK, hz]
  dsimp only
  cases tK rest k (gs.drop (i + 1)) (i + 1) (z + l.m) <;> simp
theorem tK_none {rest : Int} {k : Nat} {gs : List Lg} {i : Nat} {at0 : Int} {l : Lg} {o : List Int} {a : Option (List Int)} (hG : a = (tK rest k (gs.drop i) i at0).map (fun c => o ++ c)) (hl : gs[i]? = some l) (hz : firstF l.m (frK rest at0 i k) l.ws = none) : a = none := by
  rw [hG, dropc hl, tK, hz]; rfl
theorem tK_end {rest : Int} {k : Nat} {gs : List Lg} {i : Nat} {at0 : Int} {o : List Int} {a : Option (List Int)} (hG : a = (tK rest k (gs.drop i) i at0).map (fun c => o ++ c)) (hi : ¬ (i : Int) < (gs.length : Int)) : a = some o := by
  rw [hG, drop_all hi, tK]; simp
theorem times_calls.bsl_0 (y0 : Int) (w : World) : (Instr.buildSlice 24 1 #[(0, .int .i64 y0)]).run Try.prog w = .ok (.slice (some ⟨w.heap.size, 0, none⟩) 1 1) (w.alloc (.cells #[.int .i64 y0] 2)) := by kernel_rfl
open times_calls in
theorem times_calls (ga : Option Addr) (gc : Nat) (gs : List Lg) (most rest start : Int) (k : Nat) (w : World) (hL : LegAt w ga gs) (h0_ : crewF gs most rest start = 0) (hkb : k ≤ 4096) : Calls Try.prog 100 #[.slice ga gs.length gc, .int .i64 most, .int .i64 rest, .int .i64 start, .int .i64 (k : Int)] w (RowPost w 2 1 encI ((tK rest k gs 0 start).getD []) fun a_ c_ => .tuple #[.slice a_ ((tK rest k gs 0 start).getD []).length c_, .bool (timesB gs most rest start k)]) := by
  have hK := CrewOk.of h0_
  have hkn := hK.n
  have hkm := hK.most
  have hkr := hK.rest
  have hks := hK.start
  refine calls_of (vs := [.slice ga gs.length gc, .int .i64 most, .int .i64 rest, .int .i64 start, .int .i64 (k : Int)]) Try.func100 rfl rfl rfl ?_
  show Cd _ _ _ _ _ [(0, .slice ga gs.length gc), (1, .int .i64 most), (2, .int .i64 rest), (3, .int .i64 start), (4, .int .i64 (k : Int))] []
  refine Cd.seq (Cd.region (Rg.val (Val.assign rfl) rfl (Rg.val (Val.assign rfl) rfl (Rg.nil (Rx.seq (Cd.seq (Cd.region (Rg.val (Val.assign rfl) rfl (Rg.nil (Rx.seq (Cd.seq (Cd.region (Rg.val (Val.move rfl) rfl (Rg.val (Val.assign rfl) rfl (Rg.nil (Rx.seq (Cd.seq (Cd.seq (Cd.region (Rg.val (Val.assign rfl) rfl (Rg.nil (Rx.seq (Cd.block (Cd.gain (fun w hm => Mem.nilRow 500 2 1 encI hm) ?_))))))))))))))))))))))))
  refine Cd.loop (A := Nat × Int × Option Addr × Nat × List Int) (fun pr_ : Nat × Int × Option Addr × Nat × List Int => match pr_ with | (i, at1, ar, cr, o) => i ≤ gs.length ∧ (tK rest k gs 0 start) = (tK rest k (gs.drop i) i at1).map (fun c => o ++ c) ∧ o.length = i ∧ (0 ≤ at1 ∧ at1 ≤ 2199023255552))
      (fun pr_ : Nat × Int × Option Addr × Nat × List Int => match pr_ with | (i, at1, ar, cr, o) => [(0, .slice ga gs.length gc), (1, .int .i64 most), (2, .int .i64 rest), (3, .int .i64 start), (4, .int .i64 (k : Int)), (12, .slice ar o.length cr), (13, .int .i64 at1), (14, .int .i64 (i : Int))])
      (fun pr_ : Nat × Int × Option Addr × Nat × List Int => match pr_ with | (i, at1, ar, cr, o) => [(500, rowL 2 1 encI ar cr o)])
      (fun pr_ : Nat × Int × Option Addr × Nat × List Int => match pr_ with | (i, at1, ar, cr, o) => gs.length - i) (0, start, none, 0, []) ?_ ⟨rfl, rfl, rfl, rfl, rfl, rfl, rfl, rfl, trivial⟩ ⟨rfl, trivial⟩ ?_
  · exact ⟨Nat.zero_le _, by simp, rfl, by omega⟩
  · rintro ⟨i, at1, ar, cr, o⟩ ⟨hi, hG, hol, hab⟩
    show Cd _ _ _ _ _ [(0, .slice ga gs.length gc), (1, .int .i64 most), (2, .int .i64 rest), (3, .int .i64 start), (4, .int .i64 (k : Int)), (12, .slice ar o.length cr), (13, .int .i64 at1), (14, .int .i64 (i : Int))] [(500, rowL 2 1 encI ar cr o)]
    refine Cd.seq (Cd.seq (Cd.region (Rg.val (Val.move rfl) rfl (Rg.val (Val.move rfl) rfl (Rg.val (Val.len Try.underlying74 rfl) rfl (Rg.val (Val.lss rfl rfl) rfl (Rg.nil (Rx.seq (Cd.cond rfl (fun c1 => ?_) (fun c1 => ?_))))))))))
    · replace c1 := of_decide_eq_true c1
      refine Cd.skip (Rx.seq (Cd.seq (Cd.block (Cd.seq (Cd.region (Rg.val (Val.move rfl) rfl (Rg.val (Val.assign rfl) rfl (Rg.nil (Rx.seq (Cd.seq (Cd.seq (Cd.region (Rg.val (Val.move rfl) rfl (Rg.val (Val.gtr rfl rfl) rfl (Rg.val (Val.move rfl) rfl (Rg.split 29 rfl (fun c2 => ?_) (fun c2 => ?_)))))))))))))))))
      · replace c2 := of_decide_eq_true c2
        refine Rg.on rfl rfl rfl (Rg.val (Val.move rfl) rfl (Rg.on rfl rfl rfl (Rg.val (Val.move rfl) rfl (Rg.on rfl rfl rfl (Rg.val (Val.as (Val.conv Try.underlying3 Try.underlying140 rfl) (congrArg (Value.int .u64) (conv_u (by omega)))) rfl (Rg.on rfl rfl rfl (Rg.val (Val.as (Val.shl (m := (2 : Int) ^ i) rfl rfl (by omega) (shl_min (by omega))) (shl_wrap (by omega))) rfl (Rg.on rfl rfl rfl (Rg.val (Val.as (Val.quo rfl rfl (by have := pow_bd (i := i) (by omega); omega)) (congrArg (Value.int .i64) (quo_at hkb))) rfl (Rg.on rfl rfl rfl (Rg.val (Val.as (Val.rem rfl rfl (by decide)) (congrArg (Value.int .i64) rem2_at)) rfl (Rg.on rfl rfl rfl (Rg.val (Val.eql rfl rfl) rfl (Rg.val (Val.pickT rfl rfl) rfl (Rg.nil (Rx.seq (Cd.cond rfl (fun c3 => ?_) (fun c3 => ?_))))))))))))))))))
        · replace c3 := of_decide_eq_true c3
          refine Cd.region (Rg.val (Val.move rfl) rfl (Rg.val (Val.move rfl) rfl (Rg.val (Val.addN rfl rfl (by unfold in64; omega)) rfl (Rg.val (Val.assign rfl) rfl (Rg.nil (Rx.seq (Cd.seq (Cd.draw [(500, rowL 2 1 encI ar cr o)] mixed rfl (Dr.take 0 rfl (by kernel_rfl) (Val.move rfl) rfl ⟨rfl, trivial⟩ (Dr.take 1 rfl (by kernel_rfl) (Val.move rfl) rfl ⟨rfl, trivial⟩ ?_))))))))))
          obtain ⟨x4, hx5⟩ : ∃ x, gs[i]? = some x := ⟨_, List.getElem?_eq_getElem (by omega)⟩
          have hk_x4 := hK.leg _ (List.mem_of_getElem? hx5)
          refine Dr.take 2 rfl (by kernel_rfl) (Val.ide Try.underlying74 sz132 rfl rfl hL.rds (by first | rfl | omega | (simp; done)) hx5 (Nat.le_refl _)) rfl ⟨rfl, trivial⟩ (Dr.take 3 rfl (by kernel_rfl) (Val.fae (k := 1) rfl (hL.rds.ne hx5) fa132_1) rfl ⟨rfl, trivial⟩ (Dr.take 4 rfl (by kernel_rfl) (Val.loadE (k := 1) rfl sc28 hL.rds hx5 rfl) rfl ⟨rfl, trivial⟩ (Dr.take 5 rfl (by kernel_rfl) (Val.move rfl) rfl ⟨rfl, trivial⟩ (Dr.take 6 rfl (by kernel_rfl) (Val.move rfl) rfl ⟨rfl, trivial⟩ (Dr.take 7 rfl (by kernel_rfl) (Val.ide Try.underlying74 sz132 rfl rfl hL.rds (by first | rfl | omega | (simp; done)) hx5 (Nat.le_refl _)) rfl ⟨rfl, trivial⟩ (Dr.take 8 rfl (by kernel_rfl) (Val.fae (k := 0) rfl (hL.rds.ne hx5) fa132_0) rfl ⟨rfl, trivial⟩ (Dr.take 9 rfl (by kernel_rfl) (Val.loadE (k := 0) rfl sc2 hL.rds hx5 rfl) rfl ⟨rfl, trivial⟩ (Dr.take 10 rfl (by kernel_rfl) (Val.move rfl) rfl ⟨rfl, trivial⟩ (Dr.one 11 (by kernel_rfl) rfl (Eff.give rfl rfl en70 rfl (fun w hm => rfirst_gives _ _ _ _ _ w (hm.rdb (hL.win _ (List.mem_of_getElem? hx5))) (by have := hk_x4.2.2; omega) (fun w_ hw_ => winF_mem hk_x4.2.1 w_ hw_) (by omega) (by unfold in64; omega))) rfl (fun _ _ => ⟨rfl, trivial⟩) fun _ _ => (Dr.take 12 rfl (by kernel_rfl) (Val.assign rfl) rfl ⟨rfl, trivial⟩ (Dr.done (by kernel_rfl) (Rx.seq (Cd.seq (Cd.seq (Cd.region (Rg.val (Val.move rfl) rfl (Rg.val (Val.lss rfl rfl) rfl (Rg.nil (Rx.seq (Cd.cond rfl (fun c6 => ?_) (fun c6 => ?_)))))))))))))))))))))
          · replace c6 := of_decide_eq_true c6
            have hnone_ := (first_neg2 (by omega) hk_x4.2.1).1 c6
            refine Cd.seq (Cd.region (Rg.val (Val.assign rfl) rfl (Rg.val (Val.assign rfl) rfl (Rg.nil (Rx.seq (Cd.ret (Rx.pastR (Rx.inr (Rx.pastR (Rx.pastR (Rx.inr (Rx.pastR (Rx.ret2 rfl rfl rfl fun w hm_ => ((by have e_ : (tK rest k gs 0 start) = none := tK_none hG hx5 (by rw [show frK rest at1 i k = (at1 + rest) from (by unfold frK; rw [if_pos c2, if_pos c3])]; exact hnone_); unfold timesB; rw [e_]; exact RowPost.none hm_.below rfl rfl)))))))))))))))
          · replace c6 := of_decide_eq_false c6
            obtain ⟨z_, hz_, hzg_⟩ := (first_neg2 (by omega) hk_x4.2.1).2 c6
            have hzb_ := firstF_bd (by omega) hk_x4.2.1 hz_
            refine Cd.skip (Rx.seq (Cd.seq (Cd.region (Rg.val (Val.move rfl) rfl (Rg.val (Val.move rfl) rfl (Rg.eff (Eff.buildSlice (cs := [.int .i64 ((firstF x4.m (at1 + rest) x4.ws).getD (-1))]) 1 rfl (fun w => (bsl_0 _) w) rfl) rfl fun b1 _ => (Rg.eff (Eff.append (enc := encI) (ys := [(firstF x4.m (at1 + rest) x4.ws).getD (-1)]) (bytes := 8) 500 Try.underlying24 (by kernel_rfl) rfl rfl rfl rfl (fun w hm => hm.news (l := 1) rfl rfl) (fun _ => rfl) ones_I (by simp only [List.length_cons, List.length_nil, maxLen]; omega) rfl) rfl fun p7 _ => (Rg.val (Val.assign rfl) rfl (Rg.nil (Rx.seq (Cd.region (Rg.val (Val.move rfl) rfl (Rg.val (Val.move rfl) rfl (Rg.val (Val.move rfl) rfl (Rg.val (Val.ide Try.underlying74 sz132 rfl rfl hL.rds (by first | rfl | omega | (simp; done)) hx5 (Nat.le_refl _)) rfl (Rg.val (Val.fae (k := 0) rfl (hL.rds.ne hx5) fa132_0) rfl (Rg.val (Val.loadE (k := 0) rfl sc2 hL.rds hx5 rfl) rfl (Rg.val (Val.addN rfl rfl (by unfold in64; omega)) rfl (Rg.val (Val.assign rfl) rfl (Rg.nil (Rx.inb (Rx.seq (Cd.region (Rg.val (Val.move rfl) rfl (Rg.val (Val.addN rfl rfl (by unfold in64; omega)) rfl (Rg.val (Val.assign rfl) rfl (Rg.nil ?_)))))))))))))))))))))))))))
            refine Rx.meet (i + 1, ((firstF x4.m (at1 + rest) x4.ws).getD (-1)) + x4.m, p7.1, p7.2, (o ++ [(firstF x4.m (at1 + rest) x4.ws).getD (-1)])) ⟨⟨by omega, by rw [hzg_]; exact tK_next hG hx5 (by rw [show frK rest at1 i k = (at1 + rest) from (by unfold frK; rw [if_pos c2, if_pos c3])]; exact hz_), by simp [hol], by omega⟩, by show gs.length - (i + 1) < gs.length - i; omega⟩ ⟨rfl, rfl, rfl, rfl, rfl, rfl, rfl, rfl, trivial⟩ ⟨rfl, trivial⟩
        · replace c3 := of_decide_eq_false c3
          refine Cd.skip (Rx.seq (Cd.seq (Cd.draw [(500, rowL 2 1 encI ar cr o)] mixed rfl (Dr.take 0 rfl (by kernel_rfl) (Val.move rfl) rfl ⟨rfl, trivial⟩ (Dr.take 1 rfl (by kernel_rfl) (Val.move rfl) rfl ⟨rfl, trivial⟩ ?_)))))
          obtain ⟨x8, hx9⟩ : ∃ x, gs[i]? = some x := ⟨_, List.getElem?_eq_getElem (by omega)⟩
          have hk_x8 := hK.leg _ (List.mem_of_getElem? hx9)
          refine Dr.take 2 rfl (by kernel_rfl) (Val.ide Try.underlying74 sz132 rfl rfl hL.rds (by first | rfl | omega | (simp; done)) hx9 (Nat.le_refl _)) rfl ⟨rfl, trivial⟩ (Dr.take 3 rfl (by kernel_rfl) (Val.fae (k := 1) rfl (hL.rds.ne hx9) fa132_1) rfl ⟨rfl, trivial⟩ (Dr.take 4 rfl (by kernel_rfl) (Val.loadE (k := 1) rfl sc28 hL.rds hx9 rfl) rfl ⟨rfl, trivial⟩ (Dr.take 5 rfl (by kernel_rfl) (Val.move rfl) rfl ⟨rfl, trivial⟩ (Dr.take 6 rfl (by kernel_rfl) (Val.move rfl) rfl ⟨rfl, trivial⟩ (Dr.take 7 rfl (by kernel_rfl) (Val.ide Try.underlying74 sz132 rfl rfl hL.rds (by first | rfl | omega | (simp; done)) hx9 (Nat.le_refl _)) rfl ⟨rfl, trivial⟩ (Dr.take 8 rfl (by kernel_rfl) (Val.fae (k := 0) rfl (hL.rds.ne hx9) fa132_0) rfl ⟨rfl, trivial⟩ (Dr.take 9 rfl (by kernel_rfl) (Val.loadE (k := 0) rfl sc2 hL.rds hx9 rfl) rfl ⟨rfl, trivial⟩ (Dr.take 10 rfl (by kernel_rfl) (Val.move rfl) rfl ⟨rfl, trivial⟩ (Dr.one 11 (by kernel_rfl) rfl (Eff.give rfl rfl en70 rfl (fun w hm => rfirst_gives _ _ _ _ _ w (hm.rdb (hL.win _ (List.mem_of_getElem? hx9))) (by have := hk_x8.2.2; omega) (fun w_ hw_ => winF_mem hk_x8.2.1 w_ hw_) (by omega) (by unfold in64; omega))) rfl (fun _ _ => ⟨rfl, trivial⟩) fun _ _ => (Dr.take 12 rfl (by kernel_rfl) (Val.assign rfl) rfl ⟨rfl, trivial⟩ (Dr.done (by kernel_rfl) (Rx.seq (Cd.seq (Cd.seq (Cd.region (Rg.val (Val.move rfl) rfl (Rg.val (Val.lss rfl rfl) rfl (Rg.nil (Rx.seq (Cd.cond rfl (fun c10 => ?_) (fun c10 => ?_)))))))))))))))))))))
          · replace c10 := of_decide_eq_true c10
            have hnone_ := (first_neg2 (by omega) hk_x8.2.1).1 c10
            refine Cd.seq (Cd.region (Rg.val (Val.assign rfl) rfl (Rg.val (Val.assign rfl) rfl (Rg.nil (Rx.seq (Cd.ret (Rx.pastR (Rx.inr (Rx.pastR (Rx.pastR (Rx.inr (Rx.pastR (Rx.ret2 rfl rfl rfl fun w hm_ => ((by have e_ : (tK rest k gs 0 start) = none := tK_none hG hx9 (by rw [show frK rest at1 i k = at1 from (by unfold frK; rw [if_pos c2, if_neg c3])]; exact hnone_); unfold timesB; rw [e_]; exact RowPost.none hm_.below rfl rfl)))))))))))))))
          · replace c10 := of_decide_eq_false c10
            obtain ⟨z_, hz_, hzg_⟩ := (first_neg2 (by omega) hk_x8.2.1).2 c10
            have hzb_ := firstF_bd (by omega) hk_x8.2.1 hz_
            refine Cd.skip (Rx.seq (Cd.seq (Cd.region (Rg.val (Val.move rfl) rfl (Rg.val (Val.move rfl) rfl (Rg.eff (Eff.buildSlice (cs := [.int .i64 ((firstF x8.m at1 x8.ws).getD (-1))]) 2 rfl (fun w => (bsl_0 _) w) rfl) rfl fun b2 _ => (Rg.eff (Eff.append (enc := encI) (ys := [(firstF x8.m at1 x8.ws).getD (-1)]) (bytes := 8) 500 Try.underlying24 (by kernel_rfl) rfl rfl rfl rfl (fun w hm => hm.news (l := 2) rfl rfl) (fun _ => rfl) ones_I (by simp only [List.length_cons, List.length_nil, maxLen]; omega) rfl) rfl fun p11 _ => (Rg.val (Val.assign rfl) rfl (Rg.nil (Rx.seq (Cd.region (Rg.val (Val.move rfl) rfl (Rg.val (Val.move rfl) rfl (Rg.val (Val.move rfl) rfl (Rg.val (Val.ide Try.underlying74 sz132 rfl rfl hL.rds (by first | rfl | omega | (simp; done)) hx9 (Nat.le_refl _)) rfl (Rg.val (Val.fae (k := 0) rfl (hL.rds.ne hx9) fa132_0) rfl (Rg.val (Val.loadE (k := 0) rfl sc2 hL.rds hx9 rfl) rfl (Rg.val (Val.addN rfl rfl (by unfold in64; omega)) rfl (Rg.val (Val.assign rfl) rfl (Rg.nil (Rx.inb (Rx.seq (Cd.region (Rg.val (Val.move rfl) rfl (Rg.val (Val.addN rfl rfl (by unfold in64; omega)) rfl (Rg.val (Val.assign rfl) rfl (Rg.nil ?_)))))))))))))))))))))))))))
            refine Rx.meet (i + 1, ((firstF x8.m at1 x8.ws).getD (-1)) + x8.m, p11.1, p11.2, (o ++ [(firstF x8.m at1 x8.ws).getD (-1)])) ⟨⟨by omega, by rw [hzg_]; exact tK_next hG hx9 (by rw [show frK rest at1 i k = at1 from (by unfold frK; rw [if_pos c2, if_neg c3])]; exact hz_), by simp [hol], by omega⟩, by show gs.length - (i + 1) < gs.length - i; omega⟩ ⟨rfl, rfl, rfl, rfl, rfl, rfl, rfl, rfl, trivial⟩ ⟨rfl, trivial⟩
      · replace c2 := of_decide_eq_false c2
        refine Rg.off rfl rfl rfl rfl (Rg.off rfl rfl rfl rfl (Rg.off rfl rfl rfl rfl (Rg.off rfl rfl rfl rfl (Rg.off rfl rfl rfl rfl (Rg.off rfl rfl rfl rfl (Rg.off rfl rfl rfl rfl (Rg.val (Val.pickF rfl rfl) rfl (Rg.nil (Rx.seq (Cd.no rfl (Cd.skip (Rx.seq (Cd.seq (Cd.draw [(500, rowL 2 1 encI ar cr o)] mixed rfl (Dr.take 0 rfl (by kernel_rfl) (Val.move rfl) rfl ⟨rfl, trivial⟩ (Dr.take 1 rfl (by kernel_rfl) (Val.move rfl) rfl ⟨rfl, trivial⟩ ?_))))))))))))))))
        obtain ⟨x12, hx13⟩ : ∃ x, gs[i]? = some x := ⟨_, List.getElem?_eq_getElem (by omega)⟩
        have hk_x12 := hK.leg _ (List.mem_of_getElem? hx13)
        refine Dr.take 2 rfl (by kernel_rfl) (Val.ide Try.underlying74 sz132 rfl rfl hL.rds (by first | rfl | omega | (simp; done)) hx13 (Nat.le_refl _)) rfl ⟨rfl, trivial⟩ (Dr.take 3 rfl (by kernel_rfl) (Val.fae (k := 1) rfl (hL.rds.ne hx13) fa132_1) rfl ⟨rfl, trivial⟩ (Dr.take 4 rfl (by kernel_rfl) (Val.loadE (k := 1) rfl sc28 hL.rds hx13 rfl) rfl ⟨rfl, trivial⟩ (Dr.take 5 rfl (by kernel_rfl) (Val.move rfl) rfl ⟨rfl, trivial⟩ (Dr.take 6 rfl (by kernel_rfl) (Val.move rfl) rfl ⟨rfl, trivial⟩ (Dr.take 7 rfl (by kernel_rfl) (Val.ide Try.underlying74 sz132 rfl rfl hL.rds (by first | rfl | omega | (simp; done)) hx13 (Nat.le_refl _)) rfl ⟨rfl, trivial⟩ (Dr.take 8 rfl (by kernel_rfl) (Val.fae (k := 0) rfl (hL.rds.ne hx13) fa132_0) rfl ⟨rfl, trivial⟩ (Dr.take 9 rfl (by kernel_rfl) (Val.loadE (k := 0) rfl sc2 hL.rds hx13 rfl) rfl ⟨rfl, trivial⟩ (Dr.take 10 rfl (by kernel_rfl) (Val.move rfl) rfl ⟨rfl, trivial⟩ (Dr.one 11 (by kernel_rfl) rfl (Eff.give rfl rfl en70 rfl (fun w hm => rfirst_gives _ _ _ _ _ w (hm.rdb (hL.win _ (List.mem_of_getElem? hx13))) (by have := hk_x12.2.2; omega) (fun w_ hw_ => winF_mem hk_x12.2.1 w_ hw_) (by omega) (by unfold in64; omega))) rfl (fun _ _ => ⟨rfl, trivial⟩) fun _ _ => (Dr.take 12 rfl (by kernel_rfl) (Val.assign rfl) rfl ⟨rfl, trivial⟩ (Dr.done (by kernel_rfl) (Rx.seq (Cd.seq (Cd.seq (Cd.region (Rg.val (Val.move rfl) rfl (Rg.val (Val.lss rfl rfl) rfl (Rg.nil (Rx.seq (Cd.cond rfl (fun c14 => ?_) (fun c14 => ?_)))))))))))))))))))))
        · replace c14 := of_decide_eq_true c14
          have hnone_ := (first_neg2 (by omega) hk_x12.2.1).1 c14
          refine Cd.seq (Cd.region (Rg.val (Val.assign rfl) rfl (Rg.val (Val.assign rfl) rfl (Rg.nil (Rx.seq (Cd.ret (Rx.pastR (Rx.inr (Rx.pastR (Rx.pastR (Rx.inr (Rx.pastR (Rx.ret2 rfl rfl rfl fun w hm_ => ((by have e_ : (tK rest k gs 0 start) = none := tK_none hG hx13 (by rw [show frK rest at1 i k = at1 from (by unfold frK; rw [if_neg c2])]; exact hnone_); unfold timesB; rw [e_]; exact RowPost.none hm_.below rfl rfl)))))))))))))))
        · replace c14 := of_decide_eq_false c14
          obtain ⟨z_, hz_, hzg_⟩ := (first_neg2 (by omega) hk_x12.2.1).2 c14
          have hzb_ := firstF_bd (by omega) hk_x12.2.1 hz_
          refine Cd.skip (Rx.seq (Cd.seq (Cd.region (Rg.val (Val.move rfl) rfl (Rg.val (Val.move rfl) rfl (Rg.eff (Eff.buildSlice (cs := [.int .i64 ((firstF x12.m at1 x12.ws).getD (-1))]) 3 rfl (fun w => (bsl_0 _) w) rfl) rfl fun b3 _ => (Rg.eff (Eff.append (enc := encI) (ys := [(firstF x12.m at1 x12.ws).getD (-1)]) (bytes := 8) 500 Try.underlying24 (by kernel_rfl) rfl rfl rfl rfl (fun w hm => hm.news (l := 3) rfl rfl) (fun _ => rfl) ones_I (by simp only [List.length_cons, List.length_nil, maxLen]; omega) rfl) rfl fun p15 _ => (Rg.val (Val.assign rfl) rfl (Rg.nil (Rx.seq (Cd.region (Rg.val (Val.move rfl) rfl (Rg.val (Val.move rfl) rfl (Rg.val (Val.move rfl) rfl (Rg.val (Val.ide Try.underlying74 sz132 rfl rfl hL.rds (by first | rfl | omega | (simp; done)) hx13 (Nat.le_refl _)) rfl (Rg.val (Val.fae (k := 0) rfl (hL.rds.ne hx13) fa132_0) rfl (Rg.val (Val.loadE (k := 0) rfl sc2 hL.rds hx13 rfl) rfl (Rg.val (Val.addN rfl rfl (by unfold in64; omega)) rfl (Rg.val (Val.assign rfl) rfl (Rg.nil (Rx.inb (Rx.seq (Cd.region (Rg.val (Val.move rfl) rfl (Rg.val (Val.addN rfl rfl (by unfold in64; omega)) rfl (Rg.val (Val.assign rfl) rfl (Rg.nil ?_)))))))))))))))))))))))))))
          refine Rx.meet (i + 1, ((firstF x12.m at1 x12.ws).getD (-1)) + x12.m, p15.1, p15.2, (o ++ [(firstF x12.m at1 x12.ws).getD (-1)])) ⟨⟨by omega, by rw [hzg_]; exact tK_next hG hx13 (by rw [show frK rest at1 i k = at1 from (by unfold frK; rw [if_neg c2])]; exact hz_), by simp [hol], by omega⟩, by show gs.length - (i + 1) < gs.length - i; omega⟩ ⟨rfl, rfl, rfl, rfl, rfl, rfl, rfl, rfl, trivial⟩ ⟨rfl, trivial⟩
    · replace c1 := of_decide_eq_false c1
      refine Cd.exit (Rx.pastE (Rx.pastE (Rx.hit (Rx.seq (Cd.seq (Cd.region (Rg.val (Val.move rfl) rfl (Rg.val (Val.move rfl) rfl (Rg.val (Val.move rfl) rfl (Rg.val (Val.move rfl) rfl (Rg.val (Val.move rfl) rfl (Rg.eff (Eff.give rfl rfl en46 rfl (fun w hm => rCheckCrew_gives _ _ gs most rest start _ _ o w (Mem.leg hm hL) (Rdb.of_row (l := 500) hm rfl (fun _ => rfl)) (by omega))) rfl fun _ _ => (Rg.val (Val.move rfl) rfl (Rg.val (Val.extract rfl rfl) rfl (Rg.val (Val.extract rfl rfl) rfl (Rg.val (Val.assign rfl) rfl (Rg.val (Val.assign rfl) rfl (Rg.nil (Rx.seq (Cd.seq (Cd.region (Rg.val (Val.move rfl) rfl (Rg.val (Val.move rfl) rfl (Rg.val (Val.eql rfl rfl) rfl (Rg.val (Val.assign rfl) rfl (Rg.val (Val.assign rfl) rfl (Rg.nil (Rx.seq (Cd.ret (Rx.ret2 rfl rfl rfl fun w hm_ => ((by have e_ : (tK rest k gs 0 start) = some o := tK_end hG (by omega); unfold timesB; rw [e_]; exact RowPost.row 500 hm_ rfl rfl))))))))))))))))))))))))))))))))

end Go.Proofs.Ytdmkedbmoboamaa
