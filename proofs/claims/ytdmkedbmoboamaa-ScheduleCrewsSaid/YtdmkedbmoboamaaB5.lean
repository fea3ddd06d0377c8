/- Walks of functions of the program: what each returns, told by plain functions. -/
import Derived.Test.YtdmkedbmoboamaaB4
namespace Go.Proofs.Ytdmkedbmoboamaa
open Go.Kx Go.RowKit
set_option maxRecDepth 100000
set_option linter.unusedVariables false
set_option linter.unusedSimpArgs false
set_option linter.unnecessarySimpa false
set_option linter.constructorNameAsVariable false
def bestF (gs : List Lg) (most rest start : Int) : Option (List Int) := tryF most rest gs [] start 0 none
def CrewE (gs : List Lg) (most rest start : Int) : Int := if crewF gs most rest start = 0 then (if (gs.length : Int) = 0 then 0 else if (bestF gs most rest start).isSome = true then 0 else 15) else crewF gs most rest start
def CrewY (gs : List Lg) (most rest start : Int) : List Int := if crewF gs most rest start = 0 then (if (gs.length : Int) = 0 then [] else (bestF gs most rest start).getD []) else []
theorem crew_e {gs : List Lg} {most rest start : Int} (h : ¬ crewF gs most rest start = 0) : CrewE gs most rest start = crewF gs most rest start ∧ CrewY gs most rest start = [] := by unfold CrewE CrewY; rw [if_neg h, if_neg h]; exact ⟨rfl, rfl⟩
theorem crew_z {gs : List Lg} {most rest start : Int} (h : crewF gs most rest start = 0) (h1 : (gs.length : Int) = 0) : CrewE gs most rest start = 0 ∧ CrewY gs most rest start = [] := by unfold CrewE CrewY; rw [if_pos h, if_pos h, if_pos h1, if_pos h1]; exact ⟨rfl, rfl⟩
theorem crew_n {gs : List Lg} {most rest start : Int} (h : crewF gs most rest start = 0) (h1 : ¬ (gs.length : Int) = 0) (h2 : bestF gs most rest start = none) : CrewE gs most rest start = 15 ∧ CrewY gs most rest start = [] := by unfold CrewE CrewY; rw [if_pos h, if_pos h, if_neg h1, if_neg h1, h2]; exact ⟨rfl, rfl⟩
theorem crew_s {gs : List Lg} {most rest start : Int} {b : List Int} (h : crewF gs most rest start = 0) (h1 : ¬ (gs.length : Int) = 0) (h2 : bestF gs most rest start = some b) : CrewE gs most rest start = 0 ∧ CrewY gs most rest start = b := by unfold CrewE CrewY; rw [if_pos h, if_pos h, if_neg h1, if_neg h1, h2]; exact ⟨rfl, rfl⟩
theorem Crew_calls.bld_0 (y0 : Option Addr) (y0l y0c : Nat) (y1 : Int) (y2 : Int) (y3 : Int) (w : World) : (Instr.build 134 #[(0, .slice y0 y0l y0c), (1, .int .i64 y1), (2, .int .i64 y2), (3, .int .i64 y3)]).run Try.prog w = .ok (.agg #[.slice y0 y0l y0c, .int .i64 y1, .int .i64 y2, .int .i64 y3]) w := by kernel_rfl
open Crew_calls in
theorem Crew_calls (ga : Option Addr) (gc : Nat) (gs : List Lg) (most rest start : Int) (w : World) (hL : LegAt w ga gs) : Calls Try.prog 47 #[.slice ga gs.length gc, .int .i64 most, .int .i64 rest, .int .i64 start] w (RowPost w 2 1 encI (CrewY gs most rest start) fun a_ c_ => .tuple #[.slice a_ (CrewY gs most rest start).length c_, .int .i64 (CrewE gs most rest start)]) := by
  refine calls_of (vs := [.slice ga gs.length gc, .int .i64 most, .int .i64 rest, .int .i64 start]) Try.func47 rfl rfl rfl ?_
  show Cd _ _ _ _ _ [(0, .slice ga gs.length gc), (1, .int .i64 most), (2, .int .i64 rest), (3, .int .i64 start)] []
  refine Cd.seq (Cd.region (Rg.eff (Eff.box 21 rfl rfl) rfl fun b21 _ => (Rg.eff (Eff.box 25 rfl rfl) rfl fun b25 _ => (Rg.eff (Eff.box 24 rfl rfl) rfl fun b24 _ => (Rg.val (Val.assign rfl) rfl (Rg.val (Val.assign rfl) rfl (Rg.nil (Rx.seq (Cd.seq (Cd.region (Rg.val (Val.load (l := 21) rfl rfl sc74 rfl) rfl (Rg.val (Val.load (l := 25) rfl rfl sc2 rfl) rfl (Rg.val (Val.load (l := 24) rfl rfl sc2 rfl) rfl (Rg.val (Val.move rfl) rfl (Rg.val (Val.build rfl (bld_0 _ _ _ _ _ _)) rfl (Rg.eff (Eff.alloc 11 zv134 rfl) rfl fun b11 _ => (Rg.eff (Eff.storeAll (l := 11) sz134 rfl rfl rfl rfl rfl rfl) rfl fun _ _ => (Rg.nil (Rx.seq (Cd.seq (Cd.seq (Cd.region (Rg.val (Val.loadAll (l := 11) rfl rfl ag134 rfl) rfl (Rg.eff (Eff.give rfl rfl en93 rfl (fun w hm => crew_gives _ _ gs most rest start w (Mem.leg hm hL))) rfl fun _ _ => (Rg.val (Val.assign rfl) rfl (Rg.nil (Rx.seq (Cd.seq (Cd.region (Rg.val (Val.move rfl) rfl (Rg.val (Val.neq rfl rfl) rfl (Rg.nil (Rx.seq (Cd.cond rfl (fun c1 => ?_) (fun c1 => ?_)))))))))))))))))))))))))))))))))))
  · replace c1 := bnot_t c1
    replace c1 := of_decide_eq_false c1
    refine Cd.seq (Cd.region (Rg.val (Val.move rfl) rfl (Rg.val (Val.assign rfl) rfl (Rg.val (Val.assign rfl) rfl (Rg.nil (Rx.seq (Cd.ret (Rx.pastR (Rx.ret2 rfl rfl rfl fun w hm_ => ((by rw [(crew_e c1).1, (crew_e c1).2]; exact RowPost.none hm_.below rfl rfl)))))))))))
  · replace c1 := bnot_f c1
    replace c1 := of_decide_eq_true c1
    have hK := CrewOk.of c1
    have h0_ := c1
    have hks := hK.start
    refine Cd.skip (Rx.seq (Cd.seq (Cd.seq (Cd.region (Rg.val (Val.load (l := 21) rfl rfl sc74 rfl) rfl (Rg.val (Val.len Try.underlying74 rfl) rfl (Rg.val (Val.eql rfl rfl) rfl (Rg.nil (Rx.seq (Cd.cond rfl (fun c2 => ?_) (fun c2 => ?_)))))))))))
    · replace c2 := of_decide_eq_true c2
      refine Cd.seq (Cd.region (Rg.val (Val.assign rfl) rfl (Rg.val (Val.assign rfl) rfl (Rg.nil (Rx.seq (Cd.ret (Rx.pastR (Rx.ret2 rfl rfl rfl fun w hm_ => ((by rw [(crew_z h0_ c2).1, (crew_z h0_ c2).2]; exact RowPost.none hm_.below rfl rfl))))))))))
    · replace c2 := of_decide_eq_false c2
      refine Cd.skip (Rx.seq (Cd.seq (Cd.region (Rg.eff (Eff.alloc 22 zv24 rfl) rfl fun b22 _ => (Rg.nil (Rx.seq (Cd.seq (Cd.region (Rg.eff (Eff.alloc 26 zv137 rfl) rfl fun b26 _ => (Rg.nil (Rx.seq (Cd.seq (Cd.region (Rg.val (Val.fn rfl rfl) rfl (Rg.eff (Eff.store (l := 26) sz137 rfl rfl rfl rfl rfl) rfl fun _ _ => (Rg.nil (Rx.seq (Cd.seq (Cd.region (Rg.val (Val.load (l := 26) rfl rfl sc137 rfl) rfl (Rg.val (Val.move rfl) rfl (Rg.gain (fun w hm => Mem.nilRow 23 2 1 encI hm) (Rg.gain (fun w hm => Mem.nilRow 37 2 1 encI hm) (Rg.eff (Eff.over (Bs := [(21, blk b21 [.slice ga gs.length gc] 74), (22, blk b22 [.slice none 0 0] 24), (23, rowL 2 1 encI none 0 ([] : List Int)), (24, blk b24 [.int .i64 rest] 2), (25, blk b25 [.int .i64 most] 2), (26, blk b26 [.func (.func 96) #[] #[.pointer (some ⟨b21, 0, none⟩), .pointer (some ⟨b22, 0, none⟩), .pointer (some ⟨b24, 0, none⟩), .pointer (some ⟨b25, 0, none⟩), .pointer (some ⟨b26, 0, none⟩)]] 137), (37, rowL 2 1 encI none 0 ([] : List Int))]) (B0 := [(11, blk b11 [.slice ga gs.length gc, .int .i64 most, .int .i64 rest, .int .i64 start] 134)]) rfl rfl en96 rfl ⟨rfl, rfl, rfl, rfl, rfl, rfl, rfl, trivial⟩ ⟨rfl, trivial⟩ rfl (fun _ => rfl) (fun w hm => (tryC_all hL hK (by omega) b21 b22 b24 b25 b26 gs.length) none 0 [] start 0 none 0 [] none _ (by simp) (.inl ⟨rfl, rfl, rfl⟩) (by omega) (by omega) (hm.weak ⟨rfl, rfl, rfl, rfl, rfl, rfl, rfl, trivial⟩))) rfl fun p3 hp3 => (Rg.nil (Rx.seq (Cd.seq (Cd.seq (Cd.region (Rg.val (Val.load (l := 22) rfl rfl sc24 rfl) rfl (Rg.val (Val.eqNil Try.underlying24 rfl rfl) rfl (Rg.nil (Rx.seq (Cd.cond rfl (fun c4 => ?_) (fun c4 => ?_)))))))))))))))))))))))))))))))))))
      · refine Cd.seq (Cd.region (Rg.val (Val.assign rfl) rfl (Rg.val (Val.assign rfl) rfl (Rg.nil (Rx.seq (Cd.ret (Rx.pastR (Rx.ret2 rfl rfl rfl fun w hm_ => ((by have hb_ : bestF gs most rest start = none := best_none hp3 c4; rw [(crew_n h0_ c2 hb_).1, (crew_n h0_ c2 hb_).2]; exact RowPost.none hm_.below rfl rfl))))))))))
      · refine Cd.skip (Rx.seq (Cd.seq (Cd.region (Rg.val (Val.load (l := 22) rfl rfl sc24 rfl) rfl (Rg.val (Val.assign rfl) rfl (Rg.val (Val.assign rfl) rfl (Rg.nil (Rx.seq (Cd.ret (Rx.ret2 rfl rfl rfl fun w hm_ => ((by have hb_ : bestF gs most rest start = some p3.2.2 := (best_some hp3 c4).1; rw [(crew_s h0_ c2 hb_).1, (crew_s h0_ c2 hb_).2]; exact RowPost.row 23 hm_ rfl rfl))))))))))))

end Go.Proofs.Ytdmkedbmoboamaa
