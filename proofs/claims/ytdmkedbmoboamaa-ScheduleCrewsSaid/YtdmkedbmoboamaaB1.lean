/- Walks of functions of the program: what each returns, told by plain functions. -/
import Derived.Test.YtdmkedbmoboamaaA12
import Derived.Test.YtdmkedbmoboamaaPR
namespace Go.Proofs.Ytdmkedbmoboamaa
open Go.Kx Go.RowKit
set_option maxRecDepth 100000
set_option linter.unusedVariables false
set_option linter.unusedSimpArgs false
set_option linter.unnecessarySimpa false
set_option linter.constructorNameAsVariable false
structure Lg where
  m : Int
  aw : Option Addr
  cw : Nat
  ws : List Wn
def encLg (l : Lg) : List Value := [.int .i64 l.m, .slice l.aw l.ws.length l.cw]
structure LegAt (W : World) (ga : Option Addr) (gs : List Lg) : Prop where
  rds : Rdb W ga 2 encLg gs
  win : ∀ l ∈ gs, Rdb W l.aw 2 encWn l.ws
  lg : gs.length ≤ 9223372036854775807
  lw : ∀ l ∈ gs, l.ws.length ≤ 9223372036854775807
theorem Mem.leg {W w : World} {B : List (Nat × Res)} {ga : Option Addr} {gs : List Lg} (hm : Mem W B w) (h : LegAt W ga gs) : LegAt w ga gs := ⟨hm.rdb h.rds, fun l hl => hm.rdb (h.win l hl), h.lg, h.lw⟩
def manyL (l : Lg) : Bool := decide ((32 : Int) < (l.ws.length : Int))
def legBad (most : Int) (l : Lg) : Bool := if between l.m 1 most = false then true else !winF 0 l.ws
def crewF (gs : List Lg) (most rest start : Int) : Int := if (12 : Int) < (gs.length : Int) then 6 else if gs.any manyL = true then 6 else if between most 1 10080 = false then 2 else if between rest 1 10080 = false then 2 else if gs.any (legBad most) = true then 2 else if between start 0 1099511627776 = false then 3 else 0
/-- The first leg that begins too soon, or does not fit. -/
def badAt (at0 : Int) (i : Int) : List (Lg × Int) → Int
  | [] => -1
  | p :: r => if p.2 < at0 then i else if fitsF p.1.m p.2 p.1.ws = false then i else badAt (p.2 + p.1.m) (i + 1) r
/-- The driving time before a leg. -/
def drvNow (rest drive : Int) (prev : Option Int) (x : Int) : Int := match prev with
  | none => drive
  | some e => if rest ≤ x - e then 0 else drive
/-- The first leg that is driven too long without a rest. -/
def drvAt (most rest : Int) (drive : Int) (prev : Option Int) (i : Int) : List (Lg × Int) → Int
  | [] => -1
  | p :: r => if most < drvNow rest drive prev p.2 + p.1.m then i else drvAt most rest (drvNow rest drive prev p.2 + p.1.m) (some (p.2 + p.1.m)) (i + 1) r
def chkCrew (gs : List Lg) (most rest start : Int) (ts : List Int) : Int × Int := if crewF gs most rest start = 0 then (if (ts.length : Int) = (gs.length : Int) then (if 0 ≤ badAt start 0 (gs.zip ts) then (badAt start 0 (gs.zip ts), 21) else if 0 ≤ drvAt most rest 0 none 0 (gs.zip ts) then (drvAt most rest 0 none 0 (gs.zip ts), 12) else (0, 0)) else (0, 17)) else (0, crewF gs most rest start)
structure CrewOk (gs : List Lg) (most rest start : Int) : Prop where
  n : gs.length ≤ 12
  leg : ∀ l ∈ gs, (1 ≤ l.m ∧ l.m ≤ most) ∧ winF 0 l.ws = true ∧ l.ws.length ≤ 32
  most : 1 ≤ most ∧ most ≤ 10080
  rest : 1 ≤ rest ∧ rest ≤ 10080
  start : 0 ≤ start ∧ start ≤ 1099511627776
theorem btn_t {x lo hi : Int} (h : ¬ between x lo hi = false) : lo ≤ x ∧ x ≤ hi := between_iff.1 (by simpa using h)
theorem CrewOk.of {gs : List Lg} {most rest start : Int} (h : crewF gs most rest start = 0) : CrewOk gs most rest start := by
  unfold crewF at h
  split at h
  · cases h
  · split at h
    · cases h
    · rename_i h2
      split at h
      · cases h
      · rename_i h3
        split at h
        · cases h
        · rename_i h4
          split at h
          · cases h
          · rename_i h5
            split at h
            · cases h
            · rename_i h6
              refine ⟨by omega, fun l hl => ?_, btn_t h3, btn_t h4, btn_t h6⟩
              have g1 := any_no h2 l hl
              have g2 := any_no h5 l hl
              simp only [manyL, decide_eq_false_iff_not] at g1
              unfold legBad at g2
              split at g2
              · cases g2
              · rename_i h7
                exact ⟨btn_t h7, by simpa using g2, by omega⟩
theorem legIndex_gives (a : Option Addr) (cap : Nat) (xs : List Lg) (f : FuncId) (fs us : List Value) (p : Lg → Bool) (w : World) (hR : Rdb w a 2 encLg xs) (hen : Enters Try.prog f) (hlen : xs.length ≤ 9223372036854775807) (hf : ∀ {i : Nat} (x : Lg) (w' : World), Below w.heap.size w w' → xs[i]? = some x → Gives Try.prog f (fs ++ [Value.agg (encLg x).toArray] ++ us).toArray w' (.bool (p x))) : Gives Try.prog 137 #[.slice a xs.length cap, .func (.func f) fs.toArray us.toArray] w (.int .i64 (idxF p xs)) := by
  refine calls_of (vs := [.slice a xs.length cap, .func (.func f) fs.toArray us.toArray]) Try.func137 rfl rfl rfl ?_
  show Cd _ _ _ _ _ [(0, .slice a xs.length cap), (1, .func (.func f) fs.toArray us.toArray)] []
  refine Cd.seq (Cd.region (Rg.val (Val.assign rfl) rfl (Rg.nil (Rx.seq (Cd.seq (Cd.seq (Cd.region (Rg.val (Val.move rfl) rfl (Rg.val (Val.len Try.underlying74 rfl) rfl (Rg.val (Val.move rfl) rfl (Rg.nil (Rx.seq (Cd.block ?_)))))))))))))
  refine Cd.loop (A := Nat) (fun i : Nat => i ≤ xs.length ∧ (xs.take i).all (fun z => !p z) = true)
      (fun i : Nat => [(0, .slice a xs.length cap), (1, .func (.func f) fs.toArray us.toArray), (7, .int .i64 (xs.length : Int)), (8, .int .i64 (i : Int))])
      (fun i : Nat => [])
      (fun i : Nat => xs.length - i) 0 ?_ ⟨rfl, rfl, rfl, rfl, trivial⟩ trivial ?_
  · exact ⟨by omega, rfl⟩
  · rintro i ⟨hi, hall⟩
    show Cd _ _ _ _ _ [(0, .slice a xs.length cap), (1, .func (.func f) fs.toArray us.toArray), (7, .int .i64 (xs.length : Int)), (8, .int .i64 (i : Int))] []
    refine Cd.seq (Cd.region (Rg.val (Val.lss rfl rfl) rfl (Rg.nil (Rx.seq (Cd.seq (Cd.cond rfl (fun c1 => ?_) (fun c1 => ?_)))))))
    · replace c1 := of_decide_eq_true c1
      refine Cd.skip (Rx.seq (Cd.seq (Cd.block (Cd.seq (Cd.region (Rg.val (Val.move rfl) rfl (Rg.val (Val.assign rfl) rfl (Rg.nil (Rx.seq (Cd.seq (Cd.region (Rg.val (Val.move rfl) rfl (Rg.val (Val.move rfl) rfl (Rg.val (Val.move rfl) rfl ?_))))))))))))))
      obtain ⟨x2, hx3⟩ : ∃ x, xs[i]? = some x := ⟨_, List.getElem?_eq_getElem (by omega)⟩
      refine Rg.val (Val.ide Try.underlying74 sz132 rfl rfl hR (by first | rfl | omega | (simp; done)) hx3 (Nat.le_refl _)) rfl (Rg.val (Val.loadEA rfl ag132 hR hx3) rfl (Rg.eff (Eff.give rfl rfl hen rfl (fun w hm => hf _ w hm.below hx3)) rfl fun _ _ => (Rg.nil (Rx.seq (Cd.cond rfl (fun c4 => ?_) (fun c4 => ?_))))))
      · refine Cd.seq (Cd.region (Rg.val (Val.move rfl) rfl (Rg.val (Val.assign rfl) rfl (Rg.nil (Rx.seq (Cd.ret (Rx.inr (Rx.pastR (Rx.pastR (Rx.inr (Rx.pastR (Rx.ret1 rfl rfl fun w hm_ => (⟨by rw [idxF_at hx3 hall c4], hm_.below⟩)))))))))))))
      · refine Cd.skip (Rx.inb (Rx.seq (Cd.region (Rg.val (Val.addN rfl rfl (by unfold in64; omega)) rfl (Rg.val (Val.move rfl) rfl (Rg.nil ?_))))))
        refine Rx.meet (i + 1) ⟨⟨by omega, all_snoc hx3 hall (by simp [c4])⟩, by omega⟩ ⟨rfl, rfl, rfl, rfl, trivial⟩ trivial
    · replace c1 := of_decide_eq_false c1
      refine Cd.exit (Rx.pastE (Rx.pastE (Rx.hit (Rx.seq (Cd.seq (Cd.region (Rg.val (Val.assign rfl) rfl (Rg.nil (Rx.seq (Cd.ret (Rx.ret1 rfl rfl fun w hm_ => (⟨by rw [idxF_none (by rw [List.take_of_length_le (by omega)] at hall; exact hall)], hm_.below⟩))))))))))))

theorem legAny_gives (a : Option Addr) (cap : Nat) (xs : List Lg) (f : FuncId) (fs us : List Value) (p : Lg → Bool) (w : World) (hR : Rdb w a 2 encLg xs) (hen : Enters Try.prog f) (hlen : xs.length ≤ 9223372036854775807) (hf : ∀ {i : Nat} (x : Lg) (w' : World), Below w.heap.size w w' → xs[i]? = some x → Gives Try.prog f (fs ++ [Value.agg (encLg x).toArray] ++ us).toArray w' (.bool (p x))) : Gives Try.prog 122 #[.slice a xs.length cap, .func (.func f) fs.toArray us.toArray] w (.bool (xs.any p)) := by
  refine calls_of (vs := [.slice a xs.length cap, .func (.func f) fs.toArray us.toArray]) Try.func122 rfl rfl rfl ?_
  show Cd _ _ _ _ _ [(0, .slice a xs.length cap), (1, .func (.func f) fs.toArray us.toArray)] []
  refine Cd.seq (Cd.region (Rg.val (Val.assign rfl) rfl (Rg.nil (Rx.seq (Cd.seq (Cd.region (Rg.val (Val.move rfl) rfl (Rg.val (Val.move rfl) rfl (Rg.eff (Eff.give rfl rfl en137 rfl (fun w hm => legIndex_gives _ _ _ f fs us p w (hm.rdb hR) hen hlen (fun x w' hb => hf x w' ((hm.below.mono (Nat.le_refl _)).trans (hb.mono hm.below.size))))) rfl fun _ _ => (Rg.val (Val.geq rfl rfl) rfl (Rg.val (Val.assign rfl) rfl (Rg.nil (Rx.seq (Cd.ret (Rx.ret1 rfl rfl fun w hm_ => (⟨by rw [idxF_any], hm_.below⟩))))))))))))))))

theorem leg1_gives (x : Lg) (w : World) (hx : Rdb w x.aw 2 encWn x.ws) (hlx : x.ws.length ≤ 9223372036854775807) : Gives Try.prog 123 #[.agg #[.int .i64 x.m, .slice x.aw x.ws.length x.cw]] w (.bool (manyL x)) := by
  refine calls_of (vs := [.agg #[.int .i64 x.m, .slice x.aw x.ws.length x.cw]]) Try.func123 rfl rfl rfl ?_
  show Cd _ _ _ _ _ [(0, .agg #[.int .i64 x.m, .slice x.aw x.ws.length x.cw])] []
  refine Cd.seq (Cd.region (Rg.eff (Eff.box 1 rfl rfl) rfl fun b1 _ => (Rg.val (Val.assign rfl) rfl (Rg.nil (Rx.seq (Cd.seq (Cd.region (Rg.val (Val.fa rfl (fa132_1 _ _)) rfl (Rg.val (Val.load (l := 1) rfl rfl sc28 rfl) rfl (Rg.val (Val.len Try.underlying28 rfl) rfl (Rg.val (Val.gtr rfl rfl) rfl (Rg.val (Val.assign rfl) rfl (Rg.nil (Rx.seq (Cd.ret (Rx.ret1 rfl rfl fun w hm_ => (⟨rfl, hm_.below⟩)))))))))))))))))

theorem leg2_gives (b : Nat) (ga : Option Addr) (gc : Nat) (gs : List Lg) (most rest start : Int) (x : Lg) (w : World) (hd : ∀ j u, [.slice ga gs.length gc, .int .i64 most, .int .i64 rest, .int .i64 start][j]? = some u → w.cell? ⟨b, j, none⟩ = some u) (hx : Rdb w x.aw 2 encWn x.ws) (hlx : x.ws.length ≤ 9223372036854775807) : Gives Try.prog 124 #[.agg #[.int .i64 x.m, .slice x.aw x.ws.length x.cw], .pointer (some ⟨b, 0, none⟩)] w (.bool (legBad most x)) := by
  refine calls_of (vs := [.agg #[.int .i64 x.m, .slice x.aw x.ws.length x.cw], .pointer (some ⟨b, 0, none⟩)]) Try.func124 rfl rfl rfl ?_
  show Cd _ _ _ _ _ [(0, .agg #[.int .i64 x.m, .slice x.aw x.ws.length x.cw]), (1, .pointer (some ⟨b, 0, none⟩))] []
  refine Cd.seq (Cd.region (Rg.eff (Eff.box 1 rfl rfl) rfl fun b1 _ => (Rg.val (Val.assign rfl) rfl (Rg.nil (Rx.seq (Cd.seq (Cd.region (Rg.val (Val.fa rfl (fa132_0 _ _)) rfl (Rg.val (Val.load (l := 1) rfl rfl sc2 rfl) rfl (Rg.val (Val.fa rfl (fa134_1 _ _)) rfl (Rg.val (Val.loadRec rfl sc2 hd rfl) rfl (Rg.eff (Eff.give rfl rfl en55 rfl (fun w hm => within_gives _ _ _ w)) rfl fun _ _ => (Rg.val (Val.not rfl) rfl (Rg.val (Val.move rfl) rfl (Rg.split 10 rfl (fun c1 => ?_) (fun c1 => ?_))))))))))))))))
  · replace c1 := bnot_t c1
    refine Rg.off rfl rfl rfl rfl (Rg.off rfl rfl rfl rfl (Rg.off rfl rfl rfl rfl (Rg.off rfl rfl rfl rfl (Rg.val (Val.pickT rfl rfl) rfl (Rg.val (Val.assign rfl) rfl (Rg.nil (Rx.seq (Cd.ret (Rx.ret1 rfl rfl fun w hm_ => (⟨by simp [legBad, *], hm_.below⟩))))))))))
  · replace c1 := bnot_f c1
    refine Rg.on rfl rfl rfl (Rg.val (Val.fa rfl (fa132_1 _ _)) rfl (Rg.on rfl rfl rfl (Rg.val (Val.load (l := 1) rfl rfl sc28 rfl) rfl (Rg.on rfl rfl rfl (Rg.eff (Eff.give rfl rfl en56 rfl (fun w hm => checkWindows_gives _ _ _ w (hm.rdb hx) (by exact hlx))) rfl fun _ _ => (Rg.on rfl rfl rfl (Rg.val (Val.not rfl) rfl (Rg.val (Val.pickF rfl rfl) rfl (Rg.val (Val.assign rfl) rfl (Rg.nil (Rx.seq (Cd.ret (Rx.ret1 rfl rfl fun w hm_ => (⟨by simp [legBad, *], hm_.below⟩))))))))))))))

theorem crew_gives (ga : Option Addr) (gc : Nat) (gs : List Lg) (most rest start : Int) (w : World) (hL : LegAt w ga gs) : Gives Try.prog 93 #[.agg #[.slice ga gs.length gc, .int .i64 most, .int .i64 rest, .int .i64 start]] w (.int .i64 (crewF gs most rest start)) := by
  refine calls_of (vs := [.agg #[.slice ga gs.length gc, .int .i64 most, .int .i64 rest, .int .i64 start]]) Try.func93 rfl rfl rfl ?_
  show Cd _ _ _ _ _ [(0, .agg #[.slice ga gs.length gc, .int .i64 most, .int .i64 rest, .int .i64 start])] []
  refine Cd.seq (Cd.region (Rg.eff (Eff.box 1 rfl rfl) rfl fun b1 _ => (Rg.val (Val.assign rfl) rfl (Rg.nil (Rx.seq (Cd.seq (Cd.seq (Cd.region (Rg.val (Val.fa rfl (fa134_0 _ _)) rfl (Rg.val (Val.load (l := 1) rfl rfl sc74 rfl) rfl (Rg.val (Val.len Try.underlying74 rfl) rfl (Rg.val (Val.gtr rfl rfl) rfl (Rg.val (Val.move rfl) rfl (Rg.split 8 rfl (fun c1 => ?_) (fun c1 => ?_)))))))))))))))
  · replace c1 := of_decide_eq_true c1
    refine Rg.off rfl rfl rfl rfl (Rg.off rfl rfl rfl rfl (Rg.off rfl rfl rfl rfl (Rg.val (Val.pickT rfl rfl) rfl (Rg.nil (Rx.seq (Cd.yes rfl (Cd.seq (Cd.region (Rg.val (Val.assign rfl) rfl (Rg.nil (Rx.seq (Cd.ret (Rx.pastR (Rx.ret1 rfl rfl fun w hm_ => (⟨by simp [crewF, *], hm_.below⟩)))))))))))))))
  · replace c1 := of_decide_eq_false c1
    refine Rg.on rfl rfl rfl (Rg.val (Val.fa rfl (fa134_0 _ _)) rfl (Rg.on rfl rfl rfl (Rg.val (Val.load (l := 1) rfl rfl sc74 rfl) rfl (Rg.on rfl rfl rfl (Rg.eff (Eff.give rfl rfl en122 rfl (fun w hm => legAny_gives _ _ _ 123 [] [] manyL w (hm.rdb hL.rds) en123 hL.lg (fun x w' hb_ hx_ => leg1_gives _ w' (Rdb.below (hm.rdb (hL.win _ (List.mem_of_getElem? hx_))) hb_) (hL.lw _ (List.mem_of_getElem? hx_))))) rfl fun _ _ => (Rg.val (Val.pickF rfl rfl) rfl (Rg.nil (Rx.seq (Cd.cond rfl (fun c2 => ?_) (fun c2 => ?_))))))))))
    · refine Cd.seq (Cd.region (Rg.val (Val.assign rfl) rfl (Rg.nil (Rx.seq (Cd.ret (Rx.pastR (Rx.ret1 rfl rfl fun w hm_ => (⟨by simp [crewF, *], hm_.below⟩))))))))
    · refine Cd.skip (Rx.seq (Cd.seq (Cd.region (Rg.val (Val.fn rfl rfl) rfl (Rg.val (Val.assign rfl) rfl (Rg.nil (Rx.seq (Cd.seq (Cd.seq (Cd.region (Rg.val (Val.fa rfl (fa134_1 _ _)) rfl (Rg.val (Val.load (l := 1) rfl rfl sc2 rfl) rfl (Rg.eff (Eff.give rfl rfl en55 rfl (fun w hm => within_gives _ _ _ w)) rfl fun _ _ => (Rg.val (Val.not rfl) rfl (Rg.val (Val.move rfl) rfl (Rg.split 18 rfl (fun c3 => ?_) (fun c3 => ?_)))))))))))))))))
      · replace c3 := bnot_t c3
        refine Rg.off rfl rfl rfl rfl (Rg.off rfl rfl rfl rfl (Rg.off rfl rfl rfl rfl (Rg.off rfl rfl rfl rfl (Rg.val (Val.pickT rfl rfl) rfl (Rg.val (Val.move rfl) rfl (Rg.off rfl rfl rfl rfl (Rg.off rfl rfl rfl rfl (Rg.off rfl rfl rfl rfl (Rg.off rfl rfl rfl rfl (Rg.val (Val.pickT rfl rfl) rfl (Rg.nil (Rx.seq (Cd.yes rfl (Cd.seq (Cd.region (Rg.val (Val.assign rfl) rfl (Rg.nil (Rx.seq (Cd.ret (Rx.pastR (Rx.ret1 rfl rfl fun w hm_ => (⟨by simp [crewF, *], hm_.below⟩))))))))))))))))))))))
      · replace c3 := bnot_f c3
        refine Rg.on rfl rfl rfl (Rg.val (Val.fa rfl (fa134_2 _ _)) rfl (Rg.on rfl rfl rfl (Rg.val (Val.load (l := 1) rfl rfl sc2 rfl) rfl (Rg.on rfl rfl rfl (Rg.eff (Eff.give rfl rfl en55 rfl (fun w hm => within_gives _ _ _ w)) rfl fun _ _ => (Rg.on rfl rfl rfl (Rg.val (Val.not rfl) rfl (Rg.val (Val.pickF rfl rfl) rfl (Rg.val (Val.move rfl) rfl (Rg.split 24 rfl (fun c4 => ?_) (fun c4 => ?_)))))))))))
        · replace c4 := bnot_t c4
          refine Rg.off rfl rfl rfl rfl (Rg.off rfl rfl rfl rfl (Rg.off rfl rfl rfl rfl (Rg.off rfl rfl rfl rfl (Rg.val (Val.pickT rfl rfl) rfl (Rg.nil (Rx.seq (Cd.yes rfl (Cd.seq (Cd.region (Rg.val (Val.assign rfl) rfl (Rg.nil (Rx.seq (Cd.ret (Rx.pastR (Rx.ret1 rfl rfl fun w hm_ => (⟨by simp [crewF, *], hm_.below⟩))))))))))))))))
        · replace c4 := bnot_f c4
          refine Rg.on rfl rfl rfl (Rg.val (Val.fa rfl (fa134_0 _ _)) rfl (Rg.on rfl rfl rfl (Rg.val (Val.load (l := 1) rfl rfl sc74 rfl) rfl (Rg.on rfl rfl rfl (Rg.val (Val.move rfl) rfl (Rg.on rfl rfl rfl (Rg.eff (Eff.give rfl rfl en122 rfl (fun w hm => legAny_gives _ _ _ 124 [] [.pointer (some ⟨b1, 0, none⟩)] (legBad most) w (hm.rdb hL.rds) en124 hL.lg (fun x w' hb_ hx_ => leg2_gives _ _ _ gs most rest start _ w' (Below.old hb_ (hm.reads (l := 1) rfl)) (Rdb.below (hm.rdb (hL.win _ (List.mem_of_getElem? hx_))) hb_) (hL.lw _ (List.mem_of_getElem? hx_))))) rfl fun _ _ => (Rg.val (Val.pickF rfl rfl) rfl (Rg.nil (Rx.seq (Cd.cond rfl (fun c5 => ?_) (fun c5 => ?_))))))))))))
          · refine Cd.seq (Cd.region (Rg.val (Val.assign rfl) rfl (Rg.nil (Rx.seq (Cd.ret (Rx.pastR (Rx.ret1 rfl rfl fun w hm_ => (⟨by simp [crewF, *], hm_.below⟩))))))))
          · refine Cd.skip (Rx.seq (Cd.seq (Cd.seq (Cd.region (Rg.val (Val.fa rfl (fa134_3 _ _)) rfl (Rg.val (Val.load (l := 1) rfl rfl sc2 rfl) rfl (Rg.eff (Eff.give rfl rfl en55 rfl (fun w hm => within_gives _ _ _ w)) rfl fun _ _ => (Rg.val (Val.not rfl) rfl (Rg.nil (Rx.seq (Cd.cond rfl (fun c6 => ?_) (fun c6 => ?_))))))))))))
            · replace c6 := bnot_t c6
              refine Cd.seq (Cd.region (Rg.val (Val.assign rfl) rfl (Rg.nil (Rx.seq (Cd.ret (Rx.pastR (Rx.ret1 rfl rfl fun w hm_ => (⟨by simp [crewF, *], hm_.below⟩))))))))
            · replace c6 := bnot_f c6
              refine Cd.skip (Rx.seq (Cd.seq (Cd.region (Rg.val (Val.assign rfl) rfl (Rg.nil (Rx.seq (Cd.ret (Rx.ret1 rfl rfl fun w hm_ => (⟨by simp [crewF, *], hm_.below⟩)))))))))

theorem rcrew_gives (ga : Option Addr) (gc : Nat) (gs : List Lg) (most rest start : Int) (w : World) (hL : LegAt w ga gs) : Gives Try.prog 95 #[.slice ga gs.length gc, .int .i64 most, .int .i64 rest, .int .i64 start] w (.int .i64 (crewF gs most rest start)) := by
  refine calls_of (vs := [.slice ga gs.length gc, .int .i64 most, .int .i64 rest, .int .i64 start]) Try.func95 rfl rfl rfl ?_
  show Cd _ _ _ _ _ [(0, .slice ga gs.length gc), (1, .int .i64 most), (2, .int .i64 rest), (3, .int .i64 start)] []
  refine Cd.seq (Cd.region (Rg.val (Val.assign rfl) rfl (Rg.nil (Rx.seq (Cd.seq (Cd.seq (Cd.region (Rg.val (Val.move rfl) rfl (Rg.val (Val.len Try.underlying74 rfl) rfl (Rg.val (Val.gtr rfl rfl) rfl (Rg.nil (Rx.seq (Cd.cond rfl (fun c1 => ?_) (fun c1 => ?_))))))))))))))
  · replace c1 := of_decide_eq_true c1
    refine Cd.seq (Cd.region (Rg.val (Val.assign rfl) rfl (Rg.nil (Rx.seq (Cd.ret (Rx.pastR (Rx.ret1 rfl rfl fun w hm_ => (⟨by simp [crewF, *], hm_.below⟩))))))))
  · replace c1 := of_decide_eq_false c1
    refine Cd.skip (Rx.seq (Cd.seq (Cd.seq (Cd.region (Rg.val (Val.assign rfl) rfl (Rg.nil (Rx.seq (Cd.block ?_))))))))
    refine Cd.loop (A := Nat) (fun i : Nat => i ≤ gs.length ∧ gs.any manyL = (gs.drop i).any manyL)
        (fun i : Nat => [(0, .slice ga gs.length gc), (1, .int .i64 most), (2, .int .i64 rest), (3, .int .i64 start), (9, .int .i64 (i : Int))])
        (fun i : Nat => [])
        (fun i : Nat => gs.length - i) 0 ?_ ⟨rfl, rfl, rfl, rfl, rfl, trivial⟩ trivial ?_
    · exact ⟨Nat.zero_le _, rfl⟩
    · rintro i ⟨hi_i, hG_i⟩
      show Cd _ _ _ _ _ [(0, .slice ga gs.length gc), (1, .int .i64 most), (2, .int .i64 rest), (3, .int .i64 start), (9, .int .i64 (i : Int))] []
      refine Cd.seq (Cd.seq (Cd.region (Rg.val (Val.move rfl) rfl (Rg.val (Val.move rfl) rfl (Rg.val (Val.len Try.underlying74 rfl) rfl (Rg.val (Val.lss rfl rfl) rfl (Rg.nil (Rx.seq (Cd.cond rfl (fun c2 => ?_) (fun c2 => ?_))))))))))
      · replace c2 := of_decide_eq_true c2
        refine Cd.skip (Rx.seq (Cd.seq (Cd.block (Cd.seq (Cd.region (Rg.val (Val.move rfl) rfl (Rg.val (Val.move rfl) rfl ?_)))))))
        obtain ⟨x3, hx4⟩ : ∃ x, gs[i]? = some x := ⟨_, List.getElem?_eq_getElem (by omega)⟩
        refine Rg.val (Val.ide Try.underlying74 sz132 rfl rfl hL.rds (by first | rfl | omega | (simp; done)) hx4 (Nat.le_refl _)) rfl (Rg.val (Val.fae (k := 1) rfl (hL.rds.ne hx4) fa132_1) rfl (Rg.val (Val.loadE (k := 1) rfl sc28 hL.rds hx4 rfl) rfl (Rg.val (Val.len Try.underlying28 rfl) rfl (Rg.val (Val.gtr rfl rfl) rfl (Rg.nil (Rx.seq (Cd.cond rfl (fun c5 => ?_) (fun c5 => ?_))))))))
        · replace c5 := of_decide_eq_true c5
          have hei_ := any_hit hG_i hx4 (by simp [manyL, *])
          clear hG_i
          refine Cd.seq (Cd.region (Rg.val (Val.assign rfl) rfl (Rg.nil (Rx.seq (Cd.ret (Rx.inr (Rx.pastR (Rx.pastR (Rx.inr (Rx.pastR (Rx.ret1 rfl rfl fun w hm_ => (⟨by simp [crewF, *], hm_.below⟩))))))))))))
        · replace c5 := of_decide_eq_false c5
          refine Cd.skip (Rx.inb (Rx.seq (Cd.region (Rg.val (Val.move rfl) rfl (Rg.val (Val.addN rfl rfl (by have := hL.lg; unfold in64; omega)) rfl (Rg.val (Val.assign rfl) rfl (Rg.nil ?_)))))))
          refine Rx.meet (i + 1) ⟨⟨by omega, any_drop hG_i hx4 (by simp [manyL, *])⟩, by show gs.length - (i + 1) < gs.length - i; omega⟩ ⟨rfl, rfl, rfl, rfl, rfl, trivial⟩ trivial
      · replace c2 := of_decide_eq_false c2
        have hei_ := any_end hG_i c2
        clear hG_i
        refine Cd.exit (Rx.pastE (Rx.pastE (Rx.hit (Rx.seq (Cd.seq (Cd.seq (Cd.region (Rg.val (Val.move rfl) rfl (Rg.eff (Eff.give rfl rfl en61 rfl (fun w hm => in_gives _ _ _ w)) rfl fun _ _ => (Rg.val (Val.not rfl) rfl (Rg.val (Val.move rfl) rfl (Rg.split 30 rfl (fun c6 => ?_) (fun c6 => ?_)))))))))))))
        · replace c6 := bnot_t c6
          refine Rg.off rfl rfl rfl rfl (Rg.off rfl rfl rfl rfl (Rg.off rfl rfl rfl rfl (Rg.val (Val.pickT rfl rfl) rfl (Rg.nil (Rx.seq (Cd.yes rfl (Cd.seq (Cd.region (Rg.val (Val.assign rfl) rfl (Rg.nil (Rx.seq (Cd.ret (Rx.pastR (Rx.ret1 rfl rfl fun w hm_ => (⟨by simp [crewF, *], hm_.below⟩)))))))))))))))
        · replace c6 := bnot_f c6
          refine Rg.on rfl rfl rfl (Rg.val (Val.move rfl) rfl (Rg.on rfl rfl rfl (Rg.eff (Eff.give rfl rfl en61 rfl (fun w hm => in_gives _ _ _ w)) rfl fun _ _ => (Rg.on rfl rfl rfl (Rg.val (Val.not rfl) rfl (Rg.val (Val.pickF rfl rfl) rfl (Rg.nil (Rx.seq (Cd.cond rfl (fun c7 => ?_) (fun c7 => ?_))))))))))
          · replace c7 := bnot_t c7
            refine Cd.seq (Cd.region (Rg.val (Val.assign rfl) rfl (Rg.nil (Rx.seq (Cd.ret (Rx.pastR (Rx.ret1 rfl rfl fun w hm_ => (⟨by simp [crewF, *], hm_.below⟩))))))))
          · replace c7 := bnot_f c7
            refine Cd.skip (Rx.seq (Cd.seq (Cd.seq (Cd.region (Rg.val (Val.assign rfl) rfl (Rg.nil (Rx.seq (Cd.block ?_))))))))
            refine Cd.loop (A := Nat) (fun j : Nat => j ≤ gs.length ∧ gs.any (legBad most) = (gs.drop j).any (legBad most))
                (fun j : Nat => [(0, .slice ga gs.length gc), (1, .int .i64 most), (3, .int .i64 start), (10, .int .i64 (j : Int))])
                (fun j : Nat => [])
                (fun j : Nat => gs.length - j) 0 ?_ ⟨rfl, rfl, rfl, rfl, trivial⟩ trivial ?_
            · exact ⟨Nat.zero_le _, rfl⟩
            · rintro j ⟨hi_j, hG_j⟩
              show Cd _ _ _ _ _ [(0, .slice ga gs.length gc), (1, .int .i64 most), (3, .int .i64 start), (10, .int .i64 (j : Int))] []
              refine Cd.seq (Cd.seq (Cd.region (Rg.val (Val.move rfl) rfl (Rg.val (Val.move rfl) rfl (Rg.val (Val.len Try.underlying74 rfl) rfl (Rg.val (Val.lss rfl rfl) rfl (Rg.nil (Rx.seq (Cd.cond rfl (fun c8 => ?_) (fun c8 => ?_))))))))))
              · replace c8 := of_decide_eq_true c8
                refine Cd.skip (Rx.seq (Cd.seq (Cd.block (Cd.seq (Cd.region (Rg.val (Val.move rfl) rfl (Rg.val (Val.move rfl) rfl ?_)))))))
                obtain ⟨x9, hx10⟩ : ∃ x, gs[j]? = some x := ⟨_, List.getElem?_eq_getElem (by omega)⟩
                refine Rg.val (Val.ide Try.underlying74 sz132 rfl rfl hL.rds (by first | rfl | omega | (simp; done)) hx10 (Nat.le_refl _)) rfl (Rg.val (Val.fae (k := 0) rfl (hL.rds.ne hx10) fa132_0) rfl (Rg.val (Val.loadE (k := 0) rfl sc2 hL.rds hx10 rfl) rfl (Rg.val (Val.move rfl) rfl (Rg.eff (Eff.give rfl rfl en61 rfl (fun w hm => in_gives _ _ _ w)) rfl fun _ _ => (Rg.val (Val.not rfl) rfl (Rg.val (Val.move rfl) rfl (Rg.split 49 rfl (fun c11 => ?_) (fun c11 => ?_))))))))
                · replace c11 := bnot_t c11
                  refine Rg.off rfl rfl rfl rfl (Rg.off rfl rfl rfl rfl (Rg.off rfl rfl rfl rfl (Rg.off rfl rfl rfl rfl (Rg.off rfl rfl rfl rfl (Rg.off rfl rfl rfl rfl (Rg.off rfl rfl rfl rfl (Rg.val (Val.pickT rfl rfl) rfl (Rg.nil (Rx.seq (Cd.yes rfl (Cd.seq (Cd.region (Rg.val (Val.assign rfl) rfl (Rg.nil (Rx.seq (Cd.ret (Rx.inr (Rx.pastR (Rx.pastR (Rx.inr (Rx.pastR (Rx.ret1 rfl rfl fun w hm_ => (⟨by have hej_ := any_hit hG_j hx10 (by simp [legBad, *]); clear hG_j; simp [crewF, *], hm_.below⟩)))))))))))))))))))))))
                · replace c11 := bnot_f c11
                  refine Rg.on rfl rfl rfl (Rg.val (Val.move rfl) rfl (Rg.on rfl rfl rfl (Rg.val (Val.move rfl) rfl (Rg.on rfl rfl rfl (Rg.val (Val.ide Try.underlying74 sz132 rfl rfl hL.rds (by first | rfl | omega | (simp; done)) hx10 (Nat.le_refl _)) rfl (Rg.on rfl rfl rfl (Rg.val (Val.fae (k := 1) rfl (hL.rds.ne hx10) fa132_1) rfl (Rg.on rfl rfl rfl (Rg.val (Val.loadE (k := 1) rfl sc28 hL.rds hx10 rfl) rfl (Rg.on rfl rfl rfl (Rg.eff (Eff.give rfl rfl en62 rfl (fun w hm => windows_gives _ _ _ w (hm.rdb (hL.win _ (List.mem_of_getElem? hx10))) (hL.lw _ (List.mem_of_getElem? hx10)))) rfl fun _ _ => (Rg.on rfl rfl rfl (Rg.val (Val.not rfl) rfl (Rg.val (Val.pickF rfl rfl) rfl (Rg.nil (Rx.seq (Cd.cond rfl (fun c12 => ?_) (fun c12 => ?_))))))))))))))))))
                  · replace c12 := bnot_t c12
                    refine Cd.seq (Cd.region (Rg.val (Val.assign rfl) rfl (Rg.nil (Rx.seq (Cd.ret (Rx.inr (Rx.pastR (Rx.pastR (Rx.inr (Rx.pastR (Rx.ret1 rfl rfl fun w hm_ => (⟨by have hej_ := any_hit hG_j hx10 (by simp [legBad, *]); clear hG_j; simp [crewF, *], hm_.below⟩))))))))))))
                  · replace c12 := bnot_f c12
                    refine Cd.skip (Rx.inb (Rx.seq (Cd.region (Rg.val (Val.move rfl) rfl (Rg.val (Val.addN rfl rfl (by have := hL.lg; unfold in64; omega)) rfl (Rg.val (Val.assign rfl) rfl (Rg.nil ?_)))))))
                    refine Rx.meet (j + 1) ⟨⟨by omega, any_drop hG_j hx10 (by simp [legBad, *])⟩, by show gs.length - (j + 1) < gs.length - j; omega⟩ ⟨rfl, rfl, rfl, rfl, trivial⟩ trivial
              · replace c8 := of_decide_eq_false c8
                have hej_ := any_end hG_j c8
                clear hG_j
                refine Cd.exit (Rx.pastE (Rx.pastE (Rx.hit (Rx.seq (Cd.seq (Cd.seq (Cd.region (Rg.val (Val.move rfl) rfl (Rg.eff (Eff.give rfl rfl en61 rfl (fun w hm => in_gives _ _ _ w)) rfl fun _ _ => (Rg.val (Val.not rfl) rfl (Rg.nil (Rx.seq (Cd.cond rfl (fun c13 => ?_) (fun c13 => ?_))))))))))))))
                · replace c13 := bnot_t c13
                  refine Cd.seq (Cd.region (Rg.val (Val.assign rfl) rfl (Rg.nil (Rx.seq (Cd.ret (Rx.pastR (Rx.ret1 rfl rfl fun w hm_ => (⟨by simp [crewF, *], hm_.below⟩))))))))
                · replace c13 := bnot_f c13
                  refine Cd.skip (Rx.seq (Cd.seq (Cd.region (Rg.val (Val.assign rfl) rfl (Rg.nil (Rx.seq (Cd.ret (Rx.ret1 rfl rfl fun w hm_ => (⟨by simp [crewF, *], hm_.below⟩)))))))))

end Go.Proofs.Ytdmkedbmoboamaa
