/- Walks of functions of the program: what each returns, told by plain functions. -/
import Derived.Test.YtdmkedbmoboamaaA11
import Derived.Test.YtdmkedbmoboamaaKxR
namespace Go.Proofs.Ytdmkedbmoboamaa
open Go.Kx Go.RowKit
set_option maxRecDepth 100000
set_option linter.unusedVariables false
set_option linter.unusedSimpArgs false
set_option linter.unnecessarySimpa false
set_option linter.constructorNameAsVariable false
def exW : List Wn := [⟨0, 100⟩, ⟨1000, 2000⟩]
def exJ (p : Nat × Nat × Nat × Nat) : Jb := ⟨some ⟨p.1, 0, none⟩, 3, [⟨60, some ⟨p.2.2.2, 0, none⟩, 2, exW, 0⟩, ⟨60, some ⟨p.2.2.2, 0, none⟩, 2, exW, 0⟩, ⟨60, some ⟨p.2.2.2, 0, none⟩, 2, exW, -1⟩], some ⟨p.2.1, 0, none⟩, 1, [⟨0, 2, 50⟩], some ⟨p.2.2.1, 0, none⟩, 1, [30]⟩
def exO (b : Nat) : List Rw := [⟨some ⟨b, 0, none⟩, 2, [0, 1]⟩]
def exR (l : Nat) (p : Nat × Nat × Nat × Nat) : List (Nat × Res) := [(l + 1, rowL 57 3 encTk (exJ p).ta 3 (exJ p).ts), (l + 2, rowL 38 3 encAf (exJ p).aa 1 (exJ p).ls), (l + 3, rowL 2 1 encI (exJ p).ga 1 (exJ p).gs), (l + 4, rowL 59 2 encWn (some ⟨p.2.2.2, 0, none⟩) 2 exW)]
theorem exAt {W w : World} {B : List (Nat × Res)} {p : Nat × Nat × Nat × Nat} (l : Nat) (hm : Mem W B w) (h : subl (exR l p) B) : JobAt w (exJ p) :=
  ⟨Rdb.of_row hm h.1 (fun _ => rfl), Rdb.of_row hm h.2.1 (fun _ => rfl), Rdb.of_row hm h.2.2.1 (fun _ => rfl), fun t ht => by
    have e : t.aw = some ⟨p.2.2.2, 0, none⟩ ∧ t.ws = exW := by
      simp only [exJ, List.mem_cons, List.not_mem_nil, or_false] at ht
      rcases ht with rfl | rfl | rfl <;> exact ⟨rfl, rfl⟩
    rw [e.1, e.2]
    exact Rdb.of_row hm h.2.2.2.1 (fun _ => rfl), by simp [exJ], by simp [exJ], by simp [exJ], fun t ht => by
    simp only [exJ, List.mem_cons, List.not_mem_nil, or_false] at ht
    rcases ht with rfl | rfl | rfl <;> simp [exW]⟩
theorem exChk (p : Nat × Nat × Nat × Nat) : chkF (exJ p) = 0 := by
  simp [chkF, exJ, manyWs, taskBad, linkBad, teamBad, exW, winF, between]
theorem exChkO (p : Nat × Nat × Nat × Nat) (b : Nat) : chkO (exJ p) (exO b) = 0 := by
  have h : sortI [0, 1] = memF 0 0 (exJ p).ts := (sortI_eq (ys := [0, 1]) (by decide) (List.Perm.refl _)).trans (by simp [exJ, memF])
  unfold chkO
  rw [if_pos (exChk p), if_pos (by simp [exO, exJ])]
  simp only [exO, badR]
  rw [if_pos h]
  rfl
theorem exLinks (p : Nat × Nat × Nat × Nat) (b : Nat) : linksF (exJ p) (exO b) = [⟨0, 2, 50⟩, ⟨0, 1, 90⟩] := rfl
theorem exFit {k : Int} (h : fitsF 60 k exW = true) : (0 ≤ k ∧ k ≤ 40) ∨ 1000 ≤ k := by
  obtain ⟨w, hw, h1, h2⟩ := fitsF_iff.1 h
  simp only [exW, List.mem_cons, List.not_mem_nil, or_false] at hw
  rcases hw with rfl | rfl
  · left; simp only at h1 h2; omega
  · right; simp only at h1 h2; omega
theorem exLeast (p : Nat × Nat × Nat × Nat) (b : Nat) : IsLeast (exJ p) (linksF (exJ p) (exO b)) [0, 1000, 1000] := by
  have f0 : fitsF 60 0 exW = true := by decide
  have f1 : fitsF 60 1000 exW = true := by decide
  refine ⟨⟨rfl, fun k t x ht hx => ?_, fun a ha => ?_⟩, fun l hl k x y hx hy => ?_⟩
  · match k, ht, hx with
    | 0, ht, hx => injection ht with ht; injection hx with hx; subst ht hx; exact f0
    | 1, ht, hx => injection ht with ht; injection hx with hx; subst ht hx; exact f1
    | 2, ht, hx => injection ht with ht; injection hx with hx; subst ht hx; exact f1
    | k + 3, ht, hx => simp at hx
  · rw [exLinks] at ha
    simp only [List.mem_cons, List.not_mem_nil, or_false] at ha
    rcases ha with rfl | rfl <;> (show at_ _ _ + _ ≤ at_ _ _; decide)
  · obtain ⟨y0, y1, y2, rfl⟩ := Go.Kx.len3 (l := l) hl.len
    have g0 := exFit (hl.fit 0 _ y0 rfl rfl)
    have g1 := exFit (hl.fit 1 _ y1 rfl rfl)
    have g2 := exFit (hl.fit 2 _ y2 rfl rfl)
    have l1 : y0 + 50 ≤ y2 := hl.link ⟨0, 2, 50⟩ (by rw [exLinks]; simp)
    have l2 : y0 + 90 ≤ y1 := hl.link ⟨0, 1, 90⟩ (by rw [exLinks]; simp)
    match k, hx, hy with
    | 0, hx, hy => injection hx with hx; injection hy with hy; omega
    | 1, hx, hy => injection hx with hx; injection hy with hy; omega
    | 2, hx, hy => injection hx with hx; injection hy with hy; omega
    | k + 3, hx, hy => simp at hx
theorem exEarl (p : Nat × Nat × Nat × Nat) (b : Nat) : EarlE (exJ p) (exO b) = 0 ∧ EarlY (exJ p) (exO b) = [0, 1000, 1000] := by
  have h := earlF_some (exLeast p b)
  have h1 := Earl_some (exChkO p b) (by rw [h]; rfl)
  rw [h] at h1
  exact h1
theorem exFits : FitE exW 60 41 = 0 ∧ FitN exW 60 41 = 1000 := by decide
theorem Example_calls.bld_0  (w : World) : (Instr.build 59 #[(0, .int .i64 0), (1, .int .i64 100)]).run Try.prog w = .ok (.agg #[.int .i64 0, .int .i64 100]) w := by kernel_rfl
theorem Example_calls.bld_1  (w : World) : (Instr.build 59 #[(0, .int .i64 1000), (1, .int .i64 2000)]).run Try.prog w = .ok (.agg #[.int .i64 1000, .int .i64 2000]) w := by kernel_rfl
theorem Example_calls.bsl_2  (w : World) : (Instr.buildSlice 28 2 #[(0, .agg #[.int .i64 0, .int .i64 100]), (1, .agg #[.int .i64 1000, .int .i64 2000])]).run Try.prog w = .ok (.slice (some ⟨w.heap.size, 0, none⟩) 2 2) (w.alloc (.cells #[.int .i64 0, .int .i64 100, .int .i64 1000, .int .i64 2000] 59)) := by kernel_rfl
theorem Example_calls.bld_3 (y0 : Option Addr) (y0l y0c : Nat) (w : World) : (Instr.build 57 #[(0, .int .i64 60), (1, .slice y0 y0l y0c)]).run Try.prog w = .ok (.agg #[.int .i64 60, .slice y0 y0l y0c, .int .i64 0]) w := by kernel_rfl
theorem Example_calls.bld_4 (y0 : Option Addr) (y0l y0c : Nat) (w : World) : (Instr.build 57 #[(0, .int .i64 60), (1, .slice y0 y0l y0c), (2, .int .i64 (-1))]).run Try.prog w = .ok (.agg #[.int .i64 60, .slice y0 y0l y0c, .int .i64 (-1)]) w := by kernel_rfl
theorem Example_calls.bsl_5 (y0 : Option Addr) (y0l y0c : Nat) (w : World) : (Instr.buildSlice 22 3 #[(0, .agg #[.int .i64 60, .slice y0 y0l y0c, .int .i64 0]), (1, .agg #[.int .i64 60, .slice y0 y0l y0c, .int .i64 0]), (2, .agg #[.int .i64 60, .slice y0 y0l y0c, .int .i64 (-1)])]).run Try.prog w = .ok (.slice (some ⟨w.heap.size, 0, none⟩) 3 3) (w.alloc (.cells #[.int .i64 60, .slice y0 y0l y0c, .int .i64 0, .int .i64 60, .slice y0 y0l y0c, .int .i64 0, .int .i64 60, .slice y0 y0l y0c, .int .i64 (-1)] 57)) := by kernel_rfl
theorem Example_calls.bld_6  (w : World) : (Instr.build 38 #[(0, .int .i64 0), (1, .int .i64 2), (2, .int .i64 50)]).run Try.prog w = .ok (.agg #[.int .i64 0, .int .i64 2, .int .i64 50]) w := by kernel_rfl
theorem Example_calls.bsl_7  (w : World) : (Instr.buildSlice 23 1 #[(0, .agg #[.int .i64 0, .int .i64 2, .int .i64 50])]).run Try.prog w = .ok (.slice (some ⟨w.heap.size, 0, none⟩) 1 1) (w.alloc (.cells #[.int .i64 0, .int .i64 2, .int .i64 50] 38)) := by kernel_rfl
theorem Example_calls.bsl_8  (w : World) : (Instr.buildSlice 24 1 #[(0, .int .i64 30)]).run Try.prog w = .ok (.slice (some ⟨w.heap.size, 0, none⟩) 1 1) (w.alloc (.cells #[.int .i64 30] 2)) := by kernel_rfl
theorem Example_calls.bld_9 (y0 : Option Addr) (y0l y0c : Nat) (y1 : Option Addr) (y1l y1c : Nat) (y2 : Option Addr) (y2l y2c : Nat) (w : World) : (Instr.build 26 #[(0, .slice y0 y0l y0c), (1, .slice y1 y1l y1c), (2, .slice y2 y2l y2c)]).run Try.prog w = .ok (.agg #[.slice y0 y0l y0c, .slice y1 y1l y1c, .slice y2 y2l y2c]) w := by kernel_rfl
open Example_calls in
theorem Example_calls  (w : World) : Calls Try.prog 49 #[] w fun e w' => ∃ p : Nat × Nat × Nat × Nat, True ∧ e = .returned (.agg #[.slice (exJ p).ta 3 3, .slice (exJ p).aa 1 1, .slice (exJ p).ga 1 1]) ∧ Mem w (exR 0 p) w' := by
  refine calls_of (vs := []) Try.func49 rfl rfl rfl ?_
  show Cd _ _ _ _ _ [] []
  refine Cd.seq (Cd.region (Rg.eff (Eff.alloc 11 zv26 rfl) rfl fun b11 _ => (Rg.nil (Rx.seq (Cd.seq (Cd.region (Rg.val (Val.build rfl (bld_0)) rfl (Rg.val (Val.build rfl (bld_1)) rfl (Rg.eff (Eff.buildSlice (cs := [.int .i64 0, .int .i64 100, .int .i64 1000, .int .i64 2000]) 4 rfl (fun w => (bsl_2) w) rfl) rfl fun b4 _ => (Rg.val (Val.assign rfl) rfl (Rg.nil (Rx.seq (Cd.seq (Cd.region (Rg.val (Val.move rfl) rfl (Rg.val (Val.build rfl (bld_3 _ _ _)) rfl (Rg.val (Val.move rfl) rfl (Rg.val (Val.build rfl (bld_3 _ _ _)) rfl (Rg.val (Val.move rfl) rfl (Rg.val (Val.build rfl (bld_4 _ _ _)) rfl (Rg.eff (Eff.buildSlice (cs := [.int .i64 60, .slice (some ⟨b4, 0, none⟩) 2 2, .int .i64 0, .int .i64 60, .slice (some ⟨b4, 0, none⟩) 2 2, .int .i64 0, .int .i64 60, .slice (some ⟨b4, 0, none⟩) 2 2, .int .i64 (-1)]) 1 rfl (fun w => (bsl_5 _ _ _) w) rfl) rfl fun b1 _ => (Rg.val (Val.build rfl (bld_6)) rfl (Rg.eff (Eff.buildSlice (cs := [.int .i64 0, .int .i64 2, .int .i64 50]) 2 rfl (fun w => (bsl_7) w) rfl) rfl fun b2 _ => (Rg.eff (Eff.buildSlice (cs := [.int .i64 30]) 3 rfl (fun w => (bsl_8) w) rfl) rfl fun b3 _ => (Rg.val (Val.build rfl (bld_9 _ _ _ _ _ _ _ _ _)) rfl (Rg.eff (Eff.storeAll (l := 11) sz26 rfl rfl rfl rfl rfl rfl) rfl fun _ _ => (Rg.nil (Rx.seq (Cd.ret (Rx.retR rfl (RO.cell 11 rfl rfl ag26 rfl (RO.nil)) fun w hm_ => ((by have h1_ := hm_.rowOf (l := 1) (enc := encTk) (sz := 3) (xs := (exJ (b1, b2, b3, b4)).ts) (cap := 3) rfl rfl (fun _ => rfl) rfl (by decide); have h2_ := h1_.rowOf (l := 2) (enc := encAf) (sz := 3) (xs := (exJ (b1, b2, b3, b4)).ls) (cap := 1) rfl rfl (fun _ => rfl) rfl (by decide); have h3_ := h2_.rowOf (l := 3) (enc := encI) (sz := 1) (xs := (exJ (b1, b2, b3, b4)).gs) (cap := 1) rfl rfl (fun _ => rfl) rfl (by decide); have h4_ := h3_.rowOf (l := 4) (enc := encWn) (sz := 2) (xs := exW) (cap := 2) rfl rfl (fun _ => rfl) rfl (by decide); exact ⟨(b1, b2, b3, b4), trivial, rfl, h4_.weak ⟨rfl, rfl, rfl, rfl, trivial⟩⟩))))))))))))))))))))))))))))))))

theorem lkp_shift {α : Type} {k : Nat} : ∀ {B : List (Nat × α)} {s : Nat} {r : α}, lkp (B.map fun x => (x.1 + k, x.2)) s = some r → ∃ s', s = s' + k ∧ lkp B s' = some r
  | [], _, _, h => by simp [lkp] at h
  | (a, b) :: B, s, r, h => by
    by_cases e : a + k = s
    · subst e
      rw [List.map_cons, lkp_cons_eq] at h
      exact ⟨a, rfl, by rw [lkp_cons_eq]; exact h⟩
    · rw [List.map_cons, lkp_cons_ne _ _ e] at h
      obtain ⟨s', h1, h2⟩ := lkp_shift h
      exact ⟨s', h1, by rw [lkp_cons_ne _ _ (by omega)]; exact h2⟩
theorem Mem.shift {W w : World} {B : List (Nat × Res)} (k : Nat) (h : Mem W B w) : Mem W (B.map fun x => (x.1 + k, x.2)) w := by
  refine ⟨h.below, fun l r hl => ?_, fun l r hl => ?_, fun l l' r r' h1 h2 hne => ?_⟩
  · obtain ⟨s, _, h1⟩ := lkp_shift hl; exact h.holds s r h1
  · obtain ⟨s, _, h1⟩ := lkp_shift hl; exact h.fresh s r h1
  · obtain ⟨s, e, g1⟩ := lkp_shift h1; obtain ⟨s', e', g2⟩ := lkp_shift h2; exact h.apart s s' r r' g1 g2 (by omega)
theorem example_calls (l : Nat) (w : World) : Calls Try.prog 49 #[] w fun e w' => ∃ p : Nat × Nat × Nat × Nat, True ∧ e = .returned (.agg #[.slice (exJ p).ta 3 3, .slice (exJ p).aa 1 1, .slice (exJ p).ga 1 1]) ∧ Mem w (exR l p) w' :=
  (Example_calls w).mono fun _ _ ⟨p, h1, h2, h3⟩ => ⟨p, h1, h2, by have h4 := Mem.shift l h3; simpa [exR, Nat.add_comm] using h4⟩
theorem ordEx {W w : World} {B : List (Nat × Res)} {b b2 : Nat} (l l2 : Nat) (hm : Mem W B w) (h1 : lkp B l = some (rowL 62 1 encRw (some ⟨b2, 0, none⟩) 1 (exO b))) (h2 : lkp B l2 = some (rowL 3 1 encI (some ⟨b, 0, none⟩) 2 [0, 1])) : OrdAt w (some ⟨b2, 0, none⟩) (exO b) :=
  ⟨Rdb.of_row hm h1 (fun _ => rfl), fun r hr => by simp only [exO, List.mem_singleton] at hr; subst hr; exact Rdb.of_row hm h2 (fun _ => rfl), by simp [exO], fun r hr => by simp only [exO, List.mem_singleton] at hr; subst hr; simp, fun r hr => by simp only [exO, List.mem_singleton] at hr; subst hr; simp⟩
theorem earlEx_calls (p : Nat × Nat × Nat × Nat) (b b2 : Nat) (w : World) (hJ : JobAt w (exJ p)) (hO : OrdAt w (some ⟨b2, 0, none⟩) (exO b)) : Calls Try.prog 27 #[.agg #[.slice (exJ p).ta 3 3, .slice (exJ p).aa 1 1, .slice (exJ p).ga 1 1], .slice (some ⟨b2, 0, none⟩) 1 1] w (RowPost w 2 1 encI [0, 1000, 1000] fun a_ c_ => .tuple #[.slice a_ 3 c_, .int .i64 0]) := by
  have h := Earliest_calls (exJ p) (some ⟨b2, 0, none⟩) 1 (exO b) w hJ hO ⟨by simp [exO], fun r hr => by simp only [exO, List.mem_singleton] at hr; subst hr; simp⟩
  rw [(exEarl p b).1, (exEarl p b).2] at h
  exact h
theorem fitEx_gives {a : Option Addr} {cap : Nat} {w : World} (hR : Rdb w a 2 encWn exW) : Gives Try.prog 21 #[.slice a 2 cap, .int .i64 60, .int .i64 41] w (.tuple #[.int .i64 1000, .int .i64 0]) := by
  have h := Fit_gives a cap exW 60 41 w hR (by simp [exW])
  rw [exFits.1, exFits.2] at h
  exact h
theorem works_gives.bsl_0  (w : World) : (Instr.buildSlice 62 2 #[(0, .int .i64 0), (1, .int .i64 1)]).run Try.prog w = .ok (.slice (some ⟨w.heap.size, 0, none⟩) 2 2) (w.alloc (.cells #[.int .i64 0, .int .i64 1] 3)) := by kernel_rfl
theorem works_gives.bsl_1 (y0 : Option Addr) (y0l y0c : Nat) (w : World) : (Instr.buildSlice 27 1 #[(0, .slice y0 y0l y0c)]).run Try.prog w = .ok (.slice (some ⟨w.heap.size, 0, none⟩) 1 1) (w.alloc (.cells #[.slice y0 y0l y0c] 62)) := by kernel_rfl
theorem works_gives.fld_2 (y0 : Option Addr) (y0l y0c : Nat) (y1 : Option Addr) (y1l y1c : Nat) (y2 : Option Addr) (y2l y2c : Nat) (w : World) : (Instr.field 26 (.agg #[.slice y0 y0l y0c, .slice y1 y1l y1c, .slice y2 y2l y2c]) 0).run Try.prog w = .ok (.slice y0 y0l y0c) w := by kernel_rfl
open works_gives in
theorem works_gives  (w : World) : Gives Try.prog 14 #[] w (.bool true) := by
  refine calls_of (vs := []) Try.func14 rfl rfl rfl ?_
  show Cd _ _ _ _ _ [] []
  refine Cd.seq (Cd.region (Rg.val (Val.assign rfl) rfl (Rg.nil (Rx.seq (Cd.seq (Cd.region (Rg.eff (Eff.made (A := Nat × Nat × Nat × Nat) (Bs := fun p_ => exR 70 p_) rfl rfl en49 rfl (fun _ => rfl) (fun w hm => example_calls 70 w)) rfl fun p1 hp1 => (Rg.eff (Eff.buildSlice (cs := [.int .i64 0, .int .i64 1]) 1 rfl (fun w => (bsl_0) w) rfl) rfl fun b1 _ => (Rg.eff (Eff.buildSlice (cs := [.slice (some ⟨b1, 0, none⟩) 2 2]) 2 rfl (fun w => (bsl_1 _ _ _) w) rfl) rfl fun b2 _ => (Rg.gain (fun w hm => hm.rowOf (l := 1) (e := 3) (sz := 1) (enc := encI) (xs := [0, 1]) (cap := 2) rfl rfl (fun _ => rfl) rfl (by decide)) (Rg.gain (fun w hm => hm.rowOf (l := 2) (e := 62) (sz := 1) (enc := encRw) (xs := exO b1) (cap := 1) rfl rfl (fun _ => rfl) rfl (by decide)) (Rg.eff (Eff.call rfl rfl en27 rfl (fun w hm => RowPost.mem 3 hm (earlEx_calls p1 b1 b2 w (exAt 70 hm ⟨rfl, rfl, rfl, rfl, trivial⟩) (ordEx 2 1 hm rfl rfl)))) rfl fun p2 _ => (Rg.val (Val.move rfl) rfl (Rg.val (Val.extract rfl rfl) rfl (Rg.val (Val.extract rfl rfl) rfl (Rg.val (Val.assign rfl) rfl (Rg.val (Val.assign rfl) rfl (Rg.nil (Rx.seq (Cd.seq (Cd.region (Rg.eff (Eff.made (A := Nat × Nat × Nat × Nat) (Bs := fun p_ => exR 80 p_) rfl rfl en49 rfl (fun _ => rfl) (fun w hm => example_calls 80 w)) rfl fun p3 hp3 => (Rg.val (Val.field rfl (fld_2 _ _ _ _ _ _ _ _ _)) rfl (Rg.val (Val.ideRow 81 Try.underlying22 sz57 rfl (by rfl) rfl rfl (by first | rfl | omega | (simp; done)) (show (exJ p3).ts[0]? = some (⟨60, some ⟨p3.2.2.2, 0, none⟩, 2, exW, 0⟩ : Tk) from rfl)) rfl (Rg.val (Val.faeRow (k := 1) 81 rfl rfl (fun _ => rfl) (show (exJ p3).ts[0]? = some (⟨60, some ⟨p3.2.2.2, 0, none⟩, 2, exW, 0⟩ : Tk) from rfl) fa57_1) rfl (Rg.val (Val.loadRow (k := 1) 81 rfl sc28 rfl (fun _ => rfl) (show (exJ p3).ts[0]? = some (⟨60, some ⟨p3.2.2.2, 0, none⟩, 2, exW, 0⟩ : Tk) from rfl) rfl) rfl (Rg.eff (Eff.give rfl rfl en21 rfl (fun w hm => fitEx_gives (Rdb.of_row (l := 84) hm rfl (fun _ => rfl)))) rfl fun _ _ => (Rg.val (Val.move rfl) rfl (Rg.val (Val.extract rfl rfl) rfl (Rg.val (Val.extract rfl rfl) rfl (Rg.val (Val.assign rfl) rfl (Rg.val (Val.assign rfl) rfl (Rg.nil (Rx.seq (Cd.seq (Cd.region (Rg.val (Val.move rfl) rfl (Rg.val (Val.known (c := true) (Val.eql rfl rfl) (by decide)) rfl (Rg.val (Val.move rfl) rfl ?_)))))))))))))))))))))))))))))))))))))))
  refine Rg.on rfl rfl rfl (Rg.val (Val.move rfl) rfl (Rg.on rfl rfl rfl (Rg.val (Val.known (c := true) (Val.eql rfl rfl) (by decide)) rfl (Rg.val (Val.pickT rfl rfl) rfl (Rg.val (Val.move rfl) rfl (Rg.on rfl rfl rfl (Rg.val (Val.move rfl) rfl (Rg.on rfl rfl rfl (Rg.val (Val.known (c := true) (Val.eql rfl rfl) (by decide)) rfl (Rg.val (Val.pickT rfl rfl) rfl (Rg.val (Val.move rfl) rfl (Rg.on rfl rfl rfl (Rg.val (Val.move rfl) rfl (Rg.on rfl rfl rfl (Rg.val (Val.len Try.underlying24 rfl) rfl (Rg.on rfl rfl rfl (Rg.val (Val.known (c := true) (Val.eql rfl rfl) (by decide)) rfl (Rg.val (Val.pickT rfl rfl) rfl (Rg.val (Val.move rfl) rfl (Rg.on rfl rfl rfl (Rg.val (Val.move rfl) rfl (Rg.on rfl rfl rfl (Rg.val (Val.ideRow 3 Try.underlying24 sz2 rfl (by rfl) rfl rfl (by first | rfl | omega | (simp; done)) (show ([0, 1000, 1000] : List Int)[0]? = some 0 from rfl)) rfl (Rg.on rfl rfl rfl (Rg.val (Val.loadRow (k := 0) 3 rfl sc2 rfl (fun _ => rfl) (show ([0, 1000, 1000] : List Int)[0]? = some 0 from rfl) rfl) rfl (Rg.on rfl rfl rfl (Rg.val (Val.known (c := true) (Val.eql rfl rfl) (by decide)) rfl (Rg.val (Val.pickT rfl rfl) rfl (Rg.val (Val.move rfl) rfl (Rg.on rfl rfl rfl (Rg.val (Val.move rfl) rfl (Rg.on rfl rfl rfl (Rg.val (Val.ideRow 3 Try.underlying24 sz2 rfl (by rfl) rfl rfl (by first | rfl | omega | (simp; done)) (show ([0, 1000, 1000] : List Int)[1]? = some 1000 from rfl)) rfl (Rg.on rfl rfl rfl (Rg.val (Val.loadRow (k := 0) 3 rfl sc2 rfl (fun _ => rfl) (show ([0, 1000, 1000] : List Int)[1]? = some 1000 from rfl) rfl) rfl (Rg.on rfl rfl rfl (Rg.val (Val.known (c := true) (Val.eql rfl rfl) (by decide)) rfl (Rg.val (Val.pickT rfl rfl) rfl (Rg.val (Val.move rfl) rfl ?_)))))))))))))))))))))))))))))))))))))))
  refine Rg.on rfl rfl rfl (Rg.val (Val.move rfl) rfl (Rg.on rfl rfl rfl (Rg.val (Val.ideRow 3 Try.underlying24 sz2 rfl (by rfl) rfl rfl (by first | rfl | omega | (simp; done)) (show ([0, 1000, 1000] : List Int)[2]? = some 1000 from rfl)) rfl (Rg.on rfl rfl rfl (Rg.val (Val.loadRow (k := 0) 3 rfl sc2 rfl (fun _ => rfl) (show ([0, 1000, 1000] : List Int)[2]? = some 1000 from rfl) rfl) rfl (Rg.on rfl rfl rfl (Rg.val (Val.known (c := true) (Val.eql rfl rfl) (by decide)) rfl (Rg.val (Val.pickT rfl rfl) rfl (Rg.val (Val.assign rfl) rfl (Rg.nil (Rx.seq (Cd.ret (Rx.ret1 rfl rfl fun w hm_ => (⟨rfl, hm_.below⟩))))))))))))))

def hugeT (t : Tk) : Bool := decide ((40 : Int) < (t.ws.length : Int))
def greatF (J : Jb) : Bool := if (30 : Int) < (J.ts.length : Int) then true else if (120 : Int) < (J.ls.length : Int) then true else if (20 : Int) < (J.gs.length : Int) then true else if J.ts.any hugeT = true then true else decide (chkF J = 0) && decide ((8 : Int) < (J.ts.length : Int))
def hugeR (r : Rw) : Bool := decide ((40 : Int) < (r.xs.length : Int))
def wideF (os : List Rw) : Bool := if (20 : Int) < (os.length : Int) then true else os.any hugeR
def validF (J : Jb) (os : List Rw) : Bool := !greatF J && (!wideF os && decide (chkO J os = 0))
theorem wide_hw {os : List Rw} (h : wideF os = false) : os.length ≤ 1000 ∧ ∀ r ∈ os, r.xs.length ≤ 1000 := by
  unfold wideF at h
  split at h
  · cases h
  · refine ⟨by omega, fun r hr => ?_⟩
    have := List.any_eq_false.1 h r hr
    simp [hugeR] at this; omega
theorem great_8 {J : Jb} (h : greatF J = false) (hk : chkF J = 0) : J.ts.length ≤ 8 := by
  unfold greatF at h
  split at h
  · cases h
  · split at h
    · cases h
    · split at h
      · cases h
      · split at h
        · cases h
        · simp [hk] at h; omega
theorem valid_of {J : Jb} {os : List Rw} (h : validF J os = true) : (os.length ≤ 1000 ∧ ∀ r ∈ os, r.xs.length ≤ 1000) ∧ chkO J os = 0 ∧ J.ts.length ≤ 8 := by
  simp only [validF, Bool.and_eq_true, Bool.not_eq_eq_eq_not, Bool.not_true, decide_eq_true_eq] at h
  obtain ⟨h1, h2, h3⟩ := h
  refine ⟨wide_hw h2, h3, great_8 h1 ?_⟩
  unfold chkO at h3
  split at h3
  · assumption
  · exact h3
theorem great_gives (J : Jb) (w : World) (hJ : JobAt w J) : Gives Try.prog 12 #[.agg #[.slice J.ta J.ts.length J.tc, .slice J.aa J.ls.length J.ac, .slice J.ga J.gs.length J.gc]] w (.bool (greatF J)) := by
  refine calls_of (vs := [.agg #[.slice J.ta J.ts.length J.tc, .slice J.aa J.ls.length J.ac, .slice J.ga J.gs.length J.gc]]) Try.func12 rfl rfl rfl ?_
  show Cd _ _ _ _ _ [(0, .agg #[.slice J.ta J.ts.length J.tc, .slice J.aa J.ls.length J.ac, .slice J.ga J.gs.length J.gc])] []
  refine Cd.seq (Cd.region (Rg.eff (Eff.box 1 rfl rfl) rfl fun b1 _ => (Rg.val (Val.assign rfl) rfl (Rg.nil (Rx.seq (Cd.seq (Cd.seq (Cd.region (Rg.val (Val.fa rfl (fa26_0 _ _)) rfl (Rg.val (Val.load (l := 1) rfl rfl sc22 rfl) rfl (Rg.val (Val.len Try.underlying22 rfl) rfl (Rg.val (Val.gtr rfl rfl) rfl (Rg.val (Val.move rfl) rfl (Rg.split 8 rfl (fun c1 => ?_) (fun c1 => ?_)))))))))))))))
  · replace c1 := of_decide_eq_true c1
    refine Rg.off rfl rfl rfl rfl (Rg.off rfl rfl rfl rfl (Rg.off rfl rfl rfl rfl (Rg.off rfl rfl rfl rfl (Rg.val (Val.pickT rfl rfl) rfl (Rg.val (Val.move rfl) rfl (Rg.off rfl rfl rfl rfl (Rg.off rfl rfl rfl rfl (Rg.off rfl rfl rfl rfl (Rg.off rfl rfl rfl rfl (Rg.val (Val.pickT rfl rfl) rfl (Rg.nil (Rx.seq (Cd.yes rfl (Cd.seq (Cd.region (Rg.val (Val.assign rfl) rfl (Rg.nil (Rx.seq (Cd.ret (Rx.pastR (Rx.ret1 rfl rfl fun w hm_ => (⟨by simp [greatF, *], hm_.below⟩))))))))))))))))))))))
  · replace c1 := of_decide_eq_false c1
    refine Rg.on rfl rfl rfl (Rg.val (Val.fa rfl (fa26_1 _ _)) rfl (Rg.on rfl rfl rfl (Rg.val (Val.load (l := 1) rfl rfl sc23 rfl) rfl (Rg.on rfl rfl rfl (Rg.val (Val.len Try.underlying23 rfl) rfl (Rg.on rfl rfl rfl (Rg.val (Val.gtr rfl rfl) rfl (Rg.val (Val.pickF rfl rfl) rfl (Rg.val (Val.move rfl) rfl (Rg.split 14 rfl (fun c2 => ?_) (fun c2 => ?_)))))))))))
    · replace c2 := of_decide_eq_true c2
      refine Rg.off rfl rfl rfl rfl (Rg.off rfl rfl rfl rfl (Rg.off rfl rfl rfl rfl (Rg.off rfl rfl rfl rfl (Rg.val (Val.pickT rfl rfl) rfl (Rg.nil (Rx.seq (Cd.yes rfl (Cd.seq (Cd.region (Rg.val (Val.assign rfl) rfl (Rg.nil (Rx.seq (Cd.ret (Rx.pastR (Rx.ret1 rfl rfl fun w hm_ => (⟨by simp [greatF, *], hm_.below⟩))))))))))))))))
    · replace c2 := of_decide_eq_false c2
      refine Rg.on rfl rfl rfl (Rg.val (Val.fa rfl (fa26_2 _ _)) rfl (Rg.on rfl rfl rfl (Rg.val (Val.load (l := 1) rfl rfl sc24 rfl) rfl (Rg.on rfl rfl rfl (Rg.val (Val.len Try.underlying24 rfl) rfl (Rg.on rfl rfl rfl (Rg.val (Val.gtr rfl rfl) rfl (Rg.val (Val.pickF rfl rfl) rfl (Rg.nil (Rx.seq (Cd.cond rfl (fun c3 => ?_) (fun c3 => ?_))))))))))))
      · replace c3 := of_decide_eq_true c3
        refine Cd.seq (Cd.region (Rg.val (Val.assign rfl) rfl (Rg.nil (Rx.seq (Cd.ret (Rx.pastR (Rx.ret1 rfl rfl fun w hm_ => (⟨by simp [greatF, *], hm_.below⟩))))))))
      · replace c3 := of_decide_eq_false c3
        refine Cd.skip (Rx.seq (Cd.seq (Cd.seq (Cd.region (Rg.val (Val.assign rfl) rfl (Rg.nil (Rx.seq (Cd.block ?_))))))))
        refine Cd.loop (A := Nat) (fun i : Nat => i ≤ J.ts.length ∧ J.ts.any hugeT = (J.ts.drop i).any hugeT)
            (fun i : Nat => [(1, .pointer (some ⟨b1, 0, none⟩)), (3, .int .i64 (i : Int))])
            (fun i : Nat => [(1, blk b1 [.slice J.ta J.ts.length J.tc, .slice J.aa J.ls.length J.ac, .slice J.ga J.gs.length J.gc] 26)])
            (fun i : Nat => J.ts.length - i) 0 ?_ ⟨rfl, rfl, trivial⟩ ⟨rfl, trivial⟩ ?_
        · exact ⟨Nat.zero_le _, rfl⟩
        · rintro i ⟨hi_i, hG_i⟩
          show Cd _ _ _ _ _ [(1, .pointer (some ⟨b1, 0, none⟩)), (3, .int .i64 (i : Int))] [(1, blk b1 [.slice J.ta J.ts.length J.tc, .slice J.aa J.ls.length J.ac, .slice J.ga J.gs.length J.gc] 26)]
          refine Cd.seq (Cd.seq (Cd.region (Rg.val (Val.move rfl) rfl (Rg.val (Val.fa rfl (fa26_0 _ _)) rfl (Rg.val (Val.load (l := 1) rfl rfl sc22 rfl) rfl (Rg.val (Val.len Try.underlying22 rfl) rfl (Rg.val (Val.lss rfl rfl) rfl (Rg.nil (Rx.seq (Cd.cond rfl (fun c4 => ?_) (fun c4 => ?_)))))))))))
          · replace c4 := of_decide_eq_true c4
            refine Cd.skip (Rx.seq (Cd.seq (Cd.block (Cd.seq (Cd.region (Rg.val (Val.fa rfl (fa26_0 _ _)) rfl (Rg.val (Val.load (l := 1) rfl rfl sc22 rfl) rfl (Rg.val (Val.move rfl) rfl ?_))))))))
            obtain ⟨x5, hx6⟩ : ∃ x, J.ts[i]? = some x := ⟨_, List.getElem?_eq_getElem (by omega)⟩
            refine Rg.val (Val.ide Try.underlying22 sz57 rfl rfl hJ.rts (by first | rfl | omega | (simp; done)) hx6 (Nat.le_refl _)) rfl (Rg.val (Val.fae (k := 1) rfl (hJ.rts.ne hx6) fa57_1) rfl (Rg.val (Val.loadE (k := 1) rfl sc28 hJ.rts hx6 rfl) rfl (Rg.val (Val.len Try.underlying28 rfl) rfl (Rg.val (Val.gtr rfl rfl) rfl (Rg.nil (Rx.seq (Cd.cond rfl (fun c7 => ?_) (fun c7 => ?_))))))))
            · replace c7 := of_decide_eq_true c7
              have he_ := any_hit hG_i hx6 (by simp [hugeT, *])
              clear hG_i
              refine Cd.seq (Cd.region (Rg.val (Val.assign rfl) rfl (Rg.nil (Rx.seq (Cd.ret (Rx.inr (Rx.pastR (Rx.pastR (Rx.inr (Rx.pastR (Rx.ret1 rfl rfl fun w hm_ => (⟨by simp [greatF, *], hm_.below⟩))))))))))))
            · replace c7 := of_decide_eq_false c7
              refine Cd.skip (Rx.inb (Rx.seq (Cd.region (Rg.val (Val.move rfl) rfl (Rg.val (Val.addN rfl rfl (by have := hJ.lts; unfold in64; omega)) rfl (Rg.val (Val.assign rfl) rfl (Rg.nil ?_)))))))
              refine Rx.meet (i + 1) ⟨⟨by omega, any_drop hG_i hx6 (by simp [hugeT, *])⟩, by show J.ts.length - (i + 1) < J.ts.length - i; omega⟩ ⟨rfl, rfl, trivial⟩ ⟨rfl, trivial⟩
          · replace c4 := of_decide_eq_false c4
            have he_ := any_end hG_i c4
            clear hG_i
            refine Cd.exit (Rx.pastE (Rx.pastE (Rx.hit (Rx.seq (Cd.seq (Cd.region (Rg.val (Val.loadAll (l := 1) rfl rfl ag26 rfl) rfl (Rg.eff (Eff.give rfl rfl en18 rfl (fun w hm => rCheck_gives J w (Mem.job hm hJ))) rfl fun _ _ => (Rg.val (Val.eql rfl rfl) rfl (Rg.val (Val.move rfl) rfl (Rg.split 38 rfl (fun c8 => ?_) (fun c8 => ?_))))))))))))
            · replace c8 := of_decide_eq_true c8
              refine Rg.on rfl rfl rfl (Rg.val (Val.fa rfl (fa26_0 _ _)) rfl (Rg.on rfl rfl rfl (Rg.val (Val.load (l := 1) rfl rfl sc22 rfl) rfl (Rg.on rfl rfl rfl (Rg.val (Val.len Try.underlying22 rfl) rfl (Rg.on rfl rfl rfl (Rg.val (Val.gtr rfl rfl) rfl (Rg.val (Val.pickT rfl rfl) rfl (Rg.val (Val.assign rfl) rfl (Rg.nil (Rx.seq (Cd.ret (Rx.ret1 rfl rfl fun w hm_ => (⟨by simp [greatF, *], hm_.below⟩))))))))))))))
            · replace c8 := of_decide_eq_false c8
              refine Rg.off rfl rfl rfl rfl (Rg.off rfl rfl rfl rfl (Rg.off rfl rfl rfl rfl (Rg.off rfl rfl rfl rfl (Rg.val (Val.pickF rfl rfl) rfl (Rg.val (Val.assign rfl) rfl (Rg.nil (Rx.seq (Cd.ret (Rx.ret1 rfl rfl fun w hm_ => (⟨by simp [greatF, *], hm_.below⟩))))))))))

theorem wide_gives (ao : Option Addr) (co : Nat) (os : List Rw) (w : World) (hO : OrdAt w ao os) : Gives Try.prog 13 #[.slice ao os.length co] w (.bool (wideF os)) := by
  refine calls_of (vs := [.slice ao os.length co]) Try.func13 rfl rfl rfl ?_
  show Cd _ _ _ _ _ [(0, .slice ao os.length co)] []
  refine Cd.seq (Cd.region (Rg.val (Val.assign rfl) rfl (Rg.nil (Rx.seq (Cd.seq (Cd.seq (Cd.region (Rg.val (Val.move rfl) rfl (Rg.val (Val.len Try.underlying27 rfl) rfl (Rg.val (Val.gtr rfl rfl) rfl (Rg.nil (Rx.seq (Cd.cond rfl (fun c1 => ?_) (fun c1 => ?_))))))))))))))
  · replace c1 := of_decide_eq_true c1
    refine Cd.seq (Cd.region (Rg.val (Val.assign rfl) rfl (Rg.nil (Rx.seq (Cd.ret (Rx.pastR (Rx.ret1 rfl rfl fun w hm_ => (⟨by simp [wideF, *], hm_.below⟩))))))))
  · replace c1 := of_decide_eq_false c1
    refine Cd.skip (Rx.seq (Cd.seq (Cd.seq (Cd.region (Rg.val (Val.assign rfl) rfl (Rg.nil (Rx.seq (Cd.block ?_))))))))
    refine Cd.loop (A := Nat) (fun i : Nat => i ≤ os.length ∧ os.any hugeR = (os.drop i).any hugeR)
        (fun i : Nat => [(0, .slice ao os.length co), (3, .int .i64 (i : Int))])
        (fun i : Nat => [])
        (fun i : Nat => os.length - i) 0 ?_ ⟨rfl, rfl, trivial⟩ trivial ?_
    · exact ⟨Nat.zero_le _, rfl⟩
    · rintro i ⟨hi_i, hG_i⟩
      show Cd _ _ _ _ _ [(0, .slice ao os.length co), (3, .int .i64 (i : Int))] []
      refine Cd.seq (Cd.seq (Cd.region (Rg.val (Val.move rfl) rfl (Rg.val (Val.move rfl) rfl (Rg.val (Val.len Try.underlying27 rfl) rfl (Rg.val (Val.lss rfl rfl) rfl (Rg.nil (Rx.seq (Cd.cond rfl (fun c2 => ?_) (fun c2 => ?_))))))))))
      · replace c2 := of_decide_eq_true c2
        refine Cd.skip (Rx.seq (Cd.seq (Cd.block (Cd.seq (Cd.region (Rg.val (Val.move rfl) rfl (Rg.val (Val.move rfl) rfl ?_)))))))
        obtain ⟨x3, hx4⟩ : ∃ x, os[i]? = some x := ⟨_, List.getElem?_eq_getElem (by omega)⟩
        refine Rg.val (Val.ide Try.underlying27 sz62 rfl rfl hO.rds (by first | rfl | omega | (simp; done)) hx4 (Nat.le_refl _)) rfl (Rg.val (Val.loadE (k := 0) rfl sc62 hO.rds hx4 rfl) rfl (Rg.val (Val.len Try.underlying62 rfl) rfl (Rg.val (Val.gtr rfl rfl) rfl (Rg.nil (Rx.seq (Cd.cond rfl (fun c5 => ?_) (fun c5 => ?_)))))))
        · replace c5 := of_decide_eq_true c5
          have he_ := any_hit hG_i hx4 (by simp [hugeR, *])
          clear hG_i
          refine Cd.seq (Cd.region (Rg.val (Val.assign rfl) rfl (Rg.nil (Rx.seq (Cd.ret (Rx.inr (Rx.pastR (Rx.pastR (Rx.inr (Rx.pastR (Rx.ret1 rfl rfl fun w hm_ => (⟨by simp [wideF, *], hm_.below⟩))))))))))))
        · replace c5 := of_decide_eq_false c5
          refine Cd.skip (Rx.inb (Rx.seq (Cd.region (Rg.val (Val.move rfl) rfl (Rg.val (Val.addN rfl rfl (by have := hO.lo; unfold in64; omega)) rfl (Rg.val (Val.assign rfl) rfl (Rg.nil ?_)))))))
          refine Rx.meet (i + 1) ⟨⟨by omega, any_drop hG_i hx4 (by simp [hugeR, *])⟩, by show os.length - (i + 1) < os.length - i; omega⟩ ⟨rfl, rfl, trivial⟩ trivial
      · replace c2 := of_decide_eq_false c2
        have he_ := any_end hG_i c2
        clear hG_i
        refine Cd.exit (Rx.pastE (Rx.pastE (Rx.hit (Rx.seq (Cd.seq (Cd.region (Rg.val (Val.assign rfl) rfl (Rg.nil (Rx.seq (Cd.ret (Rx.ret1 rfl rfl fun w hm_ => (⟨by simp [wideF, *], hm_.below⟩))))))))))))

theorem valid_gives (J : Jb) (ao : Option Addr) (co : Nat) (os : List Rw) (w : World) (hJ : JobAt w J) (hO : OrdAt w ao os) : Gives Try.prog 31 #[.agg #[.slice J.ta J.ts.length J.tc, .slice J.aa J.ls.length J.ac, .slice J.ga J.gs.length J.gc], .slice ao os.length co] w (.bool (validF J os)) := by
  refine calls_of (vs := [.agg #[.slice J.ta J.ts.length J.tc, .slice J.aa J.ls.length J.ac, .slice J.ga J.gs.length J.gc], .slice ao os.length co]) Try.func31 rfl rfl rfl ?_
  show Cd _ _ _ _ _ [(0, .agg #[.slice J.ta J.ts.length J.tc, .slice J.aa J.ls.length J.ac, .slice J.ga J.gs.length J.gc]), (1, .slice ao os.length co)] []
  refine Cd.seq (Cd.region (Rg.eff (Eff.box 1 rfl rfl) rfl fun b1 _ => (Rg.val (Val.assign rfl) rfl (Rg.nil (Rx.seq (Cd.seq (Cd.region (Rg.val (Val.loadAll (l := 1) rfl rfl ag26 rfl) rfl (Rg.eff (Eff.give rfl rfl en12 rfl (fun w hm => great_gives J w (Mem.job hm hJ))) rfl fun _ _ => (Rg.val (Val.not rfl) rfl (Rg.val (Val.move rfl) rfl (Rg.split 8 rfl (fun c1 => ?_) (fun c1 => ?_)))))))))))))
  · replace c1 := bnot_t c1
    refine Rg.on rfl rfl rfl (Rg.val (Val.move rfl) rfl (Rg.on rfl rfl rfl (Rg.eff (Eff.give rfl rfl en13 rfl (fun w hm => wide_gives _ _ os w (Mem.ord hm hO))) rfl fun _ _ => (Rg.on rfl rfl rfl (Rg.val (Val.not rfl) rfl (Rg.val (Val.pickT rfl rfl) rfl (Rg.val (Val.move rfl) rfl (Rg.split 13 rfl (fun c2 => ?_) (fun c2 => ?_)))))))))
    · replace c2 := bnot_t c2
      have hw := wide_hw c2
      refine Rg.on rfl rfl rfl (Rg.val (Val.loadAll (l := 1) rfl rfl ag26 rfl) rfl (Rg.on rfl rfl rfl (Rg.val (Val.move rfl) rfl (Rg.on rfl rfl rfl (Rg.eff (Eff.give rfl rfl en20 rfl (fun w hm => rCheckOrder_gives J _ _ os w (Mem.job hm hJ) (Mem.ord hm hO) hw)) rfl fun _ _ => (Rg.on rfl rfl rfl (Rg.val (Val.eql rfl rfl) rfl (Rg.val (Val.pickT rfl rfl) rfl (Rg.val (Val.assign rfl) rfl (Rg.nil (Rx.seq (Cd.ret (Rx.ret1 rfl rfl fun w hm_ => (⟨by simp [validF, *], hm_.below⟩))))))))))))))
    · replace c2 := bnot_f c2
      refine Rg.off rfl rfl rfl rfl (Rg.off rfl rfl rfl rfl (Rg.off rfl rfl rfl rfl (Rg.off rfl rfl rfl rfl (Rg.val (Val.pickF rfl rfl) rfl (Rg.val (Val.assign rfl) rfl (Rg.nil (Rx.seq (Cd.ret (Rx.ret1 rfl rfl fun w hm_ => (⟨by simp [validF, *], hm_.below⟩))))))))))
  · replace c1 := bnot_f c1
    refine Rg.off rfl rfl rfl rfl (Rg.off rfl rfl rfl rfl (Rg.off rfl rfl rfl rfl (Rg.val (Val.pickF rfl rfl) rfl (Rg.val (Val.move rfl) rfl (Rg.off rfl rfl rfl rfl (Rg.off rfl rfl rfl rfl (Rg.off rfl rfl rfl rfl (Rg.off rfl rfl rfl rfl (Rg.val (Val.pickF rfl rfl) rfl (Rg.val (Val.assign rfl) rfl (Rg.nil (Rx.seq (Cd.ret (Rx.ret1 rfl rfl fun w hm_ => (⟨by simp [validF, *], hm_.below⟩)))))))))))))))

end Go.Proofs.Ytdmkedbmoboamaa
