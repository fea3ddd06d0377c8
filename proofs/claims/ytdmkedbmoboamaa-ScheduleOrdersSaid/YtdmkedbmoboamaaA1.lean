/- Walks of functions of the program: what each returns, told by plain functions. -/
import Derived.Test.YtdmkedbmoboamaaKxF
import Derived.Test.YtdmkedbmoboamaaKxI
namespace Go.Proofs.Ytdmkedbmoboamaa
open Go.Kx Go.RowKit
set_option maxRecDepth 100000
set_option linter.unusedVariables false
set_option linter.unusedSimpArgs false
set_option linter.unnecessarySimpa false
set_option linter.constructorNameAsVariable false
structure Wn where
  f : Int
  t : Int
structure Tk where
  m : Int
  aw : Option Addr
  cw : Nat
  ws : List Wn
  team : Int
structure Af where
  p : Int
  q : Int
  lag : Int
structure Rw where
  a : Option Addr
  cap : Nat
  xs : List Int
def encWn (w : Wn) : List Value := [.int .i64 w.f, .int .i64 w.t]
def encTk (t : Tk) : List Value := [.int .i64 t.m, .slice t.aw t.ws.length t.cw, .int .i64 t.team]
def encAf (a : Af) : List Value := [.int .i64 a.p, .int .i64 a.q, .int .i64 a.lag]
def encRw (r : Rw) : List Value := [.slice r.a r.xs.length r.cap]
def encI (i : Int) : List Value := [.int .i64 i]
structure Jb where
  ta : Option Addr
  tc : Nat
  ts : List Tk
  aa : Option Addr
  ac : Nat
  ls : List Af
  ga : Option Addr
  gc : Nat
  gs : List Int
structure JobAt (W : World) (J : Jb) : Prop where
  rts : Rdb W J.ta 3 encTk J.ts
  rls : Rdb W J.aa 3 encAf J.ls
  rgs : Rdb W J.ga 1 encI J.gs
  win : ∀ t ∈ J.ts, Rdb W t.aw 2 encWn t.ws
  lts : J.ts.length ≤ 9223372036854775807
  lls : J.ls.length ≤ 9223372036854775807
  lgs : J.gs.length ≤ 9223372036854775807
  lws : ∀ t ∈ J.ts, t.ws.length ≤ 9223372036854775807
theorem Mem.job {W w : World} {B : List (Nat × Res)} {J : Jb} (hm : Mem W B w) (h : JobAt W J) : JobAt w J :=
  ⟨hm.rdb h.rts, hm.rdb h.rls, hm.rdb h.rgs, fun t ht => hm.rdb (h.win t ht), h.lts, h.lls, h.lgs, h.lws⟩
theorem Rdb.below {W w : World} {a : Option Addr} {sz : Nat} {α : Type} {enc : α → List Value} {xs : List α} (h : Rdb W a sz enc xs) (hb : Below W.heap.size W w) : Rdb w a sz enc xs :=
  (show Mem W [] w from ⟨hb, fun l r h => by simp [lkp] at h, fun l r h => by simp [lkp] at h, fun l l' r r' h => by simp [lkp] at h⟩).rdb h
theorem JobAt.below {W w : World} {J : Jb} (h : JobAt W J) (hb : Below W.heap.size W w) : JobAt w J :=
  ⟨Rdb.below h.rts hb, Rdb.below h.rls hb, Rdb.below h.rgs hb, fun t ht => Rdb.below (h.win t ht) hb, h.lts, h.lls, h.lgs, h.lws⟩
theorem dropc {α : Type} {xs : List α} {i : Nat} {x : α} (h : xs[i]? = some x) : xs.drop i = x :: xs.drop (i + 1) := by
  obtain ⟨hlt, rfl⟩ := List.getElem?_eq_some_iff.1 h
  exact List.drop_eq_getElem_cons hlt
theorem drop_all {α : Type} {xs : List α} {i : Nat} (h : ¬ (i : Int) < (xs.length : Int)) : xs.drop i = [] := List.drop_eq_nil_of_le (by omega)
def between (x lo hi : Int) : Bool := decide (lo ≤ x) && decide (x ≤ hi)
theorem between_iff {x lo hi : Int} : between x lo hi = true ↔ lo ≤ x ∧ x ≤ hi := by simp [between]
theorem between_not {x lo hi : Int} : between x lo hi = false ↔ x < lo ∨ hi < x := by simp only [between, Bool.and_eq_false_iff, decide_eq_false_iff_not]; omega
/-- Windows, one behind the other, from a time on. -/
def winF (last : Int) : List Wn → Bool
  | [] => true
  | w :: r => if w.f < last then false else if w.t ≤ w.f then false else if 1099511627776 < w.t then false else winF w.t r
/-- The first time from another one on at which something fits. -/
def firstF (m k : Int) : List Wn → Option Int
  | [] => none
  | w :: r => if max k w.f + m ≤ w.t then some (max k w.f) else firstF m k r
def fitsF (m k : Int) (ws : List Wn) : Bool := ws.any fun w => between k w.f (w.t - m)
/-- Numbers in windows that are windows. -/
theorem winF_mem {last : Int} : ∀ {ws : List Wn}, winF last ws = true → ∀ w ∈ ws, last ≤ w.f ∧ w.f < w.t ∧ w.t ≤ 1099511627776
  | [], _, w, hw => by simp at hw
  | v :: r, h, w, hw => by
    simp only [winF] at h
    split at h
    · cases h
    · split at h
      · cases h
      · split at h
        · cases h
        · rcases List.mem_cons.1 hw with rfl | hw
          · omega
          · have := winF_mem h w hw; omega
theorem firstF_spec {m k : Int} : ∀ {ws : List Wn} {z : Int}, firstF m k ws = some z → k ≤ z ∧ ∃ w ∈ ws, w.f ≤ z ∧ z + m ≤ w.t
  | [], z, h => by simp [firstF] at h
  | v :: r, z, h => by
    simp only [firstF] at h
    split at h
    · injection h with h; subst h; exact ⟨by omega, v, by simp, by omega, by omega⟩
    · obtain ⟨h1, w, hw, h2⟩ := firstF_spec h
      exact ⟨h1, w, by simp [hw], h2⟩
theorem within_gives (x lo hi : Int) (w : World) : Gives Try.prog 55 #[.int .i64 x, .int .i64 lo, .int .i64 hi] w (.bool (between x lo hi)) := by
  refine calls_of (vs := [.int .i64 x, .int .i64 lo, .int .i64 hi]) Try.func55 rfl rfl rfl ?_
  show Cd _ _ _ _ _ [(0, .int .i64 x), (1, .int .i64 lo), (2, .int .i64 hi)] []
  refine Cd.seq (Cd.region (Rg.val (Val.assign rfl) rfl (Rg.nil (Rx.seq (Cd.seq (Cd.region (Rg.val (Val.move rfl) rfl (Rg.val (Val.move rfl) rfl (Rg.val (Val.leq rfl rfl) rfl (Rg.val (Val.move rfl) rfl (Rg.split 10 rfl (fun c1 => ?_) (fun c1 => ?_))))))))))))
  · replace c1 := of_decide_eq_true c1
    refine Rg.on rfl rfl rfl (Rg.val (Val.move rfl) rfl (Rg.on rfl rfl rfl (Rg.val (Val.move rfl) rfl (Rg.on rfl rfl rfl (Rg.val (Val.leq rfl rfl) rfl (Rg.val (Val.pickT rfl rfl) rfl (Rg.val (Val.assign rfl) rfl (Rg.nil (Rx.seq (Cd.ret (Rx.ret1 rfl rfl fun w hm_ => (⟨by first | rfl | simp [between, *], hm_.below⟩))))))))))))
  · replace c1 := of_decide_eq_false c1
    refine Rg.off rfl rfl rfl rfl (Rg.off rfl rfl rfl rfl (Rg.off rfl rfl rfl rfl (Rg.val (Val.pickF rfl rfl) rfl (Rg.val (Val.assign rfl) rfl (Rg.nil (Rx.seq (Cd.ret (Rx.ret1 rfl rfl fun w hm_ => (⟨by first | rfl | simp [between, *], hm_.below⟩)))))))))

theorem in_gives (x lo hi : Int) (w : World) : Gives Try.prog 61 #[.int .i64 x, .int .i64 lo, .int .i64 hi] w (.bool (between x lo hi)) := by
  refine calls_of (vs := [.int .i64 x, .int .i64 lo, .int .i64 hi]) Try.func61 rfl rfl rfl ?_
  show Cd _ _ _ _ _ [(0, .int .i64 x), (1, .int .i64 lo), (2, .int .i64 hi)] []
  refine Cd.seq (Cd.region (Rg.val (Val.assign rfl) rfl (Rg.nil (Rx.seq (Cd.seq (Cd.region (Rg.val (Val.move rfl) rfl (Rg.val (Val.move rfl) rfl (Rg.val (Val.geq rfl rfl) rfl (Rg.val (Val.move rfl) rfl (Rg.split 10 rfl (fun c1 => ?_) (fun c1 => ?_))))))))))))
  · replace c1 := of_decide_eq_true c1
    refine Rg.on rfl rfl rfl (Rg.val (Val.move rfl) rfl (Rg.on rfl rfl rfl (Rg.val (Val.move rfl) rfl (Rg.on rfl rfl rfl (Rg.val (Val.leq rfl rfl) rfl (Rg.val (Val.pickT rfl rfl) rfl (Rg.val (Val.assign rfl) rfl (Rg.nil (Rx.seq (Cd.ret (Rx.ret1 rfl rfl fun w hm_ => (⟨by first | rfl | simp [between, *], hm_.below⟩))))))))))))
  · replace c1 := of_decide_eq_false c1
    refine Rg.off rfl rfl rfl rfl (Rg.off rfl rfl rfl rfl (Rg.off rfl rfl rfl rfl (Rg.val (Val.pickF rfl rfl) rfl (Rg.val (Val.assign rfl) rfl (Rg.nil (Rx.seq (Cd.ret (Rx.ret1 rfl rfl fun w hm_ => (⟨by first | rfl | simp [between, *], hm_.below⟩)))))))))

theorem checkWindows_gives (a : Option Addr) (cap : Nat) (xs : List Wn) (w : World) (hR : Rdb w a 2 encWn xs) (hlen : xs.length ≤ 9223372036854775807) : Gives Try.prog 56 #[.slice a xs.length cap] w (.bool (winF 0 xs)) := by
  refine calls_of (vs := [.slice a xs.length cap]) Try.func56 rfl rfl rfl ?_
  show Cd _ _ _ _ _ [(0, .slice a xs.length cap)] []
  refine Cd.seq (Cd.region (Rg.val (Val.assign rfl) rfl (Rg.nil (Rx.seq (Cd.seq (Cd.region (Rg.val (Val.assign rfl) rfl (Rg.nil (Rx.seq (Cd.seq (Cd.seq (Cd.region (Rg.val (Val.move rfl) rfl (Rg.val (Val.len Try.underlying28 rfl) rfl (Rg.val (Val.move rfl) rfl (Rg.nil (Rx.seq (Cd.block ?_))))))))))))))))))
  refine Cd.loop (A := Nat × Int) (fun pr_ : Nat × Int => match pr_ with | (i, last) => i ≤ xs.length ∧ winF 0 xs = winF last (xs.drop i))
      (fun pr_ : Nat × Int => match pr_ with | (i, last) => [(3, .int .i64 last), (6, .slice a xs.length cap), (7, .int .i64 (xs.length : Int)), (8, .int .i64 (i : Int))])
      (fun pr_ : Nat × Int => match pr_ with | (i, last) => [])
      (fun pr_ : Nat × Int => match pr_ with | (i, last) => xs.length - i) (0, 0) ?_ ⟨rfl, rfl, rfl, rfl, trivial⟩ trivial ?_
  · exact ⟨by omega, rfl⟩
  · rintro ⟨i, last⟩ ⟨hi, hG⟩
    show Cd _ _ _ _ _ [(3, .int .i64 last), (6, .slice a xs.length cap), (7, .int .i64 (xs.length : Int)), (8, .int .i64 (i : Int))] []
    refine Cd.seq (Cd.region (Rg.val (Val.lss rfl rfl) rfl (Rg.nil (Rx.seq (Cd.seq (Cd.cond rfl (fun c1 => ?_) (fun c1 => ?_)))))))
    · replace c1 := of_decide_eq_true c1
      refine Cd.skip (Rx.seq (Cd.seq (Cd.block (Cd.seq (Cd.region ?_)))))
      obtain ⟨x2, hx3⟩ : ∃ x, xs[i]? = some x := ⟨_, List.getElem?_eq_getElem (by omega)⟩
      refine Rg.val (Val.ide Try.underlying28 sz59 rfl rfl hR (by first | rfl | omega | (simp; done)) hx3 (Nat.le_refl _)) rfl (Rg.val (Val.loadEA rfl ag59 hR hx3) rfl (Rg.eff (Eff.alloc 1 zv59 rfl) rfl fun b1 _ => (Rg.eff (Eff.storeAll (l := 1) sz59 rfl rfl rfl rfl rfl rfl) rfl fun _ _ => (Rg.nil (Rx.seq (Cd.seq (Cd.seq (Cd.region (Rg.val (Val.fa rfl (fa59_0 _ _)) rfl (Rg.val (Val.load (l := 1) rfl rfl sc2 rfl) rfl (Rg.val (Val.move rfl) rfl (Rg.val (Val.lss rfl rfl) rfl (Rg.val (Val.move rfl) rfl (Rg.split 16 rfl (fun c4 => ?_) (fun c4 => ?_)))))))))))))))
      · replace c4 := of_decide_eq_true c4
        refine Rg.off rfl rfl rfl rfl (Rg.off rfl rfl rfl rfl (Rg.off rfl rfl rfl rfl (Rg.off rfl rfl rfl rfl (Rg.off rfl rfl rfl rfl (Rg.val (Val.pickT rfl rfl) rfl (Rg.val (Val.move rfl) rfl (Rg.off rfl rfl rfl rfl (Rg.off rfl rfl rfl rfl (Rg.off rfl rfl rfl rfl (Rg.val (Val.pickT rfl rfl) rfl (Rg.nil (Rx.seq (Cd.yes rfl (Cd.seq (Cd.region (Rg.val (Val.assign rfl) rfl (Rg.nil (Rx.seq (Cd.ret (Rx.pastR (Rx.inr (Rx.pastR (Rx.pastR (Rx.inr (Rx.pastR (Rx.ret1 rfl rfl fun w hm_ => (⟨by have hG_ := hG; rw [dropc hx3, winF] at hG_; rw [hG_]; simp [*], hm_.below⟩)))))))))))))))))))))))))))
      · replace c4 := of_decide_eq_false c4
        refine Rg.on rfl rfl rfl (Rg.val (Val.fa rfl (fa59_1 _ _)) rfl (Rg.on rfl rfl rfl (Rg.val (Val.load (l := 1) rfl rfl sc2 rfl) rfl (Rg.on rfl rfl rfl (Rg.val (Val.fa rfl (fa59_0 _ _)) rfl (Rg.on rfl rfl rfl (Rg.val (Val.load (l := 1) rfl rfl sc2 rfl) rfl (Rg.on rfl rfl rfl (Rg.val (Val.leq rfl rfl) rfl (Rg.val (Val.pickF rfl rfl) rfl (Rg.val (Val.move rfl) rfl (Rg.split 23 rfl (fun c5 => ?_) (fun c5 => ?_)))))))))))))
        · replace c5 := of_decide_eq_true c5
          refine Rg.off rfl rfl rfl rfl (Rg.off rfl rfl rfl rfl (Rg.off rfl rfl rfl rfl (Rg.val (Val.pickT rfl rfl) rfl (Rg.nil (Rx.seq (Cd.yes rfl (Cd.seq (Cd.region (Rg.val (Val.assign rfl) rfl (Rg.nil (Rx.seq (Cd.ret (Rx.pastR (Rx.inr (Rx.pastR (Rx.pastR (Rx.inr (Rx.pastR (Rx.ret1 rfl rfl fun w hm_ => (⟨by have hG_ := hG; rw [dropc hx3, winF] at hG_; rw [hG_]; simp [*], hm_.below⟩))))))))))))))))))))
        · replace c5 := of_decide_eq_false c5
          refine Rg.on rfl rfl rfl (Rg.val (Val.fa rfl (fa59_1 _ _)) rfl (Rg.on rfl rfl rfl (Rg.val (Val.load (l := 1) rfl rfl sc2 rfl) rfl (Rg.on rfl rfl rfl (Rg.val (Val.gtr rfl rfl) rfl (Rg.val (Val.pickF rfl rfl) rfl (Rg.nil (Rx.seq (Cd.cond rfl (fun c6 => ?_) (fun c6 => ?_))))))))))
          · replace c6 := of_decide_eq_true c6
            refine Cd.seq (Cd.region (Rg.val (Val.assign rfl) rfl (Rg.nil (Rx.seq (Cd.ret (Rx.pastR (Rx.inr (Rx.pastR (Rx.pastR (Rx.inr (Rx.pastR (Rx.ret1 rfl rfl fun w hm_ => (⟨by have hG_ := hG; rw [dropc hx3, winF] at hG_; rw [hG_]; simp [*], hm_.below⟩)))))))))))))
          · replace c6 := of_decide_eq_false c6
            refine Cd.skip (Rx.seq (Cd.region (Rg.val (Val.fa rfl (fa59_1 _ _)) rfl (Rg.val (Val.load (l := 1) rfl rfl sc2 rfl) rfl (Rg.val (Val.assign rfl) rfl (Rg.nil (Rx.inb (Rx.seq (Cd.region (Rg.val (Val.addN rfl rfl (by unfold in64; omega)) rfl (Rg.val (Val.move rfl) rfl (Rg.nil ?_))))))))))))
            refine Rx.meet (i + 1, x2.t) ⟨⟨by omega, by have hG_ := hG; rw [dropc hx3, winF] at hG_; simpa [*] using hG_⟩, by show xs.length - (i + 1) < xs.length - i; omega⟩ ⟨rfl, rfl, rfl, rfl, trivial⟩ trivial
    · replace c1 := of_decide_eq_false c1
      refine Cd.exit (Rx.pastE (Rx.pastE (Rx.hit (Rx.seq (Cd.seq (Cd.region (Rg.val (Val.assign rfl) rfl (Rg.nil (Rx.seq (Cd.ret (Rx.ret1 rfl rfl fun w hm_ => (⟨by have hG_ := hG; rw [drop_all (by omega), winF] at hG_; rw [hG_]; try rfl, hm_.below⟩))))))))))))

theorem windows_gives (a : Option Addr) (cap : Nat) (xs : List Wn) (w : World) (hR : Rdb w a 2 encWn xs) (hlen : xs.length ≤ 9223372036854775807) : Gives Try.prog 62 #[.slice a xs.length cap] w (.bool (winF 0 xs)) := by
  refine calls_of (vs := [.slice a xs.length cap]) Try.func62 rfl rfl rfl ?_
  show Cd _ _ _ _ _ [(0, .slice a xs.length cap)] []
  refine Cd.seq (Cd.region (Rg.val (Val.assign rfl) rfl (Rg.nil (Rx.seq (Cd.seq (Cd.region (Rg.val (Val.assign rfl) rfl (Rg.nil (Rx.seq (Cd.seq (Cd.seq (Cd.region (Rg.val (Val.assign rfl) rfl (Rg.nil (Rx.seq (Cd.block ?_))))))))))))))))
  refine Cd.loop (A := Nat × Int) (fun pr_ : Nat × Int => match pr_ with | (i, last) => i ≤ xs.length ∧ winF 0 xs = winF last (xs.drop i))
      (fun pr_ : Nat × Int => match pr_ with | (i, last) => [(0, .slice a xs.length cap), (3, .int .i64 last), (4, .int .i64 (i : Int))])
      (fun pr_ : Nat × Int => match pr_ with | (i, last) => [])
      (fun pr_ : Nat × Int => match pr_ with | (i, last) => xs.length - i) (0, 0) ?_ ⟨rfl, rfl, rfl, trivial⟩ trivial ?_
  · exact ⟨by omega, rfl⟩
  · rintro ⟨i, last⟩ ⟨hi, hG⟩
    show Cd _ _ _ _ _ [(0, .slice a xs.length cap), (3, .int .i64 last), (4, .int .i64 (i : Int))] []
    refine Cd.seq (Cd.seq (Cd.region (Rg.val (Val.move rfl) rfl (Rg.val (Val.move rfl) rfl (Rg.val (Val.len Try.underlying28 rfl) rfl (Rg.val (Val.lss rfl rfl) rfl (Rg.nil (Rx.seq (Cd.cond rfl (fun c1 => ?_) (fun c1 => ?_))))))))))
    · replace c1 := of_decide_eq_true c1
      refine Cd.skip (Rx.seq (Cd.seq (Cd.block (Cd.seq (Cd.seq (Cd.draw [] mixed rfl (Dr.take 0 rfl (by kernel_rfl) (Val.move rfl) rfl trivial (Dr.take 1 rfl (by kernel_rfl) (Val.move rfl) rfl trivial ?_))))))))
      obtain ⟨x2, hx3⟩ : ∃ x, xs[i]? = some x := ⟨_, List.getElem?_eq_getElem (by omega)⟩
      refine Dr.take 2 rfl (by kernel_rfl) (Val.ide Try.underlying28 sz59 rfl rfl hR (by first | rfl | omega | (simp; done)) hx3 (Nat.le_refl _)) rfl trivial (Dr.take 3 rfl (by kernel_rfl) (Val.fae (k := 0) rfl (hR.ne hx3) fa59_0) rfl trivial (Dr.take 4 rfl (by kernel_rfl) (Val.loadE (k := 0) rfl sc2 hR hx3 rfl) rfl trivial (Dr.take 5 rfl (by kernel_rfl) (Val.move rfl) rfl trivial (Dr.take 6 rfl (by kernel_rfl) (Val.lss rfl rfl) rfl trivial (Dr.take 7 rfl (by kernel_rfl) (Val.move rfl) rfl trivial (Dr.split 18 rfl (fun c4 => ?_) (fun c4 => ?_)))))))
      · replace c4 := of_decide_eq_true c4
        refine Dr.off 8 rfl (by kernel_rfl) rfl rfl rfl rfl trivial (Dr.off 9 rfl (by kernel_rfl) rfl rfl rfl rfl trivial (Dr.off 10 rfl (by kernel_rfl) rfl rfl rfl rfl trivial (Dr.off 11 rfl (by kernel_rfl) rfl rfl rfl rfl trivial (Dr.off 12 rfl (by kernel_rfl) rfl rfl rfl rfl trivial (Dr.off 13 rfl (by kernel_rfl) rfl rfl rfl rfl trivial (Dr.off 14 rfl (by kernel_rfl) rfl rfl rfl rfl trivial (Dr.off 15 rfl (by kernel_rfl) rfl rfl rfl rfl trivial (Dr.off 16 rfl (by kernel_rfl) rfl rfl rfl rfl trivial (Dr.off 17 rfl (by kernel_rfl) rfl rfl rfl rfl trivial (Dr.off 18 rfl (by kernel_rfl) rfl rfl rfl rfl trivial (Dr.take 19 rfl (by kernel_rfl) (Val.pickT rfl rfl) rfl trivial (Dr.take 20 rfl (by kernel_rfl) (Val.move rfl) rfl trivial (Dr.off 21 rfl (by kernel_rfl) rfl rfl rfl rfl trivial (Dr.off 22 rfl (by kernel_rfl) rfl rfl rfl rfl trivial (Dr.off 23 rfl (by kernel_rfl) rfl rfl rfl rfl trivial (Dr.off 24 rfl (by kernel_rfl) rfl rfl rfl rfl trivial (Dr.off 25 rfl (by kernel_rfl) rfl rfl rfl rfl trivial (Dr.off 26 rfl (by kernel_rfl) rfl rfl rfl rfl trivial (Dr.take 27 rfl (by kernel_rfl) (Val.pickT rfl rfl) rfl trivial (Dr.done (by kernel_rfl) (Rx.seq (Cd.yes rfl (Cd.seq (Cd.region (Rg.val (Val.assign rfl) rfl (Rg.nil (Rx.seq (Cd.ret (Rx.pastR (Rx.inr (Rx.pastR (Rx.pastR (Rx.inr (Rx.pastR (Rx.ret1 rfl rfl fun w hm_ => (⟨by have hG_ := hG; rw [dropc hx3, winF] at hG_; rw [hG_]; simp [*], hm_.below⟩))))))))))))))))))))))))))))))))))))
      · replace c4 := of_decide_eq_false c4
        refine Dr.takeG 8 rfl (by kernel_rfl) rfl rfl rfl (Val.move rfl) rfl trivial (Dr.takeG 9 rfl (by kernel_rfl) rfl rfl rfl (Val.move rfl) rfl trivial (Dr.takeG 10 rfl (by kernel_rfl) rfl rfl rfl (Val.ide Try.underlying28 sz59 rfl rfl hR (by first | rfl | omega | (simp; done)) hx3 (Nat.le_refl _)) rfl trivial (Dr.takeG 11 rfl (by kernel_rfl) rfl rfl rfl (Val.fae (k := 0) rfl (hR.ne hx3) fa59_0) rfl trivial (Dr.takeG 12 rfl (by kernel_rfl) rfl rfl rfl (Val.loadE (k := 0) rfl sc2 hR hx3 rfl) rfl trivial (Dr.takeG 13 rfl (by kernel_rfl) rfl rfl rfl (Val.move rfl) rfl trivial (Dr.takeG 14 rfl (by kernel_rfl) rfl rfl rfl (Val.move rfl) rfl trivial (Dr.takeG 15 rfl (by kernel_rfl) rfl rfl rfl (Val.ide Try.underlying28 sz59 rfl rfl hR (by first | rfl | omega | (simp; done)) hx3 (Nat.le_refl _)) rfl trivial (Dr.takeG 16 rfl (by kernel_rfl) rfl rfl rfl (Val.fae (k := 1) rfl (hR.ne hx3) fa59_1) rfl trivial (Dr.takeG 17 rfl (by kernel_rfl) rfl rfl rfl (Val.loadE (k := 1) rfl sc2 hR hx3 rfl) rfl trivial (Dr.takeG 18 rfl (by kernel_rfl) rfl rfl rfl (Val.geq rfl rfl) rfl trivial (Dr.take 19 rfl (by kernel_rfl) (Val.pickF rfl rfl) rfl trivial (Dr.take 20 rfl (by kernel_rfl) (Val.move rfl) rfl trivial (Dr.split 31 rfl (fun c5 => ?_) (fun c5 => ?_))))))))))))))
        · replace c5 := of_decide_eq_true c5
          refine Dr.off 21 rfl (by kernel_rfl) rfl rfl rfl rfl trivial (Dr.off 22 rfl (by kernel_rfl) rfl rfl rfl rfl trivial (Dr.off 23 rfl (by kernel_rfl) rfl rfl rfl rfl trivial (Dr.off 24 rfl (by kernel_rfl) rfl rfl rfl rfl trivial (Dr.off 25 rfl (by kernel_rfl) rfl rfl rfl rfl trivial (Dr.off 26 rfl (by kernel_rfl) rfl rfl rfl rfl trivial (Dr.take 27 rfl (by kernel_rfl) (Val.pickT rfl rfl) rfl trivial (Dr.done (by kernel_rfl) (Rx.seq (Cd.yes rfl (Cd.seq (Cd.region (Rg.val (Val.assign rfl) rfl (Rg.nil (Rx.seq (Cd.ret (Rx.pastR (Rx.inr (Rx.pastR (Rx.pastR (Rx.inr (Rx.pastR (Rx.ret1 rfl rfl fun w hm_ => (⟨by have hG_ := hG; rw [dropc hx3, winF] at hG_; rw [hG_]; simp [*], hm_.below⟩)))))))))))))))))))))))
        · replace c5 := of_decide_eq_false c5
          refine Dr.takeG 21 rfl (by kernel_rfl) rfl rfl rfl (Val.move rfl) rfl trivial (Dr.takeG 22 rfl (by kernel_rfl) rfl rfl rfl (Val.move rfl) rfl trivial (Dr.takeG 23 rfl (by kernel_rfl) rfl rfl rfl (Val.ide Try.underlying28 sz59 rfl rfl hR (by first | rfl | omega | (simp; done)) hx3 (Nat.le_refl _)) rfl trivial (Dr.takeG 24 rfl (by kernel_rfl) rfl rfl rfl (Val.fae (k := 1) rfl (hR.ne hx3) fa59_1) rfl trivial (Dr.takeG 25 rfl (by kernel_rfl) rfl rfl rfl (Val.loadE (k := 1) rfl sc2 hR hx3 rfl) rfl trivial (Dr.takeG 26 rfl (by kernel_rfl) rfl rfl rfl (Val.gtr rfl rfl) rfl trivial (Dr.take 27 rfl (by kernel_rfl) (Val.pickF rfl rfl) rfl trivial (Dr.done (by kernel_rfl) (Rx.seq (Cd.cond rfl (fun c6 => ?_) (fun c6 => ?_))))))))))
          · replace c6 := of_decide_eq_true c6
            refine Cd.seq (Cd.region (Rg.val (Val.assign rfl) rfl (Rg.nil (Rx.seq (Cd.ret (Rx.pastR (Rx.inr (Rx.pastR (Rx.pastR (Rx.inr (Rx.pastR (Rx.ret1 rfl rfl fun w hm_ => (⟨by have hG_ := hG; rw [dropc hx3, winF] at hG_; rw [hG_]; simp [*], hm_.below⟩)))))))))))))
          · replace c6 := of_decide_eq_false c6
            refine Cd.skip (Rx.seq (Cd.region (Rg.val (Val.move rfl) rfl (Rg.val (Val.move rfl) rfl (Rg.val (Val.ide Try.underlying28 sz59 rfl rfl hR (by first | rfl | omega | (simp; done)) hx3 (Nat.le_refl _)) rfl (Rg.val (Val.fae (k := 1) rfl (hR.ne hx3) fa59_1) rfl (Rg.val (Val.loadE (k := 1) rfl sc2 hR hx3 rfl) rfl (Rg.val (Val.assign rfl) rfl (Rg.nil (Rx.inb (Rx.seq (Cd.region (Rg.val (Val.move rfl) rfl (Rg.val (Val.addN rfl rfl (by unfold in64; omega)) rfl (Rg.val (Val.assign rfl) rfl (Rg.nil ?_))))))))))))))))
            refine Rx.meet (i + 1, x2.t) ⟨⟨by omega, by have hG_ := hG; rw [dropc hx3, winF] at hG_; simpa [*] using hG_⟩, by show xs.length - (i + 1) < xs.length - i; omega⟩ ⟨rfl, rfl, rfl, trivial⟩ trivial
    · replace c1 := of_decide_eq_false c1
      refine Cd.exit (Rx.pastE (Rx.pastE (Rx.hit (Rx.seq (Cd.seq (Cd.region (Rg.val (Val.assign rfl) rfl (Rg.nil (Rx.seq (Cd.ret (Rx.ret1 rfl rfl fun w hm_ => (⟨by have hG_ := hG; rw [drop_all (by omega), winF] at hG_; rw [hG_]; try rfl, hm_.below⟩))))))))))))

theorem first_gives (a : Option Addr) (cap : Nat) (xs : List Wn) (m k : Int) (w : World) (hR : Rdb w a 2 encWn xs) (hlen : xs.length ≤ 9223372036854775807) (hv : ∀ w ∈ xs, 0 ≤ w.f ∧ w.f < w.t ∧ w.t ≤ 1099511627776) (hm0 : 0 ≤ m ∧ m ≤ 10080) (hk0 : -1125899906842624 ≤ k ∧ k ≤ 1125899906842624) : Gives Try.prog 69 #[.slice a xs.length cap, .int .i64 m, .int .i64 k] w (.tuple #[.int .i64 ((firstF m k xs).getD 0), .bool (firstF m k xs).isSome]) := by
  refine calls_of (vs := [.slice a xs.length cap, .int .i64 m, .int .i64 k]) Try.func69 rfl rfl rfl ?_
  show Cd _ _ _ _ _ [(0, .slice a xs.length cap), (1, .int .i64 m), (2, .int .i64 k)] []
  refine Cd.seq (Cd.region (Rg.val (Val.assign rfl) rfl (Rg.val (Val.assign rfl) rfl (Rg.nil (Rx.seq (Cd.seq (Cd.seq (Cd.region (Rg.val (Val.move rfl) rfl (Rg.val (Val.len Try.underlying28 rfl) rfl (Rg.val (Val.move rfl) rfl (Rg.nil (Rx.seq (Cd.block ?_))))))))))))))
  refine Cd.loop (A := Nat) (fun i : Nat => i ≤ xs.length ∧ firstF m k xs = firstF m k (xs.drop i))
      (fun i : Nat => [(1, .int .i64 m), (2, .int .i64 k), (11, .slice a xs.length cap), (12, .int .i64 (xs.length : Int)), (13, .int .i64 (i : Int))])
      (fun i : Nat => [])
      (fun i : Nat => xs.length - i) 0 ?_ ⟨rfl, rfl, rfl, rfl, rfl, trivial⟩ trivial ?_
  · exact ⟨by omega, rfl⟩
  · rintro i ⟨hi, hG⟩
    show Cd _ _ _ _ _ [(1, .int .i64 m), (2, .int .i64 k), (11, .slice a xs.length cap), (12, .int .i64 (xs.length : Int)), (13, .int .i64 (i : Int))] []
    refine Cd.seq (Cd.region (Rg.val (Val.lss rfl rfl) rfl (Rg.nil (Rx.seq (Cd.seq (Cd.cond rfl (fun c1 => ?_) (fun c1 => ?_)))))))
    · replace c1 := of_decide_eq_true c1
      refine Cd.skip (Rx.seq (Cd.seq (Cd.block (Cd.seq (Cd.region ?_)))))
      obtain ⟨x2, hx3⟩ : ∃ x, xs[i]? = some x := ⟨_, List.getElem?_eq_getElem (by omega)⟩
      have hv_x2 := hv _ (List.mem_of_getElem? hx3)
      refine Rg.val (Val.ide Try.underlying28 sz59 rfl rfl hR (by first | rfl | omega | (simp; done)) hx3 (Nat.le_refl _)) rfl (Rg.val (Val.loadEA rfl ag59 hR hx3) rfl (Rg.eff (Eff.alloc 1 zv59 rfl) rfl fun b1 _ => (Rg.eff (Eff.storeAll (l := 1) sz59 rfl rfl rfl rfl rfl rfl) rfl fun _ _ => (Rg.nil (Rx.seq (Cd.seq (Cd.region (Rg.val (Val.move rfl) rfl (Rg.val (Val.fa rfl (fa59_0 _ _)) rfl (Rg.val (Val.load (l := 1) rfl rfl sc2 rfl) rfl (Rg.val (Val.max rfl rfl) rfl (Rg.val (Val.assign rfl) rfl (Rg.nil (Rx.seq (Cd.seq (Cd.region (Rg.val (Val.move rfl) rfl (Rg.val (Val.move rfl) rfl (Rg.val (Val.addN rfl rfl (by unfold in64; omega)) rfl (Rg.val (Val.fa rfl (fa59_1 _ _)) rfl (Rg.val (Val.load (l := 1) rfl rfl sc2 rfl) rfl (Rg.val (Val.leq rfl rfl) rfl (Rg.nil (Rx.seq (Cd.cond rfl (fun c4 => ?_) (fun c4 => ?_))))))))))))))))))))))))))
      · replace c4 := of_decide_eq_true c4
        refine Cd.seq (Cd.region (Rg.val (Val.move rfl) rfl (Rg.val (Val.assign rfl) rfl (Rg.val (Val.assign rfl) rfl (Rg.nil (Rx.seq (Cd.ret (Rx.inr (Rx.pastR (Rx.pastR (Rx.inr (Rx.pastR (Rx.ret2 rfl rfl rfl fun w hm_ => (⟨by have hG_ := hG; rw [dropc hx3, firstF, if_pos (by omega)] at hG_; rw [hG_]; rfl, hm_.below⟩))))))))))))))
      · replace c4 := of_decide_eq_false c4
        refine Cd.skip (Rx.inb (Rx.seq (Cd.region (Rg.val (Val.addN rfl rfl (by unfold in64; omega)) rfl (Rg.val (Val.move rfl) rfl (Rg.nil ?_))))))
        refine Rx.meet (i + 1) ⟨⟨by omega, by have hG_ := hG; rw [dropc hx3, firstF, if_neg (by omega)] at hG_; exact hG_⟩, by omega⟩ ⟨rfl, rfl, rfl, rfl, rfl, trivial⟩ trivial
    · replace c1 := of_decide_eq_false c1
      refine Cd.exit (Rx.pastE (Rx.pastE (Rx.hit (Rx.seq (Cd.seq (Cd.region (Rg.val (Val.assign rfl) rfl (Rg.val (Val.assign rfl) rfl (Rg.nil (Rx.seq (Cd.ret (Rx.ret2 rfl rfl rfl fun w hm_ => (⟨by have hG_ := hG; rw [drop_all (by omega), firstF] at hG_; rw [hG_]; rfl, hm_.below⟩)))))))))))))

theorem rfirst_gives (a : Option Addr) (cap : Nat) (xs : List Wn) (m k : Int) (w : World) (hR : Rdb w a 2 encWn xs) (hlen : xs.length ≤ 9223372036854775807) (hv : ∀ w ∈ xs, 0 ≤ w.f ∧ w.f < w.t ∧ w.t ≤ 1099511627776) (hm0 : 0 ≤ m ∧ m ≤ 10080) (hk0 : in64 k) : Gives Try.prog 70 #[.slice a xs.length cap, .int .i64 m, .int .i64 k] w (.int .i64 ((firstF m k xs).getD (-1))) := by
  refine calls_of (vs := [.slice a xs.length cap, .int .i64 m, .int .i64 k]) Try.func70 rfl rfl rfl ?_
  show Cd _ _ _ _ _ [(0, .slice a xs.length cap), (1, .int .i64 m), (2, .int .i64 k)] []
  refine Cd.seq (Cd.region (Rg.val (Val.assign rfl) rfl (Rg.nil (Rx.seq (Cd.seq (Cd.seq (Cd.region (Rg.val (Val.assign rfl) rfl (Rg.nil (Rx.seq (Cd.block ?_)))))))))))
  refine Cd.loop (A := Nat) (fun i : Nat => i ≤ xs.length ∧ firstF m k xs = firstF m k (xs.drop i))
      (fun i : Nat => [(0, .slice a xs.length cap), (1, .int .i64 m), (2, .int .i64 k), (7, .int .i64 (i : Int))])
      (fun i : Nat => [])
      (fun i : Nat => xs.length - i) 0 ?_ ⟨rfl, rfl, rfl, rfl, trivial⟩ trivial ?_
  · exact ⟨by omega, rfl⟩
  · rintro i ⟨hi, hG⟩
    show Cd _ _ _ _ _ [(0, .slice a xs.length cap), (1, .int .i64 m), (2, .int .i64 k), (7, .int .i64 (i : Int))] []
    refine Cd.seq (Cd.seq (Cd.region (Rg.val (Val.move rfl) rfl (Rg.val (Val.move rfl) rfl (Rg.val (Val.len Try.underlying28 rfl) rfl (Rg.val (Val.lss rfl rfl) rfl (Rg.nil (Rx.seq (Cd.cond rfl (fun c1 => ?_) (fun c1 => ?_))))))))))
    · replace c1 := of_decide_eq_true c1
      refine Cd.skip (Rx.seq (Cd.seq (Cd.block (Cd.seq (Cd.region (Rg.val (Val.move rfl) rfl (Rg.val (Val.move rfl) rfl (Rg.val (Val.move rfl) rfl ?_))))))))
      obtain ⟨x2, hx3⟩ : ∃ x, xs[i]? = some x := ⟨_, List.getElem?_eq_getElem (by omega)⟩
      have hv_x2 := hv _ (List.mem_of_getElem? hx3)
      refine Rg.val (Val.ide Try.underlying28 sz59 rfl rfl hR (by first | rfl | omega | (simp; done)) hx3 (Nat.le_refl _)) rfl (Rg.val (Val.fae (k := 0) rfl (hR.ne hx3) fa59_0) rfl (Rg.val (Val.loadE (k := 0) rfl sc2 hR hx3 rfl) rfl (Rg.val (Val.max rfl rfl) rfl (Rg.val (Val.assign rfl) rfl (Rg.nil (Rx.seq (Cd.seq (Cd.region (Rg.val (Val.move rfl) rfl (Rg.val (Val.move rfl) rfl (Rg.val (Val.move rfl) rfl (Rg.val (Val.ide Try.underlying28 sz59 rfl rfl hR (by first | rfl | omega | (simp; done)) hx3 (Nat.le_refl _)) rfl (Rg.val (Val.fae (k := 1) rfl (hR.ne hx3) fa59_1) rfl (Rg.val (Val.loadE (k := 1) rfl sc2 hR hx3 rfl) rfl (Rg.val (Val.move rfl) rfl (Rg.val (Val.subN rfl rfl (by unfold in64; omega)) rfl (Rg.val (Val.leq rfl rfl) rfl (Rg.nil (Rx.seq (Cd.cond rfl (fun c4 => ?_) (fun c4 => ?_)))))))))))))))))))))
      · replace c4 := of_decide_eq_true c4
        refine Cd.seq (Cd.region (Rg.val (Val.move rfl) rfl (Rg.val (Val.assign rfl) rfl (Rg.nil (Rx.seq (Cd.ret (Rx.inr (Rx.pastR (Rx.pastR (Rx.inr (Rx.pastR (Rx.ret1 rfl rfl fun w hm_ => (⟨by have hG_ := hG; rw [dropc hx3, firstF, if_pos (by omega)] at hG_; rw [hG_]; rfl, hm_.below⟩)))))))))))))
      · replace c4 := of_decide_eq_false c4
        refine Cd.skip (Rx.inb (Rx.seq (Cd.region (Rg.val (Val.move rfl) rfl (Rg.val (Val.addN rfl rfl (by unfold in64; omega)) rfl (Rg.val (Val.assign rfl) rfl (Rg.nil ?_)))))))
        refine Rx.meet (i + 1) ⟨⟨by omega, by have hG_ := hG; rw [dropc hx3, firstF, if_neg (by omega)] at hG_; exact hG_⟩, by omega⟩ ⟨rfl, rfl, rfl, rfl, trivial⟩ trivial
    · replace c1 := of_decide_eq_false c1
      refine Cd.exit (Rx.pastE (Rx.pastE (Rx.hit (Rx.seq (Cd.seq (Cd.region (Rg.val (Val.assign rfl) rfl (Rg.nil (Rx.seq (Cd.ret (Rx.ret1 rfl rfl fun w hm_ => (⟨by have hG_ := hG; rw [drop_all (by omega), firstF] at hG_; rw [hG_]; rfl, hm_.below⟩))))))))))))

theorem rfits_gives (a : Option Addr) (cap : Nat) (xs : List Wn) (m k : Int) (w : World) (hR : Rdb w a 2 encWn xs) (hlen : xs.length ≤ 9223372036854775807) (hv : ∀ w ∈ xs, 0 ≤ w.f ∧ w.f < w.t ∧ w.t ≤ 1099511627776) (hm0 : 0 ≤ m ∧ m ≤ 10080) : Gives Try.prog 75 #[.slice a xs.length cap, .int .i64 m, .int .i64 k] w (.bool (fitsF m k xs)) := by
  refine calls_of (vs := [.slice a xs.length cap, .int .i64 m, .int .i64 k]) Try.func75 rfl rfl rfl ?_
  show Cd _ _ _ _ _ [(0, .slice a xs.length cap), (1, .int .i64 m), (2, .int .i64 k)] []
  refine Cd.seq (Cd.region (Rg.val (Val.assign rfl) rfl (Rg.nil (Rx.seq (Cd.seq (Cd.seq (Cd.region (Rg.val (Val.assign rfl) rfl (Rg.nil (Rx.seq (Cd.block ?_)))))))))))
  refine Cd.loop (A := Nat) (fun i : Nat => i ≤ xs.length ∧ fitsF m k xs = fitsF m k (xs.drop i))
      (fun i : Nat => [(0, .slice a xs.length cap), (1, .int .i64 m), (2, .int .i64 k), (7, .int .i64 (i : Int))])
      (fun i : Nat => [])
      (fun i : Nat => xs.length - i) 0 ?_ ⟨rfl, rfl, rfl, rfl, trivial⟩ trivial ?_
  · exact ⟨by omega, rfl⟩
  · rintro i ⟨hi, hG⟩
    show Cd _ _ _ _ _ [(0, .slice a xs.length cap), (1, .int .i64 m), (2, .int .i64 k), (7, .int .i64 (i : Int))] []
    refine Cd.seq (Cd.seq (Cd.region (Rg.val (Val.move rfl) rfl (Rg.val (Val.move rfl) rfl (Rg.val (Val.len Try.underlying28 rfl) rfl (Rg.val (Val.lss rfl rfl) rfl (Rg.nil (Rx.seq (Cd.cond rfl (fun c1 => ?_) (fun c1 => ?_))))))))))
    · replace c1 := of_decide_eq_true c1
      refine Cd.skip (Rx.seq (Cd.seq (Cd.block (Cd.seq (Cd.region (Rg.val (Val.move rfl) rfl (Rg.val (Val.move rfl) rfl ?_)))))))
      obtain ⟨x2, hx3⟩ : ∃ x, xs[i]? = some x := ⟨_, List.getElem?_eq_getElem (by omega)⟩
      have hv_x2 := hv _ (List.mem_of_getElem? hx3)
      refine Rg.val (Val.ide Try.underlying28 sz59 rfl rfl hR (by first | rfl | omega | (simp; done)) hx3 (Nat.le_refl _)) rfl (Rg.val (Val.fae (k := 0) rfl (hR.ne hx3) fa59_0) rfl (Rg.val (Val.loadE (k := 0) rfl sc2 hR hx3 rfl) rfl (Rg.val (Val.move rfl) rfl (Rg.val (Val.leq rfl rfl) rfl (Rg.val (Val.move rfl) rfl (Rg.split 21 rfl (fun c4 => ?_) (fun c4 => ?_)))))))
      · replace c4 := of_decide_eq_true c4
        refine Rg.on rfl rfl rfl (Rg.val (Val.move rfl) rfl (Rg.on rfl rfl rfl (Rg.val (Val.move rfl) rfl (Rg.on rfl rfl rfl (Rg.val (Val.move rfl) rfl (Rg.on rfl rfl rfl (Rg.val (Val.ide Try.underlying28 sz59 rfl rfl hR (by first | rfl | omega | (simp; done)) hx3 (Nat.le_refl _)) rfl (Rg.on rfl rfl rfl (Rg.val (Val.fae (k := 1) rfl (hR.ne hx3) fa59_1) rfl (Rg.on rfl rfl rfl (Rg.val (Val.loadE (k := 1) rfl sc2 hR hx3 rfl) rfl (Rg.on rfl rfl rfl (Rg.val (Val.move rfl) rfl (Rg.on rfl rfl rfl (Rg.val (Val.subN rfl rfl (by unfold in64; omega)) rfl (Rg.on rfl rfl rfl (Rg.val (Val.leq rfl rfl) rfl (Rg.val (Val.pickT rfl rfl) rfl (Rg.nil (Rx.seq (Cd.cond rfl (fun c5 => ?_) (fun c5 => ?_))))))))))))))))))))))
        · replace c5 := of_decide_eq_true c5
          refine Cd.seq (Cd.region (Rg.val (Val.assign rfl) rfl (Rg.nil (Rx.seq (Cd.ret (Rx.inr (Rx.pastR (Rx.pastR (Rx.inr (Rx.pastR (Rx.ret1 rfl rfl fun w hm_ => (⟨by have hG_ := hG; rw [dropc hx3] at hG_; rw [hG_]; simp [fitsF, between, *], hm_.below⟩))))))))))))
        · replace c5 := of_decide_eq_false c5
          refine Cd.skip (Rx.inb (Rx.seq (Cd.region (Rg.val (Val.move rfl) rfl (Rg.val (Val.addN rfl rfl (by unfold in64; omega)) rfl (Rg.val (Val.assign rfl) rfl (Rg.nil ?_)))))))
          refine Rx.meet (i + 1) ⟨⟨by omega, by have hG_ := hG; rw [dropc hx3] at hG_; rw [hG_]; simp [fitsF, between, *]; try omega⟩, by omega⟩ ⟨rfl, rfl, rfl, rfl, trivial⟩ trivial
      · replace c4 := of_decide_eq_false c4
        refine Rg.off rfl rfl rfl rfl (Rg.off rfl rfl rfl rfl (Rg.off rfl rfl rfl rfl (Rg.off rfl rfl rfl rfl (Rg.off rfl rfl rfl rfl (Rg.off rfl rfl rfl rfl (Rg.off rfl rfl rfl rfl (Rg.off rfl rfl rfl rfl (Rg.off rfl rfl rfl rfl (Rg.val (Val.pickF rfl rfl) rfl (Rg.nil (Rx.seq (Cd.no rfl (Cd.skip (Rx.inb (Rx.seq (Cd.region (Rg.val (Val.move rfl) rfl (Rg.val (Val.addN rfl rfl (by unfold in64; omega)) rfl (Rg.val (Val.assign rfl) rfl (Rg.nil ?_))))))))))))))))))))
        refine Rx.meet (i + 1) ⟨⟨by omega, by have hG_ := hG; rw [dropc hx3] at hG_; rw [hG_]; simp [fitsF, between, *]; try omega⟩, by omega⟩ ⟨rfl, rfl, rfl, rfl, trivial⟩ trivial
    · replace c1 := of_decide_eq_false c1
      refine Cd.exit (Rx.pastE (Rx.pastE (Rx.hit (Rx.seq (Cd.seq (Cd.region (Rg.val (Val.assign rfl) rfl (Rg.nil (Rx.seq (Cd.ret (Rx.ret1 rfl rfl fun w hm_ => (⟨by have hG_ := hG; rw [drop_all (by omega)] at hG_; rw [hG_]; rfl, hm_.below⟩))))))))))))

/-- Where the first element lies of which p holds; -1: nowhere. -/
def idxF {α : Type} (p : α → Bool) : List α → Int
  | [] => -1
  | x :: r => if p x then 0 else let k := idxF p r; if k < 0 then -1 else k + 1
theorem idxF_ge {α : Type} (p : α → Bool) : ∀ xs : List α, -1 ≤ idxF p xs
  | [] => by simp [idxF]
  | x :: r => by
    have := idxF_ge p r
    simp only [idxF]; split
    · omega
    · split <;> omega
theorem idxF_at {α : Type} {p : α → Bool} : ∀ {xs : List α} {i : Nat} {x : α}, xs[i]? = some x → (xs.take i).all (fun z => !p z) = true → p x = true → idxF p xs = i
  | [], i, x, h, _, _ => by simp at h
  | z :: r, 0, x, h, _, hp => by simp at h; subst h; simp [idxF, hp]
  | z :: r, i + 1, x, h, ha, hp => by
    simp only [List.take_succ_cons, List.all_cons, Bool.and_eq_true, Bool.not_eq_eq_eq_not, Bool.not_true] at ha
    have := idxF_at (xs := r) (i := i) (by simpa using h) ha.2 hp
    simp only [idxF, ha.1, Bool.false_eq_true, if_false, this]
    rw [if_neg (by omega)]; omega
theorem idxF_none {α : Type} {p : α → Bool} : ∀ {xs : List α}, xs.all (fun z => !p z) = true → idxF p xs = -1
  | [], _ => rfl
  | z :: r, ha => by
    simp only [List.all_cons, Bool.and_eq_true, Bool.not_eq_eq_eq_not, Bool.not_true] at ha
    have := idxF_none (xs := r) ha.2
    simp only [idxF, ha.1, Bool.false_eq_true, if_false, this]; rfl
theorem idxF_any {α : Type} {p : α → Bool} : ∀ {xs : List α}, decide (0 ≤ idxF p xs) = xs.any p
  | [] => rfl
  | z :: r => by
    have ih := idxF_any (p := p) (xs := r)
    simp only [idxF, List.any_cons]
    cases hp : p z
    · simp only [Bool.false_eq_true, if_false, Bool.false_or, ← ih]
      by_cases h : idxF p r < 0
      · rw [if_pos h]; simp; omega
      · rw [if_neg h]; simp; omega
    · simp
theorem all_snoc {α : Type} {xs : List α} {i : Nat} {x : α} {q : α → Bool} (h : xs[i]? = some x) (ha : (xs.take i).all q = true) (hq : q x = true) : (xs.take (i + 1)).all q = true := by
  rw [List.take_add_one, h, List.all_append, ha]; simp [hq]
theorem idxF_lt {α : Type} {p : α → Bool} : ∀ {xs : List α}, idxF p xs < xs.length
  | [] => by simp [idxF]
  | z :: r => by
    have := idxF_lt (p := p) (xs := r)
    simp only [idxF, List.length_cons]; split
    · omega
    · split <;> omega
theorem winIndex_gives (a : Option Addr) (cap : Nat) (xs : List Wn) (f : FuncId) (fs us : List Value) (p : Wn → Bool) (w : World) (hR : Rdb w a 2 encWn xs) (hen : Enters Try.prog f) (hlen : xs.length ≤ 9223372036854775807) (hf : ∀ {i : Nat} (x : Wn) (w' : World), Below w.heap.size w w' → xs[i]? = some x → Gives Try.prog f (fs ++ [Value.agg (encWn x).toArray] ++ us).toArray w' (.bool (p x))) : Gives Try.prog 138 #[.slice a xs.length cap, .func (.func f) fs.toArray us.toArray] w (.int .i64 (idxF p xs)) := by
  refine calls_of (vs := [.slice a xs.length cap, .func (.func f) fs.toArray us.toArray]) Try.func138 rfl rfl rfl ?_
  show Cd _ _ _ _ _ [(0, .slice a xs.length cap), (1, .func (.func f) fs.toArray us.toArray)] []
  refine Cd.seq (Cd.region (Rg.val (Val.assign rfl) rfl (Rg.nil (Rx.seq (Cd.seq (Cd.seq (Cd.region (Rg.val (Val.move rfl) rfl (Rg.val (Val.len Try.underlying28 rfl) rfl (Rg.val (Val.move rfl) rfl (Rg.nil (Rx.seq (Cd.block ?_)))))))))))))
  refine Cd.loop (A := Nat) (fun i : Nat => i ≤ xs.length ∧ (xs.take i).all (fun z => !p z) = true)
      (fun i : Nat => [(0, .slice a xs.length cap), (1, .func (.func f) fs.toArray us.toArray), (7, .int .i64 (xs.length : Int)), (8, .int .i64 (i : Int))])
      (fun i : Nat => [])
      (fun i : Nat => xs.length - i) 0 ?_ ⟨rfl, rfl, rfl, rfl, trivial⟩ trivial ?_
  · exact ⟨by omega, rfl⟩
  · rintro i ⟨hi, hall⟩
    show Cd _ _ _ _ _ [(0, .slice a xs.length cap), (1, .func (.func f) fs.toArray us.toArray), (7, .int .i64 (xs.length : Int)), (8, .int .i64 (i : Int))] []
    refine Cd.seq (Cd.region (Rg.val (Val.lss rfl rfl) rfl (Rg.nil (Rx.seq (Cd.seq (Cd.cond rfl (fun c1 => ?_) (fun c1 => ?_)))))))
    · replace c1 := of_decide_eq_true c1
      refine Cd.skip (Rx.seq (Cd.seq (Cd.block (Cd.seq (Cd.region (Rg.val (Val.move rfl) rfl (Rg.val (Val.assign rfl) rfl (Rg.nil (Rx.seq (Cd.seq (Cd.region (Rg.val (Val.move rfl) rfl (Rg.val (Val.move rfl) rfl (Rg.val (Val.move rfl) rfl ?_))))))))))))))
      obtain ⟨x2, hx3⟩ : ∃ x, xs[i]? = some x := ⟨_, List.getElem?_eq_getElem (by omega)⟩
      refine Rg.val (Val.ide Try.underlying28 sz59 rfl rfl hR (by first | rfl | omega | (simp; done)) hx3 (Nat.le_refl _)) rfl (Rg.val (Val.loadEA rfl ag59 hR hx3) rfl (Rg.eff (Eff.give rfl rfl hen rfl (fun w hm => hf _ w hm.below hx3)) rfl fun _ _ => (Rg.nil (Rx.seq (Cd.cond rfl (fun c4 => ?_) (fun c4 => ?_))))))
      · refine Cd.seq (Cd.region (Rg.val (Val.move rfl) rfl (Rg.val (Val.assign rfl) rfl (Rg.nil (Rx.seq (Cd.ret (Rx.inr (Rx.pastR (Rx.pastR (Rx.inr (Rx.pastR (Rx.ret1 rfl rfl fun w hm_ => (⟨by rw [idxF_at hx3 hall c4], hm_.below⟩)))))))))))))
      · refine Cd.skip (Rx.inb (Rx.seq (Cd.region (Rg.val (Val.addN rfl rfl (by unfold in64; omega)) rfl (Rg.val (Val.move rfl) rfl (Rg.nil ?_))))))
        refine Rx.meet (i + 1) ⟨⟨by omega, all_snoc hx3 hall (by simp [c4])⟩, by omega⟩ ⟨rfl, rfl, rfl, rfl, trivial⟩ trivial
    · replace c1 := of_decide_eq_false c1
      refine Cd.exit (Rx.pastE (Rx.pastE (Rx.hit (Rx.seq (Cd.seq (Cd.region (Rg.val (Val.assign rfl) rfl (Rg.nil (Rx.seq (Cd.ret (Rx.ret1 rfl rfl fun w hm_ => (⟨by rw [idxF_none (by rw [List.take_of_length_le (by omega)] at hall; exact hall)], hm_.below⟩))))))))))))

theorem winAny_gives (a : Option Addr) (cap : Nat) (xs : List Wn) (f : FuncId) (fs us : List Value) (p : Wn → Bool) (w : World) (hR : Rdb w a 2 encWn xs) (hen : Enters Try.prog f) (hlen : xs.length ≤ 9223372036854775807) (hf : ∀ {i : Nat} (x : Wn) (w' : World), Below w.heap.size w w' → xs[i]? = some x → Gives Try.prog f (fs ++ [Value.agg (encWn x).toArray] ++ us).toArray w' (.bool (p x))) : Gives Try.prog 125 #[.slice a xs.length cap, .func (.func f) fs.toArray us.toArray] w (.bool (xs.any p)) := by
  refine calls_of (vs := [.slice a xs.length cap, .func (.func f) fs.toArray us.toArray]) Try.func125 rfl rfl rfl ?_
  show Cd _ _ _ _ _ [(0, .slice a xs.length cap), (1, .func (.func f) fs.toArray us.toArray)] []
  refine Cd.seq (Cd.region (Rg.val (Val.assign rfl) rfl (Rg.nil (Rx.seq (Cd.seq (Cd.region (Rg.val (Val.move rfl) rfl (Rg.val (Val.move rfl) rfl (Rg.eff (Eff.give rfl rfl en138 rfl (fun w hm => winIndex_gives _ _ _ f fs us p w (hm.rdb hR) hen hlen (fun x w' hb => hf x w' ((hm.below.mono (Nat.le_refl _)).trans (hb.mono hm.below.size))))) rfl fun _ _ => (Rg.val (Val.geq rfl rfl) rfl (Rg.val (Val.assign rfl) rfl (Rg.nil (Rx.seq (Cd.ret (Rx.ret1 rfl rfl fun w hm_ => (⟨by rw [idxF_any], hm_.below⟩))))))))))))))))

theorem fits1_gives (b1 b2 : Nat) (f t k m : Int) (w : World) (h1 : ∀ j u, [Value.int .i64 k][j]? = some u → w.cell? ⟨b1, j, none⟩ = some u) (h2 : ∀ j u, [Value.int .i64 m][j]? = some u → w.cell? ⟨b2, j, none⟩ = some u) (hb : in64 (t - m)) : Gives Try.prog 126 #[.agg #[.int .i64 f, .int .i64 t], .pointer (some ⟨b1, 0, none⟩), .pointer (some ⟨b2, 0, none⟩)] w (.bool (between k f (t - m))) := by
  refine calls_of (vs := [.agg #[.int .i64 f, .int .i64 t], .pointer (some ⟨b1, 0, none⟩), .pointer (some ⟨b2, 0, none⟩)]) Try.func126 rfl rfl rfl ?_
  show Cd _ _ _ _ _ [(0, .agg #[.int .i64 f, .int .i64 t]), (1, .pointer (some ⟨b1, 0, none⟩)), (2, .pointer (some ⟨b2, 0, none⟩))] []
  refine Cd.seq (Cd.region (Rg.eff (Eff.box 1 rfl rfl) rfl fun b1 _ => (Rg.val (Val.assign rfl) rfl (Rg.nil (Rx.seq (Cd.seq (Cd.region (Rg.val (Val.loadRec rfl sc2 h1 rfl) rfl (Rg.val (Val.fa rfl (fa59_0 _ _)) rfl (Rg.val (Val.load (l := 1) rfl rfl sc2 rfl) rfl (Rg.val (Val.fa rfl (fa59_1 _ _)) rfl (Rg.val (Val.load (l := 1) rfl rfl sc2 rfl) rfl (Rg.val (Val.loadRec rfl sc2 h2 rfl) rfl (Rg.val (Val.subN rfl rfl (hb)) rfl (Rg.eff (Eff.give rfl rfl en55 rfl (fun w hm => within_gives _ _ _ w)) rfl fun _ _ => (Rg.val (Val.assign rfl) rfl (Rg.nil (Rx.seq (Cd.ret (Rx.ret1 rfl rfl fun w hm_ => (⟨by first | rfl | simp [between, *], hm_.below⟩)))))))))))))))))))))

theorem Below.old {W w : World} (hb : Below W.heap.size W w) {b : Nat} {cs : List Value} (h : ∀ j u, cs[j]? = some u → W.cell? ⟨b, j, none⟩ = some u) : ∀ j u, cs[j]? = some u → w.cell? ⟨b, j, none⟩ = some u :=
  (show Mem W [] w from ⟨hb, fun l r h => by simp [lkp] at h, fun l r h => by simp [lkp] at h, fun l l' r r' h => by simp [lkp] at h⟩).recOld h
theorem fits_gives (a : Option Addr) (cap : Nat) (xs : List Wn) (m k : Int) (w : World) (hR : Rdb w a 2 encWn xs) (hlen : xs.length ≤ 9223372036854775807) (hv : ∀ w ∈ xs, 0 ≤ w.f ∧ w.f < w.t ∧ w.t ≤ 1099511627776) (hm0 : 0 ≤ m ∧ m ≤ 10080) : Gives Try.prog 94 #[.slice a xs.length cap, .int .i64 m, .int .i64 k] w (.bool (fitsF m k xs)) := by
  refine calls_of (vs := [.slice a xs.length cap, .int .i64 m, .int .i64 k]) Try.func94 rfl rfl rfl ?_
  show Cd _ _ _ _ _ [(0, .slice a xs.length cap), (1, .int .i64 m), (2, .int .i64 k)] []
  refine Cd.seq (Cd.region (Rg.eff (Eff.box 1 rfl rfl) rfl fun b1 _ => (Rg.eff (Eff.box 2 rfl rfl) rfl fun b2 _ => (Rg.val (Val.assign rfl) rfl (Rg.nil (Rx.seq (Cd.seq (Cd.region (Rg.val (Val.move rfl) rfl (Rg.val (Val.fn rfl rfl) rfl (Rg.eff (Eff.give rfl rfl en125 rfl (fun w hm => winAny_gives _ _ _ 126 [] [.pointer (some ⟨b2, 0, none⟩), .pointer (some ⟨b1, 0, none⟩)] (fun v => between k v.f (v.t - m)) w (hm.rdb hR) en126 hlen (fun x w' hb_ hx_ => fits1_gives _ _ _ _ _ _ w' (Below.old hb_ (hm.reads (l := 2) rfl)) (Below.old hb_ (hm.reads (l := 1) rfl)) (by have := hv _ (List.mem_of_getElem? hx_); unfold in64; omega)))) rfl fun _ _ => (Rg.val (Val.assign rfl) rfl (Rg.nil (Rx.seq (Cd.ret (Rx.ret1 rfl rfl fun w hm_ => (⟨rfl, hm_.below⟩)))))))))))))))))

end Go.Proofs.Ytdmkedbmoboamaa
