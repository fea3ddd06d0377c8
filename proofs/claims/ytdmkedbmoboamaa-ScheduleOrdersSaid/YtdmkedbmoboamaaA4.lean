/- Walks of functions of the program: what each returns, told by plain functions. -/
import Derived.Test.YtdmkedbmoboamaaA3
import Derived.Test.YtdmkedbmoboamaaSortC
namespace Go.Proofs.Ytdmkedbmoboamaa
open Go.Kx Go.RowKit
set_option maxRecDepth 100000
set_option linter.unusedVariables false
set_option linter.unusedSimpArgs false
set_option linter.unnecessarySimpa false
set_option linter.constructorNameAsVariable false
theorem take_snoc {α : Type} {xs : List α} {i : Nat} {x : α} (h : xs[i]? = some x) : xs.take (i + 1) = xs.take i ++ [x] := by rw [List.take_add_one, h]; rfl
def okV (xs : List Int) (pre : List Int) (x : Int) : Prop := pre = xs.take pre.length ∧ xs[pre.length]? = some x
theorem okV_at {xs : List Int} {i : Nat} {x : Int} (h : xs[i]? = some x) : okV xs (xs.take i) x := by
  have hi := (List.getElem?_eq_some_iff.1 h).1
  have : (xs.take i).length = i := by rw [List.length_take]; omega
  exact ⟨by rw [this], by rw [this]; exact h⟩
theorem values1_iter (b : Nat) (a : Option Addr) (cap : Nat) (xs : List Int) (w : World) (hR : Rdb w a 1 encI xs) (hlen : xs.length ≤ 9223372036854775807) : Iter Try.prog w 108 [.pointer (some ⟨b, 0, none⟩)] [(5, blk b [.slice a xs.length cap] 62)] (fun x : Int => .int .i64 x) (fun _ => []) (okV xs) (fun ys => ys = xs) := by
  intro σ J Rel Relx l s0 w1 hY h0 hm1
  refine calls_in (vs := [.func (.yield l) #[] #[], .pointer (some ⟨b, 0, none⟩)]) Try.func108 rfl rfl rfl (Mem.enter 0 hm1 rfl) ?_
  show Cd _ _ _ _ _ [(0, .func (.yield l) #[] #[]), (1, .pointer (some ⟨b, 0, none⟩))] [(0, restOf w.heap.size w1 (packR ((1, J s0) :: [(5, blk b [.slice a xs.length cap] 62)]))), (1, J s0), (5, blk b [.slice a xs.length cap] 62)]
  refine Cd.seq (Cd.region (Rg.val (Val.load (l := 5) rfl rfl sc62 rfl) rfl (Rg.val (Val.len Try.underlying62 rfl) rfl (Rg.val (Val.move rfl) rfl (Rg.nil (Rx.seq (Cd.block ?_)))))))
  refine Cd.loop (A := Nat × σ) (fun pr_ : Nat × σ => match pr_ with | (i, s) => i ≤ xs.length ∧ Rel (xs.take i) s)
      (fun pr_ : Nat × σ => match pr_ with | (i, s) => [(0, .func (.yield l) #[] #[]), (5, .slice a xs.length cap), (6, .int .i64 (xs.length : Int)), (7, .int .i64 (i : Int))])
      (fun pr_ : Nat × σ => match pr_ with | (i, s) => [(0, restOf w.heap.size w1 (packR ((1, J s0) :: [(5, blk b [.slice a xs.length cap] 62)]))), (1, J s), (5, blk b [.slice a xs.length cap] 62)])
      (fun pr_ : Nat × σ => match pr_ with | (i, s) => xs.length - i) (0, s0) ?_ ⟨rfl, rfl, rfl, rfl, trivial⟩ ⟨rfl, rfl, rfl, trivial⟩ ?_
  · exact ⟨Nat.zero_le _, h0⟩
  · rintro ⟨i, s⟩ ⟨hi, hRel⟩
    show Cd _ _ _ _ _ [(0, .func (.yield l) #[] #[]), (5, .slice a xs.length cap), (6, .int .i64 (xs.length : Int)), (7, .int .i64 (i : Int))] [(0, restOf w.heap.size w1 (packR ((1, J s0) :: [(5, blk b [.slice a xs.length cap] 62)]))), (1, J s), (5, blk b [.slice a xs.length cap] 62)]
    refine Cd.seq (Cd.region (Rg.val (Val.lss rfl rfl) rfl (Rg.nil (Rx.seq (Cd.seq (Cd.cond rfl (fun c1 => ?_) (fun c1 => ?_)))))))
    · replace c1 := of_decide_eq_true c1
      refine Cd.skip (Rx.seq (Cd.seq (Cd.block (Cd.seq (Cd.region ?_)))))
      obtain ⟨x2, hx3⟩ : ∃ x, xs[i]? = some x := ⟨_, List.getElem?_eq_getElem (by omega)⟩
      refine Rg.val (Val.ide Try.underlying62 sz3 rfl rfl hR (by first | rfl | omega | (simp; done)) hx3 (Nat.le_refl _)) rfl (Rg.val (Val.loadE (k := 0) rfl sc3 hR hx3 rfl) rfl (Rg.val (Val.assign rfl) rfl (Rg.nil (Rx.seq (Cd.seq (Cd.region (Rg.val (Val.move rfl) rfl (Rg.val (Val.move rfl) rfl (Rg.eff (Eff.round (B0 := [(0, restOf w.heap.size w1 (packR ((1, J s0) :: [(5, blk b [.slice a xs.length cap] 62)]))), (5, blk b [.slice a xs.length cap] 62)]) hY ((xs.take i)) x2 s rfl rfl rfl hRel (okV_at hx3) ⟨rfl, trivial⟩ ⟨rfl, rfl, trivial⟩ rfl rfl) rfl fun y4 hy4 => (Rg.val (Val.not rfl) rfl (Rg.nil (Rx.seq (Cd.cond rfl (fun c5 => ?_) (fun c5 => ?_))))))))))))))
      · replace c5 := bnot_t c5
        refine Cd.ret (Rx.inr (Rx.pastR (Rx.pastR (Rx.inr (Rx.ret0 rfl fun w hm_ => (⟨⟨_, rfl⟩, y4.2, Turns.of_mem hm1.below hm_ (q := 0) rfl (.of ⟨rfl, trivial⟩) rfl, .inr ⟨_, hy4.2 c5⟩⟩))))))
      · replace c5 := bnot_f c5
        refine Cd.skip (Rx.inb (Rx.seq (Cd.region (Rg.val (Val.addN rfl rfl (by unfold in64; omega)) rfl (Rg.val (Val.move rfl) rfl (Rg.nil ?_))))))
        refine Rx.meet (i + 1, y4.2) ⟨⟨by omega, by rw [take_snoc hx3]; exact hy4.1 c5⟩, by show xs.length - (i + 1) < xs.length - i; omega⟩ ⟨rfl, rfl, rfl, rfl, trivial⟩ ⟨rfl, rfl, rfl, trivial⟩
    · replace c1 := of_decide_eq_false c1
      refine Cd.exit (Rx.pastE (Rx.pastE (Rx.hit (Rx.end0 rfl fun w hm_ => (⟨⟨_, rfl⟩, s, Turns.of_mem hm1.below hm_ (q := 0) rfl (.of ⟨rfl, trivial⟩) rfl, .inl ⟨xs, rfl, by rw [List.take_of_length_le (by omega)] at hRel; exact hRel⟩⟩)))))

theorem values_calls (a : Option Addr) (cap : Nat) (xs : List Int) (w : World) : Calls Try.prog 65 #[.slice a xs.length cap] w fun e w' => ∃ b : Nat, True ∧ e = .returned (.func (.func 108) #[] #[.pointer (some ⟨b, 0, none⟩)]) ∧ Mem w [(5, blk b [.slice a xs.length cap] 62)] w' := by
  refine calls_of (vs := [.slice a xs.length cap]) Try.func65 rfl rfl rfl ?_
  show Cd _ _ _ _ _ [(0, .slice a xs.length cap)] []
  refine Cd.seq (Cd.region (Rg.eff (Eff.box 1 rfl rfl) rfl fun b1 _ => (Rg.val (Val.assign rfl) rfl (Rg.nil (Rx.seq (Cd.seq (Cd.region (Rg.val (Val.fn rfl rfl) rfl (Rg.val (Val.assign rfl) rfl (Rg.nil (Rx.seq (Cd.ret (Rx.ret1 rfl rfl fun w hm_ => (⟨b1, trivial, rfl, hm_.relabel 1 5 rfl⟩))))))))))))))

theorem appendSeq_calls.bsl_0 (y0 : Int) (w : World) : (Instr.buildSlice 62 1 #[(0, .int .i64 y0)]).run Try.prog w = .ok (.slice (some ⟨w.heap.size, 0, none⟩) 1 1) (w.alloc (.cells #[.int .i64 y0] 3)) := by kernel_rfl
open appendSeq_calls in
theorem appendSeq_calls (gf : Nat) (us : List Value) (O : Res) (ok : List Int → Int → Prop) (fin : List Int → Prop) (w : World) (hen : Enters Try.prog gf) (hit : Iter Try.prog w gf us [(5, O)] (fun x : Int => .int .i64 x) (fun _ => []) ok fin) (hN : ∀ pre x, ok pre x → pre.length < 100000) (w1 : World) (hm1 : Mem w [(5, O)] w1) : Calls Try.prog 128 #[.slice none 0 0, .func (.func gf) #[] us.toArray] w1 fun e w' => ∃ p : Option Addr × Nat × List Int, fin p.2.2 ∧ e = .returned (.slice p.1 p.2.2.length p.2.1) ∧ Turns (packR [(5, O)]) w1 (packR [(2, rowL 3 1 encI p.1 p.2.1 p.2.2)]) w' := by
  refine calls_marks (vs := [.slice none 0 0, .func (.func gf) #[] us.toArray]) Try.func128 rfl rfl rfl (Mem.enter 0 hm1 rfl) ?_
  show Cd _ _ _ _ _ [(0, .slice none 0 0), (1, .func (.func gf) #[] us.toArray)] [(0, restOf w.heap.size w1 (packR [(5, O)])), (5, O)]
  refine Cd.seq (Cd.region (Rg.eff (Eff.box 11 rfl rfl) rfl fun b11 _ => (Rg.val (Val.assign rfl) rfl (Rg.nil (Rx.seq (Cd.seq (Cd.seq (Cd.region (Rg.val (Val.move rfl) rfl (Rg.nil (Rx.seq (Cd.block (Cd.gain (fun w hm => Mem.nilRow 2 3 1 encI hm) ?_)))))))))))))
  refine Cd.range (γ := Int) (A := Option Addr × Nat × List Int) (own := [(5, O)]) rfl rfl hen (fun w hm => hit)
      (fun p_ : Option Addr × Nat × List Int => match p_ with | (ar, cr, o) => [(2, rowL 3 1 encI ar cr o), (11, blk b11 [.slice ar o.length cr] 62), (0, restOf w.heap.size w1 (packR [(5, O)]))])
      (fun (pre_ : List Int) (p_ : Option Addr × Nat × List Int) => match p_ with | (ar, cr, o) => o = pre_)
      (fun c_ (pre_ : List Int) (p_ : Option Addr × Nat × List Int) => match p_ with | (ar, cr, o) => False)
      (none, 0, []) ?_ ⟨rfl, rfl, rfl, trivial⟩ ⟨rfl, trivial⟩ rfl (fun _ => ⟨rfl, rfl, rfl⟩) ⟨rfl, rfl, rfl⟩ (fun _ _ => rfl) (fun _ => ⟨rfl, rfl, rfl, rfl⟩) ?_ ?_ ?_
  · exact rfl
  · rintro l_ D_ rest_ r_ pre_ x_ ⟨ar, cr, o⟩ hr_ hI hok_
    refine Cd.weakT (T' := [(0, .slice none 0 0), (1, .func (.func gf) #[] us.toArray), (2, .pointer (some ⟨b11, 0, none⟩)), (4, .slice none 0 0), (6, .func (.func gf) #[] us.toArray), (7, .int .i64 x_)]) (B' := [(0, restOf w.heap.size w1 (packR [(5, O)])), (2, rowL 3 1 encI ar cr o), (11, blk b11 [.slice ar o.length cr] 62), (99, rest_), (100, recR l_ r_), (101, defR D_ (some []))]) ⟨rfl, rfl, rfl, rfl, rfl, rfl, trivial⟩ ⟨rfl, rfl, rfl, rfl, rfl, rfl, trivial⟩ ?_
    refine Cd.region (Rg.val (Val.assign rfl) rfl (Rg.nil (Rx.begin rfl hr_ (Cd.block (Cd.region (Rg.val (Val.load (l := 11) rfl rfl sc62 rfl) rfl (Rg.val (Val.move rfl) rfl (Rg.eff (Eff.buildSlice (cs := [.int .i64 x_]) 12 rfl (fun w => (bsl_0 _) w) rfl) rfl fun b12 _ => (Rg.eff (Eff.append (enc := encI) (ys := [x_]) (bytes := 8) 2 Try.underlying62 (by kernel_rfl) rfl rfl rfl rfl (fun w hm => hm.news (l := 12) rfl rfl) (fun _ => rfl) ones_I (by have := hN _ _ hok_; have := congrArg List.length hI; simp only [List.length_cons, List.length_nil, maxLen]; omega) rfl) rfl fun p1 _ => (Rg.eff (Eff.store (l := 11) sz62 rfl rfl rfl rfl rfl) rfl fun _ _ => (Rg.nil (Rx.inb ?_))))))))))))
    refine Rx.roundN ((p1.1, p1.2, (o ++ [x_]))) (by rw [hI]) ⟨rfl, rfl, rfl, rfl, rfl, rfl, trivial⟩
  · rintro D_ xs_ ⟨ar, cr, o⟩ hfin_ hI
    refine Rx.weakT (T' := [(0, .slice none 0 0), (1, .func (.func gf) #[] us.toArray), (2, .pointer (some ⟨b11, 0, none⟩)), (4, .slice none 0 0), (6, .func (.func gf) #[] us.toArray)]) (B' := [(0, restOf w.heap.size w1 (packR [(5, O)])), (2, rowL 3 1 encI ar cr o), (11, blk b11 [.slice ar o.length cr] 62), (101, defR D_ (some []))]) ⟨rfl, rfl, rfl, rfl, rfl, trivial⟩ ⟨rfl, rfl, rfl, rfl, trivial⟩ ?_
    refine Rx.inb (Rx.seq (Cd.seq (Cd.region (Rg.val (Val.load (l := 11) rfl rfl sc62 rfl) rfl (Rg.val (Val.assign rfl) rfl (Rg.nil (Rx.seq (Cd.ret (Rx.retM 101 rfl rfl (RO.tmp rfl (RO.nil)) fun w hm_ => (⟨(ar, cr, o), hI ▸ hfin_, rfl, Turns.of_mem hm1.below hm_ (q := 0) rfl (.of ⟨rfl, trivial⟩) rfl⟩))))))))))
  · rintro D_ c_ xs_ ⟨ar, cr, o⟩ h_
    exact h_.elim

theorem collect_calls (gf : Nat) (us : List Value) (O : Res) (ok : List Int → Int → Prop) (fin : List Int → Prop) (w : World) (hen : Enters Try.prog gf) (hit : Iter Try.prog w gf us [(5, O)] (fun x : Int => .int .i64 x) (fun _ => []) ok fin) (hN : ∀ pre x, ok pre x → pre.length < 100000) (w1 : World) (hm1 : Mem w [(5, O)] w1) : Calls Try.prog 106 #[.func (.func gf) #[] us.toArray] w1 fun e w' => ∃ p : Option Addr × Nat × List Int, fin p.2.2 ∧ e = .returned (.slice p.1 p.2.2.length p.2.1) ∧ Turns (packR [(5, O)]) w1 (packR [(2, rowL 3 1 encI p.1 p.2.1 p.2.2)]) w' := by
  refine calls_in (vs := [.func (.func gf) #[] us.toArray]) Try.func106 rfl rfl rfl (Mem.enter 0 hm1 rfl) ?_
  show Cd _ _ _ _ _ [(0, .func (.func gf) #[] us.toArray)] [(0, restOf w.heap.size w1 (packR [(5, O)])), (5, O)]
  refine Cd.seq (Cd.region (Rg.val (Val.assign rfl) rfl (Rg.nil (Rx.seq (Cd.seq (Cd.region (Rg.val (Val.move rfl) rfl (Rg.eff (Eff.over (Bs := [(5, O)]) (B0 := [(0, restOf w.heap.size w1 (packR [(5, O)]))]) rfl rfl en128 rfl ⟨rfl, trivial⟩ ⟨rfl, trivial⟩ rfl (fun _ => rfl) (fun w hm => appendSeq_calls gf us O ok fin _ hen hit hN _ (hm.weak ⟨rfl, trivial⟩))) rfl fun p1 hp1 => (Rg.val (Val.assign rfl) rfl (Rg.nil (Rx.seq (Cd.ret (Rx.ret1 rfl rfl fun w hm_ => (⟨p1, hp1, rfl, Turns.of_mem hm1.below hm_ (q := 0) rfl (.of ⟨rfl, trivial⟩) rfl⟩))))))))))))))

theorem sorted_calls (gf : Nat) (us : List Value) (O : Res) (ok : List Int → Int → Prop) (fin : List Int → Prop) (w : World) (hen : Enters Try.prog gf) (hit : Iter Try.prog w gf us [(5, O)] (fun x : Int => .int .i64 x) (fun _ => []) ok fin) (hN : ∀ pre x, ok pre x → pre.length < 100000) (w1 : World) (hm1 : Mem w [(5, O)] w1) (hF : ∀ xs, fin xs → xs.length ≤ 1000000) : Calls Try.prog 64 #[.func (.func gf) #[] us.toArray] w1 fun e w' => ∃ p : Option Addr × Nat × List Int, fin p.2.2 ∧ e = .returned (.slice p.1 p.2.2.length p.2.1) ∧ Turns (packR [(5, O)]) w1 (packR [(2, rowL 3 1 encI p.1 p.2.1 (sortI p.2.2))]) w' := by
  refine calls_in (vs := [.func (.func gf) #[] us.toArray]) Try.func64 rfl rfl rfl (Mem.enter 0 hm1 rfl) ?_
  show Cd _ _ _ _ _ [(0, .func (.func gf) #[] us.toArray)] [(0, restOf w.heap.size w1 (packR [(5, O)])), (5, O)]
  refine Cd.seq (Cd.region (Rg.val (Val.assign rfl) rfl (Rg.nil (Rx.seq (Cd.seq (Cd.region (Rg.val (Val.move rfl) rfl (Rg.eff (Eff.over (Bs := [(5, O)]) (B0 := [(0, restOf w.heap.size w1 (packR [(5, O)]))]) rfl rfl en106 rfl ⟨rfl, trivial⟩ ⟨rfl, trivial⟩ rfl (fun _ => rfl) (fun w hm => collect_calls gf us O ok fin _ hen hit hN _ (hm.weak ⟨rfl, trivial⟩))) rfl fun p1 hp1 => (Rg.val (Val.assign rfl) rfl (Rg.nil (Rx.seq (Cd.seq (Cd.region (Rg.val (Val.move rfl) rfl (Rg.eff (Eff.over (A := Unit) (R := fun _ => True) (v := fun _ => .tuple #[]) (Bs := [(2, rowL 3 1 encI p1.1 p1.2.1 p1.2.2)]) (Bs' := fun _ => [(2, rowL 3 1 encI p1.1 p1.2.1 (sortI p1.2.2))]) (B0 := [(0, restOf w.heap.size w1 (packR [(5, O)]))]) rfl rfl en107 rfl ⟨rfl, trivial⟩ ⟨rfl, trivial⟩ rfl (fun _ => rfl) (fun w hm => (sort_calls (hm.weak ⟨rfl, trivial⟩) (hF _ hp1)).mono fun _ _ ⟨h1, h2⟩ => ⟨(), trivial, h1, h2⟩)) rfl fun _ _ => (Rg.nil (Rx.seq (Cd.seq (Cd.region (Rg.val (Val.move rfl) rfl (Rg.val (Val.assign rfl) rfl (Rg.nil (Rx.seq (Cd.ret (Rx.ret1 rfl rfl fun w hm_ => (⟨p1, hp1, rfl, Turns.of_mem hm1.below hm_ (q := 0) rfl (.of ⟨rfl, trivial⟩) rfl⟩))))))))))))))))))))))))))

def eqF : List Int → List Int → Bool
  | [], _ => true
  | x :: r, ys => match ys with
    | [] => true
    | y :: s => if x = y then eqF r s else false
theorem eqF_iff : ∀ {xs ys : List Int}, xs.length = ys.length → (eqF xs ys = true ↔ xs = ys)
  | [], [], _ => by simp [eqF]
  | x :: r, y :: s, h => by
    have ih := eqF_iff (xs := r) (ys := s) (by simpa using h)
    rw [eqF]
    by_cases e : x = y
    · rw [if_pos e, ih, e]; simp
    · rw [if_neg e]; simp [e]
  | [], y :: s, h => by simp at h
  | x :: r, [], h => by simp at h
theorem eq_now {xs ys : List Int} {i : Nat} {x y : Int} {b : Bool} (hG : b = eqF (xs.drop i) (ys.drop i)) (h1 : xs[i]? = some x) (h2 : ys[i]? = some y) : b = if x = y then eqF (xs.drop (i + 1)) (ys.drop (i + 1)) else false := by
  rw [hG, dropc h1, dropc h2]; rfl
theorem equal_gives (a : Option Addr) (cap : Nat) (xs : List Int) (a2 : Option Addr) (cap2 : Nat) (ys : List Int) (w : World) (hR : Rdb w a 1 encI xs) (hlen : xs.length ≤ 9223372036854775807) (hR2 : Rdb w a2 1 encI ys) : Gives Try.prog 63 #[.slice a xs.length cap, .slice a2 ys.length cap2] w (.bool (decide (xs = ys))) := by
  refine calls_of (vs := [.slice a xs.length cap, .slice a2 ys.length cap2]) Try.func63 rfl rfl rfl ?_
  show Cd _ _ _ _ _ [(0, .slice a xs.length cap), (1, .slice a2 ys.length cap2)] []
  refine Cd.seq (Cd.region (Rg.val (Val.assign rfl) rfl (Rg.nil (Rx.seq (Cd.seq (Cd.seq (Cd.region (Rg.val (Val.move rfl) rfl (Rg.val (Val.len Try.underlying62 rfl) rfl (Rg.val (Val.move rfl) rfl (Rg.val (Val.len Try.underlying62 rfl) rfl (Rg.val (Val.neq rfl rfl) rfl (Rg.nil (Rx.seq (Cd.cond rfl (fun c1 => ?_) (fun c1 => ?_))))))))))))))))
  · replace c1 := bnot_t c1
    replace c1 := of_decide_eq_false c1
    refine Cd.seq (Cd.region (Rg.val (Val.assign rfl) rfl (Rg.nil (Rx.seq (Cd.ret (Rx.pastR (Rx.ret1 rfl rfl fun w hm_ => (⟨by rw [decide_eq_false (fun h_ => c1 (by rw [h_]))], hm_.below⟩))))))))
  · replace c1 := bnot_f c1
    replace c1 := of_decide_eq_true c1
    refine Cd.skip (Rx.seq (Cd.seq (Cd.seq (Cd.region (Rg.val (Val.move rfl) rfl (Rg.val (Val.len Try.underlying62 rfl) rfl (Rg.val (Val.move rfl) rfl (Rg.nil (Rx.seq (Cd.block ?_))))))))))
    refine Cd.loop (A := Nat) (fun i : Nat => i ≤ xs.length ∧ eqF xs ys = eqF (xs.drop i) (ys.drop i))
        (fun i : Nat => [(0, .slice a xs.length cap), (1, .slice a2 ys.length cap2), (12, .int .i64 (xs.length : Int)), (13, .int .i64 (i : Int))])
        (fun i : Nat => [])
        (fun i : Nat => xs.length - i) 0 ?_ ⟨rfl, rfl, rfl, rfl, trivial⟩ trivial ?_
    · exact ⟨Nat.zero_le _, rfl⟩
    · rintro i ⟨hi, hG⟩
      show Cd _ _ _ _ _ [(0, .slice a xs.length cap), (1, .slice a2 ys.length cap2), (12, .int .i64 (xs.length : Int)), (13, .int .i64 (i : Int))] []
      refine Cd.seq (Cd.region (Rg.val (Val.lss rfl rfl) rfl (Rg.nil (Rx.seq (Cd.seq (Cd.cond rfl (fun c2 => ?_) (fun c2 => ?_)))))))
      · replace c2 := of_decide_eq_true c2
        refine Cd.skip (Rx.seq (Cd.seq (Cd.block (Cd.seq (Cd.region (Rg.val (Val.move rfl) rfl (Rg.val (Val.assign rfl) rfl (Rg.nil (Rx.seq (Cd.seq (Cd.draw [] mixed rfl (Dr.take 0 rfl (by kernel_rfl) (Val.move rfl) rfl trivial (Dr.take 1 rfl (by kernel_rfl) (Val.move rfl) rfl trivial ?_)))))))))))))
        obtain ⟨x3, hx4⟩ : ∃ x, xs[i]? = some x := ⟨_, List.getElem?_eq_getElem (by omega)⟩
        refine Dr.take 2 rfl (by kernel_rfl) (Val.ide Try.underlying62 sz3 rfl rfl hR (by first | rfl | omega | (simp; done)) hx4 (Nat.le_refl _)) rfl trivial (Dr.take 3 rfl (by kernel_rfl) (Val.loadE (k := 0) rfl sc3 hR hx4 rfl) rfl trivial (Dr.take 4 rfl (by kernel_rfl) (Val.move rfl) rfl trivial (Dr.take 5 rfl (by kernel_rfl) (Val.move rfl) rfl trivial ?_)))
        obtain ⟨x5, hx6⟩ : ∃ x, ys[i]? = some x := ⟨_, List.getElem?_eq_getElem (by omega)⟩
        refine Dr.take 6 rfl (by kernel_rfl) (Val.ide Try.underlying62 sz3 rfl rfl hR2 (by first | rfl | omega | (simp; done)) hx6 (Nat.le_refl _)) rfl trivial (Dr.take 7 rfl (by kernel_rfl) (Val.loadE (k := 0) rfl sc3 hR2 hx6 rfl) rfl trivial (Dr.take 8 rfl (by kernel_rfl) (Val.neq rfl rfl) rfl trivial (Dr.done (by kernel_rfl) (Rx.seq (Cd.cond rfl (fun c7 => ?_) (fun c7 => ?_))))))
        · replace c7 := bnot_t c7
          replace c7 := of_decide_eq_false c7
          refine Cd.seq (Cd.region (Rg.val (Val.assign rfl) rfl (Rg.nil (Rx.seq (Cd.ret (Rx.inr (Rx.pastR (Rx.pastR (Rx.inr (Rx.pastR (Rx.ret1 rfl rfl fun w hm_ => (⟨by rw [decide_eq_false (fun h_ => by have := eq_now hG hx4 hx6; rw [if_neg c7, (eqF_iff (by omega)).2 h_] at this; cases this)], hm_.below⟩))))))))))))
        · replace c7 := bnot_f c7
          replace c7 := of_decide_eq_true c7
          refine Cd.skip (Rx.inb (Rx.seq (Cd.region (Rg.val (Val.addN rfl rfl (by unfold in64; omega)) rfl (Rg.val (Val.move rfl) rfl (Rg.nil ?_))))))
          refine Rx.meet (i + 1) ⟨⟨by omega, by have := eq_now hG hx4 hx6; rwa [if_pos c7] at this⟩, by show xs.length - (i + 1) < xs.length - i; omega⟩ ⟨rfl, rfl, rfl, rfl, trivial⟩ trivial
      · replace c2 := of_decide_eq_false c2
        refine Cd.exit (Rx.pastE (Rx.pastE (Rx.hit (Rx.seq (Cd.seq (Cd.region (Rg.val (Val.assign rfl) rfl (Rg.nil (Rx.seq (Cd.ret (Rx.ret1 rfl rfl fun w hm_ => (⟨by rw [decide_eq_true ((eqF_iff (by omega)).1 (by rw [hG, drop_all (by omega)]; rfl))], hm_.below⟩))))))))))))

end Go.Proofs.Ytdmkedbmoboamaa
