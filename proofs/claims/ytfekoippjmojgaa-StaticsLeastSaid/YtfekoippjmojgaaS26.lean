/- Walks of functions of the program: what each returns, told by plain functions; nothing that lay there is turned. -/
import Derived.Test.YtfekoippjmojgaaS25
namespace Go.Proofs.Ytfekoippjmojgaa
open Go.Kx Go.RowKit
set_option maxRecDepth 100000
set_option linter.unusedVariables false
set_option linter.unusedSimpArgs false
set_option linter.constructorNameAsVariable false
def encDw (d : Dw) : List Value := [.slice d.a d.gs.length d.cap]
theorem ones_D : ∀ y, ∀ u ∈ encDw y, u.oneCell' = true := fun y u hu => by simp [encDw] at hu; subst hu; rfl
/-- Many divisions' rows. -/
def rowsD (e : TypeId) (ds : List Dw) : Res where
  own k := ∃ d ∈ ds, (rowL e 1 encI d.a d.cap d.gs).own k
  holds w := ∀ d ∈ ds, (rowL e 1 encI d.a d.cap d.gs).holds w
  frame w w' hs h hh := fun d hd => (rowL e 1 encI d.a d.cap d.gs).frame w w' hs (fun k hk => h k ⟨d, hd, hk⟩) (hh d hd)
  inside w h k hk := by
    obtain ⟨d, hd, hk⟩ := hk
    exact (rowL e 1 encI d.a d.cap d.gs).inside w (h d hd) k hk
section
variable {W w : World} {B : List (Nat × Res)}
theorem Mem.rowsD0 (l : Nat) (e : TypeId) (h : Mem W B w) : Mem W ((l, rowsD e []) :: B) w :=
  h.add (Below.refl _ _) l _ (fun p hp => by cases hp) (fun k ⟨p, hp, _⟩ => by cases hp)
theorem Mem.rowedD {e : TypeId} {ds : List Dw} {q l : Nat} {a : Option Addr} {cap : Nat} {gs : List Int} {B0 : List (Nat × Res)} (h : Mem W B w) (hb : lkp B l = some (rowL e 1 encI a cap gs)) (hq : lkp B q = some (rowsD e ds)) (hne : Nat.beq q l = false) (h0 : subl B0 B) (ha : apartB [(q, rowsD e ds), (l, rowL e 1 encI a cap gs)] B0 = true) : Mem W ((q, rowsD e (ds ++ [⟨a, cap, gs⟩])) :: B0) w := by
  have hn : q ≠ l := fun e => by subst e; simp at hne
  have hlb : lkp [(q, rowsD e ds), (l, rowL e 1 encI a cap gs)] l = some (rowL e 1 encI a cap gs) := (lkp_cons_ne _ _ hn).trans (lkp_cons_eq _ _ _)
  refine h.fuse (Bs := [(q, rowsD e ds), (l, rowL e 1 encI a cap gs)]) q _ ⟨hq, hb, trivial⟩ h0 ha ?_ (fun hp r hr => ?_) (fun k ⟨r, hr, hk⟩ => ?_)
  · simp only [apartB, Bool.and_eq_true] at ha; simpa using ha.1
  · rcases List.mem_append.1 hr with h1 | h1
    · exact hp.1 q _ (lkp_cons_eq _ _ _) r h1
    · simp at h1; subst h1
      exact hp.1 l _ hlb
  · rcases List.mem_append.1 hr with h1 | h1
    · exact ⟨q, _, lkp_cons_eq _ _ _, r, h1, hk⟩
    · simp at h1; subst h1
      exact ⟨l, _, hlb, hk⟩
/-- One of the rows alone. -/
theorem Mem.oneD {e : TypeId} {ds : List Dw} {q : Nat} {d : Dw} (l : Nat) (h : Mem W B w) (hq : lkp B q = some (rowsD e ds)) (hd : d ∈ ds) : Mem W [(l, rowL e 1 encI d.a d.cap d.gs)] w :=
  h.fuse (Bs := [(q, rowsD e ds)]) (B0 := []) l _ ⟨hq, trivial⟩ trivial rfl rfl (fun hp => hp.1 q _ (lkp_cons_eq _ _ _) d hd) (fun k hk => ⟨q, _, lkp_cons_eq _ _ _, d, hd, hk⟩)
theorem Rdb.of_rowsD {e : TypeId} {ds : List Dw} {l : Nat} {d : Dw} (h : Mem W B w) (hl : lkp B l = some (rowsD e ds)) (hd : d ∈ ds) : Rdb w d.a 1 encI d.gs := fun i x hx => by
  have hown := (show (rowsD e ds).holds w from h.holds l _ hl) d hd
  have hlt := (List.getElem?_eq_some_iff.1 hx).1
  rcases hown.2 with ⟨hv, hn⟩ | ⟨g, c0, cur, hv, _⟩
  · omega
  · injection hv with h1 h2 h3
    rw [h1]
    refine ⟨g, 0, rfl, rfl, fun j u hj => ?_⟩
    rw [h1] at hown
    have := hown.cells (g := g) rfl (i * 1 + j) u (flat_at (enc := encI) (sz := 1) (fun _ => rfl) hx hj)
    rw [cell_add] at this
    exact this
end
theorem cut_ex (p : Int → Bool) (os : List Int) : ∀ m, m ≤ os.length → (∀ (j : Nat) (y : Int), m ≤ j → os[j]? = some y → p y = true) → ∃ k, k ≤ os.length ∧ (∀ (j : Nat) (y : Int), k ≤ j → os[j]? = some y → p y = true) ∧ (k = 0 ∨ ∃ v, os[k - 1]? = some v ∧ p v = false)
  | 0, h, hp => ⟨0, h, hp, .inl rfl⟩
  | m + 1, h, hp => by
    have hv : os[m]? = some os[m] := List.getElem?_eq_getElem h
    cases hc : p os[m] with
    | false => exact ⟨m + 1, h, hp, .inr ⟨_, hv, hc⟩⟩
    | true => exact cut_ex p os m (by omega) (keep_up (k := m + 1) hp hv (by omega) hc)
theorem ord_ex (xs : List Sup) : ∀ i, ∃ o : List Int, o.Perm (seg 0 i) ∧ Srt.Sd (klP xs) o
  | 0 => ⟨[], List.Perm.refl _, List.Pairwise.nil⟩
  | i + 1 => by
    obtain ⟨o, h1, h2⟩ := ord_ex xs i
    obtain ⟨k, h3, h4, h5⟩ := cut_ex (klP xs (i : Int)) o o.length (Nat.le_refl _) (fun j y h1 h2 => by have := (List.getElem?_eq_some_iff.1 h2).1; omega)
    exact ⟨_, ord_ins h1 h2 h3 h4 h5⟩
theorem ordP_perm (xs : List Sup) : (ordP xs).Perm (seg 0 xs.length) := by
  obtain ⟨o, h1, h2⟩ := ord_ex xs xs.length
  rw [ordP_eq h1 h2]; exact h1
theorem ordP_len (xs : List Sup) : (ordP xs).length = xs.length := by rw [(ordP_perm xs).length_eq, seg_len]
theorem ordP_bd (xs : List Sup) : ∀ f ∈ ordP xs, 0 ≤ f ∧ f < xs.length := fun f hf => by have := seg_mem ((ordP_perm xs).subset hf); omega
theorem ordP_nd (xs : List Sup) : (ordP xs).Nodup := ((ordP_perm xs).nodup_iff).2 ((seg_inc 0 xs.length).imp fun h e => by omega)
theorem division_len (a : Option Addr) (cap : Nat) (xs : List Sup) (fa : Option Addr) (fc : Nat) (fs : List Int) (fl : Nat) (w : World) (hl : fs.length = fl) (hR : Rdb w a 6 encSup xs) (hF : Rdb w fa 1 encI fs) (hs : fs.Sublist (ordP xs)) (hY : YBd xs) : Calls Try.prog 83 #[.slice a xs.length cap, .slice fa fl fc] w (RowPost w 3 1 encI (divF xs fs) fun a_ c_ => .slice a_ (divF xs fs).length c_) := by
  subst hl
  have h1 := hs.length_le
  rw [ordP_len] at h1
  have h2 := hY.len
  exact division_calls a cap xs fa fc fs w hR hF (by omega) hY (hs.nodup (ordP_nd xs)) (fun f hf => ordP_bd xs f (hs.subset hf)) h1
section
variable {xs : List Sup} {mass x y : Int} {ds : List Dw}
/-- The least of the first i divisions. -/
def RvI (xs : List Sup) (mass x y : Int) (ds : List Dw) (i : Nat) (g : Dw) (ld : Int) : Prop :=
  (bestF (EV xs mass x y) (fun z => z) ((dss ds).take i) = none ∧ g = ⟨none, 0, []⟩ ∧ ld = 0) ∨ (bestF (EV xs mass x y) (fun z => z) ((dss ds).take i) = some (g.gs, ld) ∧ g ∈ ds)
theorem RvI.start : RvI xs mass x y ds 0 ⟨none, 0, []⟩ 0 := .inl ⟨rfl, rfl, rfl⟩
theorem dss_take {i : Nat} {d : Dw} (hd : ds[i]? = some d) : (dss ds).take (i + 1) = (dss ds).take i ++ [d.gs] := take_snoc' (by rw [List.getElem?_map, hd]; rfl)
theorem RvI.skip {i : Nat} {g d : Dw} {ld : Int} (h : RvI xs mass x y ds i g ld) (hd : ds[i]? = some d) (hE : EV xs mass x y d.gs = none) : RvI xs mass x y ds (i + 1) g ld := by
  unfold RvI
  rw [dss_take hd, bestF_snoc]
  unfold keepF
  rw [hE]; exact h
theorem RvI.worse {i : Nat} {g d : Dw} {ld l2 : Int} (h : RvI xs mass x y ds i g ld) (hd : ds[i]? = some d) (hE : EV xs mass x y d.gs = some l2) (hg : ¬ (g.gs.length : Int) = 0) (hl : ¬ l2 < ld) : RvI xs mass x y ds (i + 1) g ld := by
  unfold RvI
  rw [dss_take hd, bestF_snoc]
  unfold keepF
  rw [hE]
  rcases h with ⟨_, h2, _⟩ | ⟨h1, h2⟩
  · subst h2; simp at hg
  · right; rw [h1]
    refine ⟨?_, h2⟩
    show (if l2 < ld then some (d.gs, l2) else some (g.gs, ld)) = _
    rw [if_neg hl]
theorem RvI.better {i : Nat} {g d : Dw} {ld l2 : Int} (h : RvI xs mass x y ds i g ld) (hln : ∀ d ∈ ds, d.gs.length = xs.length) (h3 : 3 ≤ xs.length) (hd : ds[i]? = some d) (hE : EV xs mass x y d.gs = some l2) (hl : (g.gs.length : Int) = 0 ∨ l2 < ld) : RvI xs mass x y ds (i + 1) d l2 := by
  unfold RvI
  rw [dss_take hd, bestF_snoc]
  unfold keepF
  rw [hE]
  right
  refine ⟨?_, List.mem_of_getElem? hd⟩
  rcases h with ⟨h1, _⟩ | ⟨h1, h2⟩
  · rw [h1]
  · rw [h1]
    show (if l2 < ld then some (d.gs, l2) else some (g.gs, ld)) = _
    rw [if_pos (hl.resolve_left fun h3 => by have := hln g h2; omega)]
theorem RvI.done {i : Nat} {g : Dw} {ld : Int} (h : RvI xs mass x y ds i g ld) (hln : ∀ d ∈ ds, d.gs.length = xs.length) (h3 : 3 ≤ xs.length) (hi : ds.length ≤ i) (hD : dss ds = divsP xs) : ((g.gs.length : Int) = 0 → bestD xs mass x y = none) ∧ (¬ (g.gs.length : Int) = 0 → bestD xs mass x y = some (g.gs, ld) ∧ g ∈ ds) := by
  unfold RvI at h
  rw [List.take_of_length_le (by rw [List.length_map]; exact hi), hD] at h
  rcases h with ⟨h1, h2, _⟩ | ⟨h1, h2⟩
  · exact ⟨fun _ => h1, fun h => by subst h2; simp at h⟩
  · exact ⟨fun h => by have := hln g h2; omega, fun _ => ⟨h1, h2⟩⟩
end
theorem divsI_len {xs : List Sup} : ∀ m, (divsI xs m).length = 2 * m
  | 0 => rfl
  | m + 1 => by rw [divsI_succ, List.length_append, divsI_len m]; simp; omega
theorem rdivisions_calls.bsl_0 (y0 : Option Addr) (y0l y0c : Nat) (y1 : Option Addr) (y1l y1c : Nat) (w : World) : (Instr.buildSlice 78 2 #[(0, .slice y0 y0l y0c), (1, .slice y1 y1l y1c)]).run Try.prog w = .ok (.slice (some ⟨w.heap.size, 0, none⟩) 2 2) (w.alloc (.cells #[.slice y0 y0l y0c, .slice y1 y1l y1c] 71)) := by kernel_rfl
open rdivisions_calls in
theorem rdivisions_calls (a : Option Addr) (cap : Nat) (xs : List Sup) (w : World) (hR : Rdb w a 6 encSup xs) (hxl : xs.length ≤ 1000000) (hY : YBd xs) (h3 : 3 ≤ xs.length) : Calls Try.prog 46 #[.slice a xs.length cap] w fun e w' => ∃ p : Option Addr × Nat × List Dw, dss p.2.2 = divsP xs ∧ e = .returned (.slice p.1 p.2.2.length p.2.1) ∧ Mem w [(92, rowL 71 1 encDw p.1 p.2.1 p.2.2), (93, rowsD 3 p.2.2)] w' := by
  refine calls_of (vs := [.slice a xs.length cap]) Try.func46 rfl rfl rfl ?_
  show Cd _ _ _ _ _ [(0, .slice a xs.length cap)] []
  refine Cd.seq (Cd.region (Rg.val (Val.assign rfl) rfl (Rg.nil (Rx.seq (Cd.seq (Cd.region (Rg.val (Val.move rfl) rfl (Rg.eff (Eff.call rfl rfl en82 rfl (fun w hm => RowPost.mem 1 hm (order_calls _ _ xs w (hm.rdb hR) hxl hY))) rfl fun p1 _ => ?_))))))))
  have hpl := ordP_len xs
  refine Rg.val (Val.assign rfl) rfl (Rg.nil (Rx.seq (Cd.seq (Cd.region (Rg.val (Val.assign rfl) rfl (Rg.nil (Rx.seq (Cd.seq (Cd.seq (Cd.region (Rg.val (Val.assign rfl) rfl (Rg.nil (Rx.seq (Cd.block (Cd.gain (fun w hm => Mem.nilRow 92 71 1 encDw hm) ?_)))))))))))))))
  refine Cd.gain (fun w hm => Mem.rowsD0 93 3 hm) ?_
  refine Cd.loop (A := Nat × Option Addr × Nat × List Dw × List Dw) (fun pr_ : Nat × Option Addr × Nat × List Dw × List Dw => match pr_ with | (k, ar, cr, ds, pool) => 1 ≤ k ∧ k ≤ xs.length - 1 ∧ dss ds = divsI xs (k - 1) ∧ pool = ds)
      (fun pr_ : Nat × Option Addr × Nat × List Dw × List Dw => match pr_ with | (k, ar, cr, ds, pool) => [(0, .slice a xs.length cap), (2, .slice none 0 0), (3, .slice p1.1 xs.length p1.2), (4, .slice ar ds.length cr), (5, .int .i64 (k : Int))])
      (fun pr_ : Nat × Option Addr × Nat × List Dw × List Dw => match pr_ with | (k, ar, cr, ds, pool) => [(1, rowL 3 1 encI p1.1 p1.2 (ordP xs)), (92, rowL 71 1 encDw ar cr ds), (93, rowsD 3 pool)])
      (fun pr_ : Nat × Option Addr × Nat × List Dw × List Dw => match pr_ with | (k, ar, cr, ds, pool) => xs.length - k) (1, none, 0, [], []) ?_ ⟨rfl, rfl, rfl, rfl, rfl, trivial⟩ ⟨rfl, rfl, rfl, trivial⟩ ?_
  · exact ⟨Nat.le_refl _, by omega, rfl, rfl⟩
  · rintro ⟨k, ar, cr, ds, pool⟩ ⟨hk1, hk2, hD, hpool⟩
    show Cd _ _ _ _ _ [(0, .slice a xs.length cap), (2, .slice none 0 0), (3, .slice p1.1 xs.length p1.2), (4, .slice ar ds.length cr), (5, .int .i64 (k : Int))] [(1, rowL 3 1 encI p1.1 p1.2 (ordP xs)), (92, rowL 71 1 encDw ar cr ds), (93, rowsD 3 pool)]
    have hdl : ds.length = 2 * (k - 1) := by have h_ := congrArg List.length hD; rw [List.length_map, divsI_len] at h_; exact h_
    refine Cd.seq (Cd.seq (Cd.region (Rg.val (Val.move rfl) rfl (Rg.val (Val.move rfl) rfl (Rg.val (Val.len Try.underlying27 rfl) rfl (Rg.val (Val.subN rfl rfl (by have := hY.len; unfold in64; omega)) rfl (Rg.val (Val.leq rfl rfl) rfl (Rg.nil (Rx.seq (Cd.cond rfl (fun c2 => ?_) (fun c2 => ?_)))))))))))
    · replace c2 := of_decide_eq_true c2
      refine Cd.skip (Rx.seq (Cd.seq (Cd.block (Cd.draw [(1, rowL 3 1 encI p1.1 p1.2 (ordP xs)), (93, rowsD 3 pool)] mixed rfl (Dr.take 0 rfl (by kernel_rfl) (Val.move rfl) rfl ⟨rfl, rfl, trivial⟩ (Dr.take 1 rfl (by kernel_rfl) (Val.move rfl) rfl ⟨rfl, rfl, trivial⟩ (Dr.take 2 rfl (by kernel_rfl) (Val.move rfl) rfl ⟨rfl, rfl, trivial⟩ (Dr.take 3 rfl (by kernel_rfl) (Val.move rfl) rfl ⟨rfl, rfl, trivial⟩ (Dr.take 4 rfl (by kernel_rfl) (Val.sliceHiRow (h := k) 1 Try.underlying71 sz3 rfl rfl rfl (by first | rfl | omega | (simp; done)) (by first | omega | (rw [hpl]; omega))) rfl ⟨rfl, rfl, trivial⟩ (Dr.take 6 rfl (by kernel_rfl) (Val.move rfl) rfl ⟨rfl, rfl, trivial⟩ (Dr.take 7 rfl (by kernel_rfl) (Val.move rfl) rfl ⟨rfl, rfl, trivial⟩ (Dr.take 8 rfl (by kernel_rfl) (Val.move rfl) rfl ⟨rfl, rfl, trivial⟩ (Dr.take 9 rfl (by kernel_rfl) (Val.len Try.underlying71 rfl) rfl ⟨rfl, rfl, trivial⟩ (Dr.take 10 rfl (by kernel_rfl) (Val.move rfl) rfl ⟨rfl, rfl, trivial⟩ (Dr.take 11 rfl (by kernel_rfl) (Val.subN rfl rfl (by have := hY.len; unfold in64; omega)) rfl ⟨rfl, rfl, trivial⟩ (Dr.take 12 rfl (by kernel_rfl) (Val.sliceLo (l := (xs.length - k)) Try.underlying71 sz3 rfl rfl (by first | rfl | omega | (simp; done)) (by first | omega | (rw [hpl]; omega))) rfl ⟨rfl, rfl, trivial⟩ (Dr.one 5 (by kernel_rfl) rfl (Eff.call rfl rfl en83 rfl (fun w hm => RowPost.mem 1020 hm (division_len _ _ xs _ _ ((ordP xs).take k) k w (by first | (rw [List.length_take]; omega) | (rw [List.length_drop]; omega)) (hm.rdb hR) (Rdb.take (Rdb.of_row (l := 1) hm rfl (fun _ => rfl)) k) (by first | exact List.take_sublist _ _ | exact List.drop_sublist _ _) hY))) rfl (fun _ _ => ⟨rfl, rfl, trivial⟩) fun pd20 _ => (Dr.one 13 (by kernel_rfl) rfl (Eff.call rfl rfl en83 rfl (fun w hm => RowPost.mem 1028 hm (division_len _ _ xs _ _ ((ordP xs).drop (xs.length - k)) (xs.length - (xs.length - k)) w (by first | (rw [List.length_take]; omega) | (rw [List.length_drop]; omega)) (hm.rdb hR) (Rdb.drop_row (l := 1) hm rfl (fun _ => rfl) (xs.length - k)) (by first | exact List.take_sublist _ _ | exact List.drop_sublist _ _) hY))) rfl (fun _ _ => ⟨rfl, rfl, trivial⟩) fun pd28 _ => (Dr.one 14 (by kernel_rfl) rfl (Eff.buildSlice (cs := [.slice pd20.1 (divF xs ((ordP xs).take k)).length pd20.2, .slice pd28.1 (divF xs ((ordP xs).drop (xs.length - k))).length pd28.2]) 1029 rfl (fun w => (bsl_0 _ _ _ _ _ _) w) rfl) rfl (fun _ _ => ⟨rfl, rfl, trivial⟩) fun b1029 _ => (Dr.one 15 (by kernel_rfl) rfl (Eff.append (enc := encDw) (ys := [(Dw.mk pd20.1 pd20.2 (divF xs ((ordP xs).take k))), (Dw.mk pd28.1 pd28.2 (divF xs ((ordP xs).drop (xs.length - k))))]) (bytes := 24) 92 Try.underlying78 (by kernel_rfl) rfl rfl rfl rfl (fun w hm => hm.news (l := 1029) rfl rfl) (fun _ => rfl) ones_D (by have := hY.len; simp only [List.length_cons, List.length_nil, maxLen]; omega) rfl) rfl (fun _ _ => ⟨rfl, rfl, trivial⟩) fun pd30 _ => (Dr.take 16 rfl (by kernel_rfl) (Val.assign rfl) rfl ⟨rfl, rfl, trivial⟩ (Dr.done (by kernel_rfl) (Rx.inb (Rx.seq (Cd.region (Rg.val (Val.move rfl) rfl (Rg.val (Val.addN rfl rfl (by have := hY.len; unfold in64; omega)) rfl (Rg.val (Val.assign rfl) rfl (Rg.nil (Rx.gain (fun w hm => Mem.rowedD (q := 93) (l := 1020) (B0 := [(1, rowL 3 1 encI p1.1 p1.2 (ordP xs)), (92, rowL 71 1 encDw pd30.1 pd30.2 (ds ++ [(Dw.mk pd20.1 pd20.2 (divF xs ((ordP xs).take k))), (Dw.mk pd28.1 pd28.2 (divF xs ((ordP xs).drop (xs.length - k))))])), (1028, rowL 3 1 encI pd28.1 pd28.2 (divF xs ((ordP xs).drop (xs.length - k)))), (1029, blk b1029 [.slice pd20.1 (divF xs ((ordP xs).take k)).length pd20.2, .slice pd28.1 (divF xs ((ordP xs).drop (xs.length - k))).length pd28.2] 71)]) hm rfl rfl rfl ⟨rfl, rfl, rfl, rfl, trivial⟩ rfl) (Rx.gain (fun w hm => Mem.rowedD (q := 93) (l := 1028) (B0 := [(1, rowL 3 1 encI p1.1 p1.2 (ordP xs)), (92, rowL 71 1 encDw pd30.1 pd30.2 (ds ++ [(Dw.mk pd20.1 pd20.2 (divF xs ((ordP xs).take k))), (Dw.mk pd28.1 pd28.2 (divF xs ((ordP xs).drop (xs.length - k))))])), (1029, blk b1029 [.slice pd20.1 (divF xs ((ordP xs).take k)).length pd20.2, .slice pd28.1 (divF xs ((ordP xs).drop (xs.length - k))).length pd28.2] 71)]) hm rfl rfl rfl ⟨rfl, rfl, rfl, trivial⟩ rfl) ?_)))))))))))))))))))))))))))))))
      refine Rx.meet (k + 1, pd30.1, pd30.2, (ds ++ [(Dw.mk pd20.1 pd20.2 (divF xs ((ordP xs).take k))), (Dw.mk pd28.1 pd28.2 (divF xs ((ordP xs).drop (xs.length - k))))]), ((pool ++ [Dw.mk pd20.1 pd20.2 (divF xs ((ordP xs).take k))]) ++ [Dw.mk pd28.1 pd28.2 (divF xs ((ordP xs).drop (xs.length - k)))])) ⟨⟨by omega, by omega, by rw [Nat.add_sub_cancel, ← divs_now rfl hk1 hD]; simp, by rw [hpool]; simp⟩, by show xs.length - (k + 1) < xs.length - k; omega⟩ ⟨rfl, rfl, rfl, rfl, rfl, trivial⟩ ⟨rfl, rfl, rfl, trivial⟩
    · replace c2 := of_decide_eq_false c2
      refine Cd.exit (Rx.pastE (Rx.pastE (Rx.hit (Rx.seq (Cd.seq (Cd.region (Rg.val (Val.move rfl) rfl (Rg.val (Val.assign rfl) rfl (Rg.nil (Rx.seq (Cd.ret (Rx.ret1 rfl rfl fun w hm_ => (⟨(ar, cr, ds), by rw [hD, divsP, show k - 1 = xs.length - 2 from by omega], rfl, (by subst hpool; exact hm_.weak ⟨rfl, rfl, trivial⟩)⟩)))))))))))))

theorem rDivide_calls.bld_0  (w : World) : (Instr.build 73 #[]).run Try.prog w = .ok (.agg #[.slice none 0 0, .int .i64 0]) w := by kernel_rfl
theorem rDivide_calls.bld_1 (y0 : Option Addr) (y0l y0c : Nat) (y1 : Int) (w : World) : (Instr.build 73 #[(0, .slice y0 y0l y0c), (1, .int .i64 y1)]).run Try.prog w = .ok (.agg #[.slice y0 y0l y0c, .int .i64 y1]) w := by kernel_rfl
set_option maxHeartbeats 4000000 in
open rDivide_calls in
theorem rDivide_calls (a : Option Addr) (cap : Nat) (xs : List Sup) (mass x y : Int) (w : World) (hR : Rdb w a 6 encSup xs) (hxl : xs.length ≤ 1000000) : Calls Try.prog 43 #[.slice a xs.length cap, .int .i64 mass, .agg #[.int .i64 x, .int .i64 y]] w (RowPost w 3 1 encI (DivY xs mass x y) fun a_ c_ => .tuple #[.agg #[.slice a_ (DivY xs mass x y).length c_, .int .i64 (DivL xs mass x y)], .int .i64 (DivE xs mass x y)]) := by
  refine calls_of (vs := [.slice a xs.length cap, .int .i64 mass, .agg #[.int .i64 x, .int .i64 y]]) Try.func43 rfl rfl rfl ?_
  show Cd _ _ _ _ _ [(0, .slice a xs.length cap), (1, .int .i64 mass), (2, .agg #[.int .i64 x, .int .i64 y])] []
  refine Cd.seq (Cd.region (Rg.eff (Eff.box 1 rfl rfl) rfl fun b1 _ => (Rg.eff (Eff.alloc 2 zv73 rfl) rfl fun b2 _ => (Rg.val (Val.assign rfl) rfl (Rg.nil (Rx.seq (Cd.seq (Cd.seq (Cd.region (Rg.val (Val.move rfl) rfl (Rg.eff (Eff.give rfl rfl en27 rfl (fun w hm => refCheck_gives _ _ _ w (hm.rdb hR))) rfl fun _ _ => (Rg.val (Val.neq rfl rfl) rfl (Rg.nil (Rx.seq (Cd.cond rfl (fun c1 => ?_) (fun c1 => ?_))))))))))))))))
  · replace c1 := bnot_t c1
    replace c1 := of_decide_eq_false c1
    refine Cd.seq (Cd.region (Rg.val (Val.build rfl (bld_0)) rfl (Rg.val (Val.move rfl) rfl (Rg.eff (Eff.give rfl rfl en27 rfl (fun w hm => refCheck_gives _ _ _ w (hm.rdb hR))) rfl fun _ _ => (Rg.eff (Eff.storeAll (l := 2) sz73 rfl rfl rfl rfl rfl rfl) rfl fun _ _ => (Rg.val (Val.assign rfl) rfl (Rg.nil (Rx.seq (Cd.ret (Rx.pastR (Rx.retR rfl (RO.cell 2 rfl rfl ag73 rfl (RO.tmp rfl (RO.nil))) fun w hm_ => ((by have bv_ : DivV xs mass x y _ _ _ := div_deck c1; rw [bv_.e, bv_.gs, bv_.ld]; exact RowPost.none hm_.below rfl rfl)))))))))))))
  · replace c1 := bnot_f c1
    replace c1 := of_decide_eq_true c1
    have h0_ := c1
    obtain ⟨hY, h3⟩ := ybd_of h0_
    refine Cd.skip (Rx.seq (Cd.seq (Cd.seq (Cd.region (Rg.val (Val.move rfl) rfl (Rg.eff (Eff.give rfl rfl en70 rfl (fun w hm => refmass_gives _ w)) rfl fun _ _ => (Rg.val (Val.neq rfl rfl) rfl (Rg.val (Val.move rfl) rfl (Rg.split 24 rfl (fun c2 => ?_) (fun c2 => ?_))))))))))
    · replace c2 := bnot_t c2
      replace c2 := of_decide_eq_false c2
      have zc2 : (between mass 1 16777216) = false := by cases hz_ : (between mass 1 16777216) <;> simp [errR, hz_] at c2 ⊢
      refine Rg.off rfl rfl rfl rfl (Rg.off rfl rfl rfl rfl (Rg.off rfl rfl rfl rfl (Rg.val (Val.pickT rfl rfl) rfl (Rg.nil (Rx.seq (Cd.yes rfl (Cd.seq (Cd.region (Rg.val (Val.build rfl (bld_0)) rfl (Rg.eff (Eff.storeAll (l := 2) sz73 rfl rfl rfl rfl rfl rfl) rfl fun _ _ => (Rg.val (Val.assign rfl) rfl (Rg.nil (Rx.seq (Cd.ret (Rx.pastR (Rx.retR rfl (RO.cell 2 rfl rfl ag73 rfl (RO.tmp rfl (RO.nil))) fun w hm_ => ((by have bv_ : DivV xs mass x y _ _ _ := div_mass h0_ zc2; rw [bv_.e, bv_.gs, bv_.ld]; exact RowPost.none hm_.below rfl rfl))))))))))))))))))
    · replace c2 := bnot_f c2
      replace c2 := of_decide_eq_true c2
      have zc2 : (between mass 1 16777216) = true := by cases hz_ : (between mass 1 16777216) <;> simp [errR, hz_] at c2 ⊢
      refine Rg.on rfl rfl rfl (Rg.val (Val.loadAll (l := 1) rfl rfl ag29 rfl) rfl (Rg.on rfl rfl rfl (Rg.eff (Eff.give rfl rfl en57 rfl (fun w hm => refpoint_gives _ _ w)) rfl fun _ _ => (Rg.on rfl rfl rfl (Rg.val (Val.neq rfl rfl) rfl (Rg.val (Val.pickF rfl rfl) rfl (Rg.nil (Rx.seq (Cd.cond rfl (fun c3 => ?_) (fun c3 => ?_))))))))))
      · replace c3 := bnot_t c3
        replace c3 := of_decide_eq_false c3
        have zc3 : (validPt x y) = false := by cases hz_ : (validPt x y) <;> simp [errR, hz_] at c3 ⊢
        refine Cd.seq (Cd.region (Rg.val (Val.build rfl (bld_0)) rfl (Rg.eff (Eff.storeAll (l := 2) sz73 rfl rfl rfl rfl rfl rfl) rfl fun _ _ => (Rg.val (Val.assign rfl) rfl (Rg.nil (Rx.seq (Cd.ret (Rx.pastR (Rx.retR rfl (RO.cell 2 rfl rfl ag73 rfl (RO.tmp rfl (RO.nil))) fun w hm_ => ((by have bv_ : DivV xs mass x y _ _ _ := div_pt h0_ zc2 zc3; rw [bv_.e, bv_.gs, bv_.ld]; exact RowPost.none hm_.below rfl rfl)))))))))))
      · replace c3 := bnot_f c3
        replace c3 := of_decide_eq_true c3
        have zc3 : (validPt x y) = true := by cases hz_ : (validPt x y) <;> simp [errR, hz_] at c3 ⊢
        refine Cd.skip (Rx.seq (Cd.seq (Cd.region (Rg.val (Val.build rfl (bld_0)) rfl (Rg.eff (Eff.alloc 3 zv73 rfl) rfl fun b3 _ => (Rg.eff (Eff.storeAll (l := 3) sz73 rfl rfl rfl rfl rfl rfl) rfl fun _ _ => (Rg.nil (Rx.seq (Cd.seq (Cd.region (Rg.val (Val.move rfl) rfl (Rg.eff (Eff.made (A := Option Addr × Nat × List Dw) (Bs := fun p_ => [(92, rowL 71 1 encDw p_.1 p_.2.1 p_.2.2), (93, rowsD 3 p_.2.2)]) rfl rfl en46 rfl (fun _ => rfl) (fun w hm => rdivisions_calls _ _ xs w (hm.rdb hR) hxl hY h3)) rfl fun p4 hp4 => ?_))))))))))))
        have hdl : ∀ d ∈ p4.2.2, d.gs.length = xs.length := fun d hd => divs_len (by rw [← hp4]; exact List.mem_map_of_mem hd)
        have hdn : p4.2.2.length ≤ 92 := by have h_ := congrArg List.length hp4; rw [List.length_map, divsP, divsI_len] at h_; have := hY.len; omega
        refine Rg.val (Val.assign rfl) rfl (Rg.nil (Rx.seq (Cd.seq (Cd.seq (Cd.region (Rg.val (Val.assign rfl) rfl (Rg.nil (Rx.seq (Cd.block ?_)))))))))
        refine Cd.loop (A := Nat × Dw × Int) (fun pr_ : Nat × Dw × Int => match pr_ with | (i, d, ld) => i ≤ p4.2.2.length ∧ RvI xs mass x y p4.2.2 i d ld)
            (fun pr_ : Nat × Dw × Int => match pr_ with | (i, d, ld) => [(0, .slice a xs.length cap), (1, .int .i64 mass), (5, .pointer (some ⟨b1, 0, none⟩)), (6, .pointer (some ⟨b2, 0, none⟩)), (7, .int .i64 0), (8, .pointer (some ⟨b3, 0, none⟩)), (9, .slice p4.1 p4.2.2.length p4.2.1), (10, .int .i64 (i : Int))])
            (fun pr_ : Nat × Dw × Int => match pr_ with | (i, d, ld) => [(1, blk b1 [.int .i64 x, .int .i64 y] 29), (2, blk b2 [.slice none 0 0, .int .i64 0] 73), (3, blk b3 [.slice d.a d.gs.length d.cap, .int .i64 ld] 73), (92, rowL 71 1 encDw p4.1 p4.2.1 p4.2.2), (93, rowsD 3 p4.2.2)])
            (fun pr_ : Nat × Dw × Int => match pr_ with | (i, d, ld) => p4.2.2.length - i) (0, ⟨none, 0, []⟩, 0) ?_ ⟨rfl, rfl, rfl, rfl, rfl, rfl, rfl, rfl, trivial⟩ ⟨rfl, rfl, rfl, rfl, rfl, trivial⟩ ?_
        · exact ⟨Nat.zero_le _, RvI.start⟩
        · rintro ⟨i, d, ld⟩ ⟨hi, hI⟩
          show Cd _ _ _ _ _ [(0, .slice a xs.length cap), (1, .int .i64 mass), (5, .pointer (some ⟨b1, 0, none⟩)), (6, .pointer (some ⟨b2, 0, none⟩)), (7, .int .i64 0), (8, .pointer (some ⟨b3, 0, none⟩)), (9, .slice p4.1 p4.2.2.length p4.2.1), (10, .int .i64 (i : Int))] [(1, blk b1 [.int .i64 x, .int .i64 y] 29), (2, blk b2 [.slice none 0 0, .int .i64 0] 73), (3, blk b3 [.slice d.a d.gs.length d.cap, .int .i64 ld] 73), (92, rowL 71 1 encDw p4.1 p4.2.1 p4.2.2), (93, rowsD 3 p4.2.2)]
          refine Cd.seq (Cd.seq (Cd.region (Rg.val (Val.move rfl) rfl (Rg.val (Val.move rfl) rfl (Rg.val (Val.len Try.underlying78 rfl) rfl (Rg.val (Val.lss rfl rfl) rfl (Rg.nil (Rx.seq (Cd.cond rfl (fun c5 => ?_) (fun c5 => ?_))))))))))
          · replace c5 := of_decide_eq_true c5
            refine Cd.skip (Rx.seq (Cd.seq (Cd.block (Cd.seq (Cd.region (Rg.val (Val.move rfl) rfl (Rg.val (Val.move rfl) rfl (Rg.val (Val.move rfl) rfl ?_))))))))
            obtain ⟨x6, hx7⟩ : ∃ x, p4.2.2[i]? = some x := ⟨_, List.getElem?_eq_getElem (by first | omega | (simp; omega))⟩
            refine Rg.val (Val.ideRow 92 Try.underlying78 sz71 rfl rfl rfl rfl (by first | rfl | omega | (simp; done)) hx7) rfl (Rg.val (Val.loadRow (k := 0) 92 rfl sc71 rfl (fun _ => rfl) hx7 rfl) rfl (Rg.eff (Eff.call rfl rfl en45 rfl (fun w hm => RowPost.mem 4 hm (grouped_calls _ _ xs _ _ _ w (hm.rdb hR) hxl (Rdb.of_rowsD (l := 93) hm rfl (List.mem_of_getElem? hx7)) (hdl _ (List.mem_of_getElem? hx7))))) rfl fun p8 _ => (Rg.val (Val.assign rfl) rfl (Rg.nil (Rx.seq (Cd.seq (Cd.seq (Cd.region (Rg.val (Val.move rfl) rfl (Rg.eff (Eff.give rfl rfl en27 rfl (fun w hm => refCheck_gives _ _ _ w (Rdb.of_row (l := 4) hm rfl (fun _ => rfl)))) rfl fun _ _ => (Rg.val (Val.neq rfl rfl) rfl (Rg.nil (Rx.seq (Cd.cond rfl (fun c9 => ?_) (fun c9 => ?_)))))))))))))))
            · replace c9 := bnot_t c9
              replace c9 := of_decide_eq_false c9
              refine Cd.exit (Rx.pastE (Rx.hit (Rx.seq (Cd.region (Rg.val (Val.move rfl) rfl (Rg.val (Val.addN rfl rfl (by have := hY.len; unfold in64; omega)) rfl (Rg.val (Val.assign rfl) rfl (Rg.nil ?_))))))))
              refine Rx.meet (i + 1, d, ld) ⟨⟨by omega, hI.skip hx7 (EV_no rfl c9)⟩, by show p4.2.2.length - (i + 1) < p4.2.2.length - i; omega⟩ ⟨rfl, rfl, rfl, rfl, rfl, rfl, rfl, rfl, trivial⟩ ⟨rfl, rfl, rfl, rfl, rfl, trivial⟩
            · replace c9 := bnot_f c9
              replace c9 := of_decide_eq_true c9
              refine Cd.skip (Rx.seq (Cd.seq (Cd.region (Rg.val (Val.move rfl) rfl (Rg.val (Val.move rfl) rfl (Rg.val (Val.loadAll (l := 1) rfl rfl ag29 rfl) rfl (Rg.eff (Eff.give rfl rfl en59 rfl (fun w hm => refshares_gives _ _ _ _ _ _ w (Rdb.of_row (l := 4) hm rfl (fun _ => rfl)) c9)) rfl fun _ _ => (Rg.val (Val.move rfl) rfl (Rg.val (Val.extract rfl rfl) rfl (Rg.val (Val.extract rfl rfl) rfl (Rg.eff (Eff.alloc 5 zv30 rfl) rfl fun b5 _ => (Rg.eff (Eff.storeAll (l := 5) sz30 rfl rfl rfl rfl rfl rfl) rfl fun _ _ => (Rg.val (Val.assign rfl) rfl (Rg.nil (Rx.seq (Cd.seq (Cd.region (Rg.val (Val.ia rfl rfl (ia30_0 _ _)) rfl (Rg.val (Val.load (l := 5) rfl rfl sc2 rfl) rfl (Rg.val (Val.ia rfl rfl (ia30_1 _ _)) rfl (Rg.val (Val.load (l := 5) rfl rfl sc2 rfl) rfl (Rg.val (Val.ia rfl rfl (ia30_2 _ _)) rfl (Rg.val (Val.load (l := 5) rfl rfl sc2 rfl) rfl (Rg.val (Val.max3 rfl rfl rfl) rfl (Rg.val (Val.assign rfl) rfl (Rg.nil (Rx.seq (Cd.seq (Cd.region (Rg.val (Val.move rfl) rfl (Rg.val (Val.eql rfl rfl) rfl (Rg.val (Val.move rfl) rfl (Rg.split 64 rfl (fun c10 => ?_) (fun c10 => ?_))))))))))))))))))))))))))))))))))
              · replace c10 := of_decide_eq_true c10
                refine Rg.on rfl rfl rfl (Rg.val (Val.fa rfl (fa73_0 _ _)) rfl (Rg.on rfl rfl rfl (Rg.val (Val.load (l := 3) rfl rfl sc71 rfl) rfl (Rg.on rfl rfl rfl (Rg.val (Val.len Try.underlying71 rfl) rfl (Rg.on rfl rfl rfl (Rg.val (Val.eql rfl rfl) rfl (Rg.on rfl rfl rfl (Rg.val (Val.move rfl) rfl (Rg.split 69 rfl (fun c11 => ?_) (fun c11 => ?_)))))))))))
                · replace c11 := of_decide_eq_true c11
                  refine Rg.off rfl rfl rfl rfl (Rg.off rfl rfl rfl rfl (Rg.off rfl rfl rfl rfl (Rg.off rfl rfl rfl rfl (Rg.on rfl rfl rfl (Rg.val (Val.pickT rfl rfl) rfl (Rg.val (Val.pickT rfl rfl) rfl (Rg.nil (Rx.seq (Cd.yes rfl (Cd.region (Rg.val (Val.move rfl) rfl (Rg.val (Val.move rfl) rfl (Rg.val (Val.ideRow 92 Try.underlying78 sz71 rfl rfl rfl rfl (by first | rfl | omega | (simp; done)) hx7) rfl (Rg.val (Val.loadRow (k := 0) 92 rfl sc71 rfl (fun _ => rfl) hx7 rfl) rfl (Rg.val (Val.move rfl) rfl (Rg.val (Val.build rfl (bld_1 _ _ _ _)) rfl (Rg.eff (Eff.storeAll (l := 3) sz73 rfl rfl rfl rfl rfl rfl) rfl fun _ _ => (Rg.nil (Rx.inb (Rx.seq (Cd.region (Rg.val (Val.move rfl) rfl (Rg.val (Val.addN rfl rfl (by have := hY.len; unfold in64; omega)) rfl (Rg.val (Val.assign rfl) rfl (Rg.nil ?_)))))))))))))))))))))))))
                  refine Rx.meet (i + 1, x6, Max.max (Max.max ((sharesF (grp xs x6.gs) (sumsW (grp xs x6.gs)) mass x y).1.1) ((sharesF (grp xs x6.gs) (sumsW (grp xs x6.gs)) mass x y).1.2.1)) ((sharesF (grp xs x6.gs) (sumsW (grp xs x6.gs)) mass x y).1.2.2)) ⟨⟨by omega, hI.better hdl h3 hx7 (EV_ok rfl c9 c10) (.inl c11)⟩, by show p4.2.2.length - (i + 1) < p4.2.2.length - i; omega⟩ ⟨rfl, rfl, rfl, rfl, rfl, rfl, rfl, rfl, trivial⟩ ⟨rfl, rfl, rfl, rfl, rfl, trivial⟩
                · replace c11 := of_decide_eq_false c11
                  refine Rg.on rfl rfl rfl (Rg.val (Val.move rfl) rfl (Rg.on rfl rfl rfl (Rg.val (Val.fa rfl (fa73_1 _ _)) rfl (Rg.on rfl rfl rfl (Rg.val (Val.load (l := 3) rfl rfl sc2 rfl) rfl (Rg.on rfl rfl rfl (Rg.val (Val.lss rfl rfl) rfl (Rg.on rfl rfl rfl (Rg.val (Val.pickF rfl rfl) rfl (Rg.val (Val.pickT rfl rfl) rfl (Rg.nil (Rx.seq (Cd.cond rfl (fun c12 => ?_) (fun c12 => ?_))))))))))))))
                  · replace c12 := of_decide_eq_true c12
                    refine Cd.region (Rg.val (Val.move rfl) rfl (Rg.val (Val.move rfl) rfl (Rg.val (Val.ideRow 92 Try.underlying78 sz71 rfl rfl rfl rfl (by first | rfl | omega | (simp; done)) hx7) rfl (Rg.val (Val.loadRow (k := 0) 92 rfl sc71 rfl (fun _ => rfl) hx7 rfl) rfl (Rg.val (Val.move rfl) rfl (Rg.val (Val.build rfl (bld_1 _ _ _ _)) rfl (Rg.eff (Eff.storeAll (l := 3) sz73 rfl rfl rfl rfl rfl rfl) rfl fun _ _ => (Rg.nil (Rx.inb (Rx.seq (Cd.region (Rg.val (Val.move rfl) rfl (Rg.val (Val.addN rfl rfl (by have := hY.len; unfold in64; omega)) rfl (Rg.val (Val.assign rfl) rfl (Rg.nil ?_)))))))))))))))
                    refine Rx.meet (i + 1, x6, Max.max (Max.max ((sharesF (grp xs x6.gs) (sumsW (grp xs x6.gs)) mass x y).1.1) ((sharesF (grp xs x6.gs) (sumsW (grp xs x6.gs)) mass x y).1.2.1)) ((sharesF (grp xs x6.gs) (sumsW (grp xs x6.gs)) mass x y).1.2.2)) ⟨⟨by omega, hI.better hdl h3 hx7 (EV_ok rfl c9 c10) (.inr c12)⟩, by show p4.2.2.length - (i + 1) < p4.2.2.length - i; omega⟩ ⟨rfl, rfl, rfl, rfl, rfl, rfl, rfl, rfl, trivial⟩ ⟨rfl, rfl, rfl, rfl, rfl, trivial⟩
                  · replace c12 := of_decide_eq_false c12
                    refine Cd.skip (Rx.inb (Rx.seq (Cd.region (Rg.val (Val.move rfl) rfl (Rg.val (Val.addN rfl rfl (by have := hY.len; unfold in64; omega)) rfl (Rg.val (Val.assign rfl) rfl (Rg.nil ?_)))))))
                    refine Rx.meet (i + 1, d, ld) ⟨⟨by omega, hI.worse hx7 (EV_ok rfl c9 c10) c11 c12⟩, by show p4.2.2.length - (i + 1) < p4.2.2.length - i; omega⟩ ⟨rfl, rfl, rfl, rfl, rfl, rfl, rfl, rfl, trivial⟩ ⟨rfl, rfl, rfl, rfl, rfl, trivial⟩
              · replace c10 := of_decide_eq_false c10
                refine Rg.off rfl rfl rfl rfl (Rg.off rfl rfl rfl rfl (Rg.off rfl rfl rfl rfl (Rg.off rfl rfl rfl rfl (Rg.off rfl rfl rfl rfl (Rg.off rfl rfl rfl rfl (Rg.off rfl rfl rfl rfl (Rg.off rfl rfl rfl rfl (Rg.off rfl rfl rfl rfl (Rg.off rfl rfl rfl rfl (Rg.val (Val.pickF rfl rfl) rfl (Rg.nil (Rx.seq (Cd.no rfl (Cd.skip (Rx.inb (Rx.seq (Cd.region (Rg.val (Val.move rfl) rfl (Rg.val (Val.addN rfl rfl (by have := hY.len; unfold in64; omega)) rfl (Rg.val (Val.assign rfl) rfl (Rg.nil ?_)))))))))))))))))))))
                refine Rx.meet (i + 1, d, ld) ⟨⟨by omega, hI.skip hx7 (EV_bad rfl c9 c10)⟩, by show p4.2.2.length - (i + 1) < p4.2.2.length - i; omega⟩ ⟨rfl, rfl, rfl, rfl, rfl, rfl, rfl, rfl, trivial⟩ ⟨rfl, rfl, rfl, rfl, rfl, trivial⟩
          · replace c5 := of_decide_eq_false c5
            refine Cd.exit (Rx.pastE (Rx.pastE (Rx.hit (Rx.seq (Cd.seq (Cd.seq (Cd.region (Rg.val (Val.fa rfl (fa73_0 _ _)) rfl (Rg.val (Val.load (l := 3) rfl rfl sc71 rfl) rfl (Rg.val (Val.len Try.underlying71 rfl) rfl (Rg.val (Val.eql rfl rfl) rfl (Rg.nil (Rx.seq (Cd.cond rfl (fun c13 => ?_) (fun c13 => ?_)))))))))))))))
            · replace c13 := of_decide_eq_true c13
              refine Cd.seq (Cd.region (Rg.val (Val.build rfl (bld_0)) rfl (Rg.eff (Eff.storeAll (l := 2) sz73 rfl rfl rfl rfl rfl rfl) rfl fun _ _ => (Rg.val (Val.assign rfl) rfl (Rg.nil (Rx.seq (Cd.ret (Rx.pastR (Rx.retR rfl (RO.cell 2 rfl rfl ag73 rfl (RO.tmp rfl (RO.nil))) fun w hm_ => ((by have bv_ : DivV xs mass x y _ _ _ := div_no h0_ zc2 zc3 ((hI.done hdl h3 (by omega) hp4).1 c13); rw [bv_.e, bv_.gs, bv_.ld]; exact RowPost.none hm_.below rfl rfl)))))))))))
            · replace c13 := of_decide_eq_false c13
              refine Cd.skip (Rx.seq (Cd.seq (Cd.region (Rg.val (Val.loadAll (l := 3) rfl rfl ag73 rfl) rfl (Rg.eff (Eff.storeAll (l := 2) sz73 rfl rfl rfl rfl rfl rfl) rfl fun _ _ => (Rg.val (Val.assign rfl) rfl (Rg.nil (Rx.seq (Cd.ret (Rx.retR rfl (RO.cell 2 rfl rfl ag73 rfl (RO.tmp rfl (RO.nil))) fun w hm_ => ((by obtain ⟨hb_, hd_⟩ := (hI.done hdl h3 (by omega) hp4).2 c13; have bv_ : DivV xs mass x y _ _ _ := div_got h0_ zc2 zc3 hb_; rw [bv_.e, bv_.gs, bv_.ld]; exact RowPost.row 51 (Mem.oneD (q := 93) 51 hm_ rfl hd_) rfl rfl))))))))))))

end Go.Proofs.Ytfekoippjmojgaa
