/- Walks of functions of the program: what each returns, told by plain functions; nothing that lay there is turned. -/
import Derived.Test.YtfekoippjmojgaaS22
namespace Go.Proofs.Ytfekoippjmojgaa
open Go.Kx Go.RowKit
set_option maxRecDepth 100000
set_option linter.unusedVariables false
set_option linter.unusedSimpArgs false
set_option linter.constructorNameAsVariable false
/-- The only order by X, of several by Y, of several by the number. -/
noncomputable def ordP (xs : List Sup) : List Int := open Classical in if h : ∃ o : List Int, o.Perm (seg 0 xs.length) ∧ Srt.Sd (klP xs) o then h.choose else []
theorem ordP_eq {xs : List Sup} {o : List Int} (h1 : o.Perm (seg 0 xs.length)) (h2 : Srt.Sd (klP xs) o) : ordP xs = o := by
  have h : ∃ o : List Int, o.Perm (seg 0 xs.length) ∧ Srt.Sd (klP xs) o := ⟨o, h1, h2⟩
  unfold ordP
  rw [dif_pos h]
  exact Srt.Sd.unique (klP_kl xs) h.choose_spec.2 h2 (h.choose_spec.1.trans h1.symm)
/-- The divisions with up to m supports in the group 0. -/
noncomputable def divsI (xs : List Sup) (m : Nat) : List (List Int) := (List.range m).flatMap fun i => [divF xs ((ordP xs).take (i + 1)), divF xs ((ordP xs).drop (xs.length - (i + 1)))]
noncomputable def divsP (xs : List Sup) : List (List Int) := divsI xs (xs.length - 2)
theorem divsI_succ {xs : List Sup} {m : Nat} : divsI xs (m + 1) = divsI xs m ++ [divF xs ((ordP xs).take (m + 1)), divF xs ((ordP xs).drop (xs.length - (m + 1)))] := by
  unfold divsI
  rw [List.range_succ, List.flatMap_append, List.flatMap_cons, List.flatMap_nil, List.append_nil]
theorem divsI_pre {xs : List Sup} {m k : Nat} (h : m ≤ k) : divsI xs m <+: divsI xs k := by
  obtain ⟨d, rfl⟩ : ∃ d, k = m + d := ⟨k - m, by omega⟩
  clear h
  induction d with
  | zero => exact List.prefix_refl _
  | succ d ih => exact ih.trans ⟨_, (divsI_succ (xs := xs) (m := m + d)).symm⟩
theorem divs_now {xs : List Sup} {o : List Int} (ho : ordP xs = o) {k : Nat} (h1 : 1 ≤ k) {D : List (List Int)} (hD : D = divsI xs (k - 1)) : D ++ [divF xs (o.take k)] ++ [divF xs (o.drop (xs.length - k))] = divsI xs k := by
  obtain ⟨m, rfl⟩ : ∃ m, k = m + 1 := ⟨k - 1, by omega⟩
  rw [hD, Nat.add_sub_cancel, divsI_succ, ho]; simp
theorem divs_two {xs : List Sup} {o : List Int} (ho : ordP xs = o) {k : Nat} (h1 : 1 ≤ k) (hk : k ≤ xs.length - 2) {D : List (List Int)} (hD : D = divsI xs (k - 1)) : D ++ [divF xs (o.take k)] ++ [divF xs (o.drop (xs.length - k))] <+: divsP xs := by
  rw [divs_now ho h1 hD]; exact divsI_pre hk
theorem divs_one {xs : List Sup} {o : List Int} (ho : ordP xs = o) {k : Nat} (h1 : 1 ≤ k) (hk : k ≤ xs.length - 2) {D : List (List Int)} (hD : D = divsI xs (k - 1)) : D ++ [divF xs (o.take k)] <+: divsP xs :=
  List.IsPrefix.trans (List.prefix_append _ _) (divs_two ho h1 hk hD)
/-- A division that is handed over. -/
structure Dw where
  a : Option Addr
  cap : Nat
  gs : List Int
abbrev dss (l : List Dw) : List (List Int) := l.map (fun x => x.gs)
def okD (DD : List (List Int)) (pre : List Dw) (x : Dw) : Prop := dss pre ++ [x.gs] <+: DD
def finD (DD : List (List Int)) (pre : List Dw) : Prop := dss pre = DD
theorem dss_snoc {pre : List Dw} {x : Dw} : dss (pre ++ [x]) = dss pre ++ [x.gs] := by simp
theorem divide_len (a : Option Addr) (cap : Nat) (xs : List Sup) (fa : Option Addr) (fc : Nat) (fs : List Int) (fl : Nat) (w : World) (hl : fs.length = fl) (hR : Rdb w a 6 encSup xs) (hF : Rdb w fa 1 encI fs) (hfl : fl ≤ 1000) (hY : YBd xs) : Calls Try.prog 104 #[.slice a xs.length cap, .slice fa fl fc] w (RowPost w 3 1 encI (divF xs fs) fun a_ c_ => .slice a_ (divF xs fs).length c_) := by
  subst hl
  exact divide_calls a cap xs fa fc fs w hR hF hfl hY
theorem divisions1_iter (bp : Nat) (a : Option Addr) (cap : Nat) (xs : List Sup) (w : World) (hR : Rdb w a 6 encSup xs) (hxl : xs.length ≤ 1000000) (hY : YBd xs) (h3 : 3 ≤ xs.length) : Iter Try.prog w 99 [.pointer (some ⟨bp, 0, none⟩)] [(3, blk bp [.slice a xs.length cap] 27)] (fun x : Dw => .slice x.a x.gs.length x.cap) (fun x : Dw => [(5, rowL 3 1 encI x.a x.cap x.gs)]) (okD (divsP xs)) (finD (divsP xs)) := by
  intro σ J Rel Relx l s0 w1 hYd h0 hm1
  refine calls_in (vs := [.func (.yield l) #[] #[], .pointer (some ⟨bp, 0, none⟩)]) Try.func99 rfl rfl rfl (Mem.weak (B' := [(0, restOf w.heap.size w1 (packR ((1, J s0) :: [(3, blk bp [.slice a xs.length cap] 27)]))), (1, J s0), (3, blk bp [.slice a xs.length cap] 27)]) (Mem.enter 0 hm1 rfl) ⟨rfl, rfl, rfl, trivial⟩) ?_
  show Cd _ _ _ _ _ [(0, .func (.yield l) #[] #[]), (1, .pointer (some ⟨bp, 0, none⟩))] [(0, restOf w.heap.size w1 (packR ((1, J s0) :: [(3, blk bp [.slice a xs.length cap] 27)]))), (1, J s0), (3, blk bp [.slice a xs.length cap] 27)]
  refine Cd.seq (Cd.region (Rg.val (Val.load (l := 3) rfl rfl sc27 rfl) rfl (Rg.val (Val.len Try.underlying27 rfl) rfl (Rg.eff (Eff.makeRow (m := xs.length) (u := (0 : Int)) (enc := encI) 2 Try.underlying71 mkf3 rfl rfl rfl (by first | rfl | omega | (simp; done)) rfl (by have := hY.len; simp only [maxLen]; omega) rfl) rfl fun b2 _ => (Rg.val (Val.assign rfl) rfl (Rg.nil (Rx.seq (Cd.seq (Cd.seq (Cd.region (Rg.val (Val.move rfl) rfl (Rg.val (Val.len Try.underlying71 rfl) rfl (Rg.val (Val.move rfl) rfl (Rg.nil (Rx.seq (Cd.block ?_))))))))))))))))
  refine Cd.loop (A := Nat × List Int) (fun pr_ : Nat × List Int => match pr_ with | (i, z) => i ≤ xs.length ∧ PtI xs.length i (fun (j : Nat) => (j : Int)) (fun _ => 0) z)
      (fun pr_ : Nat × List Int => match pr_ with | (i, z) => [(0, .func (.yield l) #[] #[]), (1, .pointer (some ⟨bp, 0, none⟩)), (3, .slice (some ⟨b2, 0, none⟩) xs.length xs.length), (10, .int .i64 (xs.length : Int)), (11, .int .i64 (i : Int))])
      (fun pr_ : Nat × List Int => match pr_ with | (i, z) => [(0, restOf w.heap.size w1 (packR ((1, J s0) :: [(3, blk bp [.slice a xs.length cap] 27)]))), (1, J s0), (2, rowL 3 1 encI (some ⟨b2, 0, none⟩) xs.length z), (3, blk bp [.slice a xs.length cap] 27)])
      (fun pr_ : Nat × List Int => match pr_ with | (i, z) => xs.length - i) (0, List.replicate xs.length (0 : Int)) ?_ ⟨rfl, rfl, rfl, rfl, rfl, trivial⟩ ⟨rfl, rfl, rfl, rfl, trivial⟩ ?_
  · exact ⟨Nat.zero_le _, PtI.start⟩
  · rintro ⟨i, z⟩ ⟨hi, hO⟩
    show Cd _ _ _ _ _ [(0, .func (.yield l) #[] #[]), (1, .pointer (some ⟨bp, 0, none⟩)), (3, .slice (some ⟨b2, 0, none⟩) xs.length xs.length), (10, .int .i64 (xs.length : Int)), (11, .int .i64 (i : Int))] [(0, restOf w.heap.size w1 (packR ((1, J s0) :: [(3, blk bp [.slice a xs.length cap] 27)]))), (1, J s0), (2, rowL 3 1 encI (some ⟨b2, 0, none⟩) xs.length z), (3, blk bp [.slice a xs.length cap] 27)]
    have hzl := hO.len
    refine Cd.seq (Cd.region (Rg.val (Val.lss rfl rfl) rfl (Rg.nil (Rx.seq (Cd.seq (Cd.cond rfl (fun c1 => ?_) (fun c1 => ?_)))))))
    · replace c1 := of_decide_eq_true c1
      refine Cd.skip (Rx.seq (Cd.seq (Cd.block (Cd.seq (Cd.region (Rg.val (Val.move rfl) rfl (Rg.val (Val.assign rfl) rfl (Rg.nil (Rx.seq (Cd.region (Rg.val (Val.move rfl) rfl (Rg.val (Val.move rfl) rfl (Rg.val (Val.move rfl) rfl ?_)))))))))))))
      obtain ⟨x2, hx3⟩ : ∃ x, z[i]? = some x := ⟨_, List.getElem?_eq_getElem (by first | omega | (simp; omega))⟩
      refine Rg.val (Val.ideRow 2 Try.underlying71 sz3 rfl (by first | omega | (simp; omega)) rfl rfl (by first | rfl | omega | (simp; done)) hx3) rfl (Rg.eff (Eff.storeRow (k := 0) (u' := (i : Int)) 2 sz3 rfl rfl rfl rfl (fun _ => rfl) hx3 rfl rfl) rfl fun _ _ => ?_)
      have hx4 := set_at (u' := (i : Int)) hx3
      refine Rg.nil (Rx.inb (Rx.seq (Cd.region (Rg.val (Val.addN rfl rfl (by have := hY.len; unfold in64; omega)) rfl (Rg.val (Val.move rfl) rfl (Rg.nil ?_))))))
      refine Rx.meet (i + 1, (z.set i (i : Int))) ⟨⟨by omega, hO.set (by omega)⟩, by show xs.length - (i + 1) < xs.length - i; omega⟩ ⟨rfl, rfl, rfl, rfl, rfl, trivial⟩ ⟨rfl, rfl, rfl, rfl, trivial⟩
    · replace c1 := of_decide_eq_false c1
      refine Cd.exit (Rx.pastE (Rx.pastE (Rx.hit (Rx.seq (Cd.seq (Cd.region (Rg.val (Val.move rfl) rfl (Rg.val (Val.fn rfl rfl) rfl ?_))))))))
      have hz6 : z = seg 0 xs.length := by rw [hO.done (by omega), seg_range]
      have hk_ : Srt.Kept xs.length xs.length z := ⟨hO.len, fun y hy => by rw [hz6] at hy; have := seg_mem hy; omega⟩
      refine Rg.eff (Eff.over (A := List Int) (v := fun _ => .tuple #[]) (Bs := [(2, rowL 3 1 encI (some ⟨b2, 0, none⟩) xs.length z), (3, blk bp [.slice a xs.length cap] 27)]) (Bs' := fun p_ => [(2, rowL 3 1 encI (some ⟨b2, 0, none⟩) xs.length p_), (3, blk bp [.slice a xs.length cap] 27)]) (B0 := [(0, restOf w.heap.size w1 (packR ((1, J s0) :: [(3, blk bp [.slice a xs.length cap] 27)]))), (1, J s0)]) rfl rfl en100 rfl ⟨rfl, rfl, trivial⟩ ⟨rfl, rfl, trivial⟩ rfl (fun _ => rfl) (fun w hm => sortStable_calls _ _ _ xs _ _ xs.length z _ hR hxl (by have := hY.len; omega) hz6 hY.len rfl hk_ _ (hm.weak ⟨rfl, rfl, trivial⟩))) rfl fun o5 ho5 => ?_
      have ho_ := ordP_eq ho5.1 ho5.2
      have hpl : o5.length = xs.length := by rw [ho5.1.length_eq, seg_len]
      refine Rg.nil (Rx.seq (Cd.seq (Cd.region (Rg.val (Val.assign rfl) rfl (Rg.nil (Rx.seq (Cd.block ?_)))))))
      refine Cd.loop (A := Nat × σ × List Dw) (fun pr_ : Nat × σ × List Dw => match pr_ with | (k, s, pre) => 1 ≤ k ∧ k ≤ xs.length - 1 ∧ dss pre = divsI xs (k - 1) ∧ Rel pre s)
          (fun pr_ : Nat × σ × List Dw => match pr_ with | (k, s, pre) => [(0, .func (.yield l) #[] #[]), (1, .pointer (some ⟨bp, 0, none⟩)), (3, .slice (some ⟨b2, 0, none⟩) xs.length xs.length), (5, .int .i64 (k : Int))])
          (fun pr_ : Nat × σ × List Dw => match pr_ with | (k, s, pre) => [(0, restOf w.heap.size w1 (packR ((1, J s0) :: [(3, blk bp [.slice a xs.length cap] 27)]))), (1, J s), (2, rowL 3 1 encI (some ⟨b2, 0, none⟩) xs.length o5), (3, blk bp [.slice a xs.length cap] 27)])
          (fun pr_ : Nat × σ × List Dw => match pr_ with | (k, s, pre) => xs.length - k) (1, s0, []) ?_ ⟨rfl, rfl, rfl, rfl, trivial⟩ ⟨rfl, rfl, rfl, rfl, trivial⟩ ?_
      · exact ⟨Nat.le_refl _, by omega, rfl, h0⟩
      · rintro ⟨k, s, pre⟩ ⟨hk1, hk2, hD, hRel⟩
        show Cd _ _ _ _ _ [(0, .func (.yield l) #[] #[]), (1, .pointer (some ⟨bp, 0, none⟩)), (3, .slice (some ⟨b2, 0, none⟩) xs.length xs.length), (5, .int .i64 (k : Int))] [(0, restOf w.heap.size w1 (packR ((1, J s0) :: [(3, blk bp [.slice a xs.length cap] 27)]))), (1, J s), (2, rowL 3 1 encI (some ⟨b2, 0, none⟩) xs.length o5), (3, blk bp [.slice a xs.length cap] 27)]
        refine Cd.seq (Cd.seq (Cd.region (Rg.val (Val.move rfl) rfl (Rg.val (Val.load (l := 3) rfl rfl sc27 rfl) rfl (Rg.val (Val.len Try.underlying27 rfl) rfl (Rg.val (Val.subN rfl rfl (by have := hY.len; unfold in64; omega)) rfl (Rg.val (Val.leq rfl rfl) rfl (Rg.nil (Rx.seq (Cd.cond rfl (fun c7 => ?_) (fun c7 => ?_)))))))))))
        · replace c7 := of_decide_eq_true c7
          refine Cd.skip (Rx.seq (Cd.seq (Cd.block (Cd.seq (Cd.draw [(0, restOf w.heap.size w1 (packR ((1, J s0) :: [(3, blk bp [.slice a xs.length cap] 27)]))), (3, blk bp [.slice a xs.length cap] 27), (2, rowL 3 1 encI (some ⟨b2, 0, none⟩) xs.length o5)] mixed rfl (Dr.take 0 rfl (by kernel_rfl) (Val.move rfl) rfl ⟨rfl, rfl, rfl, trivial⟩ (Dr.take 1 rfl (by kernel_rfl) (Val.load (l := 3) rfl rfl sc27 rfl) rfl ⟨rfl, rfl, rfl, trivial⟩ (Dr.take 2 rfl (by kernel_rfl) (Val.move rfl) rfl ⟨rfl, rfl, rfl, trivial⟩ (Dr.take 3 rfl (by kernel_rfl) (Val.move rfl) rfl ⟨rfl, rfl, rfl, trivial⟩ (Dr.take 4 rfl (by kernel_rfl) (Val.sliceHiRow (h := k) 2 Try.underlying71 sz3 rfl rfl rfl (by first | rfl | omega | (simp; done)) (by first | omega | (rw [hpl]; omega))) rfl ⟨rfl, rfl, rfl, trivial⟩ (Dr.one 5 (by kernel_rfl) rfl (Eff.call rfl rfl en104 rfl (fun w hm => RowPost.mem 5 hm (divide_len _ _ xs _ _ (o5.take k) k w (by first | (rw [List.length_take]; omega) | (rw [List.length_drop]; omega)) (hm.rdb hR) (Rdb.take (Rdb.of_row (l := 2) hm rfl (fun _ => rfl)) k) (by have := hY.len; omega) hY))) rfl (fun _ _ => ⟨rfl, rfl, rfl, trivial⟩) fun pd34 _ => (Dr.one 6 (by kernel_rfl) rfl (Eff.round (B0 := [(0, restOf w.heap.size w1 (packR ((1, J s0) :: [(3, blk bp [.slice a xs.length cap] 27)]))), (3, blk bp [.slice a xs.length cap] 27), (2, rowL 3 1 encI (some ⟨b2, 0, none⟩) xs.length o5)]) hYd (pre) (Dw.mk pd34.1 pd34.2 (divF xs (o5.take k))) s rfl rfl rfl hRel (divs_one ho_ hk1 (by omega) hD) ⟨rfl, rfl, trivial⟩ ⟨rfl, rfl, rfl, trivial⟩ rfl rfl) rfl (fun _ _ => ⟨rfl, rfl, rfl, trivial⟩) fun y8 hy8 => (Dr.take 7 rfl (by kernel_rfl) (Val.not rfl) rfl ⟨rfl, rfl, rfl, trivial⟩ (Dr.take 8 rfl (by kernel_rfl) (Val.move rfl) rfl ⟨rfl, rfl, rfl, trivial⟩ (Dr.split 37 rfl (fun c9 => ?_) (fun c9 => ?_))))))))))))))))
          · replace c9 := bnot_t c9
            refine Dr.off 9 rfl (by kernel_rfl) rfl rfl rfl rfl ⟨rfl, rfl, rfl, trivial⟩ (Dr.off 10 rfl (by kernel_rfl) rfl rfl rfl rfl ⟨rfl, rfl, rfl, trivial⟩ (Dr.off 11 rfl (by kernel_rfl) rfl rfl rfl rfl ⟨rfl, rfl, rfl, trivial⟩ (Dr.off 12 rfl (by kernel_rfl) rfl rfl rfl rfl ⟨rfl, rfl, rfl, trivial⟩ (Dr.off 13 rfl (by kernel_rfl) rfl rfl rfl rfl ⟨rfl, rfl, rfl, trivial⟩ (Dr.off 14 rfl (by kernel_rfl) rfl rfl rfl rfl ⟨rfl, rfl, rfl, trivial⟩ (Dr.off 15 rfl (by kernel_rfl) rfl rfl rfl rfl ⟨rfl, rfl, rfl, trivial⟩ (Dr.off 16 rfl (by kernel_rfl) rfl rfl rfl rfl ⟨rfl, rfl, rfl, trivial⟩ (Dr.off 17 rfl (by kernel_rfl) rfl rfl rfl rfl ⟨rfl, rfl, rfl, trivial⟩ (Dr.off 18 rfl (by kernel_rfl) rfl rfl rfl rfl ⟨rfl, rfl, rfl, trivial⟩ (Dr.off 19 rfl (by kernel_rfl) rfl rfl rfl rfl ⟨rfl, rfl, rfl, trivial⟩ (Dr.take 20 rfl (by kernel_rfl) (Val.pickT rfl rfl) rfl ⟨rfl, rfl, rfl, trivial⟩ (Dr.done (by kernel_rfl) (Rx.seq (Cd.yes rfl (Cd.ret (Rx.inr (Rx.pastR (Rx.pastR (Rx.inr (Rx.ret0 rfl fun w hm_ => (⟨⟨_, rfl⟩, y8.2, Turns.of_mem hm1.below hm_ (q := 0) rfl (.of ⟨rfl, trivial⟩) rfl, .inr ⟨_, hy8.2 c9⟩⟩)))))))))))))))))))))
          · replace c9 := bnot_f c9
            refine Dr.takeG 9 rfl (by kernel_rfl) rfl rfl rfl (Val.move rfl) rfl ⟨rfl, rfl, rfl, trivial⟩ (Dr.takeG 10 rfl (by kernel_rfl) rfl rfl rfl (Val.load (l := 3) rfl rfl sc27 rfl) rfl ⟨rfl, rfl, rfl, trivial⟩ (Dr.takeG 11 rfl (by kernel_rfl) rfl rfl rfl (Val.move rfl) rfl ⟨rfl, rfl, rfl, trivial⟩ (Dr.takeG 12 rfl (by kernel_rfl) rfl rfl rfl (Val.move rfl) rfl ⟨rfl, rfl, rfl, trivial⟩ (Dr.takeG 13 rfl (by kernel_rfl) rfl rfl rfl (Val.len Try.underlying71 rfl) rfl ⟨rfl, rfl, rfl, trivial⟩ (Dr.takeG 14 rfl (by kernel_rfl) rfl rfl rfl (Val.move rfl) rfl ⟨rfl, rfl, rfl, trivial⟩ (Dr.takeG 15 rfl (by kernel_rfl) rfl rfl rfl (Val.subN rfl rfl (by have := hY.len; unfold in64; omega)) rfl ⟨rfl, rfl, rfl, trivial⟩ (Dr.takeG 16 rfl (by kernel_rfl) rfl rfl rfl (Val.sliceLo (l := (xs.length - k)) Try.underlying71 sz3 rfl rfl (by first | rfl | omega | (simp; done)) (by first | omega | (rw [hpl]; omega))) rfl ⟨rfl, rfl, rfl, trivial⟩ (Dr.oneG 17 (by kernel_rfl) rfl rfl rfl rfl (Eff.call rfl rfl en104 rfl (fun w hm => RowPost.mem 5 hm (divide_len _ _ xs _ _ (o5.drop (xs.length - k)) (xs.length - (xs.length - k)) w (by first | (rw [List.length_take]; omega) | (rw [List.length_drop]; omega)) (hm.rdb hR) (Rdb.drop_row (l := 2) hm rfl (fun _ => rfl) (xs.length - k)) (by have := hY.len; omega) hY))) (fun _ _ => ⟨rfl, rfl, rfl, trivial⟩) fun pd46 _ => (Dr.oneG 18 (by kernel_rfl) rfl rfl rfl rfl (Eff.round (B0 := [(0, restOf w.heap.size w1 (packR ((1, J s0) :: [(3, blk bp [.slice a xs.length cap] 27)]))), (3, blk bp [.slice a xs.length cap] 27), (2, rowL 3 1 encI (some ⟨b2, 0, none⟩) xs.length o5)]) hYd ((pre ++ [(Dw.mk pd34.1 pd34.2 (divF xs (o5.take k)))])) (Dw.mk pd46.1 pd46.2 (divF xs (o5.drop (xs.length - k)))) y8.2 rfl rfl rfl (hy8.1 c9) (by have h_ := divs_two ho_ hk1 (by omega) hD; rw [okD, dss_snoc]; exact h_) ⟨rfl, rfl, trivial⟩ ⟨rfl, rfl, rfl, trivial⟩ rfl rfl) (fun _ _ => ⟨rfl, rfl, rfl, trivial⟩) fun y10 hy10 => (Dr.takeG 19 rfl (by kernel_rfl) rfl rfl rfl (Val.not rfl) rfl ⟨rfl, rfl, rfl, trivial⟩ (Dr.take 20 rfl (by kernel_rfl) (Val.pickF rfl rfl) rfl ⟨rfl, rfl, rfl, trivial⟩ (Dr.done (by kernel_rfl) (Rx.seq (Cd.cond rfl (fun c11 => ?_) (fun c11 => ?_)))))))))))))))
            · replace c11 := bnot_t c11
              refine Cd.ret (Rx.inr (Rx.pastR (Rx.pastR (Rx.inr (Rx.ret0 rfl fun w hm_ => (⟨⟨_, rfl⟩, y10.2, Turns.of_mem hm1.below hm_ (q := 0) rfl (.of ⟨rfl, trivial⟩) rfl, .inr ⟨_, hy10.2 c11⟩⟩))))))
            · replace c11 := bnot_f c11
              refine Cd.skip (Rx.inb (Rx.seq (Cd.region (Rg.val (Val.move rfl) rfl (Rg.val (Val.addN rfl rfl (by have := hY.len; unfold in64; omega)) rfl (Rg.val (Val.assign rfl) rfl (Rg.nil ?_)))))))
              refine Rx.meet (k + 1, y10.2, pre ++ [(Dw.mk pd34.1 pd34.2 (divF xs (o5.take k)))] ++ [(Dw.mk pd46.1 pd46.2 (divF xs (o5.drop (xs.length - k))))]) ⟨⟨by omega, by omega, by rw [dss_snoc, dss_snoc, Nat.add_sub_cancel]; exact divs_now ho_ hk1 hD, hy10.1 c11⟩, by show xs.length - (k + 1) < xs.length - k; omega⟩ ⟨rfl, rfl, rfl, rfl, trivial⟩ ⟨rfl, rfl, rfl, rfl, trivial⟩
        · replace c7 := of_decide_eq_false c7
          refine Cd.exit (Rx.pastE (Rx.pastE (Rx.hit (Rx.end0 rfl fun w hm_ => (⟨⟨_, rfl⟩, s, Turns.of_mem hm1.below hm_ (q := 0) rfl (.of ⟨rfl, trivial⟩) rfl, .inl ⟨pre, by rw [finD, hD, divsP, show k - 1 = xs.length - 2 from by omega], hRel⟩⟩)))))

theorem divisions_calls (a : Option Addr) (cap : Nat) (xs : List Sup) (w : World) : Calls Try.prog 81 #[.slice a xs.length cap] w fun e w' => ∃ b : Nat, True ∧ e = .returned (.func (.func 99) #[] #[.pointer (some ⟨b, 0, none⟩)]) ∧ Mem w [(3, blk b [.slice a xs.length cap] 27)] w' := by
  refine calls_of (vs := [.slice a xs.length cap]) Try.func81 rfl rfl rfl ?_
  show Cd _ _ _ _ _ [(0, .slice a xs.length cap)] []
  refine Cd.seq (Cd.region (Rg.eff (Eff.box 1 rfl rfl) rfl fun b1 _ => (Rg.val (Val.assign rfl) rfl (Rg.nil (Rx.seq (Cd.seq (Cd.region (Rg.val (Val.fn rfl rfl) rfl (Rg.val (Val.assign rfl) rfl (Rg.nil (Rx.seq (Cd.ret (Rx.ret1 rfl rfl fun w hm_ => (⟨b1, trivial, rfl, hm_.relabel 1 3 rfl⟩))))))))))))))

end Go.Proofs.Ytfekoippjmojgaa
