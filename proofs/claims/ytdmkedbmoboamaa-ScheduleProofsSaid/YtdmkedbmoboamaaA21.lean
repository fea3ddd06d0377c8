/- Walks of functions of the program: what each returns, told by plain functions. -/
import Derived.Test.YtdmkedbmoboamaaA20
import Derived.Test.YtdmkedbmoboamaaPX
import Derived.Test.YtdmkedbmoboamaaPY3
namespace Go.Proofs.Ytdmkedbmoboamaa
open Go.Kx Go.RowKit
set_option maxRecDepth 100000
set_option linter.unusedVariables false
set_option linter.unusedSimpArgs false
set_option linter.unnecessarySimpa false
set_option linter.constructorNameAsVariable false
theorem positiveS_calls.bsl_0  (w : World) : (Instr.buildSlice 24 0 #[]).run Try.prog w = .ok (.slice (some ⟨w.heap.size, 0, none⟩) 0 0) (w.alloc (.cells #[] 2)) := by kernel_rfl
open positiveS_calls in
theorem positiveS_calls (n : Nat) (a : Option Addr) (cap : Nat) (L : List Af) (w : World) (hR : Rdb w a 3 encAf L) (hlk : Lk n L) (hL : L.length ≤ 240) (hn : n ≤ 24) : Calls Try.prog 92 #[.int .i64 (n : Int), .slice a L.length cap] w fun e w' => ∃ b : Bool, ((b = true → ∀ π, Pot L π → False) ∧ (b = false → ∀ c, ¬ PosC n L c)) ∧ e = .returned (.bool b) ∧ Mem w [] w' := by
  refine calls_of (vs := [.int .i64 (n : Int), .slice a L.length cap]) Try.func92 rfl rfl rfl ?_
  show Cd _ _ _ _ _ [(0, .int .i64 (n : Int)), (1, .slice a L.length cap)] []
  refine Cd.seq (Cd.region (Rg.val (Val.assign rfl) rfl (Rg.nil (Rx.seq (Cd.seq (Cd.seq (Cd.region (Rg.val (Val.assign rfl) rfl (Rg.nil (Rx.seq (Cd.block ?_)))))))))))
  refine Cd.loop (A := Nat) (fun v : Nat => v ≤ n ∧ NoGain L n v)
      (fun v : Nat => [(0, .int .i64 (n : Int)), (1, .slice a L.length cap), (5, .int .i64 (v : Int))])
      (fun v : Nat => [])
      (fun v : Nat => n - v) 0 ?_ ⟨rfl, rfl, rfl, trivial⟩ trivial ?_
  · exact ⟨Nat.zero_le _, fun u hu => absurd hu (by omega)⟩
  · rintro v ⟨hv, hno⟩
    show Cd _ _ _ _ _ [(0, .int .i64 (n : Int)), (1, .slice a L.length cap), (5, .int .i64 (v : Int))] []
    refine Cd.seq (Cd.seq (Cd.region (Rg.val (Val.move rfl) rfl (Rg.val (Val.move rfl) rfl (Rg.val (Val.lss rfl rfl) rfl (Rg.nil (Rx.seq (Cd.cond rfl (fun c1 => ?_) (fun c1 => ?_)))))))))
    · replace c1 := of_decide_eq_true c1
      refine Cd.skip (Rx.seq (Cd.seq (Cd.block (Cd.seq (Cd.region (Rg.val (Val.move rfl) rfl (Rg.eff (Eff.makeRow (m := n) (u := (0 : Int)) (enc := encI) 51 Try.underlying24 mkf2 rfl rfl rfl (by first | rfl | omega | (simp; done)) rfl (by simp only [maxLen]; omega) rfl) rfl fun b51 _ => (Rg.val (Val.assign rfl) rfl (Rg.nil (Rx.seq (Cd.seq (Cd.seq (Cd.region (Rg.val (Val.assign rfl) rfl (Rg.nil (Rx.seq (Cd.block ?_)))))))))))))))))
      refine Cd.loop (A := Nat × List Int) (fun pr_ : Nat × List Int => match pr_ with | (i, fs) => i ≤ n ∧ fs.length = n ∧ ∀ k, k < i → fs[k]? = some (-1125899906842624))
          (fun pr_ : Nat × List Int => match pr_ with | (i, fs) => [(0, .int .i64 (n : Int)), (1, .slice a L.length cap), (5, .int .i64 (v : Int)), (6, .slice (some ⟨b51, 0, none⟩) n n), (7, .int .i64 (i : Int))])
          (fun pr_ : Nat × List Int => match pr_ with | (i, fs) => [(51, rowL 2 1 encI (some ⟨b51, 0, none⟩) n fs)])
          (fun pr_ : Nat × List Int => match pr_ with | (i, fs) => n - i) (0, List.replicate n 0) ?_ ⟨rfl, rfl, rfl, rfl, rfl, trivial⟩ ⟨rfl, trivial⟩ ?_
      · exact ⟨Nat.zero_le _, by simp, fun k hk => absurd hk (by omega)⟩
      · rintro ⟨i, fs⟩ ⟨hi, hfl, hfs⟩
        show Cd _ _ _ _ _ [(0, .int .i64 (n : Int)), (1, .slice a L.length cap), (5, .int .i64 (v : Int)), (6, .slice (some ⟨b51, 0, none⟩) n n), (7, .int .i64 (i : Int))] [(51, rowL 2 1 encI (some ⟨b51, 0, none⟩) n fs)]
        refine Cd.seq (Cd.seq (Cd.region (Rg.val (Val.move rfl) rfl (Rg.val (Val.move rfl) rfl (Rg.val (Val.lss rfl rfl) rfl (Rg.nil (Rx.seq (Cd.cond rfl (fun c2 => ?_) (fun c2 => ?_)))))))))
        · replace c2 := of_decide_eq_true c2
          refine Cd.skip (Rx.seq (Cd.seq (Cd.block (Cd.region (Rg.val (Val.move rfl) rfl (Rg.val (Val.move rfl) rfl ?_))))))
          obtain ⟨x3, hx4⟩ : ∃ x, fs[i]? = some x := ⟨_, List.getElem?_eq_getElem (by first | omega | (simp; omega))⟩
          refine Rg.val (Val.ideRow 51 Try.underlying24 sz2 rfl (by first | omega | (simp; omega)) rfl rfl (by first | rfl | omega | (simp; done)) hx4) rfl (Rg.eff (Eff.storeRow (k := 0) (u' := (-1125899906842624)) 51 sz2 rfl rfl rfl rfl (fun _ => rfl) hx4 rfl rfl) rfl fun _ _ => ?_)
          have hx5 := set_at (u' := (-1125899906842624)) hx4
          refine Rg.nil (Rx.inb (Rx.seq (Cd.region (Rg.val (Val.move rfl) rfl (Rg.val (Val.addN rfl rfl (by unfold in64; omega)) rfl (Rg.val (Val.assign rfl) rfl (Rg.nil ?_)))))))
          refine Rx.meet (i + 1, (fs.set i (-1125899906842624))) ⟨⟨by omega, by simpa using hfl, fun k hk => set_belowC hfs hx4 hk⟩, by show n - (i + 1) < n - i; omega⟩ ⟨rfl, rfl, rfl, rfl, rfl, trivial⟩ ⟨rfl, trivial⟩
        · replace c2 := of_decide_eq_false c2
          refine Cd.exit (Rx.pastE (Rx.pastE (Rx.hit (Rx.seq (Cd.seq (Cd.region (Rg.val (Val.move rfl) rfl (Rg.val (Val.move rfl) rfl ?_))))))))
          obtain ⟨x6, hx7⟩ : ∃ x, fs[v]? = some x := ⟨_, List.getElem?_eq_getElem (by first | omega | (simp; omega))⟩
          refine Rg.val (Val.ideRow 51 Try.underlying24 sz2 rfl (by first | omega | (simp; omega)) rfl rfl (by first | rfl | omega | (simp; done)) hx7) rfl (Rg.eff (Eff.storeRow (k := 0) (u' := 0) 51 sz2 rfl rfl rfl rfl (fun _ => rfl) hx7 rfl rfl) rfl fun _ _ => ?_)
          have hx8 := set_at (u' := 0) hx7
          refine Rg.nil (Rx.seq (Cd.seq (Cd.seq (Cd.region (Rg.val (Val.assign rfl) rfl (Rg.nil (Rx.seq (Cd.block ?_))))))))
          refine Cd.loop (A := Nat × Option Addr × Nat × List Int) (fun pr_ : Nat × Option Addr × Nat × List Int => match pr_ with | (k, ra, rc, ls) => k ≤ n ∧ PosI n L v k ls ∧ LowI L v k ls)
              (fun pr_ : Nat × Option Addr × Nat × List Int => match pr_ with | (k, ra, rc, ls) => [(0, .int .i64 (n : Int)), (1, .slice a L.length cap), (5, .int .i64 (v : Int)), (6, .slice ra n rc), (8, .int .i64 (k : Int))])
              (fun pr_ : Nat × Option Addr × Nat × List Int => match pr_ with | (k, ra, rc, ls) => [(51, rowL 2 1 encI ra rc ls)])
              (fun pr_ : Nat × Option Addr × Nat × List Int => match pr_ with | (k, ra, rc, ls) => n - k) (0, (some ⟨b51, 0, none⟩), n, (fs.set v 0)) ?_ ⟨rfl, rfl, rfl, rfl, rfl, trivial⟩ ⟨rfl, trivial⟩ ?_
          · exact ⟨Nat.zero_le _, PosI.start hfl (fun k hk => hfs k (by omega)) hx7, LowI.start hx7⟩
          · rintro ⟨k, ra, rc, ls⟩ ⟨hk, hP, hW⟩
            show Cd _ _ _ _ _ [(0, .int .i64 (n : Int)), (1, .slice a L.length cap), (5, .int .i64 (v : Int)), (6, .slice ra n rc), (8, .int .i64 (k : Int))] [(51, rowL 2 1 encI ra rc ls)]
            have hls := hP.len
            refine Cd.seq (Cd.seq (Cd.region (Rg.val (Val.move rfl) rfl (Rg.val (Val.move rfl) rfl (Rg.val (Val.lss rfl rfl) rfl (Rg.nil (Rx.seq (Cd.cond rfl (fun c9 => ?_) (fun c9 => ?_)))))))))
            · replace c9 := of_decide_eq_true c9
              refine Cd.skip (Rx.seq (Cd.seq (Cd.block (Cd.seq (Cd.region (Rg.eff (Eff.buildSlice (cs := []) 52 rfl (fun w => (bsl_0) w) rfl) rfl fun b52 _ => (Rg.val (Val.move rfl) rfl (Rg.gain (fun w hm => hm.rowOf (l := 52) (e := 2) (sz := 1) (enc := encI) (xs := ([] : List Int)) (cap := 0) rfl rfl (fun _ => rfl) rfl (by decide)) (Rg.eff (Eff.appendSl (enc := encI) (ys := ls) (bytes := 8) 52 Try.underlying24 (by kernel_rfl) rfl rfl rfl rfl rfl (by first | omega | (simp; omega)) (fun w hm => (Rdb.of_row (l := 51) hm rfl (fun _ => rfl))) (fun _ => rfl) ones_I (by simp only [List.length_nil, maxLen]; omega) rfl) rfl fun p10 _ => (Rg.val (Val.assign rfl) rfl (Rg.nil (Rx.seq (Cd.seq (Cd.seq (Cd.region (Rg.val (Val.assign rfl) rfl (Rg.nil (Rx.seq (Cd.block (Cd.turn (t := 9) (v := .slice p10.1 n p10.2) rfl (by simp [hls]) ?_))))))))))))))))))))
              refine Cd.loop (A := Nat × Option Addr × Nat × List Int) (fun pr_ : Nat × Option Addr × Nat × List Int => match pr_ with | (c, rb, rd, l2) => c ≤ L.length ∧ PosI n L v (k + 1) l2 ∧ LowJ L v k c l2)
                  (fun pr_ : Nat × Option Addr × Nat × List Int => match pr_ with | (c, rb, rd, l2) => [(0, .int .i64 (n : Int)), (1, .slice a L.length cap), (5, .int .i64 (v : Int)), (6, .slice ra n rc), (8, .int .i64 (k : Int)), (9, .slice rb n rd), (10, .int .i64 (c : Int))])
                  (fun pr_ : Nat × Option Addr × Nat × List Int => match pr_ with | (c, rb, rd, l2) => [(51, rowL 2 1 encI ra rc ls), (52, rowL 2 1 encI rb rd l2)])
                  (fun pr_ : Nat × Option Addr × Nat × List Int => match pr_ with | (c, rb, rd, l2) => L.length - c) (0, p10.1, p10.2, ls) ?_ ⟨rfl, rfl, rfl, rfl, rfl, rfl, rfl, trivial⟩ ⟨rfl, rfl, trivial⟩ ?_
              · exact ⟨Nat.zero_le _, hP.mono, LowJ.start hW⟩
              · rintro ⟨c, rb, rd, l2⟩ ⟨hc, hQ, hW2⟩
                show Cd _ _ _ _ _ [(0, .int .i64 (n : Int)), (1, .slice a L.length cap), (5, .int .i64 (v : Int)), (6, .slice ra n rc), (8, .int .i64 (k : Int)), (9, .slice rb n rd), (10, .int .i64 (c : Int))] [(51, rowL 2 1 encI ra rc ls), (52, rowL 2 1 encI rb rd l2)]
                have hl2 := hQ.len
                refine Cd.seq (Cd.seq (Cd.region (Rg.val (Val.move rfl) rfl (Rg.val (Val.move rfl) rfl (Rg.val (Val.len Try.underlying23 rfl) rfl (Rg.val (Val.lss rfl rfl) rfl (Rg.nil (Rx.seq (Cd.cond rfl (fun c11 => ?_) (fun c11 => ?_))))))))))
                · replace c11 := of_decide_eq_true c11
                  refine Cd.skip (Rx.seq (Cd.seq (Cd.block (Cd.seq (Cd.region (Rg.val (Val.move rfl) rfl (Rg.val (Val.move rfl) rfl (Rg.val (Val.move rfl) rfl ?_))))))))
                  obtain ⟨x12, hx13⟩ : ∃ x, L[c]? = some x := ⟨_, List.getElem?_eq_getElem (by first | omega | (simp; omega))⟩
                  have hk_x12 := hlk _ (List.mem_of_getElem? hx13)
                  refine Rg.val (Val.ide Try.underlying23 sz38 rfl rfl hR (by first | rfl | omega | (simp; done)) hx13 (Nat.le_refl _)) rfl (Rg.val (Val.fae (k := 0) rfl (hR.ne hx13) fa38_0) rfl (Rg.val (Val.loadE (k := 0) rfl sc3 hR hx13 rfl) rfl ?_))
                  obtain ⟨x14, hx15⟩ : ∃ x, ls[(Int.toNat x12.p)]? = some x := ⟨_, List.getElem?_eq_getElem (by first | omega | (simp; omega))⟩
                  have hb_x14 := hP.bd _ (List.mem_of_getElem? hx15)
                  refine Rg.val (Val.ideRow 51 Try.underlying24 sz2 rfl (by first | omega | (simp; omega)) rfl rfl (by first | rfl | omega | (simp; done)) hx15) rfl (Rg.val (Val.loadRow (k := 0) 51 rfl sc2 rfl (fun _ => rfl) hx15 rfl) rfl (Rg.val (Val.gtr rfl rfl) rfl (Rg.nil (Rx.seq (Cd.cond rfl (fun c16 => ?_) (fun c16 => ?_))))))
                  · replace c16 := of_decide_eq_true c16
                    refine Cd.draw [(51, rowL 2 1 encI ra rc ls)] mixed rfl (Dr.take 0 rfl (by kernel_rfl) (Val.move rfl) rfl ⟨rfl, trivial⟩ (Dr.take 1 rfl (by kernel_rfl) (Val.move rfl) rfl ⟨rfl, trivial⟩ (Dr.take 2 rfl (by kernel_rfl) (Val.move rfl) rfl ⟨rfl, trivial⟩ (Dr.take 3 rfl (by kernel_rfl) (Val.ide Try.underlying23 sz38 rfl rfl hR (by first | rfl | omega | (simp; done)) hx13 (Nat.le_refl _)) rfl ⟨rfl, trivial⟩ (Dr.take 4 rfl (by kernel_rfl) (Val.fae (k := 1) rfl (hR.ne hx13) fa38_1) rfl ⟨rfl, trivial⟩ (Dr.take 5 rfl (by kernel_rfl) (Val.loadE (k := 1) rfl sc3 hR hx13 rfl) rfl ⟨rfl, trivial⟩ (Dr.take 6 rfl (by kernel_rfl) (Val.move rfl) rfl ⟨rfl, trivial⟩ (Dr.take 7 rfl (by kernel_rfl) (Val.move rfl) rfl ⟨rfl, trivial⟩ (Dr.take 8 rfl (by kernel_rfl) (Val.move rfl) rfl ⟨rfl, trivial⟩ (Dr.take 9 rfl (by kernel_rfl) (Val.ide Try.underlying23 sz38 rfl rfl hR (by first | rfl | omega | (simp; done)) hx13 (Nat.le_refl _)) rfl ⟨rfl, trivial⟩ (Dr.take 10 rfl (by kernel_rfl) (Val.fae (k := 1) rfl (hR.ne hx13) fa38_1) rfl ⟨rfl, trivial⟩ (Dr.take 11 rfl (by kernel_rfl) (Val.loadE (k := 1) rfl sc3 hR hx13 rfl) rfl ⟨rfl, trivial⟩ (Dr.take 14 rfl (by kernel_rfl) (Val.move rfl) rfl ⟨rfl, trivial⟩ (Dr.take 15 rfl (by kernel_rfl) (Val.move rfl) rfl ⟨rfl, trivial⟩ (Dr.take 16 rfl (by kernel_rfl) (Val.move rfl) rfl ⟨rfl, trivial⟩ (Dr.take 17 rfl (by kernel_rfl) (Val.ide Try.underlying23 sz38 rfl rfl hR (by first | rfl | omega | (simp; done)) hx13 (Nat.le_refl _)) rfl ⟨rfl, trivial⟩ (Dr.take 18 rfl (by kernel_rfl) (Val.fae (k := 0) rfl (hR.ne hx13) fa38_0) rfl ⟨rfl, trivial⟩ (Dr.take 19 rfl (by kernel_rfl) (Val.loadE (k := 0) rfl sc3 hR hx13 rfl) rfl ⟨rfl, trivial⟩ (Dr.take 20 rfl (by kernel_rfl) (Val.ideRow 51 Try.underlying24 sz2 rfl (by first | omega | (simp; omega)) rfl rfl (by first | rfl | omega | (simp; done)) hx15) rfl ⟨rfl, trivial⟩ (Dr.take 21 rfl (by kernel_rfl) (Val.loadRow (k := 0) 51 rfl sc2 rfl (fun _ => rfl) hx15 rfl) rfl ⟨rfl, trivial⟩ (Dr.take 22 rfl (by kernel_rfl) (Val.move rfl) rfl ⟨rfl, trivial⟩ (Dr.take 23 rfl (by kernel_rfl) (Val.move rfl) rfl ⟨rfl, trivial⟩ (Dr.take 24 rfl (by kernel_rfl) (Val.ide Try.underlying23 sz38 rfl rfl hR (by first | rfl | omega | (simp; done)) hx13 (Nat.le_refl _)) rfl ⟨rfl, trivial⟩ (Dr.take 25 rfl (by kernel_rfl) (Val.fae (k := 2) rfl (hR.ne hx13) fa38_2) rfl ⟨rfl, trivial⟩ (Dr.take 26 rfl (by kernel_rfl) (Val.loadE (k := 2) rfl sc2 hR hx13 rfl) rfl ⟨rfl, trivial⟩ (Dr.take 27 rfl (by kernel_rfl) (Val.addN rfl rfl (by unfold in64; omega)) rfl ⟨rfl, trivial⟩ ?_))))))))))))))))))))))))))
                    obtain ⟨x17, hx18⟩ : ∃ x, l2[(Int.toNat x12.q)]? = some x := ⟨_, List.getElem?_eq_getElem (by first | omega | (simp; omega))⟩
                    have hb_x17 := hQ.bd _ (List.mem_of_getElem? hx18)
                    refine Dr.one 12 (by kernel_rfl) rfl (Val.eff (Val.ideRow 52 Try.underlying24 sz2 rfl (by first | omega | (simp; omega)) rfl rfl (by first | rfl | omega | (simp; done)) hx18) rfl) rfl (fun _ _ => ⟨rfl, trivial⟩) fun _ _ => (Dr.one 13 (by kernel_rfl) rfl (Val.eff (Val.loadRow (k := 0) 52 rfl sc2 rfl (fun _ => rfl) hx18 rfl) rfl) rfl (fun _ _ => ⟨rfl, trivial⟩) fun _ _ => (Dr.take 28 rfl (by kernel_rfl) (Val.max rfl rfl) rfl ⟨rfl, trivial⟩ (Dr.one 29 (by kernel_rfl) rfl (Val.eff (Val.ideRow 52 Try.underlying24 sz2 rfl (by first | omega | (simp; omega)) rfl rfl (by first | rfl | omega | (simp; done)) hx18) rfl) rfl (fun _ _ => ⟨rfl, trivial⟩) fun _ _ => (Dr.one 30 (by kernel_rfl) rfl (Eff.storeRow (k := 0) (u' := (Max.max x17 (x14 + x12.lag))) 52 sz2 rfl rfl rfl rfl (fun _ => rfl) hx18 rfl rfl) rfl (fun _ _ => ⟨rfl, trivial⟩) fun _ _ => ?_))))
                    have hx19 := set_at (u' := (Max.max x17 (x14 + x12.lag))) hx18
                    refine Dr.done (by kernel_rfl) (Rx.inb (Rx.seq (Cd.region (Rg.val (Val.move rfl) rfl (Rg.val (Val.addN rfl rfl (by unfold in64; omega)) rfl (Rg.val (Val.assign rfl) rfl (Rg.nil ?_)))))))
                    refine Rx.meet (c + 1, rb, rd, (l2.set (Int.toNat x12.q) (Max.max x17 (x14 + x12.lag)))) ⟨⟨by omega, hP.step hQ hlk (List.mem_of_getElem? hx13) hx15 hx18 c16, hW2.set hW hx13 hx15 hx18⟩, by show L.length - (c + 1) < L.length - c; omega⟩ ⟨rfl, rfl, rfl, rfl, rfl, rfl, rfl, trivial⟩ ⟨rfl, rfl, trivial⟩
                  · replace c16 := of_decide_eq_false c16
                    refine Cd.skip (Rx.inb (Rx.seq (Cd.region (Rg.val (Val.move rfl) rfl (Rg.val (Val.addN rfl rfl (by unfold in64; omega)) rfl (Rg.val (Val.assign rfl) rfl (Rg.nil ?_)))))))
                    refine Rx.meet (c + 1, rb, rd, l2) ⟨⟨by omega, hQ, hW2.skip hlk (by omega) hW hx13 hx15 c16⟩, by show L.length - (c + 1) < L.length - c; omega⟩ ⟨rfl, rfl, rfl, rfl, rfl, rfl, rfl, trivial⟩ ⟨rfl, rfl, trivial⟩
                · replace c11 := of_decide_eq_false c11
                  refine Cd.exit (Rx.pastE (Rx.pastE (Rx.hit (Rx.seq (Cd.region (Rg.val (Val.move rfl) rfl (Rg.val (Val.assign rfl) rfl (Rg.nil (Rx.inb (Rx.seq (Cd.region (Rg.val (Val.move rfl) rfl (Rg.val (Val.addN rfl rfl (by unfold in64; omega)) rfl (Rg.val (Val.assign rfl) rfl (Rg.nil (Rx.gain (fun w hm => hm.relabel 52 51 rfl) ?_))))))))))))))))
                  refine Rx.meet (k + 1, rb, rd, l2) ⟨⟨by omega, hQ, hW2.done (by omega)⟩, by show n - (k + 1) < n - k; omega⟩ ⟨rfl, rfl, rfl, rfl, rfl, trivial⟩ ⟨rfl, trivial⟩
            · replace c9 := of_decide_eq_false c9
              refine Cd.exit (Rx.pastE (Rx.pastE (Rx.hit (Rx.seq (Cd.seq (Cd.region (Rg.val (Val.move rfl) rfl (Rg.val (Val.move rfl) rfl ?_))))))))
              obtain ⟨x20, hx21⟩ : ∃ x, ls[v]? = some x := ⟨_, List.getElem?_eq_getElem (by first | omega | (simp; omega))⟩
              have hb_x20 := hP.bd _ (List.mem_of_getElem? hx21)
              refine Rg.val (Val.ideRow 51 Try.underlying24 sz2 rfl (by first | omega | (simp; omega)) rfl rfl (by first | rfl | omega | (simp; done)) hx21) rfl (Rg.val (Val.loadRow (k := 0) 51 rfl sc2 rfl (fun _ => rfl) hx21 rfl) rfl (Rg.val (Val.gtr rfl rfl) rfl (Rg.nil (Rx.seq (Cd.cond rfl (fun c22 => ?_) (fun c22 => ?_))))))
              · replace c22 := of_decide_eq_true c22
                refine Cd.seq (Cd.region (Rg.val (Val.assign rfl) rfl (Rg.nil (Rx.seq (Cd.ret (Rx.inr (Rx.pastR (Rx.pastR (Rx.inr (Rx.pastR (Rx.ret1 rfl rfl fun w hm_ => (⟨true, ⟨fun _ π_ hπ_ => hP.no hx21 c22 hπ_, fun h_ => (by cases h_)⟩, rfl, hm_.weak trivial⟩))))))))))))
              · replace c22 := of_decide_eq_false c22
                refine Cd.skip (Rx.inb (Rx.seq (Cd.region (Rg.val (Val.move rfl) rfl (Rg.val (Val.addN rfl rfl (by unfold in64; omega)) rfl (Rg.val (Val.assign rfl) rfl (Rg.nil ?_)))))))
                refine Rx.meet (v + 1) ⟨⟨by omega, hno.next (by have h_ := hW; rw [show k = n from by omega] at h_; exact h_) hx21 c22⟩, by show n - (v + 1) < n - v; omega⟩ ⟨rfl, rfl, rfl, trivial⟩ trivial
    · replace c1 := of_decide_eq_false c1
      refine Cd.exit (Rx.pastE (Rx.pastE (Rx.hit (Rx.seq (Cd.seq (Cd.region (Rg.val (Val.assign rfl) rfl (Rg.nil (Rx.seq (Cd.ret (Rx.ret1 rfl rfl fun w hm_ => (⟨false, ⟨fun h_ => (by cases h_), fun _ => NoGain.no (by have h_ := hno; rw [show v = n from by omega] at h_; exact h_)⟩, rfl, hm_.weak trivial⟩))))))))))))

theorem rWhy_calls (J : Jb) (ao : Option Addr) (co : Nat) (os : List Rw) (k : Int) (w : World) (hJ : JobAt w J) (hO : OrdAt w ao os) (hw : os.length ≤ 1000 ∧ ∀ r ∈ os, r.xs.length ≤ 1000) : Calls Try.prog 42 #[.agg #[.slice J.ta J.ts.length J.tc, .slice J.aa J.ls.length J.ac, .slice J.ga J.gs.length J.gc], .slice ao os.length co, .int .i64 k] w fun e w' => ∃ p : Int, WhyE J os k p ∧ e = .returned (.int .i64 p) ∧ Mem w [] w' := by
  refine calls_of (vs := [.agg #[.slice J.ta J.ts.length J.tc, .slice J.aa J.ls.length J.ac, .slice J.ga J.gs.length J.gc], .slice ao os.length co, .int .i64 k]) Try.func42 rfl rfl rfl ?_
  show Cd _ _ _ _ _ [(0, .agg #[.slice J.ta J.ts.length J.tc, .slice J.aa J.ls.length J.ac, .slice J.ga J.gs.length J.gc]), (1, .slice ao os.length co), (2, .int .i64 k)] []
  refine Cd.seq (Cd.region (Rg.eff (Eff.box 1 rfl rfl) rfl fun b1 _ => (Rg.val (Val.assign rfl) rfl (Rg.nil (Rx.seq (Cd.seq (Cd.region (Rg.val (Val.loadAll (l := 1) rfl rfl ag26 rfl) rfl (Rg.val (Val.move rfl) rfl (Rg.eff (Eff.give rfl rfl en20 rfl (fun w hm => rCheckOrder_gives J _ _ os w (Mem.job hm hJ) (Mem.ord hm hO) hw)) rfl fun _ _ => (Rg.val (Val.assign rfl) rfl (Rg.nil (Rx.seq (Cd.seq (Cd.seq (Cd.region (Rg.val (Val.move rfl) rfl (Rg.val (Val.neq rfl rfl) rfl (Rg.nil (Rx.seq (Cd.cond rfl (fun c1 => ?_) (fun c1 => ?_))))))))))))))))))))))
  · replace c1 := bnot_t c1
    replace c1 := of_decide_eq_false c1
    refine Cd.seq (Cd.region (Rg.val (Val.move rfl) rfl (Rg.val (Val.assign rfl) rfl (Rg.nil (Rx.seq (Cd.ret (Rx.pastR (Rx.ret1 rfl rfl fun w hm_ => (⟨(chkO J os), .inl ⟨c1, rfl⟩, rfl, hm_.weak trivial⟩)))))))))
  · replace c1 := bnot_f c1
    replace c1 := of_decide_eq_true c1
    obtain ⟨hK, hV, _⟩ := OrdOk.of c1
    have hS := sound_of hK hV
    have h0_ := c1
    refine Cd.skip (Rx.seq (Cd.seq (Cd.seq (Cd.region (Rg.val (Val.move rfl) rfl (Rg.val (Val.lss rfl rfl) rfl (Rg.val (Val.move rfl) rfl (Rg.split 16 rfl (fun c2 => ?_) (fun c2 => ?_)))))))))
    · replace c2 := of_decide_eq_true c2
      refine Rg.off rfl rfl rfl rfl (Rg.off rfl rfl rfl rfl (Rg.off rfl rfl rfl rfl (Rg.off rfl rfl rfl rfl (Rg.off rfl rfl rfl rfl (Rg.val (Val.pickT rfl rfl) rfl (Rg.nil (Rx.seq (Cd.yes rfl (Cd.seq (Cd.region (Rg.val (Val.assign rfl) rfl (Rg.nil (Rx.seq (Cd.ret (Rx.pastR (Rx.ret1 rfl rfl fun w hm_ => (⟨3, .inr ⟨h0_, .inl ⟨by omega, rfl⟩⟩, rfl, hm_.weak trivial⟩)))))))))))))))))
    · replace c2 := of_decide_eq_false c2
      refine Rg.on rfl rfl rfl (Rg.val (Val.move rfl) rfl (Rg.on rfl rfl rfl (Rg.val (Val.fa rfl (fa26_0 _ _)) rfl (Rg.on rfl rfl rfl (Rg.val (Val.load (l := 1) rfl rfl sc22 rfl) rfl (Rg.on rfl rfl rfl (Rg.val (Val.len Try.underlying22 rfl) rfl (Rg.on rfl rfl rfl (Rg.val (Val.geq rfl rfl) rfl (Rg.val (Val.pickF rfl rfl) rfl (Rg.nil (Rx.seq (Cd.cond rfl (fun c3 => ?_) (fun c3 => ?_))))))))))))))
      · replace c3 := of_decide_eq_true c3
        refine Cd.seq (Cd.region (Rg.val (Val.assign rfl) rfl (Rg.nil (Rx.seq (Cd.ret (Rx.pastR (Rx.ret1 rfl rfl fun w hm_ => (⟨3, .inr ⟨h0_, .inl ⟨by omega, rfl⟩⟩, rfl, hm_.weak trivial⟩))))))))
      · replace c3 := of_decide_eq_false c3
        refine Cd.skip (Rx.seq (Cd.seq (Cd.seq (Cd.draw [(1, blk b1 [.slice J.ta J.ts.length J.tc, .slice J.aa J.ls.length J.ac, .slice J.ga J.gs.length J.gc] 26)] mixed rfl (Dr.take 0 rfl (by kernel_rfl) (Val.fa rfl (fa26_0 _ _)) rfl ⟨rfl, trivial⟩ (Dr.take 1 rfl (by kernel_rfl) (Val.load (l := 1) rfl rfl sc22 rfl) rfl ⟨rfl, trivial⟩ (Dr.take 2 rfl (by kernel_rfl) (Val.len Try.underlying22 rfl) rfl ⟨rfl, trivial⟩ (Dr.take 3 rfl (by kernel_rfl) (Val.loadAll (l := 1) rfl rfl ag26 rfl) rfl ⟨rfl, trivial⟩ (Dr.take 4 rfl (by kernel_rfl) (Val.move rfl) rfl ⟨rfl, trivial⟩ (Dr.one 5 (by kernel_rfl) rfl (Eff.call rfl rfl en51 rfl (fun w hm => RowPost.mem 1028 hm (rlinks_calls J _ _ os w (Mem.job hm hJ) (Mem.ord hm hO) hK hV))) rfl (fun _ _ => ⟨rfl, trivial⟩) fun pd28 _ => (Dr.one 6 (by kernel_rfl) rfl (Eff.made (A := Bool) (Bs := fun _ => []) rfl rfl en92 rfl (fun _ => rfl) (fun w hm => positiveS_calls J.ts.length _ _ (linksF J os) w (Rdb.of_row (l := 1028) hm rfl (fun _ => rfl)) hS.lk' (linksF_len hK hV) hK.nts.2)) rfl (fun _ _ => ⟨rfl, trivial⟩) fun p4 hp4 => (Dr.done (by kernel_rfl) (Rx.seq (Cd.cond rfl (fun c5 => ?_) (fun c5 => ?_)))))))))))))))
        · refine Cd.seq (Cd.region (Rg.val (Val.assign rfl) rfl (Rg.nil (Rx.seq (Cd.ret (Rx.pastR (Rx.ret1 rfl rfl fun w hm_ => (⟨16, .inr ⟨h0_, .inr ⟨⟨by omega, by omega⟩, .inl ⟨rfl, hp4.1 c5⟩⟩⟩, rfl, hm_.weak trivial⟩))))))))
        · refine Cd.skip (Rx.seq (Cd.seq (Cd.region (Rg.val (Val.assign rfl) rfl (Rg.nil (Rx.seq (Cd.ret (Rx.ret1 rfl rfl fun w hm_ => (⟨0, .inr ⟨h0_, .inr ⟨⟨by omega, by omega⟩, .inr ⟨rfl, hp4.2 c5⟩⟩⟩, rfl, hm_.weak trivial⟩)))))))))

theorem rCircle_calls (J : Jb) (ao : Option Addr) (co : Nat) (os : List Rw) (w : World) (hJ : JobAt w J) (hO : OrdAt w ao os) (hw : os.length ≤ 1000 ∧ ∀ r ∈ os, r.xs.length ≤ 1000) : Calls Try.prog 43 #[.agg #[.slice J.ta J.ts.length J.tc, .slice J.aa J.ls.length J.ac, .slice J.ga J.gs.length J.gc], .slice ao os.length co] w fun e w' => ∃ p : Int, CircE J os p ∧ e = .returned (.int .i64 p) ∧ Mem w [] w' := by
  refine calls_of (vs := [.agg #[.slice J.ta J.ts.length J.tc, .slice J.aa J.ls.length J.ac, .slice J.ga J.gs.length J.gc], .slice ao os.length co]) Try.func43 rfl rfl rfl ?_
  show Cd _ _ _ _ _ [(0, .agg #[.slice J.ta J.ts.length J.tc, .slice J.aa J.ls.length J.ac, .slice J.ga J.gs.length J.gc]), (1, .slice ao os.length co)] []
  refine Cd.seq (Cd.region (Rg.eff (Eff.box 1 rfl rfl) rfl fun b1 _ => (Rg.val (Val.assign rfl) rfl (Rg.nil (Rx.seq (Cd.seq (Cd.region (Rg.val (Val.loadAll (l := 1) rfl rfl ag26 rfl) rfl (Rg.val (Val.move rfl) rfl (Rg.eff (Eff.give rfl rfl en20 rfl (fun w hm => rCheckOrder_gives J _ _ os w (Mem.job hm hJ) (Mem.ord hm hO) hw)) rfl fun _ _ => (Rg.val (Val.assign rfl) rfl (Rg.nil (Rx.seq (Cd.seq (Cd.seq (Cd.region (Rg.val (Val.move rfl) rfl (Rg.val (Val.neq rfl rfl) rfl (Rg.nil (Rx.seq (Cd.cond rfl (fun c1 => ?_) (fun c1 => ?_))))))))))))))))))))))
  · replace c1 := bnot_t c1
    replace c1 := of_decide_eq_false c1
    refine Cd.seq (Cd.region (Rg.val (Val.move rfl) rfl (Rg.val (Val.assign rfl) rfl (Rg.nil (Rx.seq (Cd.ret (Rx.pastR (Rx.ret1 rfl rfl fun w hm_ => (⟨(chkO J os), .inl ⟨c1, rfl⟩, rfl, hm_.weak trivial⟩)))))))))
  · replace c1 := bnot_f c1
    replace c1 := of_decide_eq_true c1
    obtain ⟨hK, hV, _⟩ := OrdOk.of c1
    have hS := sound_of hK hV
    have h0_ := c1
    refine Cd.skip (Rx.seq (Cd.seq (Cd.seq (Cd.draw [(1, blk b1 [.slice J.ta J.ts.length J.tc, .slice J.aa J.ls.length J.ac, .slice J.ga J.gs.length J.gc] 26)] mixed rfl (Dr.take 0 rfl (by kernel_rfl) (Val.fa rfl (fa26_0 _ _)) rfl ⟨rfl, trivial⟩ (Dr.take 1 rfl (by kernel_rfl) (Val.load (l := 1) rfl rfl sc22 rfl) rfl ⟨rfl, trivial⟩ (Dr.take 2 rfl (by kernel_rfl) (Val.len Try.underlying22 rfl) rfl ⟨rfl, trivial⟩ (Dr.take 3 rfl (by kernel_rfl) (Val.loadAll (l := 1) rfl rfl ag26 rfl) rfl ⟨rfl, trivial⟩ (Dr.take 4 rfl (by kernel_rfl) (Val.move rfl) rfl ⟨rfl, trivial⟩ (Dr.one 5 (by kernel_rfl) rfl (Eff.call rfl rfl en51 rfl (fun w hm => RowPost.mem 1017 hm (rlinks_calls J _ _ os w (Mem.job hm hJ) (Mem.ord hm hO) hK hV))) rfl (fun _ _ => ⟨rfl, trivial⟩) fun pd17 _ => (Dr.one 6 (by kernel_rfl) rfl (Eff.made (A := Bool) (Bs := fun _ => []) rfl rfl en92 rfl (fun _ => rfl) (fun w hm => positiveS_calls J.ts.length _ _ (linksF J os) w (Rdb.of_row (l := 1017) hm rfl (fun _ => rfl)) hS.lk' (linksF_len hK hV) hK.nts.2)) rfl (fun _ _ => ⟨rfl, trivial⟩) fun p2 hp2 => (Dr.take 7 rfl (by kernel_rfl) (Val.not rfl) rfl ⟨rfl, trivial⟩ (Dr.done (by kernel_rfl) (Rx.seq (Cd.cond rfl (fun c3 => ?_) (fun c3 => ?_))))))))))))))))
    · replace c3 := bnot_t c3
      refine Cd.seq (Cd.region (Rg.val (Val.assign rfl) rfl (Rg.nil (Rx.seq (Cd.ret (Rx.pastR (Rx.ret1 rfl rfl fun w hm_ => (⟨15, .inr ⟨h0_, .inl ⟨rfl, hp2.2 c3⟩⟩, rfl, hm_.weak trivial⟩))))))))
    · replace c3 := bnot_f c3
      refine Cd.skip (Rx.seq (Cd.seq (Cd.region (Rg.val (Val.assign rfl) rfl (Rg.nil (Rx.seq (Cd.ret (Rx.ret1 rfl rfl fun w hm_ => (⟨0, .inr ⟨h0_, .inr ⟨rfl, hp2.1 c3⟩⟩, rfl, hm_.weak trivial⟩)))))))))

end Go.Proofs.Ytdmkedbmoboamaa
