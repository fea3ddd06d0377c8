/- Walks of functions of the program: what each returns, told by plain functions; nothing that lay there is turned. -/
import Derived.Test.YtfekoippjmojgaaS21
namespace Go.Proofs.Ytfekoippjmojgaa
open Go.Kx Go.RowKit
set_option maxRecDepth 100000
set_option linter.unusedVariables false
set_option linter.unusedSimpArgs false
set_option linter.constructorNameAsVariable false
theorem Rdb.nil_of {W : World} {a : Option Addr} {sz : Nat} {α : Type} {enc : α → List Value} {xs : List α} (h : Rdb W a sz enc xs) (ha : a.isNone = true) : xs = [] := by
  cases xs with
  | nil => rfl
  | cons x r =>
    obtain ⟨b, off, rfl, _⟩ := h 0 x rfl
    cases ha
/-- The first place of a number; -1: there is none. -/
def idxI (x : Int) : Int → List Int → Int
  | _, [] => -1
  | k, y :: r => if x = y then k else idxI x (k + 1) r
theorem idxI_any {x : Int} : ∀ {l : List Int} {k : Int}, 0 ≤ k → (0 ≤ idxI x k l ↔ l.any (fun y => decide (x = y)) = true)
  | [], k, _ => by simp [idxI]
  | y :: r, k, hk => by
    rw [idxI]
    by_cases e : x = y
    · rw [if_pos e]; simp [e, hk]
    · rw [if_neg e, idxI_any (by omega)]; simp [e]
def memB (fs : List Int) (x : Int) : Bool := fs.any fun y => decide (x = y)
theorem memB_iff {fs : List Int} {x : Int} : memB fs x = true ↔ x ∈ fs := by unfold memB; simp
/-- What stands at each place: ahead of i by F, from i on by G. -/
structure PtI (n : Nat) (i : Nat) (F G : Nat → Int) (out : List Int) : Prop where
  len : out.length = n
  at_ : ∀ j, j < n → out[j]? = some (if j < i then F j else G j)
theorem PtI.set {n i : Nat} {F G : Nat → Int} {out : List Int} (h : PtI n i F G out) (hi : i < n) : PtI n (i + 1) F G (out.set i (F i)) := by
  refine ⟨by simp [h.len], fun j hj => ?_⟩
  by_cases e : i = j
  · subst e; rw [List.getElem?_set_self (by rw [h.len]; exact hi), if_pos (by omega)]
  · rw [List.getElem?_set_ne e, h.at_ j hj]
    by_cases h1 : j < i
    · rw [if_pos h1, if_pos (by omega)]
    · rw [if_neg h1, if_neg (by omega)]
theorem PtI.same {n i : Nat} {F G : Nat → Int} {out : List Int} (h : PtI n i F G out) (e : i < n → F i = G i) : PtI n (i + 1) F G out := by
  refine ⟨h.len, fun j hj => ?_⟩
  rw [h.at_ j hj]
  by_cases e1 : j = i
  · subst e1; rw [if_neg (by omega), if_pos (by omega), e hj]
  · by_cases h1 : j < i
    · rw [if_pos h1, if_pos (by omega)]
    · rw [if_neg h1, if_neg (by omega)]
theorem PtI.now {n i : Nat} {F G : Nat → Int} {out : List Int} {x : Int} (h : PtI n i F G out) (hi : i < n) (hx : out[i]? = some x) : x = G i := by
  rw [h.at_ i hi, if_neg (by omega)] at hx
  injection hx with hx; exact hx.symm
theorem PtI.start {n : Nat} {F : Nat → Int} {c : Int} : PtI n 0 F (fun _ => c) (List.replicate n c) := ⟨by simp, fun j hj => by rw [List.getElem?_replicate, if_pos hj, if_neg (by omega)]⟩
theorem PtI.again {n : Nat} {F G H : Nat → Int} {out : List Int} (h : PtI n n F G out) : PtI n 0 H F out := ⟨h.len, fun j hj => by rw [h.at_ j hj, if_pos hj, if_neg (by omega)]⟩
theorem PtI.done {n i : Nat} {F G : Nat → Int} {out : List Int} (h : PtI n i F G out) (hi : n ≤ i) : out = (List.range n).map F := by
  refine List.ext_getElem? fun j => ?_
  by_cases hj : j < n
  · rw [h.at_ j hj, if_pos (by omega), List.getElem?_map, List.getElem?_range hj]; rfl
  · rw [List.getElem?_eq_none (by rw [h.len]; omega), List.getElem?_eq_none (by simp; omega)]
theorem seg_range (n : Nat) : seg 0 n = (List.range n).map fun (i : Nat) => (i : Int) := by unfold seg; rw [List.range_eq_range']
/-- The sum of Y over the places below i that p names; how many. -/
def sumY (p : Nat → Bool) (xs : List Sup) : Nat → Int
  | 0 => 0
  | i + 1 => sumY p xs i + if p i = true then (getS xs (i : Int)).y else 0
def cntY (p : Nat → Bool) : Nat → Int
  | 0 => 0
  | i + 1 => cntY p i + if p i = true then 1 else 0
theorem cntY_bd (p : Nat → Bool) : ∀ i, 0 ≤ cntY p i ∧ cntY p i ≤ i
  | 0 => by simp [cntY]
  | i + 1 => by
    have := cntY_bd p i
    rw [cntY]; split <;> omega
structure YBd (xs : List Sup) : Prop where
  y : ∀ s ∈ xs, -131072 ≤ s.y ∧ s.y ≤ 131072
  len : xs.length ≤ 48
theorem getS_y {xs : List Sup} (h : YBd xs) (i : Int) : -131072 ≤ (getS xs i).y ∧ (getS xs i).y ≤ 131072 := by
  unfold getS
  split
  · rename_i s hs; exact h.y s (List.mem_of_getElem? hs)
  · decide
theorem sumY_bd {xs : List Sup} (h : YBd xs) (p : Nat → Bool) : ∀ i : Nat, -(131072 * (i : Int)) ≤ sumY p xs i ∧ sumY p xs i ≤ 131072 * (i : Int)
  | 0 => by simp [sumY]
  | i + 1 => by
    have h1 := sumY_bd h p i
    have h2 := getS_y h (i : Int)
    rw [sumY]; split <;> omega
def outP (fs : List Int) (i : Nat) : Bool := !memB fs (i : Int)
/-- The groups of the division with the supports fs in the group 0. -/
def divG (xs : List Sup) (fs : List Int) (i : Nat) : Int := if memB fs (i : Int) = true then 0 else if sumY (outP fs) xs xs.length < (getS xs (i : Int)).y * cntY (outP fs) xs.length then 1 else 2
def divF (xs : List Sup) (fs : List Int) : List Int := (List.range xs.length).map (divG xs fs)
def markG (fs : List Int) (i : Nat) : Int := if memB fs (i : Int) = true then 0 else 2
theorem divF_len {xs : List Sup} {fs : List Int} : (divF xs fs).length = xs.length := by unfold divF; simp
theorem getS_at {xs : List Sup} {i : Nat} {s : Sup} (h : xs[i]? = some s) : getS xs (i : Int) = s := by unfold getS; rw [Int.toNat_natCast, h]
theorem cloneS_calls.bsl_0  (w : World) : (Instr.buildSlice 27 0 #[]).run Try.prog w = .ok (.slice (some ⟨w.heap.size, 0, none⟩) 0 0) (w.alloc (.cells #[] 62)) := by kernel_rfl
open cloneS_calls in
theorem cloneS_calls (a : Option Addr) (cap : Nat) (xs : List Sup) (w : World) (hR : Rdb w a 6 encSup xs) (hb : xs.length ≤ 1000000) : Calls Try.prog 80 #[.slice a xs.length cap] w (RowPost w 62 6 encSup xs fun a_ c_ => .slice a_ xs.length c_) := by
  refine calls_of (vs := [.slice a xs.length cap]) Try.func80 rfl rfl rfl ?_
  show Cd _ _ _ _ _ [(0, .slice a xs.length cap)] []
  refine Cd.seq (Cd.region (Rg.val (Val.assign rfl) rfl (Rg.nil (Rx.seq (Cd.seq (Cd.seq (Cd.region (Rg.val (Val.move rfl) rfl (Rg.val (Val.eqNil Try.underlying27 rfl rfl) rfl (Rg.nil (Rx.seq (Cd.cond rfl (fun c1 => ?_) (fun c1 => ?_)))))))))))))
  · refine Cd.seq (Cd.region (Rg.val (Val.assign rfl) rfl (Rg.nil (Rx.seq (Cd.ret (Rx.pastR (Rx.ret1 rfl rfl fun w hm_ => ((RowPost.none hm_.below (Rdb.nil_of hR c1) (by rw [Rdb.nil_of hR c1]; rfl))))))))))
  · refine Cd.skip (Rx.seq (Cd.seq (Cd.region (Rg.eff (Eff.buildSlice (cs := []) 1 rfl (fun w => (bsl_0) w) rfl) rfl fun b1 _ => (Rg.val (Val.move rfl) rfl (Rg.gain (fun w hm => hm.rowOf (l := 1) (e := 62) (sz := 6) (enc := encSup) (xs := ([] : List Sup)) (cap := 0) rfl rfl (fun _ => rfl) rfl (by decide)) (Rg.eff (Eff.appendSl (enc := encSup) (ys := xs) (bytes := 48) 1 Try.underlying27 (by kernel_rfl) rfl rfl rfl rfl rfl rfl (fun w hm => (hm.rdb hR)) (fun _ => rfl) ones_S (by simp only [List.length_nil, List.length_take, List.length_drop, maxLen]; omega) rfl) rfl fun p2 _ => (Rg.val (Val.assign rfl) rfl (Rg.nil (Rx.seq (Cd.ret (Rx.ret1 rfl rfl fun w hm_ => ((RowPost.row 1 hm_ rfl rfl))))))))))))))

theorem index_gives (la : Option Addr) (lc : Nat) (ls : List Int) (x : Int) (w : World) (hL : Rdb w la 1 encI ls) (hll : ls.length ≤ 1000000) : Gives Try.prog 125 #[.slice la ls.length lc, .int .i64 x] w (.int .i64 (idxI x 0 ls)) := by
  refine calls_of (vs := [.slice la ls.length lc, .int .i64 x]) Try.func125 rfl rfl rfl ?_
  show Cd _ _ _ _ _ [(0, .slice la ls.length lc), (1, .int .i64 x)] []
  refine Cd.seq (Cd.region (Rg.val (Val.assign rfl) rfl (Rg.nil (Rx.seq (Cd.seq (Cd.seq (Cd.region (Rg.val (Val.move rfl) rfl (Rg.val (Val.len Try.underlying71 rfl) rfl (Rg.val (Val.move rfl) rfl (Rg.nil (Rx.seq (Cd.block ?_)))))))))))))
  refine Cd.loop (A := Nat) (fun i : Nat => i ≤ ls.length ∧ idxI x 0 ls = idxI x (i : Int) (ls.drop i))
      (fun i : Nat => [(0, .slice la ls.length lc), (1, .int .i64 x), (7, .int .i64 (ls.length : Int)), (8, .int .i64 (i : Int))])
      (fun i : Nat => [])
      (fun i : Nat => ls.length - i) 0 ?_ ⟨rfl, rfl, rfl, rfl, trivial⟩ trivial ?_
  · exact ⟨Nat.zero_le _, rfl⟩
  · rintro i ⟨hi, hG⟩
    show Cd _ _ _ _ _ [(0, .slice la ls.length lc), (1, .int .i64 x), (7, .int .i64 (ls.length : Int)), (8, .int .i64 (i : Int))] []
    refine Cd.seq (Cd.region (Rg.val (Val.lss rfl rfl) rfl (Rg.nil (Rx.seq (Cd.seq (Cd.cond rfl (fun c1 => ?_) (fun c1 => ?_)))))))
    · replace c1 := of_decide_eq_true c1
      refine Cd.skip (Rx.seq (Cd.seq (Cd.block (Cd.seq (Cd.region (Rg.val (Val.move rfl) rfl (Rg.val (Val.assign rfl) rfl (Rg.nil (Rx.seq (Cd.seq (Cd.region (Rg.val (Val.move rfl) rfl (Rg.val (Val.move rfl) rfl (Rg.val (Val.move rfl) rfl ?_))))))))))))))
      obtain ⟨x2, hx3⟩ : ∃ x, ls[i]? = some x := ⟨_, List.getElem?_eq_getElem (by omega)⟩
      refine Rg.val (Val.ide Try.underlying71 sz3 rfl rfl hL (by first | rfl | omega | (simp; done)) hx3 (Nat.le_refl _)) rfl (Rg.val (Val.loadE (k := 0) rfl sc3 hL hx3 rfl) rfl (Rg.val (Val.eql rfl rfl) rfl (Rg.nil (Rx.seq (Cd.cond rfl (fun c4 => ?_) (fun c4 => ?_))))))
      · replace c4 := of_decide_eq_true c4
        refine Cd.seq (Cd.region (Rg.val (Val.move rfl) rfl (Rg.val (Val.assign rfl) rfl (Rg.nil (Rx.seq (Cd.ret (Rx.inr (Rx.pastR (Rx.pastR (Rx.inr (Rx.pastR (Rx.ret1 rfl rfl fun w hm_ => (⟨by have h_ := hG; rw [drop_at hx3, idxI, if_pos c4] at h_; rw [h_], hm_.below⟩)))))))))))))
      · replace c4 := of_decide_eq_false c4
        refine Cd.skip (Rx.inb (Rx.seq (Cd.region (Rg.val (Val.addN rfl rfl (by unfold in64; omega)) rfl (Rg.val (Val.move rfl) rfl (Rg.nil ?_))))))
        refine Rx.meet (i + 1) ⟨⟨by omega, by have h_ := hG; rw [drop_at hx3, idxI, if_neg c4] at h_; rw [h_]; congr 1⟩, by show ls.length - (i + 1) < ls.length - i; omega⟩ ⟨rfl, rfl, rfl, rfl, trivial⟩ trivial
    · replace c1 := of_decide_eq_false c1
      refine Cd.exit (Rx.pastE (Rx.pastE (Rx.hit (Rx.seq (Cd.seq (Cd.region (Rg.val (Val.assign rfl) rfl (Rg.nil (Rx.seq (Cd.ret (Rx.ret1 rfl rfl fun w hm_ => (⟨by have h_ := hG; rw [List.drop_eq_nil_of_le (by omega), idxI] at h_; rw [h_], hm_.below⟩))))))))))))

theorem contains_gives (la : Option Addr) (lc : Nat) (ls : List Int) (x : Int) (w : World) (hL : Rdb w la 1 encI ls) (hll : ls.length ≤ 1000000) : Gives Try.prog 119 #[.slice la ls.length lc, .int .i64 x] w (.bool (memB ls x)) := by
  refine calls_of (vs := [.slice la ls.length lc, .int .i64 x]) Try.func119 rfl rfl rfl ?_
  show Cd _ _ _ _ _ [(0, .slice la ls.length lc), (1, .int .i64 x)] []
  refine Cd.seq (Cd.region (Rg.val (Val.assign rfl) rfl (Rg.nil (Rx.seq (Cd.seq (Cd.region (Rg.val (Val.move rfl) rfl (Rg.val (Val.move rfl) rfl (Rg.eff (Eff.give rfl rfl en125 rfl (fun w hm => index_gives _ _ ls x w (hm.rdb hL) hll)) rfl fun _ _ => (Rg.val (Val.geq rfl rfl) rfl (Rg.val (Val.assign rfl) rfl (Rg.nil (Rx.seq (Cd.ret (Rx.ret1 rfl rfl fun w hm_ => (⟨congrArg (fun z => Ending.returned (.bool z)) (by unfold memB; rw [Bool.eq_iff_iff, decide_eq_true_iff]; exact idxI_any (Int.le_refl 0)), hm_.below⟩))))))))))))))))

theorem mul_bdY {a b : Int} (ha : -131072 ≤ a ∧ a ≤ 131072) (hb : 0 ≤ b ∧ b ≤ 48) : in64 (a * b) := by
  have h1 := Int.mul_le_mul_of_nonneg_right ha.2 hb.1
  have h2 := Int.mul_le_mul_of_nonneg_right ha.1 hb.1
  unfold in64; omega
theorem divide_calls (a : Option Addr) (cap : Nat) (xs : List Sup) (fa : Option Addr) (fc : Nat) (fs : List Int) (w : World) (hR : Rdb w a 6 encSup xs) (hF : Rdb w fa 1 encI fs) (hfl : fs.length ≤ 1000) (hY : YBd xs)  : Calls Try.prog 104 #[.slice a xs.length cap, .slice fa fs.length fc] w (RowPost w 3 1 encI (divF xs fs) fun a_ c_ => .slice a_ (divF xs fs).length c_) := by
  refine calls_of (vs := [.slice a xs.length cap, .slice fa fs.length fc]) Try.func104 rfl rfl rfl ?_
  show Cd _ _ _ _ _ [(0, .slice a xs.length cap), (1, .slice fa fs.length fc)] []
  refine Cd.seq (Cd.region (Rg.val (Val.assign rfl) rfl (Rg.nil (Rx.seq (Cd.seq (Cd.region (Rg.val (Val.move rfl) rfl (Rg.val (Val.len Try.underlying27 rfl) rfl (Rg.eff (Eff.makeRow (m := xs.length) (u := (0 : Int)) (enc := encI) 600 Try.underlying71 mkf3 rfl rfl rfl (by first | rfl | omega | (simp; done)) rfl (by have := hY.len; simp only [maxLen]; omega) rfl) rfl fun b600 _ => (Rg.val (Val.assign rfl) rfl (Rg.nil (Rx.seq (Cd.seq (Cd.region (Rg.val (Val.assign rfl) rfl (Rg.val (Val.assign rfl) rfl (Rg.nil (Rx.seq (Cd.seq (Cd.seq (Cd.region (Rg.val (Val.move rfl) rfl (Rg.val (Val.len Try.underlying27 rfl) rfl (Rg.val (Val.move rfl) rfl (Rg.nil (Rx.seq (Cd.block ?_)))))))))))))))))))))))))))
  refine Cd.loop (A := Nat × Int × Int × List Int) (fun pr_ : Nat × Int × Int × List Int => match pr_ with | (i, s, c, o) => i ≤ xs.length ∧ s = sumY (outP fs) xs i ∧ c = cntY (outP fs) i ∧ PtI xs.length i (markG fs) (fun _ => 0) o)
      (fun pr_ : Nat × Int × Int × List Int => match pr_ with | (i, s, c, o) => [(0, .slice a xs.length cap), (1, .slice fa fs.length fc), (4, .slice none 0 0), (5, .slice (some ⟨b600, 0, none⟩) xs.length xs.length), (6, .int .i64 s), (7, .int .i64 c), (14, .int .i64 (xs.length : Int)), (15, .int .i64 (i : Int))])
      (fun pr_ : Nat × Int × Int × List Int => match pr_ with | (i, s, c, o) => [(600, rowL 3 1 encI (some ⟨b600, 0, none⟩) xs.length o)])
      (fun pr_ : Nat × Int × Int × List Int => match pr_ with | (i, s, c, o) => xs.length - i) (0, 0, 0, List.replicate xs.length (0 : Int)) ?_ ⟨rfl, rfl, rfl, rfl, rfl, rfl, rfl, rfl, trivial⟩ ⟨rfl, trivial⟩ ?_
  · exact ⟨Nat.zero_le _, rfl, rfl, PtI.start⟩
  · rintro ⟨i, s, c, o⟩ ⟨hi, hs, hc, hO⟩
    show Cd _ _ _ _ _ [(0, .slice a xs.length cap), (1, .slice fa fs.length fc), (4, .slice none 0 0), (5, .slice (some ⟨b600, 0, none⟩) xs.length xs.length), (6, .int .i64 s), (7, .int .i64 c), (14, .int .i64 (xs.length : Int)), (15, .int .i64 (i : Int))] [(600, rowL 3 1 encI (some ⟨b600, 0, none⟩) xs.length o)]
    have hol := hO.len
    have hsb := sumY_bd hY (outP fs) i
    have hcb := cntY_bd (outP fs) i
    refine Cd.seq (Cd.region (Rg.val (Val.lss rfl rfl) rfl (Rg.nil (Rx.seq (Cd.seq (Cd.cond rfl (fun c1 => ?_) (fun c1 => ?_)))))))
    · replace c1 := of_decide_eq_true c1
      refine Cd.skip (Rx.seq (Cd.seq (Cd.block (Cd.seq (Cd.region (Rg.val (Val.move rfl) rfl (Rg.val (Val.assign rfl) rfl (Rg.nil (Rx.seq (Cd.seq (Cd.region (Rg.val (Val.move rfl) rfl (Rg.val (Val.move rfl) rfl (Rg.eff (Eff.give rfl rfl en119 rfl (fun w hm => contains_gives _ _ fs (i : Int) w (hm.rdb hF) (by omega))) rfl fun _ _ => (Rg.val (Val.not rfl) rfl (Rg.nil (Rx.seq (Cd.cond rfl (fun c2 => ?_) (fun c2 => ?_)))))))))))))))))))
      · replace c2 := bnot_t c2
        refine Cd.seq (Cd.region (Rg.val (Val.move rfl) rfl (Rg.val (Val.move rfl) rfl (Rg.val (Val.move rfl) rfl ?_))))
        obtain ⟨x3, hx4⟩ : ∃ x, xs[i]? = some x := ⟨_, List.getElem?_eq_getElem (by first | omega | (simp; omega))⟩
        have hy_x3 := hY.y _ (List.mem_of_getElem? hx4)
        refine Rg.val (Val.ide Try.underlying27 sz62 rfl rfl hR (by first | rfl | omega | (simp; done)) hx4 (Nat.le_refl _)) rfl (Rg.val (Val.fae (k := 1) rfl (hR.ne hx4) fa62_1) rfl (Rg.val (Val.loadE (k := 1) rfl sc2 hR hx4 rfl) rfl (Rg.val (Val.addN rfl rfl (by have := hY.len; unfold in64; omega)) rfl (Rg.val (Val.move rfl) rfl (Rg.val (Val.addN rfl rfl (by have := hY.len; unfold in64; omega)) rfl (Rg.val (Val.assign rfl) rfl (Rg.val (Val.assign rfl) rfl (Rg.nil (Rx.seq (Cd.region (Rg.val (Val.move rfl) rfl (Rg.val (Val.move rfl) rfl ?_))))))))))))
        obtain ⟨x5, hx6⟩ : ∃ x, o[i]? = some x := ⟨_, List.getElem?_eq_getElem (by first | omega | (simp; omega))⟩
        refine Rg.val (Val.ideRow 600 Try.underlying71 sz3 rfl (by first | omega | (simp; omega)) rfl rfl (by first | rfl | omega | (simp; done)) hx6) rfl (Rg.eff (Eff.storeRow (k := 0) (u' := 2) 600 sz3 rfl rfl rfl rfl (fun _ => rfl) hx6 rfl rfl) rfl fun _ _ => ?_)
        have hx7 := set_at (u' := 2) hx6
        refine Rg.nil (Rx.inb (Rx.seq (Cd.region (Rg.val (Val.addN rfl rfl (by have := hY.len; unfold in64; omega)) rfl (Rg.val (Val.move rfl) rfl (Rg.nil ?_))))))
        refine Rx.meet (i + 1, s + x3.y, c + 1, (o.set i 2)) ⟨⟨by omega, by rw [sumY, if_pos (by unfold outP; rw [c2]; rfl), getS_at hx4, hs], by rw [cntY, if_pos (by unfold outP; rw [c2]; rfl), hc], by have h_ := hO.set (show i < xs.length by omega); unfold markG at h_; rw [if_neg (by rw [c2]; decide)] at h_; exact h_⟩, by show xs.length - (i + 1) < xs.length - i; omega⟩ ⟨rfl, rfl, rfl, rfl, rfl, rfl, rfl, rfl, trivial⟩ ⟨rfl, trivial⟩
      · replace c2 := bnot_f c2
        refine Cd.skip (Rx.inb (Rx.seq (Cd.region (Rg.val (Val.addN rfl rfl (by have := hY.len; unfold in64; omega)) rfl (Rg.val (Val.move rfl) rfl (Rg.nil ?_))))))
        refine Rx.meet (i + 1, s, c, o) ⟨⟨by omega, by rw [sumY, if_neg (by unfold outP; rw [c2]; decide)]; omega, by rw [cntY, if_neg (by unfold outP; rw [c2]; decide)]; omega, hO.same (fun _ => by unfold markG; rw [if_pos c2])⟩, by show xs.length - (i + 1) < xs.length - i; omega⟩ ⟨rfl, rfl, rfl, rfl, rfl, rfl, rfl, rfl, trivial⟩ ⟨rfl, trivial⟩
    · replace c1 := of_decide_eq_false c1
      refine Cd.exit (Rx.pastE (Rx.pastE (Rx.hit (Rx.seq (Cd.seq (Cd.seq (Cd.region (Rg.val (Val.move rfl) rfl (Rg.val (Val.len Try.underlying27 rfl) rfl (Rg.val (Val.move rfl) rfl (Rg.nil (Rx.seq (Cd.block ?_)))))))))))))
      have hin : i = xs.length := by omega
      rw [hin] at hO hs hc
      refine Cd.loop (A := Nat × List Int) (fun pr_ : Nat × List Int => match pr_ with | (i2, o2) => i2 ≤ xs.length ∧ PtI xs.length i2 (divG xs fs) (markG fs) o2)
          (fun pr_ : Nat × List Int => match pr_ with | (i2, o2) => [(0, .slice a xs.length cap), (4, .slice none 0 0), (5, .slice (some ⟨b600, 0, none⟩) xs.length xs.length), (6, .int .i64 s), (7, .int .i64 c), (36, .int .i64 (xs.length : Int)), (37, .int .i64 (i2 : Int))])
          (fun pr_ : Nat × List Int => match pr_ with | (i2, o2) => [(600, rowL 3 1 encI (some ⟨b600, 0, none⟩) xs.length o2)])
          (fun pr_ : Nat × List Int => match pr_ with | (i2, o2) => xs.length - i2) (0, o) ?_ ⟨rfl, rfl, rfl, rfl, rfl, rfl, rfl, trivial⟩ ⟨rfl, trivial⟩ ?_
      · exact ⟨Nat.zero_le _, hO.again⟩
      · rintro ⟨i2, o2⟩ ⟨hi2, hO2⟩
        show Cd _ _ _ _ _ [(0, .slice a xs.length cap), (4, .slice none 0 0), (5, .slice (some ⟨b600, 0, none⟩) xs.length xs.length), (6, .int .i64 s), (7, .int .i64 c), (36, .int .i64 (xs.length : Int)), (37, .int .i64 (i2 : Int))] [(600, rowL 3 1 encI (some ⟨b600, 0, none⟩) xs.length o2)]
        have hol2 := hO2.len
        have hsb := sumY_bd hY (outP fs) xs.length
        have hcb := cntY_bd (outP fs) xs.length
        refine Cd.seq (Cd.region (Rg.val (Val.lss rfl rfl) rfl (Rg.nil (Rx.seq (Cd.seq (Cd.cond rfl (fun c8 => ?_) (fun c8 => ?_)))))))
        · replace c8 := of_decide_eq_true c8
          refine Cd.skip (Rx.seq (Cd.seq (Cd.block (Cd.seq (Cd.region (Rg.val (Val.move rfl) rfl (Rg.val (Val.assign rfl) rfl (Rg.nil (Rx.seq (Cd.seq (Cd.region (Rg.val (Val.move rfl) rfl (Rg.val (Val.move rfl) rfl ?_)))))))))))))
          obtain ⟨x9, hx10⟩ : ∃ x, o2[i2]? = some x := ⟨_, List.getElem?_eq_getElem (by first | omega | (simp; omega))⟩
          refine Rg.val (Val.ideRow 600 Try.underlying71 sz3 rfl (by first | omega | (simp; omega)) rfl rfl (by first | rfl | omega | (simp; done)) hx10) rfl (Rg.val (Val.loadRow (k := 0) 600 rfl sc3 rfl (fun _ => rfl) hx10 rfl) rfl (Rg.val (Val.eql rfl rfl) rfl (Rg.val (Val.move rfl) rfl (Rg.split 45 rfl (fun c11 => ?_) (fun c11 => ?_)))))
          · replace c11 := of_decide_eq_true c11
            refine Rg.on rfl rfl rfl (Rg.val (Val.move rfl) rfl (Rg.on rfl rfl rfl (Rg.val (Val.move rfl) rfl (Rg.on rfl rfl rfl ?_))))
            obtain ⟨x12, hx13⟩ : ∃ x, xs[i2]? = some x := ⟨_, List.getElem?_eq_getElem (by first | omega | (simp; omega))⟩
            have hy_x12 := hY.y _ (List.mem_of_getElem? hx13)
            refine Rg.val (Val.ide Try.underlying27 sz62 rfl rfl hR (by first | rfl | omega | (simp; done)) hx13 (Nat.le_refl _)) rfl (Rg.on rfl rfl rfl (Rg.val (Val.fae (k := 1) rfl (hR.ne hx13) fa62_1) rfl (Rg.on rfl rfl rfl (Rg.val (Val.loadE (k := 1) rfl sc2 hR hx13 rfl) rfl (Rg.on rfl rfl rfl (Rg.val (Val.move rfl) rfl (Rg.on rfl rfl rfl (Rg.val (Val.mulN rfl rfl (by have := hY.len; exact mul_bdY (by omega) (by omega))) rfl (Rg.on rfl rfl rfl (Rg.val (Val.move rfl) rfl (Rg.on rfl rfl rfl (Rg.val (Val.gtr rfl rfl) rfl (Rg.val (Val.pickT rfl rfl) rfl (Rg.nil (Rx.seq (Cd.cond rfl (fun c14 => ?_) (fun c14 => ?_)))))))))))))))))
            · replace c14 := of_decide_eq_true c14
              refine Cd.region (Rg.val (Val.move rfl) rfl (Rg.val (Val.move rfl) rfl (Rg.val (Val.ideRow 600 Try.underlying71 sz3 rfl (by first | omega | (simp; omega)) rfl rfl (by first | rfl | omega | (simp; done)) hx10) rfl (Rg.eff (Eff.storeRow (k := 0) (u' := 1) 600 sz3 rfl rfl rfl rfl (fun _ => rfl) hx10 rfl rfl) rfl fun _ _ => ?_))))
              have hx15 := set_at (u' := 1) hx10
              refine Rg.nil (Rx.inb (Rx.seq (Cd.region (Rg.val (Val.addN rfl rfl (by have := hY.len; unfold in64; omega)) rfl (Rg.val (Val.move rfl) rfl (Rg.nil ?_))))))
              refine Rx.meet (i2 + 1, (o2.set i2 1)) ⟨⟨by omega, by have g_ := hO2.now (by omega) hx10; unfold markG at g_; have hq : ¬ memB fs (i2 : Int) = true := fun hq => (by rw [if_pos hq] at g_; omega); have h_ := hO2.set (show i2 < xs.length by omega); unfold divG at h_; rw [if_neg hq, getS_at hx13, if_pos (by rw [← hs, ← hc]; exact c14)] at h_; exact h_⟩, by show xs.length - (i2 + 1) < xs.length - i2; omega⟩ ⟨rfl, rfl, rfl, rfl, rfl, rfl, rfl, trivial⟩ ⟨rfl, trivial⟩
            · replace c14 := of_decide_eq_false c14
              refine Cd.skip (Rx.inb (Rx.seq (Cd.region (Rg.val (Val.addN rfl rfl (by have := hY.len; unfold in64; omega)) rfl (Rg.val (Val.move rfl) rfl (Rg.nil ?_))))))
              refine Rx.meet (i2 + 1, o2) ⟨⟨by omega, hO2.same (fun _ => by have g_ := hO2.now (by omega) hx10; unfold markG at g_; have hq : ¬ memB fs (i2 : Int) = true := fun hq => (by rw [if_pos hq] at g_; omega); unfold divG markG; rw [if_neg hq, if_neg hq, getS_at hx13, if_neg (by rw [← hs, ← hc]; exact c14)])⟩, by show xs.length - (i2 + 1) < xs.length - i2; omega⟩ ⟨rfl, rfl, rfl, rfl, rfl, rfl, rfl, trivial⟩ ⟨rfl, trivial⟩
          · replace c11 := of_decide_eq_false c11
            refine Rg.off rfl rfl rfl rfl (Rg.off rfl rfl rfl rfl (Rg.off rfl rfl rfl rfl (Rg.off rfl rfl rfl rfl (Rg.off rfl rfl rfl rfl (Rg.off rfl rfl rfl rfl (Rg.off rfl rfl rfl rfl (Rg.off rfl rfl rfl rfl (Rg.off rfl rfl rfl rfl (Rg.val (Val.pickF rfl rfl) rfl (Rg.nil (Rx.seq (Cd.no rfl (Cd.skip (Rx.inb (Rx.seq (Cd.region (Rg.val (Val.addN rfl rfl (by have := hY.len; unfold in64; omega)) rfl (Rg.val (Val.move rfl) rfl (Rg.nil ?_)))))))))))))))))))
            refine Rx.meet (i2 + 1, o2) ⟨⟨by omega, hO2.same (fun _ => by have g_ := hO2.now (by omega) hx10; unfold markG at g_; unfold divG markG; by_cases hq : memB fs (i2 : Int) = true; (rw [if_pos hq, if_pos hq]); (rw [if_neg hq] at g_; omega))⟩, by show xs.length - (i2 + 1) < xs.length - i2; omega⟩ ⟨rfl, rfl, rfl, rfl, rfl, rfl, rfl, trivial⟩ ⟨rfl, trivial⟩
        · replace c8 := of_decide_eq_false c8
          refine Cd.exit (Rx.pastE (Rx.pastE (Rx.hit (Rx.seq (Cd.seq (Cd.region (Rg.val (Val.move rfl) rfl (Rg.val (Val.assign rfl) rfl (Rg.nil (Rx.seq (Cd.ret (Rx.ret1 rfl rfl fun w hm_ => ((by have e_ := hO2.done (by omega); rw [show (List.range xs.length).map (divG xs fs) = divF xs fs from rfl] at e_; rw [← e_]; rw [show xs.length = o2.length from hO2.len.symm]; exact RowPost.row 600 hm_ rfl (by rw [hO2.len])))))))))))))))

end Go.Proofs.Ytfekoippjmojgaa
