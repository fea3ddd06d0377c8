/- The plain law of a wider job: it is right where the job was, and its earliest plan is no later. -/
import Derived.Test.YtdmkedbmoboamaaPG
namespace Go.Proofs.Ytdmkedbmoboamaa
open Go.Kx
set_option linter.unusedVariables false
set_option linter.unusedSimpArgs false
set_option linter.unnecessarySimpa false
def WideW (ws ws1 : List Wn) : Prop := ws1.length = ws.length ∧ winF 0 ws1 = true ∧ ∀ m v, fitsF m v ws = true → fitsF m v ws1 = true
def PrevT (l : Int) (ws : List Wn) (j : Nat) (last : Int) : Prop := (j = 0 ∧ last = l) ∨ ∃ i y, j = i + 1 ∧ ws[i]? = some y ∧ last = y.t
theorem winF_cons {l : Int} {v : Wn} {r : List Wn} : winF l (v :: r) = true ↔ l ≤ v.f ∧ v.f < v.t ∧ v.t ≤ 1099511627776 ∧ winF v.t r = true := by
  simp only [winF]
  split
  · simp; omega
  · split
    · simp; omega
    · split
      · simp; omega
      · constructor
        · intro h; exact ⟨by omega, by omega, by omega, h⟩
        · intro h; exact h.2.2.2
theorem winF_set {k : Int} (hk : 0 ≤ k) {x : Wn} {last : Int} : ∀ {ws : List Wn} {l : Int} {j : Nat}, winF l ws = true → ws[j]? = some x → PrevT l ws j last → last ≤ x.f ∧ winF l (ws.set j ⟨max last (x.f - k), x.t⟩) = true
  | [], _, _, _, h, _ => by simp at h
  | v :: r, l, 0, hw, h, hp => by
    simp at h; subst h
    obtain ⟨h1, h2, h3, h4⟩ := winF_cons.1 hw
    rcases hp with ⟨_, hp⟩ | ⟨i, y, hp, _⟩
    · subst hp
      exact ⟨h1, winF_cons.2 ⟨by show last ≤ max last (v.f - k); omega, by show max last (v.f - k) < v.t; omega, h3, h4⟩⟩
    · omega
  | v :: r, l, j + 1, hw, h, hp => by
    obtain ⟨h1, h2, h3, h4⟩ := winF_cons.1 hw
    rcases hp with ⟨hp, _⟩ | ⟨i, y, hp, hy, hlast⟩
    · omega
    · have e : j = i := by omega
      subst e
      have hp' : PrevT v.t r j last := by
        cases j with
        | zero => simp at hy; subst hy; exact .inl ⟨rfl, hlast⟩
        | succ i => exact .inr ⟨i, y, rfl, by simpa using hy, hlast⟩
      obtain ⟨g1, g2⟩ := winF_set hk h4 (by simpa using h) hp'
      exact ⟨g1, winF_cons.2 ⟨h1, h2, h3, g2⟩⟩
theorem WideW.of {k : Int} (hk : 0 ≤ k) {ws : List Wn} {j : Nat} {x : Wn} {last : Int} (hw : winF 0 ws = true) (hx : ws[j]? = some x) (hp : PrevT 0 ws j last) : WideW ws (ws.set j ⟨max last (x.f - k), x.t⟩) := by
  obtain ⟨h1, h2⟩ := winF_set hk hw hx hp
  refine ⟨by simp, h2, fun m v hf => ?_⟩
  obtain ⟨w, hwm, h3, h4⟩ := fitsF_iff.1 hf
  obtain ⟨i, hi⟩ := List.mem_iff_getElem?.1 hwm
  by_cases e : i = j
  · subst e
    rw [hx] at hi; injection hi with hi; subst hi
    refine fitsF_iff.2 ⟨⟨max last (x.f - k), x.t⟩, ?_, by show max last _ ≤ v; omega, h4⟩
    exact List.mem_of_getElem? (i := i) (by rw [List.getElem?_set, if_pos rfl, if_pos (List.getElem?_eq_some_iff.1 hx).1])
  · exact fitsF_iff.2 ⟨w, List.mem_of_getElem? (i := i) (by rw [List.getElem?_set, if_neg (fun h => e h.symm)]; exact hi), h3, h4⟩
structure WideT (ts ts1 : List Tk) (wa : Option Addr) (ws1 : List Wn) : Prop where
  team : ts1.map Tk.team = ts.map Tk.team
  m : ts1.map Tk.m = ts.map Tk.m
  el : ∀ (k : Nat) (t1 : Tk), ts1[k]? = some t1 → ∃ t, ts[k]? = some t ∧ ((t1.aw = t.aw ∧ t1.ws = t.ws) ∨ (t1.aw = wa ∧ t1.ws = ws1 ∧ WideW t.ws ws1))
theorem WideT.same {ts : List Tk} {wa : Option Addr} {ws1 : List Wn} : WideT ts ts wa ws1 := ⟨rfl, rfl, fun k t h => ⟨t, h, .inl ⟨rfl, rfl⟩⟩⟩
theorem map_set_same {α β : Type} (f : α → β) {xs : List α} {i : Nat} {x y : α} (h : xs[i]? = some x) (hf : f y = f x) : (xs.set i y).map f = xs.map f := by
  rw [List.map_set]
  refine List.ext_getElem? fun k => ?_
  rw [List.getElem?_set]
  split
  · rename_i e; subst e
    split
    · rw [List.getElem?_map, h, hf]; rfl
    · rename_i h1; rw [List.length_map] at h1; exact absurd (List.getElem?_eq_some_iff.1 h).1 h1
  · rfl
theorem WideT.set {ts : List Tk} {wa : Option Addr} {wc : Nat} {ws1 : List Wn} {i : Nat} {t : Tk} (h : ts[i]? = some t) (hw : WideW t.ws ws1) : WideT ts (ts.set i ⟨t.m, wa, wc, ws1, t.team⟩) wa ws1 :=
  ⟨map_set_same _ h rfl, map_set_same _ h rfl, fun k t1 hk => by
    rw [List.getElem?_set] at hk
    split at hk
    · rename_i e; subst e
      split at hk
      · injection hk with hk; subst hk; exact ⟨t, h, .inr ⟨rfl, rfl, hw⟩⟩
      · cases hk
    · exact ⟨t1, hk, .inl ⟨rfl, rfl⟩⟩⟩
theorem WideT.len {ts ts1 : List Tk} {wa : Option Addr} {ws1 : List Wn} (h : WideT ts ts1 wa ws1) : ts1.length = ts.length := by
  have := congrArg List.length h.m; simpa using this
theorem map_at {α β : Type} {f : α → β} {xs ys : List α} (h : xs.map f = ys.map f) {k : Nat} {x y : α} (hx : xs[k]? = some x) (hy : ys[k]? = some y) : f x = f y := by
  have := congrArg (·[k]?) h
  simp only [List.getElem?_map, hx, hy, Option.map_some] at this
  injection this
def WideL (ls ls1 : List Af) : Prop := ls1.length ≤ ls.length ∧ ∀ a1 ∈ ls1, ∃ a ∈ ls, a1.p = a.p ∧ a1.q = a.q ∧ a1.lag ≤ a.lag ∧ -1048576 ≤ a1.lag
theorem WideL.same {ls : List Af} (h : ∀ a ∈ ls, -1048576 ≤ a.lag) : WideL ls ls := ⟨Nat.le_refl _, fun a ha => ⟨a, ha, rfl, rfl, Int.le_refl _, h a ha⟩⟩
theorem WideL.set {ls : List Af} {k : Int} (hk : 0 ≤ k) (h : ∀ a ∈ ls, -1048576 ≤ a.lag) {c : Nat} {x : Af} (hx : ls[c]? = some x) : WideL ls (ls.set c ⟨x.p, x.q, max (-1048576) (x.lag - k)⟩) :=
  ⟨by simp, fun a1 ha => by
    rcases List.mem_or_eq_of_mem_set ha with h1 | h1
    · exact ⟨a1, h1, rfl, rfl, Int.le_refl _, h a1 h1⟩
    · have h2 := h x (List.mem_of_getElem? hx)
      subst h1
      exact ⟨x, List.mem_of_getElem? hx, rfl, rfl, by show max _ _ ≤ _; omega, by show _ ≤ max _ _; omega⟩⟩
theorem WideL.cut {ls : List Af} (h : ∀ a ∈ ls, -1048576 ≤ a.lag) (c : Nat) : WideL ls (ls.take c ++ ls.drop (c + 1)) :=
  ⟨by simp; omega, fun a1 ha => by
    rcases List.mem_append.1 ha with h1 | h1
    · exact ⟨a1, List.mem_of_mem_take h1, rfl, rfl, Int.le_refl _, h a1 (List.mem_of_mem_take h1)⟩
    · exact ⟨a1, List.mem_of_mem_drop h1, rfl, rfl, Int.le_refl _, h a1 (List.mem_of_mem_drop h1)⟩⟩
theorem any_none {α : Type} {p : α → Bool} {xs : List α} (h : ∀ x ∈ xs, p x = false) : ¬ xs.any p = true := by
  intro h1
  obtain ⟨x, hx, hp⟩ := List.any_eq_true.1 h1
  rw [h x hx] at hp; cases hp
theorem JobOk.to {J : Jb} (h : JobOk J) : chkF J = 0 := by
  unfold chkF
  have h1 := h.nts
  have h2 := h.nls
  have h3 := h.ngs
  rw [if_neg (by omega), if_neg (by omega), if_neg (by omega), if_neg (any_none fun t ht => ?_), if_neg (by omega), if_neg (any_none fun t ht => ?_), if_neg (any_none fun a ha => ?_), if_neg (any_none fun g hg => ?_)]
  · have := h.tg g hg
    simp [teamBad, between_iff.2 this]
  · obtain ⟨p, q, ne, l1, l2⟩ := h.lk a ha
    rw [lb_r (by omega), between_iff.2 ⟨l1, l2⟩]; rfl
  · obtain ⟨m, w, t1, t2⟩ := h.tk t ht
    simp only [taskBad]
    rw [if_neg (by rw [between_iff.2 m]; simp), if_neg (by rw [w]; simp), if_neg (by omega)]
    simp; omega
  · obtain ⟨_, _, _, l⟩ := h.tk t ht
    simp [manyWs]; omega
theorem memF_congr {k : Int} : ∀ {ts ts1 : List Tk} {i : Int}, ts1.map Tk.team = ts.map Tk.team → memF k i ts1 = memF k i ts
  | [], [], _, _ => rfl
  | [], _ :: _, _, h => by simp at h
  | _ :: _, [], _, h => by simp at h
  | t :: r, t1 :: r1, i, h => by
    simp only [List.map_cons, List.cons.injEq] at h
    simp only [memF, h.1, memF_congr h.2]
theorem badR_congr {J J1 : Jb} (h : J1.ts.map Tk.team = J.ts.map Tk.team) : ∀ {os : List Rw} {t : Int}, badR J1 t os = badR J t os
  | [], _ => rfl
  | r :: os, t => by rw [badR, badR, memF_congr h, badR_congr h]
theorem getM_congr {ts ts1 : List Tk} (h : ts1.map Tk.m = ts.map Tk.m) (a : Int) : getM ts1 a = getM ts a := by
  have e := congrArg (·[a.toNat]?) h
  simp only [List.getElem?_map] at e
  unfold getM
  cases h1 : ts1[a.toNat]? <;> cases h2 : ts[a.toNat]? <;> rw [h1, h2] at e <;> simp at e
  exact e
theorem pairF_congr {ts ts1 : List Tk} {g : Int} (h : ts1.map Tk.m = ts.map Tk.m) : ∀ xs : List Int, pairF ts1 g xs = pairF ts g xs
  | [] => rfl
  | [_] => rfl
  | x :: y :: r => by rw [pairF, pairF, getM_congr h, pairF_congr h (y :: r)]
theorem linkR_congr {ts ts1 : List Tk} (h : ts1.map Tk.m = ts.map Tk.m) : ∀ (gs : List Int) (os : List Rw), linkR ts1 gs os = linkR ts gs os
  | [], _ => rfl
  | _ :: _, [] => rfl
  | g :: gs, r :: os => by rw [linkR, linkR, pairF_congr h, linkR_congr h gs os]
/-- The wider job. -/
def wideJ (J : Jb) (ta : Option Addr) (tc : Nat) (ts1 : List Tk) (la : Option Addr) (lc : Nat) (ls1 : List Af) : Jb := ⟨ta, tc, ts1, la, lc, ls1, J.ga, J.gc, J.gs⟩
section
variable {J : Jb} {os : List Rw} {ta la wa : Option Addr} {tc lc : Nat} {ts1 : List Tk} {ls1 : List Af} {ws1 : List Wn}
theorem wide_ok (h : JobOk J) (hT : WideT J.ts ts1 wa ws1) (hL : WideL J.ls ls1) : JobOk (wideJ J ta tc ts1 la lc ls1) := by
  have hl := hT.len
  refine ⟨by show 1 ≤ ts1.length ∧ ts1.length ≤ 24; rw [hl]; exact h.nts, Nat.le_trans hL.1 h.nls, h.ngs, fun t ht => ?_, fun a ha => ?_, h.tg⟩
  · obtain ⟨k, hk⟩ := List.mem_iff_getElem?.1 ht
    obtain ⟨t0, h0, hw⟩ := hT.el k t hk
    obtain ⟨g1, g2, g3, g4⟩ := h.tk t0 (List.mem_of_getElem? h0)
    have e1 := map_at hT.m hk h0
    have e2 := map_at hT.team hk h0
    refine ⟨by rw [e1]; exact g1, ?_, by rw [e2]; exact g3, ?_⟩
    · rcases hw with ⟨_, e⟩ | ⟨_, e, hw⟩
      · rw [e]; exact g2
      · rw [e]; exact hw.2.1
    · rcases hw with ⟨_, e⟩ | ⟨_, e, hw⟩
      · rw [e]; exact g4
      · rw [e, hw.1]; exact g4
  · obtain ⟨a0, h0, e1, e2, e3, e4⟩ := hL.2 a ha
    obtain ⟨g1, g2, g3, g4, g5⟩ := h.lk a0 h0
    show (0 ≤ a.p ∧ a.p < ts1.length) ∧ (0 ≤ a.q ∧ a.q < ts1.length) ∧ _
    rw [hl, e1, e2]
    exact ⟨g1, g2, g3, e4, by omega⟩
theorem wide_chk (h : chkO J os = 0) (hT : WideT J.ts ts1 wa ws1) (hL : WideL J.ls ls1) : chkO (wideJ J ta tc ts1 la lc ls1) os = 0 := by
  obtain ⟨hK, hV, _⟩ := OrdOk.of h
  unfold chkO at h ⊢
  rw [if_pos hK.to] at h
  rw [if_pos (wide_ok hK hT hL).to, badR_congr (J := J) hT.team]
  exact h
theorem wide_plan (hT : WideT J.ts ts1 wa ws1) (hL : WideL J.ls ls1) {l : List Int} (hl : IsPlan J (linksF J os) l) : IsPlan (wideJ J ta tc ts1 la lc ls1) (linksF (wideJ J ta tc ts1 la lc ls1) os) l := by
  refine ⟨hl.len.trans hT.len.symm, fun k t x ht hx => ?_, fun a ha => ?_⟩
  · obtain ⟨t0, h0, hw⟩ := hT.el k t ht
    have g := hl.fit k t0 x h0 hx
    rw [map_at hT.m ht h0]
    rcases hw with ⟨_, e⟩ | ⟨_, e, hw⟩
    · rw [e]; exact g
    · rw [e]; exact hw.2.2 _ _ g
  · rcases List.mem_append.1 ha with h1 | h1
    · obtain ⟨a0, h0, e1, e2, e3, _⟩ := hL.2 a h1
      have := hl.link a0 (List.mem_append_left _ h0)
      unfold sat at this ⊢
      rw [e1, e2]; omega
    · exact hl.link a (List.mem_append_right _ (by rw [← linkR_congr hT.m]; exact h1))
theorem wide_early (h : chkO J os = 0) (h0 : EarlE J os = 0) (hT : WideT J.ts ts1 wa ws1) (hL : WideL J.ls ls1) :
    EarlE (wideJ J ta tc ts1 la lc ls1) os = 0 ∧ (EarlY (wideJ J ta tc ts1 la lc ls1) os).length = (EarlY J os).length ∧ ∀ (k : Nat) (x y : Int), (EarlY (wideJ J ta tc ts1 la lc ls1) os)[k]? = some x → (EarlY J os)[k]? = some y → x ≤ y := by
  have hl := early_some h h0
  have hp := wide_plan (ta := ta) (tc := tc) (la := la) (lc := lc) hT hL hl.plan
  have hc := wide_chk (ta := ta) (tc := tc) (la := la) (lc := lc) h hT hL
  by_cases e : EarlE (wideJ J ta tc ts1 la lc ls1) os = 0
  · have h1 := early_some hc e
    exact ⟨e, by rw [h1.plan.len, hp.len.symm], fun k x y hx hy => h1.low _ hp k x y hx hy⟩
  · exact absurd ⟨_, hp⟩ (early_none hc e).2.2
theorem wide_at {W w : World} {B : List (Nat × Res)} {wc : Nat} (l1 l2 l3 : Nat) (hJ : JobAt W J) (hm : Mem W B w) (h1 : lkp B l1 = some (rowL 57 3 encTk ta tc ts1)) (h2 : lkp B l2 = some (rowL 38 3 encAf la lc ls1)) (h3 : lkp B l3 = some (rowL 59 2 encWn wa wc ws1))
    (hK : JobOk J) (hT : WideT J.ts ts1 wa ws1) (hL : WideL J.ls ls1) : JobAt w (wideJ J ta tc ts1 la lc ls1) := by
  have hl := hT.len
  have hk := hK.nts
  have hk2 := hK.nls
  have h5 := hL.1
  refine ⟨Rdb.of_row hm h1 (fun _ => rfl), Rdb.of_row hm h2 (fun _ => rfl), hm.rdb hJ.rgs, fun t ht => ?_, by show ts1.length ≤ _; omega, by show ls1.length ≤ _; omega, hJ.lgs, fun t ht => ?_⟩
  · obtain ⟨k, hk⟩ := List.mem_iff_getElem?.1 ht
    obtain ⟨t0, h0, ⟨e1, e2⟩ | ⟨e1, e2, _⟩⟩ := hT.el k t hk
    · rw [e1, e2]; exact hm.rdb (hJ.win t0 (List.mem_of_getElem? h0))
    · rw [e1, e2]; exact Rdb.of_row hm h3 (fun _ => rfl)
  · obtain ⟨g1, g2, g3, g4⟩ := (wide_ok (ta := ta) (tc := tc) (la := la) (lc := lc) hK hT hL).tk t ht
    omega
end
end Go.Proofs.Ytdmkedbmoboamaa
