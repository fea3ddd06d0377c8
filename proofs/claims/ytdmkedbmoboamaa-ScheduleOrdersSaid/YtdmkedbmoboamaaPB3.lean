/- The plain law of orders: a plan that is right for an order is right for the order of its starts; none ends before the best. No program in sight. -/
import Derived.Test.YtdmkedbmoboamaaPB2
import Derived.Test.YtdmkedbmoboamaaPG
import Derived.Test.YtdmkedbmoboamaaPS
namespace Go.Proofs.Ytdmkedbmoboamaa
open Go.Kx
set_option linter.unusedVariables false
set_option linter.unusedSimpArgs false
set_option linter.unnecessarySimpa false
section
variable {J : Jb} {ss : List Int}
theorem ins_perm (ys : List Int) (x : Int) : (insF J ss ys x).Perm (x :: ys) := by
  unfold insF
  refine List.perm_middle.trans ?_
  rw [List.takeWhile_append_dropWhile]
theorem ord_perm (xs : List Int) : (ordF J ss xs).Perm xs := by
  have key : ∀ (xs acc : List Int), (xs.foldl (insF J ss) acc).Perm (acc ++ xs) := by
    intro xs
    induction xs with
    | nil => intro acc; simp
    | cons x r ih =>
      intro acc
      refine (ih (insF J ss acc x)).trans ?_
      refine ((ins_perm acc x).append_right r).trans ?_
      rw [List.cons_append]
      exact List.perm_middle.symm
  have := key xs []
  rwa [List.nil_append] at this
theorem takeWhile_p {p : Int → Bool} : ∀ {l : List Int} {y : Int}, y ∈ l.takeWhile p → p y = true
  | [], y, h => by cases h
  | x :: l, y, h => by
    rw [List.takeWhile_cons] at h
    split at h
    · rename_i hx
      cases h with
      | head => exact hx
      | tail _ h => exact takeWhile_p h
    · cases h
theorem ins_sorted {ys : List Int} {x : Int} (hs : sortedK J ss ys) : sortedK J ss (insF J ss ys x) := by
  unfold insF
  have hab := List.takeWhile_append_dropWhile (p := fun y => !klB J ss x y) (l := ys)
  have ha : ∀ y ∈ ys.takeWhile (fun y => !klB J ss x y), klB J ss x y = false := fun y hy => by
    have := takeWhile_p hy
    simpa using this
  have hs' : sortedK J ss (ys.takeWhile (fun y => !klB J ss x y) ++ ys.dropWhile (fun y => !klB J ss x y)) := by rw [hab]; exact hs
  have hb : ∀ z ∈ ys.dropWhile (fun y => !klB J ss x y), klB J ss x z = true := by
    have h2 := (List.pairwise_append.1 hs').2.1
    have h1 := List.head?_dropWhile_not (p := fun y => !klB J ss x y) (l := ys)
    generalize ys.dropWhile (fun y => !klB J ss x y) = b at *
    cases b with
    | nil => intro z hz; cases hz
    | cons u r =>
      have hu : klB J ss x u = true := by simpa using h1
      intro z hz
      cases hz with
      | head => exact hu
      | tail _ hz => exact klB_trans hu ((List.pairwise_cons.1 h2).1 z hz)
  obtain ⟨h1, h2, h3⟩ := List.pairwise_append.1 hs'
  refine List.pairwise_append.2 ⟨h1, List.pairwise_cons.2 ⟨fun z hz => klB_asym (hb z hz), h2⟩, fun y hy z hz => ?_⟩
  cases hz with
  | head => exact ha y hy
  | tail _ hz => exact h3 y hy z hz
theorem ord_sorted (xs : List Int) : sortedK J ss (ordF J ss xs) := by
  have key : ∀ (xs acc : List Int), sortedK J ss acc → sortedK J ss (xs.foldl (insF J ss) acc) := by
    intro xs
    induction xs with
    | nil => intro acc h; exact h
    | cons x r ih => intro acc h; exact ih _ (ins_sorted h)
  exact key xs [] List.Pairwise.nil
/-- One task before another, with what lies between. -/
def Rx_ (ts : List Tk) (ss : List Int) (g : Int) (x y : Int) : Prop := at_ ss x + getM ts x + g ≤ at_ ss y
theorem pairF_pw {ts : List Tk} {g : Int} (hm : ∀ x, 0 ≤ getM ts x) (hg : 0 ≤ g) : ∀ {xs : List Int}, (∀ a ∈ pairF ts g xs, sat ss a) → xs.Pairwise (Rx_ ts ss g)
  | [], _ => List.Pairwise.nil
  | [a], _ => List.pairwise_singleton _ _
  | a :: b :: r, h => by
    rw [pairF] at h
    have h1 : Rx_ ts ss g a b := by
      have := h ⟨a, b, getM ts a + g⟩ (by simp)
      unfold sat at this
      unfold Rx_; simp only at this; omega
    have ih := pairF_pw hm hg (xs := b :: r) fun c hc => h c (List.mem_cons_of_mem _ hc)
    refine List.pairwise_cons.2 ⟨fun z hz => ?_, ih⟩
    cases hz with
    | head => exact h1
    | tail _ hz =>
      have h2 := (List.pairwise_cons.1 ih).1 z hz
      have := hm b
      unfold Rx_ at *; omega
theorem pairF_of {ts : List Tk} {g : Int} : ∀ {xs : List Int}, xs.Pairwise (Rx_ ts ss g) → ∀ a ∈ pairF ts g xs, sat ss a
  | [], _, a, ha => by simp [pairF] at ha
  | [_], _, a, ha => by simp [pairF] at ha
  | x :: y :: r, h, a, ha => by
    rw [pairF] at ha
    obtain ⟨h1, h2⟩ := List.pairwise_cons.1 h
    cases ha with
    | head =>
      have := h1 y (by simp)
      unfold Rx_ at this
      unfold sat; show at_ ss x + (getM ts x + g) ≤ at_ ss y; omega
    | tail _ ha => exact pairF_of h2 a ha
theorem pw_cases {R : Int → Int → Prop} : ∀ {xs : List Int}, xs.Pairwise R → ∀ {y z : Int}, y ∈ xs → z ∈ xs → y ≠ z → R y z ∨ R z y
  | [], _, y, z, hy, _, _ => by cases hy
  | x :: r, h, y, z, hy, hz, hne => by
    obtain ⟨h1, h2⟩ := List.pairwise_cons.1 h
    rcases List.mem_cons.1 hy with e1 | hy1
    · rcases List.mem_cons.1 hz with e2 | hz1
      · exact absurd (e1.trans e2.symm) hne
      · rw [e1]; exact .inl (h1 z hz1)
    · rcases List.mem_cons.1 hz with e2 | hz1
      · rw [e2]; exact .inr (h1 y hy1)
      · exact pw_cases h2 hy1 hz1 hne
theorem row_resort {g : Int} (hm : ∀ x, 0 ≤ getM J.ts x) (hg : 0 ≤ g) {xs ys : List Int} (hp : ys.Perm xs) (hn : xs.Nodup) (hx : xs.Pairwise (Rx_ J.ts ss g)) (hs : sortedK J ss ys) : ys.Pairwise (Rx_ J.ts ss g) := by
  have hny : ys.Nodup := hp.nodup_iff.2 hn
  refine List.Pairwise.imp_of_mem ?_ (hs.and hny)
  intro y z hy hz ⟨h1, h2⟩
  have h3 := pw_cases hx (hp.subset hy) (hp.subset hz) h2
  simp only [klB, decide_eq_false_iff_not, not_or, not_and] at h1
  have h4 := hm y
  have h5 := hm z
  unfold Rx_ at *
  by_cases e : at_ ss z = at_ ss y
  · have := h1.2 e
    omega
  · omega
theorem linkR_re {ts : List Tk} : ∀ {gs : List Int} {os rs : List Rw}, rs.length = os.length → (∀ (i : Nat) (g : Int) (r r' : Rw), gs[i]? = some g → os[i]? = some r → rs[i]? = some r' → (∀ a ∈ pairF ts g r.xs, sat ss a) → ∀ a ∈ pairF ts g r'.xs, sat ss a) → (∀ a ∈ linkR ts gs os, sat ss a) → ∀ a ∈ linkR ts gs rs, sat ss a
  | [], os, rs, _, _, _, a, ha => by rw [linkR] at ha; cases ha; intros; contradiction
  | g :: gs, os, [], _, _, _, a, ha => by rw [linkR] at ha; cases ha; intros; contradiction
  | g :: gs, [], _ :: _, h, _, _, _, _ => by simp at h
  | g :: gs, r :: os, r' :: rs, h, hr, hs, a, ha => by
    rw [linkR] at hs ha
    rcases List.mem_append.1 ha with h1 | h1
    · exact hr 0 g r r' rfl rfl rfl (fun b hb => hs b (List.mem_append_left _ hb)) a h1
    · exact linkR_re (by simpa using h) (fun i g2 r2 r3 h2 h3 h4 => hr (i + 1) g2 r2 r3 (by simpa using h2) (by simpa using h3) (by simpa using h4)) (fun b hb => hs b (List.mem_append_right _ hb)) a h1
end
theorem ordRows_at {J : Jb} {ss : List Int} {n i : Nat} {l : List Int} (h : (ordRows J ss n)[i]? = some l) : l = ordF J ss (memF (i : Int) 0 J.ts) := by
  unfold ordRows at h
  rw [List.getElem?_map] at h
  obtain ⟨k, hk, rfl⟩ := Option.map_eq_some_iff.1 h
  obtain ⟨_, rfl⟩ := List.getElem?_eq_some_iff.1 hk
  rw [List.getElem_range]
/-- A plan that is right for an order is right for the order of its starts. -/
theorem plan_resort {J : Jb} {os rs : List Rw} {ss : List Int} (h0 : chkO J os = 0) (hrs : xss rs = OrdY J ss) (h : IsPlan J (linksF J os) ss) : OrdE J ss = 0 ∧ chkO J rs = 0 ∧ IsPlan J (linksF J rs) ss := by
  obtain ⟨hK, hV, hs⟩ := OrdOk.of h0
  have hc : chkF J = 0 := by
    unfold chkO at h0
    split at h0
    · assumption
    · rename_i h1; exact absurd h0 h1
  have hst : stF J.ts.length ss = 0 := stF_of h.len (h.bd hK)
  have hY : OrdY J ss = ordRows J ss J.gs.length := by unfold OrdY; rw [if_pos hc, if_pos hst]
  rw [hY] at hrs
  have hl : rs.length = J.gs.length := by
    have := congrArg List.length hrs
    rw [xss, List.length_map] at this
    rw [this]; unfold ordRows; simp
  have hat : ∀ (i : Nat) (r : Rw), rs[i]? = some r → r.xs = ordF J ss (memF (i : Int) 0 J.ts) := fun i r hr => by
    refine ordRows_at (n := J.gs.length) ?_
    rw [← hrs, xss, List.getElem?_map, hr]; rfl
  refine ⟨by unfold OrdE; rw [if_pos hc]; exact hst, chkO_0 hc (by omega) (badR_no fun i r hr => ?_), ⟨h.len, h.fit, fun a ha => ?_⟩⟩
  · rw [hat i r hr, Int.zero_add]
    exact sortI_eq memF_sorted (ord_perm _)
  · unfold linksF at ha
    rcases List.mem_append.1 ha with h1 | h1
    · exact h.link a (List.mem_append_left _ h1)
    · refine linkR_re (ss := ss) (os := os) (by have := hV.len; omega) (fun i g r r' hg hr hr' hsat => ?_) (fun b hb => h.link b (List.mem_append_right _ hb)) a h1
      have hgb := hK.tg g (List.mem_of_getElem? hg)
      have hm : ∀ x, 0 ≤ getM J.ts x := fun x => (getM_bd hK x).1
      have hp : r.xs.Perm (memF (i : Int) 0 J.ts) := by rw [← hs i r hr]; exact (sortI_perm _).symm
      have hn : r.xs.Nodup := hp.nodup_iff.2 (memF_sorted.imp fun h => by omega)
      rw [hat i r' hr']
      exact pairF_of (row_resort hm hgb.1 ((ord_perm _).trans hp.symm) hn (pairF_pw hm hgb.1 hsat) (ord_sorted _))
theorem endF_mono : ∀ {a b : List Int} {ts : List Tk} {e e' : Int}, a.length = b.length → (∀ (k : Nat) (x y : Int), a[k]? = some x → b[k]? = some y → x ≤ y) → e ≤ e' → endF e a ts ≤ endF e' b ts
  | [], [], ts, e, e', _, _, h => by rw [endF, endF]; exact h; all_goals (intros; contradiction)
  | [], _ :: _, _, _, _, h, _, _ => by simp at h
  | _ :: _, [], _, _, _, h, _, _ => by simp at h
  | x :: a, y :: b, [], e, e', _, _, h => by rw [endF, endF]; exact h; all_goals (intros; contradiction)
  | x :: a, y :: b, t :: ts, e, e', hl, hk, h => by
    rw [endF, endF]
    have h0 := hk 0 x y rfl rfl
    exact endF_mono (by simpa using hl) (fun k u v hu hv => hk (k + 1) u v (by simpa using hu) (by simpa using hv)) (by omega)
theorem best_e {J : Jb} (h0 : chkF J = 0) (hm : ¬ 5040 < prodN J J.gs.length) : BestE J = 0 ∨ BestE J = 15 := by
  cases hb : bestJ J with
  | none => exact .inr (best_no h0 hm hb).e
  | some b => obtain ⟨o, s⟩ := b; exact .inl (best_got h0 hm hb).e
/-- The best order is one of the job, its plan is right. -/
theorem best_good {J : Jb} {rs : List Rw} (h0 : chkF J = 0) (hm : ¬ 5040 < prodN J J.gs.length) (he : BestE J = 0) (hrs : xss rs = BestO J) : chkO J rs = 0 ∧ IsPlan J (linksF J rs) (BestS J) ∧ BestN J = endF 0 (BestS J) J.ts := by
  cases hb : bestJ J with
  | none => have := (best_no h0 hm hb).e; omega
  | some b =>
    obtain ⟨o, s⟩ := b
    have hv := best_got h0 hm hb
    have h1 := (bestF_spec (EJ J) (fun l => endF 0 l J.ts) (ordD (tss J) [])).at_ _ _ hb
    rw [hv.o] at hrs
    rw [← hrs] at h1
    have h2 := h1.2
    rw [EJ_xs] at h2
    exact ⟨ord_ok h0 h1.1, by rw [hv.s]; exact (earlF_spec h2).plan, by rw [hv.n, hv.s]⟩
/-- Whatever plan is right does not end sooner. -/
theorem best_le {J : Jb} {os : List Rw} {ss : List Int} (h0 : chkO J os = 0) (hm : ¬ 5040 < prodN J J.gs.length) (h : IsPlan J (linksF J os) ss) : BestE J = 0 ∧ BestN J ≤ endF 0 ss J.ts := by
  obtain ⟨hK, hV, _⟩ := OrdOk.of h0
  have hc : chkF J = 0 := by
    unfold chkO at h0
    split at h0
    · assumption
    · rename_i h1; exact absurd h0 h1
  obtain ⟨l, hl⟩ := least_of hK (fun a ha => by have := (sound_of hK hV).lk a ha; exact ⟨this.1, this.2.1⟩) ⟨ss, h⟩
  have hE : EJ J (xss os) = some l := by rw [EJ_xs]; exact earlF_some hl
  have hin := ord_all h0
  have hk := bestF_spec (EJ J) (fun l => endF 0 l J.ts) (ordD (tss J) [])
  cases hb : bestJ J with
  | none => have := hk.no hb _ hin; rw [hE] at this; cases this
  | some b =>
    obtain ⟨o, s⟩ := b
    have hv := best_got hc hm hb
    have h1 := hk.least o s hb _ hin l hE
    have h2 : endF 0 l J.ts ≤ endF 0 ss J.ts := endF_mono (by rw [hl.plan.len, h.len]) (fun k x y hx hy => hl.low ss h k x y hx hy) (Int.le_refl _)
    have h3 : endF 0 s J.ts ≤ endF 0 l J.ts := h1
    exact ⟨hv.e, by rw [hv.n]; omega⟩
end Go.Proofs.Ytdmkedbmoboamaa
