/- The plain law of a stable sort, second part: binary searches, one element moved, a merge in place, insertions. No program in sight. -/
import Derived.Test.YtfekoippjmojgaaP3
namespace Go.Proofs.Ytfekoippjmojgaa.Srt
set_option linter.unusedVariables false
set_option linter.unusedSimpArgs false
set_option linter.unnecessarySimpa false
section
variable {kl : Int → Int → Bool}
theorem sd_at {xs : List Int} (h : Sd kl xs) {i j : Nat} {x y : Int} (hij : i < j) (hx : xs[i]? = some x) (hy : xs[j]? = some y) : Tl kl x y := by
  obtain ⟨hi, rfl⟩ := List.getElem?_eq_some_iff.1 hx
  obtain ⟨hj, rfl⟩ := List.getElem?_eq_some_iff.1 hy
  exact List.pairwise_iff_getElem.1 h i j hi hj hij
theorem not_kl (hk : Kl kl) {x y : Int} (h : x < y) (ht : Tl kl x y) : kl y x = false := by
  cases h1 : kl y x with
  | false => rfl
  | true => exact (Tl.asym hk ht (.inl h1)).elim
theorem yes_kl (hk : Kl kl) {x y : Int} (h : x < y) (ht : Tl kl y x) : kl y x = true := by
  cases h1 : kl y x with
  | true => rfl
  | false => exact (Tl.asym hk ((kl_tl h).2 h1) ht).elim
/-! ### where one element goes -/
/-- Among R, from place m on: those ahead of i come before u, those from j on do not. -/
structure BsL (kl : Int → Int → Bool) (u : Int) (R : List Int) (m i j : Int) : Prop where
  lo : m ≤ i
  ij : i ≤ j
  hi : j ≤ m + R.length
  low : ∀ (h : Nat) (y : Int), R[h]? = some y → m + h < i → kl y u = true
  up : ∀ (h : Nat) (y : Int), R[h]? = some y → j ≤ m + h → kl y u = false
theorem BsL.start {u m : Int} {R : List Int} : BsL kl u R m m (m + R.length) := ⟨Int.le_refl _, by omega, Int.le_refl _, fun h y _ hh => by omega, fun h y hy hh => by have := (List.getElem?_eq_some_iff.1 hy).1; omega⟩
theorem BsL.up_ {u m i j : Int} {R : List Int} (hk : Kl kl) (hs : Sd kl R) (hlt : ∀ y ∈ R, u < y) (h : BsL kl u R m i j) {c : Int} {h0 : Nat} {y : Int} (hc : i ≤ c ∧ c < j) (hh : m + h0 = c) (hy : R[h0]? = some y) (ht : kl y u = true) : BsL kl u R m (c + 1) j := by
  refine ⟨by have := h.lo; omega, by omega, h.hi, fun h1 z hz h2 => ?_, h.up⟩
  by_cases e : h1 = h0
  · subst e; rw [hy] at hz; injection hz with hz; subst hz; exact ht
  · have := sd_at hs (show h1 < h0 by omega) hz hy
    exact yes_kl hk (hlt z (List.mem_of_getElem? hz)) (Tl.tr hk this (.inl ht))
theorem BsL.down {u m i j : Int} {R : List Int} (hk : Kl kl) (hs : Sd kl R) (hlt : ∀ y ∈ R, u < y) (h : BsL kl u R m i j) {c : Int} {h0 : Nat} {y : Int} (hc : i ≤ c ∧ c < j) (hh : m + h0 = c) (hy : R[h0]? = some y) (ht : kl y u = false) : BsL kl u R m i c := by
  refine ⟨h.lo, hc.1, by have := h.hi; omega, h.low, fun h1 z hz h2 => ?_⟩
  by_cases e : h1 = h0
  · subst e; rw [hy] at hz; injection hz with hz; subst hz; exact ht
  · have h3 := sd_at hs (show h0 < h1 by omega) hy hz
    have h4 := (kl_tl (hlt y (List.mem_of_getElem? hy))).2 ht
    exact not_kl hk (hlt z (List.mem_of_getElem? hz)) (Tl.tr hk h4 h3)
/-- u on its way behind the first k of R. -/
def MvL (P : List Int) (u : Int) (R Q : List Int) (k : Nat) (zs : List Int) : Prop := zs = P ++ (R.take k ++ (u :: (R.drop k ++ Q)))
theorem MvL.step {P R Q zs ws : List Int} {u : Int} {k p q : Nat} (h : MvL P u R Q k zs) (hk : k < R.length) (hp : P.length + k = p) (hq : q = p + 1) (hs : SwapAt zs p q ws) : MvL P u R Q (k + 1) ws := by
  unfold MvL at *
  have hd : R.drop k = R[k] :: R.drop (k + 1) := List.drop_eq_getElem_cons hk
  have e := hs.eq (A := P ++ R.take k) (u := u) (M := []) (v := R[k]) (C := R.drop (k + 1) ++ Q) (by rw [h, hd]; simp only [List.append_assoc, List.cons_append, List.nil_append]) (by rw [List.length_append, List.length_take]; omega) (by simp only [List.length_append, List.length_take, List.length_nil]; omega)
  rw [e, List.take_add_one, List.getElem?_eq_getElem hk]
  simp only [Option.toList_some, List.append_assoc, List.cons_append, List.nil_append]
theorem MvL.back {P R Q zs ws : List Int} {u : Int} {k p q : Nat} (h : MvL P u R Q (k + 1) zs) (hk : k < R.length) (hp : P.length + k = p) (hq : q = p + 1) (hs : SwapAt zs p q ws) : MvL P u R Q k ws := by
  unfold MvL at *
  have ht : R.take (k + 1) = R.take k ++ [R[k]] := by rw [List.take_add_one, List.getElem?_eq_getElem hk]; rfl
  have hd : R.drop k = R[k] :: R.drop (k + 1) := List.drop_eq_getElem_cons hk
  have e := hs.eq (A := P ++ R.take k) (u := R[k]) (M := []) (v := u) (C := R.drop (k + 1) ++ Q) (by rw [h, ht]; simp only [List.append_assoc, List.cons_append, List.nil_append]) (by rw [List.length_append, List.length_take]; omega) (by simp only [List.length_append, List.length_take, List.length_nil]; omega)
  rw [e, hd]
  simp only [List.append_assoc, List.cons_append, List.nil_append]
/-- What a merge leaves. -/
structure Mgd (kl : Int → Int → Bool) (L R M : List Int) : Prop where
  pm : M.Perm (L ++ R)
  sd : Sd kl M
theorem mgd_ins (hk : Kl kl) {R : List Int} {u : Int} {c : Nat} (hs : Sd kl R) (h1 : ∀ (h : Nat) (y : Int), R[h]? = some y → h < c → Tl kl y u) (h2 : ∀ (h : Nat) (y : Int), R[h]? = some y → c ≤ h → Tl kl u y) : Sd kl (R.take c ++ (u :: R.drop c)) := by
  have hd : Sd kl (R.take c ++ R.drop c) := by rw [List.take_append_drop]; exact hs
  obtain ⟨a1, a2, a3⟩ := List.pairwise_append.1 hd
  have b1 : ∀ y ∈ R.take c, Tl kl y u := fun y hy => by
    obtain ⟨h, hh⟩ := List.mem_iff_getElem?.1 hy
    rw [List.getElem?_take] at hh
    split at hh
    · exact h1 h y hh (by assumption)
    · cases hh
  have b2 : ∀ y ∈ R.drop c, Tl kl u y := fun y hy => by
    obtain ⟨h, hh⟩ := List.mem_iff_getElem?.1 hy
    rw [List.getElem?_drop] at hh
    exact h2 (c + h) y hh (by omega)
  refine List.pairwise_append.2 ⟨a1, List.pairwise_cons.2 ⟨b2, a2⟩, fun y hy z hz => ?_⟩
  cases hz with
  | head => exact b1 y hy
  | tail _ hz => exact a3 y hy z hz
theorem BsL.mgd (hk : Kl kl) {u m i : Int} {R : List Int} (hs : Sd kl R) (hlt : ∀ y ∈ R, u < y) (h : BsL kl u R m i i) {c : Nat} (hc : m + c = i) : Mgd kl [u] R (R.take c ++ (u :: R.drop c)) := by
  refine ⟨?_, mgd_ins hk hs (fun h1 y hy h2 => .inl (h.low h1 y hy (by omega))) (fun h1 y hy h2 => (kl_tl (hlt y (List.mem_of_getElem? hy))).2 (h.up h1 y hy (by omega)))⟩
  refine List.perm_middle.trans ?_
  rw [List.take_append_drop]; exact List.Perm.refl _
/-- Among L, from place a on: v does not come before those ahead of i, it does before those from j on. -/
structure BsR (kl : Int → Int → Bool) (v : Int) (L : List Int) (a i j : Int) : Prop where
  lo : a ≤ i
  ij : i ≤ j
  hi : j ≤ a + L.length
  low : ∀ (h : Nat) (y : Int), L[h]? = some y → a + h < i → kl v y = false
  up : ∀ (h : Nat) (y : Int), L[h]? = some y → j ≤ a + h → kl v y = true
theorem BsR.start {v a : Int} {L : List Int} : BsR kl v L a a (a + L.length) := ⟨Int.le_refl _, by omega, Int.le_refl _, fun h y _ hh => by omega, fun h y hy hh => by have := (List.getElem?_eq_some_iff.1 hy).1; omega⟩
theorem BsR.up_ {v a i j : Int} {L : List Int} (hk : Kl kl) (hs : Sd kl L) (hlt : ∀ y ∈ L, y < v) (h : BsR kl v L a i j) {c : Int} {h0 : Nat} {y : Int} (hc : i ≤ c ∧ c < j) (hh : a + h0 = c) (hy : L[h0]? = some y) (ht : kl v y = false) : BsR kl v L a (c + 1) j := by
  refine ⟨by have := h.lo; omega, by omega, h.hi, fun h1 z hz h2 => ?_, h.up⟩
  by_cases e : h1 = h0
  · subst e; rw [hy] at hz; injection hz with hz; subst hz; exact ht
  · have h3 := sd_at hs (show h1 < h0 by omega) hz hy
    have h4 := (kl_tl (hlt y (List.mem_of_getElem? hy))).2 ht
    exact not_kl hk (hlt z (List.mem_of_getElem? hz)) (Tl.tr hk h3 h4)
theorem BsR.down {v a i j : Int} {L : List Int} (hk : Kl kl) (hs : Sd kl L) (hlt : ∀ y ∈ L, y < v) (h : BsR kl v L a i j) {c : Int} {h0 : Nat} {y : Int} (hc : i ≤ c ∧ c < j) (hh : a + h0 = c) (hy : L[h0]? = some y) (ht : kl v y = true) : BsR kl v L a i c := by
  refine ⟨h.lo, hc.1, by have := h.hi; omega, h.low, fun h1 z hz h2 => ?_⟩
  by_cases e : h1 = h0
  · subst e; rw [hy] at hz; injection hz with hz; subst hz; exact ht
  · have h3 := sd_at hs (show h0 < h1 by omega) hy hz
    exact yes_kl hk (hlt z (List.mem_of_getElem? hz)) (Tl.tr hk (.inl ht) h3)
theorem BsR.mgd (hk : Kl kl) {v a i : Int} {L : List Int} (hs : Sd kl L) (hlt : ∀ y ∈ L, y < v) (h : BsR kl v L a i i) {c : Nat} (hc : a + c = i) : Mgd kl L [v] (L.take c ++ (v :: L.drop c)) := by
  refine ⟨?_, mgd_ins hk hs (fun h1 y hy h2 => (kl_tl (hlt y (List.mem_of_getElem? hy))).2 (h.low h1 y hy (by omega))) (fun h1 y hy h2 => .inl (h.up h1 y hy (by omega)))⟩
  refine List.perm_middle.trans ?_
  rw [List.take_append_drop]
  exact (List.perm_append_comm (l₁ := [v]) (l₂ := L))
/-! ### where both halves are parted -/
/-- Places c from a on (in L), mirrored at mid in R. -/
structure BsM (kl : Int → Int → Bool) (L R : List Int) (a mid lo hi s r : Int) : Prop where
  lo_ : lo ≤ s
  sr : s ≤ r
  hi_ : r ≤ hi
  low : ∀ (c d : Nat) (x y : Int), L[c]? = some x → R[d]? = some y → lo ≤ a + c → a + c < s → (a + c) + d = mid - 1 → Tl kl x y
  up : ∀ (c d : Nat) (x y : Int), L[c]? = some x → R[d]? = some y → r ≤ a + c → a + c < hi → (a + c) + d = mid - 1 → Tl kl y x
theorem BsM.start {L R : List Int} {a mid lo hi : Int} (h : lo ≤ hi) : BsM kl L R a mid lo hi lo hi := ⟨Int.le_refl _, h, Int.le_refl _, fun c d x y _ _ h1 h2 => by omega, fun c d x y _ _ h1 h2 => by omega⟩
theorem BsM.up_ {L R : List Int} {a mid lo hi s r : Int} (hk : Kl kl) (hL : Sd kl L) (hR : Sd kl R) (hlt : Lt2 L R) (h : BsM kl L R a mid lo hi s r) {k : Int} {c d : Nat} {x y : Int} (hc : s ≤ k ∧ k < r) (h1 : a + c = k) (h2 : (a + c) + d = mid - 1) (hx : L[c]? = some x) (hy : R[d]? = some y) (ht : kl y x = false) : BsM kl L R a mid lo hi (k + 1) r := by
  have hxy : Tl kl x y := (kl_tl (hlt x (List.mem_of_getElem? hx) y (List.mem_of_getElem? hy))).2 ht
  refine ⟨by have := h.lo_; omega, by omega, h.hi_, fun c1 d1 x1 y1 e1 e2 e3 e4 e5 => ?_, h.up⟩
  by_cases e : c1 = c
  · have e' : d1 = d := by omega
    subst e e'
    rw [hx] at e1; rw [hy] at e2
    injection e1 with e1; injection e2 with e2
    subst e1 e2; exact hxy
  · exact Tl.tr hk (sd_at hL (show c1 < c by omega) e1 hx) (Tl.tr hk hxy (sd_at hR (show d < d1 by omega) hy e2))
theorem BsM.down {L R : List Int} {a mid lo hi s r : Int} (hk : Kl kl) (hL : Sd kl L) (hR : Sd kl R) (hlt : Lt2 L R) (h : BsM kl L R a mid lo hi s r) {k : Int} {c d : Nat} {x y : Int} (hc : s ≤ k ∧ k < r) (h1 : a + c = k) (h2 : (a + c) + d = mid - 1) (hx : L[c]? = some x) (hy : R[d]? = some y) (ht : kl y x = true) : BsM kl L R a mid lo hi s k := by
  have hyx : Tl kl y x := .inl ht
  refine ⟨h.lo_, hc.1, by have := h.hi_; omega, h.low, fun c1 d1 x1 y1 e1 e2 e3 e4 e5 => ?_⟩
  by_cases e : c1 = c
  · have e' : d1 = d := by omega
    subst e e'
    rw [hx] at e1; rw [hy] at e2
    injection e1 with e1; injection e2 with e2
    subst e1 e2; exact hyx
  · exact Tl.tr hk (sd_at hR (show d1 < d by omega) e2 hy) (Tl.tr hk hyx (sd_at hL (show c < c1 by omega) hx e1))
/-- L parted at c, R at d: what stands ahead comes before what stands behind. -/
structure Parts (kl : Int → Int → Bool) (L R : List Int) (c d : Nat) : Prop where
  lr : ∀ x ∈ L.take c, ∀ y ∈ R.drop d, Tl kl x y
  rl : ∀ y ∈ R.take d, ∀ x ∈ L.drop c, Tl kl y x
theorem mem_take {xs : List Int} {c : Nat} {x : Int} (h : x ∈ xs.take c) : ∃ i, i < c ∧ xs[i]? = some x := by
  obtain ⟨i, hi⟩ := List.mem_iff_getElem?.1 h
  rw [List.getElem?_take] at hi
  split at hi
  · exact ⟨i, by assumption, hi⟩
  · cases hi
theorem mem_drop {xs : List Int} {c : Nat} {x : Int} (h : x ∈ xs.drop c) : ∃ i, c ≤ i ∧ xs[i]? = some x := by
  obtain ⟨i, hi⟩ := List.mem_iff_getElem?.1 h
  rw [List.getElem?_drop] at hi
  exact ⟨c + i, by omega, hi⟩
theorem le_tl (hk : Kl kl) {xs : List Int} (hs : Sd kl xs) {i j : Nat} {x y z : Int} (hij : i ≤ j) (hx : xs[i]? = some x) (hy : xs[j]? = some y) (h : Tl kl y z) : Tl kl x z := by
  by_cases e : i = j
  · subst e; rw [hx] at hy; injection hy with hy; subst hy; exact h
  · exact Tl.tr hk (sd_at hs (by omega) hx hy) h
theorem tl_le (hk : Kl kl) {xs : List Int} (hs : Sd kl xs) {i j : Nat} {x y z : Int} (hij : i ≤ j) (hx : xs[i]? = some x) (hy : xs[j]? = some y) (h : Tl kl z x) : Tl kl z y := by
  by_cases e : i = j
  · subst e; rw [hx] at hy; injection hy with hy; subst hy; exact h
  · exact Tl.tr hk h (sd_at hs (by omega) hx hy)
theorem BsM.parts (hk : Kl kl) {L R : List Int} {a mid lo hi s : Int} (hL : Sd kl L) (hR : Sd kl R) (h : BsM kl L R a mid lo hi s s) {c d : Nat} (hc : a + c = s) (hd : s + d = mid) (hcl : c ≤ L.length) (hdl : d ≤ R.length)
    (hlo : lo < s ∨ c = 0 ∨ d = R.length) (hhi : s < hi ∨ d = 0 ∨ c = L.length) : Parts kl L R c d := by
  refine ⟨fun x hx y hy => ?_, fun y hy x hx => ?_⟩
  · obtain ⟨i, hi1, hi2⟩ := mem_take hx
    obtain ⟨j, hj1, hj2⟩ := mem_drop hy
    have hjl := (List.getElem?_eq_some_iff.1 hj2).1
    rcases hlo with h1 | h1 | h1
    · have e1 : L[c - 1]? = some (L[c - 1]'(by omega)) := List.getElem?_eq_getElem _
      have e2 : R[d]? = some (R[d]'(by omega)) := List.getElem?_eq_getElem _
      have h2 := h.low (c - 1) d _ _ e1 e2 (by omega) (by omega) (by omega)
      exact le_tl hk hL (show i ≤ c - 1 by omega) hi2 e1 (tl_le hk hR hj1 e2 hj2 h2)
    · omega
    · omega
  · obtain ⟨i, hi1, hi2⟩ := mem_drop hx
    obtain ⟨j, hj1, hj2⟩ := mem_take hy
    have hil := (List.getElem?_eq_some_iff.1 hi2).1
    rcases hhi with h1 | h1 | h1
    · have e1 : L[c]? = some (L[c]'(by omega)) := List.getElem?_eq_getElem _
      have e2 : R[d - 1]? = some (R[d - 1]'(by omega)) := List.getElem?_eq_getElem _
      have h2 := h.up c (d - 1) _ _ e1 e2 (by omega) (by omega) (by omega)
      exact le_tl hk hR (show j ≤ d - 1 by omega) hj2 e2 (tl_le hk hL hi1 e1 hi2 h2)
    · omega
    · omega
theorem Mgd.both (hk : Kl kl) {L R M1 M2 : List Int} {c d : Nat} (hL : Sd kl L) (hR : Sd kl R) (hp : Parts kl L R c d) (h1 : Mgd kl (L.take c) (R.take d) M1) (h2 : Mgd kl (L.drop c) (R.drop d) M2) : Mgd kl L R (M1 ++ M2) := by
  have dL : Sd kl (L.take c ++ L.drop c) := by rw [List.take_append_drop]; exact hL
  have dR : Sd kl (R.take d ++ R.drop d) := by rw [List.take_append_drop]; exact hR
  refine ⟨?_, sd_app hk h1.sd h2.sd fun x hx y hy => ?_⟩
  · have e : (L ++ R).Perm ((L.take c ++ R.take d) ++ (L.drop c ++ R.drop d)) := by
      have e1 : L ++ R = (L.take c ++ L.drop c) ++ (R.take d ++ R.drop d) := by rw [List.take_append_drop, List.take_append_drop]
      rw [e1, List.append_assoc, List.append_assoc]
      refine List.Perm.append_left _ ?_
      rw [← List.append_assoc, ← List.append_assoc]
      exact List.Perm.append_right _ List.perm_append_comm
    exact (h1.pm.append h2.pm).trans e.symm
  · have hx' := h1.pm.subset hx
    have hy' := h2.pm.subset hy
    rcases List.mem_append.1 hx' with hx | hx <;> rcases List.mem_append.1 hy' with hy | hy
    · exact (List.pairwise_append.1 dL).2.2 x hx y hy
    · exact hp.lr x hx y hy
    · exact hp.rl x hx y hy
    · exact (List.pairwise_append.1 dR).2.2 x hx y hy
theorem Mgd.nil_l {R : List Int} (h : Sd kl R) : Mgd kl [] R R := ⟨List.Perm.refl _, h⟩
theorem Mgd.nil_r {L : List Int} (h : Sd kl L) : Mgd kl L [] L := ⟨by rw [List.append_nil], h⟩
theorem sd_take {xs : List Int} (h : Sd kl xs) (c : Nat) : Sd kl (xs.take c) := List.Pairwise.sublist (List.take_sublist _ _) h
theorem sd_drop {xs : List Int} (h : Sd kl xs) (c : Nat) : Sd kl (xs.drop c) := List.Pairwise.sublist (List.drop_sublist _ _) h
theorem lt2_parts {L R : List Int} (h : Lt2 L R) (c d : Nat) : Lt2 (L.take c) (R.take d) ∧ Lt2 (L.drop c) (R.drop d) := ⟨fun x hx y hy => h x (List.mem_of_mem_take hx) y (List.mem_of_mem_take hy), fun x hx y hy => h x (List.mem_of_mem_drop hx) y (List.mem_of_mem_drop hy)⟩
theorem parts_eq {P L R Q : List Int} (c d : Nat) : P ++ (L ++ (R ++ Q)) = (P ++ L.take c) ++ (L.drop c ++ (R.take d ++ (R.drop d ++ Q))) := by
  conv => lhs; rw [← List.take_append_drop c L, ← List.take_append_drop d R]
  simp only [List.append_assoc]
theorem perm_part {P L R M X : List Int} (h : M.Perm (L ++ R)) : (P ++ (M ++ X)).Perm (P ++ (L ++ (R ++ X))) := by
  refine List.Perm.append_left P ?_
  rw [← List.append_assoc]
  exact h.append_right X
/-! ### insertions -/
/-- The first i of D are in order, the others stand as they did; the whole between P and Q. -/
structure InsS (kl : Int → Int → Bool) (P D Q : List Int) (i : Nat) (zs : List Int) : Prop where
  ex : ∃ S, S.Perm (D.take i) ∧ Sd kl S ∧ zs = P ++ (S ++ (D.drop i ++ Q))
/-- u on its way back over those that it comes before. -/
structure InsB (kl : Int → Int → Bool) (P D Q : List Int) (i : Nat) (u : Int) (j : Nat) (zs : List Int) : Prop where
  ex : ∃ S, S.Perm (D.take i) ∧ Sd kl S ∧ j ≤ i ∧ MvL P u S (D.drop (i + 1) ++ Q) j zs ∧ ∀ (h : Nat) (y : Int), S[h]? = some y → j ≤ h → kl u y = true
theorem InsS.start {P D Q : List Int} : InsS kl P D Q 1 (P ++ (D ++ Q)) := by
  cases D with
  | nil => exact ⟨[], by simp, List.Pairwise.nil, by simp⟩
  | cons x r => exact ⟨[x], by simp, List.pairwise_singleton _ _, by simp⟩
theorem InsS.done {P D Q zs : List Int} {i : Nat} (h : InsS kl P D Q i zs) (hi : D.length ≤ i) : ∃ M, M.Perm D ∧ Sd kl M ∧ zs = P ++ (M ++ Q) := by
  obtain ⟨S, h1, h2, h3⟩ := h.ex
  rw [List.take_of_length_le hi] at h1
  rw [List.drop_eq_nil_of_le hi] at h3
  exact ⟨S, h1, h2, by simpa using h3⟩
theorem InsS.begin {P D Q zs : List Int} {i : Nat} {u : Int} (h : InsS kl P D Q i zs) (hu : D[i]? = some u) : InsB kl P D Q i u i zs := by
  obtain ⟨S, h1, h2, h3⟩ := h.ex
  have hi := (List.getElem?_eq_some_iff.1 hu).1
  have hl : S.length = i := by rw [h1.length_eq, List.length_take]; omega
  refine ⟨S, h1, h2, Nat.le_refl _, ?_, fun h4 y hy h5 => by have := (List.getElem?_eq_some_iff.1 hy).1; omega⟩
  unfold MvL
  rw [h3, List.take_of_length_le (l := S) (by omega), List.drop_eq_nil_of_le (as := S) (by omega)]
  have hd : D.drop i = u :: D.drop (i + 1) := by
    obtain ⟨_, rfl⟩ := List.getElem?_eq_some_iff.1 hu
    exact List.drop_eq_getElem_cons hi
  rw [hd]
  simp only [List.append_assoc, List.cons_append, List.nil_append]
theorem InsB.at_ {P D Q zs : List Int} {i j : Nat} {u : Int} (h : InsB kl P D Q i u j zs) (hi : i < D.length) : zs[P.length + j]? = some u := by
  obtain ⟨S, h1, h2, h3, h4, _⟩ := h.ex
  have hl : S.length = i := by rw [h1.length_eq, List.length_take]; omega
  unfold MvL at h4
  rw [h4, ← List.append_assoc]
  exact at_mid (by rw [List.length_append, List.length_take]; omega)
theorem InsB.next {P D Q zs ws : List Int} {i j : Nat} {u v : Int} {p q : Nat} (hk : Kl kl) (h : InsB kl P D Q i u (j + 1) zs) (hi : i < D.length) (hp : P.length + j = p) (hq : q = p + 1) (hv : zs[p]? = some v) (ht : kl u v = true) (hs : SwapAt zs p q ws) : InsB kl P D Q i u j ws := by
  obtain ⟨S, h1, h2, h3, h4, h5⟩ := h.ex
  have hl : S.length = i := by rw [h1.length_eq, List.length_take]; omega
  refine ⟨S, h1, h2, by omega, h4.back (by omega) hp hq hs, fun h6 y hy h7 => ?_⟩
  by_cases e : h6 = j
  · subst e
    unfold MvL at h4
    rw [h4, at_app2 hp (by rw [List.length_take]; omega), List.getElem?_take, if_pos (by omega), hy] at hv
    injection hv with hv; subst hv; exact ht
  · exact h5 h6 y hy (by omega)
theorem InsB.stop {P D Q zs : List Int} {i j : Nat} {u : Int} (hk : Kl kl) (hinc : D.Pairwise (· < ·)) (h : InsB kl P D Q i u j zs) (hu : D[i]? = some u) (hj : j = 0 ∨ ∃ v, zs[P.length + (j - 1)]? = some v ∧ kl u v = false) : InsS kl P D Q (i + 1) zs := by
  obtain ⟨S, h1, h2, h3, h4, h5⟩ := h.ex
  have hi := (List.getElem?_eq_some_iff.1 hu).1
  have hl : S.length = i := by rw [h1.length_eq, List.length_take]; omega
  have hlt : ∀ y ∈ S, y < u := fun y hy => by
    obtain ⟨k, hk1, hk2⟩ := mem_take (h1.subset hy)
    obtain ⟨_, rfl⟩ := List.getElem?_eq_some_iff.1 hu
    obtain ⟨_, rfl⟩ := List.getElem?_eq_some_iff.1 hk2
    exact List.pairwise_iff_getElem.1 hinc k i _ _ hk1
  have htake : D.take (i + 1) = D.take i ++ [u] := by rw [List.take_add_one, hu]; rfl
  refine ⟨S.take j ++ (u :: S.drop j), ?_, mgd_ins hk h2 (fun h6 y hy h7 => ?_) (fun h6 y hy h7 => .inl (h5 h6 y hy h7)), ?_⟩
  · rw [htake]
    refine List.perm_middle.trans ?_
    rw [List.take_append_drop]
    exact (List.Perm.cons u h1).trans (List.perm_append_comm (l₁ := [u]))
  · rcases hj with hj | ⟨v, hv, hf⟩
    · omega
    · unfold MvL at h4
      rw [h4, at_app2 rfl (by rw [List.length_take]; omega), List.getElem?_take, if_pos (by omega)] at hv
      have := (kl_tl (hlt v (List.mem_of_getElem? hv))).2 hf
      exact le_tl hk h2 (show h6 ≤ j - 1 by omega) hy hv this
  · unfold MvL at h4
    rw [h4]; simp only [List.append_assoc, List.cons_append]
end
end Go.Proofs.Ytfekoippjmojgaa.Srt
