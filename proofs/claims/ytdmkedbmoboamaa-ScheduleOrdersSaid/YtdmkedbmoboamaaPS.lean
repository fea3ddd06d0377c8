/- The plain law of the order of starts: the library's stable sort and the definition's insertion put a task in the same place. No program in sight. -/
import Derived.Test.YtdmkedbmoboamaaPR
namespace Go.Proofs.Ytdmkedbmoboamaa
set_option linter.unusedVariables false
set_option linter.unusedSimpArgs false
set_option linter.unnecessarySimpa false
section
variable (J : Jb) (ss : List Int)
/-- a begins before b, or as soon and is shorter. -/
def klB (a b : Int) : Bool := decide (at_ ss a < at_ ss b ∨ (at_ ss a = at_ ss b ∧ getM J.ts a < getM J.ts b))
def cmpI (x y : Int) : Int := if x < y then -1 else if y < x then 1 else 0
def orI (x y : Int) : Int := if x = 0 then y else x
def cmpK (a b : Int) : Int := orI (cmpI (at_ ss a) (at_ ss b)) (cmpI (getM J.ts a) (getM J.ts b))
def befF (a b : Int) : Bool := if at_ ss a = at_ ss b then (if getM J.ts a = getM J.ts b then decide (a < b) else decide (getM J.ts a < getM J.ts b)) else decide (at_ ss a < at_ ss b)
def insF (ys : List Int) (x : Int) : List Int := ys.takeWhile (fun y => !klB J ss x y) ++ x :: ys.dropWhile (fun y => !klB J ss x y)
def ordF (xs : List Int) : List Int := xs.foldl (insF J ss) []
def sortedK (ys : List Int) : Prop := ys.Pairwise (fun y z => klB J ss z y = false)
end
section
variable {J : Jb} {ss : List Int}
theorem cmpK_neg {a b : Int} : cmpK J ss a b < 0 ↔ klB J ss a b = true := by
  simp only [cmpK, orI, cmpI, klB, decide_eq_true_eq]
  by_cases h1 : at_ ss a < at_ ss b
  · simp [h1]
  · by_cases h2 : at_ ss b < at_ ss a
    · simp [h1, h2]; omega
    · have e : at_ ss a = at_ ss b := by omega
      simp only [e, Int.lt_irrefl, if_false, if_true, true_and, false_or]
      by_cases h3 : getM J.ts a < getM J.ts b
      · simp [h3]
      · by_cases h4 : getM J.ts b < getM J.ts a
        · simp [h3, h4]
        · simp [h3, h4]
theorem befF_lt {a b : Int} (h : a < b) : befF J ss a b = !klB J ss b a := by
  simp only [befF, klB]
  by_cases h1 : at_ ss a = at_ ss b
  · rw [if_pos h1]
    by_cases h2 : getM J.ts a = getM J.ts b
    · rw [if_pos h2]
      simp [h, h1, h2]
    · rw [if_neg h2]
      simp [h1]
      by_cases h3 : getM J.ts a < getM J.ts b
      · simp [h3]; omega
      · simp [h3]; omega
  · rw [if_neg h1]
    by_cases h3 : at_ ss a < at_ ss b
    · simp [h3]; omega
    · simp [h3]; omega
theorem klB_trans {x y z : Int} (h1 : klB J ss x y = true) (h2 : klB J ss z y = false) : klB J ss x z = true := by
  simp only [klB, decide_eq_true_eq, decide_eq_false_iff_not] at *
  omega
theorem klB_trans2 {x y z : Int} (h1 : klB J ss x z = false) (h2 : klB J ss z y = false) : klB J ss x y = false := by
  simp only [klB, decide_eq_false_iff_not] at *
  omega
theorem klB_asym {x y : Int} (h : klB J ss x y = true) : klB J ss y x = false := by
  simp only [klB, decide_eq_true_eq, decide_eq_false_iff_not] at *
  omega
theorem takeWhile_all {p : Int → Bool} : ∀ {a b : List Int}, (∀ y ∈ a, p y = true) → (∀ y, b.head? = some y → p y = false) → (a ++ b).takeWhile p = a ∧ (a ++ b).dropWhile p = b
  | [], [], _, _ => ⟨rfl, rfl⟩
  | [], y :: b, _, h => by have := h y rfl; simp [this]
  | x :: a, b, ha, hb => by
    have h1 := ha x (by simp)
    obtain ⟨h2, h3⟩ := takeWhile_all (a := a) (b := b) (fun y hy => ha y (by simp [hy])) hb
    simp only [List.cons_append, List.takeWhile_cons, List.dropWhile_cons, h1, if_true, h2, h3, and_self]
theorem ins_split {a b : List Int} {x : Int} (hs : sortedK J ss (a ++ b)) (hb : ∀ y ∈ b, klB J ss x y = true) (ha : ∀ l, a.getLast? = some l → klB J ss x l = false) : insF J ss (a ++ b) x = a ++ x :: b ∧ sortedK J ss (a ++ x :: b) := by
  have hp := List.pairwise_append.1 hs
  have hall : ∀ y ∈ a, klB J ss x y = false := fun y hy => by
    rcases List.eq_nil_or_concat a with rfl | ⟨a', l, rfl⟩
    · cases hy
    · have hl := ha l (by simp)
      simp only [List.concat_eq_append, List.mem_append, List.mem_singleton] at hy
      rcases hy with hy | rfl
      · exact klB_trans2 hl (by simpa using (List.pairwise_append.1 (by simpa using hp.1)).2.2 y hy l (by simp))
      · exact hl
  obtain ⟨h1, h2⟩ := takeWhile_all (p := fun y => !klB J ss x y) (a := a) (b := b) (fun y hy => by simp [hall y hy]) (fun y hy => by
    have := hb y (List.mem_of_mem_head? hy)
    simp [this])
  refine ⟨by unfold insF; rw [h1, h2], List.pairwise_append.2 ⟨hp.1, List.pairwise_cons.2 ⟨fun y hy => klB_asym (hb y hy), hp.2.1⟩, fun y hy z hz => ?_⟩⟩
  rcases List.mem_cons.1 hz with rfl | hz
  · exact hall y hy
  · exact hp.2.2 y hy z hz
theorem ins_len (ys : List Int) (x : Int) : (insF J ss ys x).length = ys.length + 1 := by
  unfold insF
  have := congrArg List.length (List.takeWhile_append_dropWhile (p := fun y => !klB J ss x y) (l := ys))
  simp only [List.length_append, List.length_cons] at *; omega
theorem ord_snoc (xs : List Int) (x : Int) : ordF J ss (xs ++ [x]) = insF J ss (ordF J ss xs) x := by simp [ordF]
theorem fold_len : ∀ (xs acc : List Int), (xs.foldl (insF J ss) acc).length = acc.length + xs.length
  | [], acc => by simp
  | x :: r, acc => by rw [List.foldl_cons, fold_len r, ins_len]; simp; omega
theorem ord_len (xs : List Int) : (ordF J ss xs).length = xs.length := by unfold ordF; rw [fold_len]; simp
/-! ### the library's sort -/
def SortI (J : Jb) (ss xs : List Int) (i : Nat) (zs : List Int) : Prop := zs = ordF J ss (xs.take i) ++ xs.drop i ∧ sortedK J ss (ordF J ss (xs.take i))
theorem SortI.start {xs : List Int} : SortI J ss xs 1 xs := by
  cases xs with
  | nil => exact ⟨by simp [ordF], by simp [ordF, sortedK]⟩
  | cons x r => exact ⟨by simp [ordF, insF], by simp [ordF, insF, sortedK]⟩
theorem SortI.done {xs zs : List Int} {i : Nat} (h : SortI J ss xs i zs) (hi : ¬ (i : Int) < (xs.length : Int)) : zs = ordF J ss xs := by
  rw [h.1, List.take_of_length_le (by omega), List.drop_eq_nil_of_le (by omega), List.append_nil]
def InsI (J : Jb) (ss ys : List Int) (x : Int) (r : List Int) (j : Nat) (zs : List Int) : Prop := ∃ a b, zs = a ++ x :: (b ++ r) ∧ a.length = j ∧ a ++ b = ys ∧ ∀ y ∈ b, klB J ss x y = true
theorem SortI.ins {xs zs : List Int} {i : Nat} {x : Int} (h : SortI J ss xs i zs) (hx : xs[i]? = some x) : InsI J ss (ordF J ss (xs.take i)) x (xs.drop (i + 1)) i zs := by
  have hi := (List.getElem?_eq_some_iff.1 hx).1
  exact ⟨ordF J ss (xs.take i), [], by rw [h.1, dropc hx]; rfl, by rw [ord_len, List.length_take]; omega, by simp, by simp⟩
theorem InsI.at {ys r zs : List Int} {x : Int} {j : Nat} (h : InsI J ss ys x r j zs) : zs[j]? = some x := by
  obtain ⟨a, b, h1, h2, _⟩ := h
  rw [h1, List.getElem?_append_right (by omega), h2]; simp
theorem InsI.next {ys r zs : List Int} {x u v : Int} {j : Nat} (h : InsI J ss ys x r j zs) (hj : 0 < j) (hu : zs[j]? = some u) (hv : zs[j - 1]? = some v) (hk : cmpK J ss u v < 0) : InsI J ss ys x r (j - 1) ((zs.set j v).set (j - 1) u) := by
  have e := h.at
  rw [hu] at e; injection e with e; subst e
  obtain ⟨a, b, h1, h2, h3, h4⟩ := h
  rcases List.eq_nil_or_concat a with rfl | ⟨a', l, rfl⟩
  · simp at h2; omega
  · simp only [List.concat_eq_append, List.length_append, List.length_cons, List.length_nil] at h2
    have e1 : a'.length = j - 1 := by omega
    have hl : l = v := by
      rw [h1] at hv
      simp only [List.concat_eq_append, List.append_assoc, List.cons_append, List.nil_append] at hv
      rw [List.getElem?_append_right (by omega), e1] at hv
      simpa using hv
    subst hl
    refine ⟨a', l :: b, ?_, e1, by rw [← h3]; simp, fun y hy => ?_⟩
    · rw [h1]
      simp only [List.concat_eq_append, List.append_assoc, List.cons_append, List.nil_append]
      have s1 : (a' ++ l :: u :: (b ++ r)).set j l = a' ++ l :: l :: (b ++ r) := by
        rw [List.set_append_right _ _ (by omega), show j - a'.length = 1 from by omega]; rfl
      rw [s1, List.set_append_right _ _ (by omega), show j - 1 - a'.length = 0 from by omega]; rfl
    · rcases List.mem_cons.1 hy with rfl | hy
      · exact cmpK_neg.1 hk
      · exact h4 y hy
theorem InsI.next' {ys r zs : List Int} {x u v : Int} {j : Nat} (h : InsI J ss ys x r j zs) (hj : 0 < j) (hu : zs[j]? = some u) (hv : zs[j - 1]? = some v) (hk : cmpK J ss u v < 0) : InsI J ss ys x r (j - 1) ((zs.set (j - 1) u).set j v) := by
  rw [List.set_comm _ _ (by omega)]; exact h.next hj hu hv hk
theorem InsI.stop {xs zs zs0 : List Int} {i j : Nat} {x : Int} (h0 : SortI J ss xs i zs0) (hx : xs[i]? = some x) (h : InsI J ss (ordF J ss (xs.take i)) x (xs.drop (i + 1)) j zs) (hs : j = 0 ∨ ∃ u v, zs[j]? = some u ∧ zs[j - 1]? = some v ∧ ¬ cmpK J ss u v < 0) : SortI J ss xs (i + 1) zs := by
  have hat := h.at
  obtain ⟨a, b, h1, h2, h3, h4⟩ := h
  have hsort := h0.2
  rw [← h3] at hsort
  have ha : ∀ l, a.getLast? = some l → klB J ss x l = false := fun l hl => by
    rcases hs with hs | ⟨u, v, hu, hv, hk⟩
    · subst hs
      have : a = [] := List.eq_nil_of_length_eq_zero h2
      subst this; cases hl
    · rw [hat] at hu; injection hu with hu; subst hu
      have : v = l := by
        rcases List.eq_nil_or_concat a with rfl | ⟨a', l', rfl⟩
        · cases hl
        · simp only [List.concat_eq_append, List.length_append, List.length_cons, List.length_nil] at h2
          simp at hl; subst hl
          rw [h1] at hv
          simp only [List.concat_eq_append, List.append_assoc, List.cons_append, List.nil_append] at hv
          rw [List.getElem?_append_right (by omega), show j - 1 - a'.length = 0 from by omega] at hv
          simpa using hv.symm
      subst this
      cases hc : klB J ss x v with
      | false => rfl
      | true => exact absurd (cmpK_neg.2 hc) hk
  obtain ⟨g1, g2⟩ := ins_split hsort h4 ha
  have e : xs.take (i + 1) = xs.take i ++ [x] := by rw [List.take_add_one, hx]; rfl
  have e2 : ordF J ss (xs.take (i + 1)) = a ++ x :: b := by rw [e, ord_snoc, ← h3, g1]
  refine ⟨by rw [e2, h1]; simp, by rw [e2]; exact g2⟩
theorem InsI.nextZ {ys r zs : List Int} {x u v j : Int} (h : InsI J ss ys x r j.toNat zs) (hj : 0 < j) (hu : zs[j.toNat]? = some u) (hv : zs[(j - 1).toNat]? = some v) (hk : cmpK J ss u v < 0) : InsI J ss ys x r (j - 1).toNat ((zs.set j.toNat v).set (j - 1).toNat u) := by
  have e : (j - 1).toNat = j.toNat - 1 := by omega
  rw [e] at hv ⊢
  exact h.next (by omega) hu hv hk
theorem InsI.nextZ' {ys r zs : List Int} {x u v j : Int} (h : InsI J ss ys x r j.toNat zs) (hj : 0 < j) (hu : zs[j.toNat]? = some u) (hv : zs[(j - 1).toNat]? = some v) (hk : cmpK J ss u v < 0) : InsI J ss ys x r (j - 1).toNat ((zs.set (j - 1).toNat u).set j.toNat v) := by
  rw [List.set_comm _ _ (by omega)]; exact h.nextZ hj hu hv hk
theorem InsI.stopZ {xs zs zs0 : List Int} {i : Nat} {x j : Int} (h0 : SortI J ss xs i zs0) (hx : xs[i]? = some x) (h : InsI J ss (ordF J ss (xs.take i)) x (xs.drop (i + 1)) j.toNat zs) (hj : 0 ≤ j) (hs : j = 0 ∨ ∃ u v, zs[j.toNat]? = some u ∧ zs[(j - 1).toNat]? = some v ∧ ¬ cmpK J ss u v < 0) : SortI J ss xs (i + 1) zs :=
  InsI.stop h0 hx h (by
    by_cases e : j = 0
    · exact .inl (by omega)
    · rcases hs with hs | ⟨u, v, h1, h2, h3⟩
      · exact absurd hs e
      · exact .inr ⟨u, v, h1, by rw [show (j - 1).toNat = j.toNat - 1 from by omega] at h2; exact h2, h3⟩)
theorem mem_set2 {zs : List Int} {i j : Nat} {u v : Int} {P : Int → Prop} (h : ∀ y ∈ zs, P y) (hu : P u) (hv : P v) : ∀ y ∈ (zs.set i u).set j v, P y := fun y hy => by
  rcases List.mem_or_eq_of_mem_set hy with h1 | h1
  · rcases List.mem_or_eq_of_mem_set h1 with h2 | h2
    · exact h y h2
    · rw [h2]; exact hu
  · rw [h1]; exact hv
def orL : List Int → Int
  | [] => 0
  | x :: r => if x = 0 then orL r else x
theorem orL2 (x y : Int) : orL [x, y] = orI x y := by
  simp only [orL, orI]
  by_cases h : x = 0
  · rw [if_pos h, if_pos h]
    by_cases h2 : y = 0
    · rw [if_pos h2, h2]
    · rw [if_neg h2]
  · rw [if_neg h, if_neg h]
/-! ### the definition's insertion -/
theorem memF_snoc {k : Int} {x : Tk} : ∀ {ts : List Tk} {i : Int}, memF k i (ts ++ [x]) = memF k i ts ++ (if x.team = k then [i + ts.length] else [])
  | [], i => by
    simp only [List.nil_append, memF, List.length_nil]
    split <;> simp
  | t :: r, i => by
    have ih := memF_snoc (k := k) (x := x) (ts := r) (i := i + 1)
    have e : i + 1 + (r.length : Int) = i + ((t :: r).length : Int) := by simp; omega
    simp only [List.cons_append, memF, ih, e]
    split <;> split <;> simp
theorem memF_take {k : Int} {ts : List Tk} {i : Nat} {x : Tk} (h : ts[i]? = some x) : memF k 0 (ts.take (i + 1)) = memF k 0 (ts.take i) ++ (if x.team = k then [(i : Int)] else []) := by
  have hi := (List.getElem?_eq_some_iff.1 h).1
  rw [List.take_add_one, h]
  have := memF_snoc (k := k) (x := x) (ts := ts.take i) (i := 0)
  rw [show (0 : Int) + ((ts.take i).length : Int) = (i : Int) from by rw [List.length_take]; omega] at this
  exact this
theorem ins_mem {ys : List Int} {x y : Int} (h : y ∈ insF J ss ys x) : y ∈ ys ∨ y = x := by
  unfold insF at h
  rcases List.mem_append.1 h with h | h
  · exact .inl (List.takeWhile_subset _ h)
  · rcases List.mem_cons.1 h with rfl | h
    · exact .inr rfl
    · exact .inl (List.dropWhile_subset _ h)
theorem fold_mem : ∀ {xs acc : List Int} {y : Int}, y ∈ xs.foldl (insF J ss) acc → y ∈ acc ∨ y ∈ xs
  | [], acc, y, h => .inl h
  | x :: r, acc, y, h => by
    rcases fold_mem (xs := r) h with h | h
    · rcases ins_mem h with h | rfl
      · exact .inl h
      · exact .inr (by simp)
    · exact .inr (by simp [h])
theorem ord_mem {xs : List Int} {y : Int} (h : y ∈ ordF J ss xs) : y ∈ xs := by
  rcases fold_mem h with h | h
  · cases h
  · exact h
theorem while_at {p : Int → Bool} : ∀ {ys : List Int} {i : Nat}, (∀ j y, j < i → ys[j]? = some y → p y = true) → (∀ y, ys[i]? = some y → p y = false) → ys.takeWhile p = ys.take i ∧ ys.dropWhile p = ys.drop i
  | [], i, _, _ => by simp
  | y :: r, 0, _, h => by have := h y rfl; simp [this]
  | y :: r, i + 1, h1, h2 => by
    have e := h1 0 y (by omega) rfl
    obtain ⟨g1, g2⟩ := while_at (ys := r) (i := i) (fun j z hj hz => h1 (j + 1) z (by omega) (by simpa using hz)) (fun z hz => h2 z (by simpa using hz))
    simp [e, g1, g2]
theorem ord_ins {k : Int} {i m : Nat} {x : Tk} (hx : J.ts[i]? = some x) (ht : x.team = k) {o : List Int} (ho : o = ordF J ss (memF k 0 (J.ts.take i))) (h1 : ∀ j y, j < m → o[j]? = some y → befF J ss y i = true) (h2 : ∀ y, o[m]? = some y → befF J ss y i = false) :
    (o.take m ++ [(i : Int)]) ++ o.drop m = ordF J ss (memF k 0 (J.ts.take (i + 1))) := by
  have hlt : ∀ y ∈ o, y < i := fun y hy => by
    rw [ho] at hy
    obtain ⟨j, t, hj, _, rfl⟩ := (memF_mem (i := 0)).1 (ord_mem hy)
    have := (List.getElem?_eq_some_iff.1 hj).1
    rw [List.length_take] at this; omega
  rw [memF_take hx, if_pos ht, ord_snoc, ← ho]
  obtain ⟨g1, g2⟩ := while_at (p := fun y => !klB J ss i y) (ys := o) (i := m) (fun j y hj hy => by rw [← befF_lt (hlt y (List.mem_of_getElem? hy))]; exact h1 j y hj hy) (fun y hy => by rw [← befF_lt (hlt y (List.mem_of_getElem? hy))]; exact h2 y hy)
  unfold insF
  rw [g1, g2]; simp
theorem ord_same {k : Int} {i : Nat} {x : Tk} (hx : J.ts[i]? = some x) (ht : ¬ x.team = k) : ordF J ss (memF k 0 (J.ts.take i)) = ordF J ss (memF k 0 (J.ts.take (i + 1))) := by
  rw [memF_take hx, if_neg ht, List.append_nil]
end
def OrdE (J : Jb) (ss : List Int) : Int := if chkF J = 0 then stF J.ts.length ss else chkF J
def ordRows (J : Jb) (ss : List Int) (t : Nat) : List (List Int) := (List.range t).map fun (k : Nat) => ordF J ss (memF (k : Int) 0 J.ts)
def OrdY (J : Jb) (ss : List Int) : List (List Int) := if chkF J = 0 then (if stF J.ts.length ss = 0 then ordRows J ss J.gs.length else []) else []
theorem ordRows_succ {J : Jb} {ss : List Int} {t : Nat} {rs : List (List Int)} (h : rs = ordRows J ss t) : rs ++ [ordF J ss (memF (t : Int) 0 J.ts)] = ordRows J ss (t + 1) := by
  rw [h]; simp [ordRows, List.range_succ]
theorem Ord_e {J : Jb} {ss : List Int} (h : ¬ chkF J = 0) : OrdE J ss = chkF J ∧ OrdY J ss = [] := by unfold OrdE OrdY; rw [if_neg h, if_neg h]; exact ⟨rfl, rfl⟩
theorem Ord_s {J : Jb} {ss : List Int} (h : chkF J = 0) (h1 : ¬ stF J.ts.length ss = 0) : OrdE J ss = stF J.ts.length ss ∧ OrdY J ss = [] := by unfold OrdE OrdY; rw [if_pos h, if_pos h, if_neg h1]; exact ⟨rfl, rfl⟩
theorem Ord_0 {J : Jb} {ss : List Int} (h : chkF J = 0) (h1 : stF J.ts.length ss = 0) : OrdE J ss = 0 ∧ OrdY J ss = ordRows J ss J.gs.length := by unfold OrdE OrdY; rw [if_pos h, if_pos h, if_pos h1]; exact ⟨h1, rfl⟩
end Go.Proofs.Ytdmkedbmoboamaa
