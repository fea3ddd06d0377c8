/- The plain law of a stable sort by insertions and by merges in place: swaps, rotations, binary searches. No program in sight. -/
import Derived.Test.YtfekoippjmojgaaKxR
namespace Go.Proofs.Ytfekoippjmojgaa.Srt
set_option linter.unusedVariables false
set_option linter.unusedSimpArgs false
set_option linter.unnecessarySimpa false
/-! ### places in a list made of parts -/
theorem at_mid {α : Type} {A B : List α} {u : α} {i : Nat} (h : A.length = i) : (A ++ u :: B)[i]? = some u := by subst h; simp
theorem at_app {α : Type} {A B : List α} {i j : Nat} (h : A.length + j = i) : (A ++ B)[i]? = B[j]? := by subst h; rw [List.getElem?_append_right (by omega)]; congr 1; omega
theorem at_app2 {α : Type} {A B C : List α} {i j : Nat} (h : A.length + j = i) (hj : j < B.length) : (A ++ (B ++ C))[i]? = B[j]? := by rw [at_app h, List.getElem?_append_left hj]
/-- Two elements swapped. -/
theorem swap_at {A M C : List Int} {u v : Int} {p q : Nat} (hp : A.length = p) (hq : A.length + 1 + M.length = q) : ((A ++ u :: (M ++ v :: C)).set p v).set q u = A ++ v :: (M ++ u :: C) ∧ ((A ++ u :: (M ++ v :: C)).set q u).set p v = A ++ v :: (M ++ u :: C) := by
  subst hp hq
  have e1 : (A ++ u :: (M ++ v :: C)).set A.length v = A ++ v :: (M ++ v :: C) := by rw [List.set_append_right _ _ (by omega)]; simp
  have e2 : ∀ z : Int, (A ++ z :: (M ++ v :: C)).set (A.length + 1 + M.length) u = A ++ z :: (M ++ u :: C) := fun z => by
    rw [List.set_append_right _ _ (by omega), show A.length + 1 + M.length - A.length = M.length + 1 from by omega, List.set_cons_succ, List.set_append_right _ _ (by omega)]
    simp
  have e3 : (A ++ u :: (M ++ u :: C)).set A.length v = A ++ v :: (M ++ u :: C) := by rw [List.set_append_right _ _ (by omega)]; simp
  exact ⟨by rw [e1, e2], by rw [e2, e3]⟩
/-- zs becomes ws by a swap at p < q. -/
structure SwapAt (zs : List Int) (p q : Nat) (ws : List Int) : Prop where
  ex : ∃ A u M v C, zs = A ++ u :: (M ++ v :: C) ∧ A.length = p ∧ A.length + 1 + M.length = q ∧ ws = A ++ v :: (M ++ u :: C)
theorem split_at {zs : List Int} {p : Nat} {u : Int} (h : zs[p]? = some u) : zs = zs.take p ++ u :: zs.drop (p + 1) := by
  obtain ⟨hp, rfl⟩ := List.getElem?_eq_some_iff.1 h
  simp
theorem SwapAt.of {zs : List Int} {p q : Nat} {u v : Int} (hpq : p < q) (hu : zs[p]? = some u) (hv : zs[q]? = some v) : SwapAt zs p q ((zs.set p v).set q u) ∧ SwapAt zs p q ((zs.set q u).set p v) := by
  have hp := (List.getElem?_eq_some_iff.1 hu).1
  have hq := (List.getElem?_eq_some_iff.1 hv).1
  have e1 := split_at hu
  have h2 : (zs.drop (p + 1))[q - (p + 1)]? = some v := by rw [List.getElem?_drop, show p + 1 + (q - (p + 1)) = q from by omega]; exact hv
  have e2 := split_at h2
  generalize hA : zs.take p = A at e1
  have hAl : A.length = p := by rw [← hA, List.length_take]; omega
  generalize hM : (zs.drop (p + 1)).take (q - (p + 1)) = M at e2
  have hMl : M.length = q - (p + 1) := by rw [← hM, List.length_take, List.length_drop]; omega
  generalize (zs.drop (p + 1)).drop (q - (p + 1) + 1) = C at e2
  rw [e2] at e1
  have h3 := swap_at (A := A) (M := M) (C := C) (u := u) (v := v) hAl (q := q) (by omega)
  refine ⟨⟨A, u, M, v, C, e1, hAl, by omega, ?_⟩, ⟨A, u, M, v, C, e1, hAl, by omega, ?_⟩⟩
  · rw [e1]; exact h3.1
  · rw [e1]; exact h3.2
theorem SwapAt.eq {zs ws : List Int} {p q : Nat} (h : SwapAt zs p q ws) {A M C : List Int} {u v : Int} (hz : zs = A ++ u :: (M ++ v :: C)) (hp : A.length = p) (hq : A.length + 1 + M.length = q) : ws = A ++ v :: (M ++ u :: C) := by
  obtain ⟨A', u', M', v', C', e, h1, h2, h3⟩ := h.ex
  rw [hz] at e
  obtain ⟨e0, e⟩ := List.append_inj e (by omega)
  rw [List.cons.injEq] at e
  obtain ⟨e1, e⟩ := e
  obtain ⟨e2, e⟩ := List.append_inj e (by omega)
  rw [List.cons.injEq] at e
  rw [h3, e0, e1, e2, e.1, e.2]
theorem SwapAt.len {zs ws : List Int} {p q : Nat} (h : SwapAt zs p q ws) : ws.length = zs.length := by
  obtain ⟨A, u, M, v, C, e, h1, h2, h3⟩ := h.ex
  rw [e, h3]; simp
theorem SwapAt.perm {zs ws : List Int} {p q : Nat} (h : SwapAt zs p q ws) : ws.Perm zs := by
  obtain ⟨A, u, M, v, C, e, h1, h2, h3⟩ := h.ex
  rw [e, h3]
  refine List.Perm.append_left A ?_
  refine (List.Perm.cons v List.perm_middle).trans ((List.Perm.swap u v (M ++ C)).trans ?_)
  exact List.Perm.cons u List.perm_middle.symm
/-! ### two ranges swapped -/
/-- After i steps of a swap of X and Y, with M between. -/
def SwR (A X M Y C : List Int) (i : Nat) (zs : List Int) : Prop := zs = A ++ (Y.take i ++ (X.drop i ++ (M ++ (X.take i ++ (Y.drop i ++ C)))))
theorem SwR.start {A X M Y C : List Int} : SwR A X M Y C 0 (A ++ (X ++ (M ++ (Y ++ C)))) := by unfold SwR; simp
theorem SwR.done {A X M Y C : List Int} {i : Nat} {zs : List Int} (h : SwR A X M Y C i zs) (hx : X.length ≤ i) (hy : Y.length ≤ i) : zs = A ++ (Y ++ (M ++ (X ++ C))) := by
  unfold SwR at h
  rw [List.take_of_length_le hx, List.take_of_length_le hy, List.drop_eq_nil_of_le hx, List.drop_eq_nil_of_le hy] at h
  simpa using h
theorem SwR.step {A X M Y C : List Int} {i p q : Nat} {zs ws : List Int} (h : SwR A X M Y C i zs) (hxy : X.length = Y.length) (hi : i < X.length) (ha : A.length + i = p) (hb : A.length + X.length + M.length + i = q) (hs : SwapAt zs p q ws) : SwR A X M Y C (i + 1) ws := by
  unfold SwR at *
  have hx : X.drop i = X[i] :: X.drop (i + 1) := List.drop_eq_getElem_cons hi
  have hy : Y.drop i = Y[i] :: Y.drop (i + 1) := List.drop_eq_getElem_cons (by omega)
  have e := hs.eq (A := A ++ Y.take i) (u := X[i]) (M := X.drop (i + 1) ++ (M ++ X.take i)) (v := Y[i]) (C := Y.drop (i + 1) ++ C) (by rw [h, hx, hy]; simp only [List.append_assoc, List.cons_append]) (by rw [List.length_append, List.length_take]; omega) (by simp only [List.length_append, List.length_take, List.length_drop]; omega)
  rw [e]
  have tx : X.take (i + 1) = X.take i ++ [X[i]] := by rw [List.take_add_one, List.getElem?_eq_getElem hi]; rfl
  have ty : Y.take (i + 1) = Y.take i ++ [Y[i]] := by rw [List.take_add_one, List.getElem?_eq_getElem (show i < Y.length by omega)]; rfl
  rw [tx, ty]
  simp only [List.append_assoc, List.cons_append, List.nil_append]
theorem perm_swap {A X M Y C : List Int} : (A ++ (Y ++ (M ++ (X ++ C)))).Perm (A ++ (X ++ (M ++ (Y ++ C)))) := by
  refine List.Perm.append_left A ?_
  have e : (Y ++ (M ++ X)).Perm (X ++ (M ++ Y)) := by
    refine (List.perm_append_comm (l₁ := Y)).trans ?_
    rw [List.append_assoc]
    refine (List.perm_append_comm_assoc M X Y).trans ?_
    exact List.Perm.refl _
  have := e.append_right C
  simpa only [List.append_assoc] using this
theorem perm_rot {A X Y C : List Int} : (A ++ (Y ++ (X ++ C))).Perm (A ++ (X ++ (Y ++ C))) := by
  refine List.Perm.append_left A ?_
  rw [← List.append_assoc, ← List.append_assoc]
  exact List.perm_append_comm.append_right C
/-- What is kept of a list whose elements are only moved. -/
structure Kept (n : Nat) (m : Nat) (zs : List Int) : Prop where
  len : zs.length = n
  bd : ∀ y ∈ zs, 0 ≤ y ∧ y < m
theorem Kept.perm {n m : Nat} {zs ws : List Int} (h : Kept n m zs) (hp : ws.Perm zs) : Kept n m ws := ⟨by rw [hp.length_eq]; exact h.len, fun y hy => h.bd y (hp.subset hy)⟩
theorem at_L {P L R Q : List Int} {zs : List Int} (hz : zs = P ++ (L ++ (R ++ Q))) {k j : Nat} (hk : P.length + j = k) (hj : j < L.length) : zs[k]? = L[j]? := by rw [hz]; exact at_app2 hk hj
theorem at_R {P L R Q : List Int} {zs : List Int} (hz : zs = P ++ (L ++ (R ++ Q))) {k j : Nat} (hk : P.length + L.length + j = k) (hj : j < R.length) : zs[k]? = R[j]? := by
  rw [hz, ← List.append_assoc]
  exact at_app2 (by rw [List.length_append]; exact hk) hj
/-! ### a rotation -/
/-- Still to be rotated: X, Y between A and C; what comes out in the end is P. -/
structure RotI (m : Nat) (i j : Nat) (zs P : List Int) : Prop where
  ex : ∃ A X Y C, zs = A ++ (X ++ (Y ++ C)) ∧ X.length = i ∧ Y.length = j ∧ A.length + i = m ∧ P = A ++ (Y ++ (X ++ C))
theorem RotI.gt {m i j : Nat} {zs P : List Int} (h : RotI m i j zs P) (hij : j < i) : ∃ A X1 X2 Y C, zs = A ++ (X1 ++ (X2 ++ (Y ++ C))) ∧ X1.length = j ∧ Y.length = j ∧ X2.length = i - j ∧ A.length = m - i ∧ A.length + X1.length + X2.length = m ∧ RotI m (i - j) j (A ++ (Y ++ (X2 ++ (X1 ++ C)))) P := by
  obtain ⟨A, X, Y, C, e, h1, h2, h3, h4⟩ := h.ex
  have hX : X = X.take j ++ X.drop j := (List.take_append_drop j X).symm
  have l1 : (X.take j).length = j := by rw [List.length_take]; omega
  have l2 : (X.drop j).length = i - j := by rw [List.length_drop]; omega
  refine ⟨A, X.take j, X.drop j, Y, C, ?_, l1, h2, l2, by omega, by omega, ⟨A ++ Y, X.drop j, X.take j, C, by simp, l2, l1, by rw [List.length_append]; omega, ?_⟩⟩
  · rw [e]; conv => lhs; rw [hX]
    simp only [List.append_assoc]
  · rw [h4]; conv => lhs; rw [hX]
    simp only [List.append_assoc]
theorem RotI.lt {m i j : Nat} {zs P : List Int} (h : RotI m i j zs P) (hij : i < j) : ∃ A X Y1 Y2 C, zs = A ++ (X ++ (Y1 ++ (Y2 ++ C))) ∧ X.length = i ∧ Y1.length = j - i ∧ Y2.length = i ∧ A.length = m - i ∧ A.length + X.length + Y1.length = m + j - i ∧ RotI m i (j - i) (A ++ (Y2 ++ (Y1 ++ (X ++ C)))) P := by
  obtain ⟨A, X, Y, C, e, h1, h2, h3, h4⟩ := h.ex
  have hY : Y = Y.take (j - i) ++ Y.drop (j - i) := (List.take_append_drop (j - i) Y).symm
  have l1 : (Y.take (j - i)).length = j - i := by rw [List.length_take]; omega
  have l2 : (Y.drop (j - i)).length = i := by rw [List.length_drop]; omega
  refine ⟨A, X, Y.take (j - i), Y.drop (j - i), C, ?_, h1, l1, l2, by omega, by omega, ⟨A, Y.drop (j - i), Y.take (j - i), X ++ C, by simp, l2, l1, by omega, ?_⟩⟩
  · rw [e]; conv => lhs; rw [hY]
    simp only [List.append_assoc]
  · rw [h4]; conv => lhs; rw [hY]
    simp only [List.append_assoc]
theorem RotI.last {m i : Nat} {zs P : List Int} (h : RotI m i i zs P) : ∃ A X Y C, zs = A ++ (X ++ (Y ++ C)) ∧ X.length = i ∧ Y.length = i ∧ A.length = m - i ∧ A.length + X.length = m ∧ P = A ++ (Y ++ (X ++ C)) := by
  obtain ⟨A, X, Y, C, e, h1, h2, h3, h4⟩ := h.ex
  exact ⟨A, X, Y, C, e, h1, h2, by omega, by omega, h4⟩
/-! ### keys and places -/
/-- A strict weak order of keys. -/
structure Kl (kl : Int → Int → Bool) : Prop where
  asym : ∀ x y, kl x y = true → kl y x = false
  tr : ∀ x y z, kl x y = true → kl y z = true → kl x z = true
  eqv : ∀ x y z, kl x y = false → kl y z = false → kl x z = false
/-- By the key, of several by the number. -/
def Tl (kl : Int → Int → Bool) (x y : Int) : Prop := kl x y = true ∨ (kl y x = false ∧ x < y)
section
variable {kl : Int → Int → Bool}
theorem Tl.tr (hk : Kl kl) {x y z : Int} (h1 : Tl kl x y) (h2 : Tl kl y z) : Tl kl x z := by
  have key : ∀ a b, kl a b = true ∨ kl a b = false := fun a b => by cases kl a b <;> simp
  rcases h1 with h1 | ⟨h1, h1'⟩
  · rcases h2 with h2 | ⟨h2, h2'⟩
    · exact .inl (hk.tr x y z h1 h2)
    · rcases key x z with h3 | h3
      · exact .inl h3
      · have := hk.eqv x z y h3 h2
        rw [h1] at this; cases this
  · rcases h2 with h2 | ⟨h2, h2'⟩
    · rcases key x z with h3 | h3
      · exact .inl h3
      · have := hk.eqv y x z h1 h3
        rw [h2] at this; cases this
    · exact .inr ⟨hk.eqv z y x h2 h1, by omega⟩
theorem Tl.asym (hk : Kl kl) {x y : Int} (h1 : Tl kl x y) (h2 : Tl kl y x) : False := by
  rcases h1 with h1 | ⟨h1, h1'⟩
  · rcases h2 with h2 | ⟨h2, h2'⟩
    · have := hk.asym x y h1; rw [h2] at this; cases this
    · rw [h1] at h2; cases h2
  · rcases h2 with h2 | ⟨h2, h2'⟩
    · rw [h2] at h1; cases h1
    · omega
/-- For a number that is less: is the other one before it? -/
theorem kl_tl {x y : Int} (h : x < y) : (kl y x = true → Tl kl y x) ∧ (kl y x = false → Tl kl x y) := ⟨fun h => .inl h, fun h1 => by
  cases h2 : kl x y with
  | true => exact .inl h2
  | false => exact .inr ⟨h1, h⟩⟩
def Sd (kl : Int → Int → Bool) (xs : List Int) : Prop := xs.Pairwise (Tl kl)
def Lt2 (L R : List Int) : Prop := ∀ x ∈ L, ∀ y ∈ R, x < y
/-- The only sorted list of some numbers. -/
theorem Sd.unique (hk : Kl kl) : ∀ {xs ys : List Int}, Sd kl xs → Sd kl ys → xs.Perm ys → xs = ys
  | [], ys, _, _, h => (List.Perm.eq_nil h.symm).symm
  | x :: xs, [], _, _, h => by have := h.length_eq; simp at this
  | x :: xs, y :: ys, h1, h2, h => by
    obtain ⟨a1, b1⟩ := List.pairwise_cons.1 h1
    obtain ⟨a2, b2⟩ := List.pairwise_cons.1 h2
    have e : x = y := by
      have hx : x ∈ y :: ys := h.subset (by simp)
      have hy : y ∈ x :: xs := h.symm.subset (by simp)
      rcases List.mem_cons.1 hx with e | hx
      · exact e
      · rcases List.mem_cons.1 hy with e | hy
        · exact e.symm
        · exact (Tl.asym hk (a1 y hy) (a2 x hx)).elim
    subst e
    rw [Sd.unique hk b1 b2 ((List.perm_cons x).1 h)]
theorem sd_app (hk : Kl kl) {A B : List Int} (h1 : Sd kl A) (h2 : Sd kl B) (h : ∀ x ∈ A, ∀ y ∈ B, Tl kl x y) : Sd kl (A ++ B) := List.pairwise_append.2 ⟨h1, h2, h⟩
end
end Go.Proofs.Ytfekoippjmojgaa.Srt
