/- The plain law of the check of circles. No program in sight. -/
import Derived.Test.YtdmkedbmoboamaaPR
namespace Go.Proofs.Ytdmkedbmoboamaa
set_option linter.unusedVariables false
set_option linter.unusedSimpArgs false
set_option linter.unnecessarySimpa false
def lstep (a b : Int) (acc : Option Int) (l : Af) : Option Int := if l.p = a then (if l.q = b then some (match acc with | none => l.lag | some m => max m l.lag) else acc) else acc
/-- The greatest lag from one task to another. -/
def lagF (L : List Af) (a b : Int) : Option Int := L.foldl (lstep a b) none
def nxt (cs : List Int) (i : Nat) : Int := cs.getD (i % cs.length) 0
def circB (L : List Af) (cs : List Int) : List Int → Int → List Int → Bool
  | _, g, [] => decide (0 < g)
  | pre, g, x :: rest => match lagF L x (nxt cs (pre.length + 1)) with
    | none => false
    | some l => if pre.any (fun y => decide (y = x)) = true then false else circB L cs (pre ++ [x]) (g + l) rest
def circF (J : Jb) (os : List Rw) (cs : List Int) : Int := if chkO J os = 0 then (if (24 : Int) < (cs.length : Int) then 6 else if circB (linksF J os) cs [] 0 cs = true then 0 else 16) else chkO J os
theorem foldl_mem {a b : Int} : ∀ {L : List Af} {acc : Option Int} {l : Int}, L.foldl (lstep a b) acc = some l → (∃ x ∈ L, x.p = a ∧ x.q = b ∧ x.lag = l) ∨ acc = some l
  | [], acc, l, h => .inr h
  | x :: r, acc, l, h => by
    rw [List.foldl_cons] at h
    rcases foldl_mem h with ⟨y, hy, h1⟩ | h1
    · exact .inl ⟨y, List.mem_cons_of_mem _ hy, h1⟩
    · unfold lstep at h1
      split at h1
      · rename_i e1
        split at h1
        · rename_i e2
          cases acc with
          | none => injection h1 with h1; exact .inl ⟨x, by simp, e1, e2, h1⟩
          | some m =>
            injection h1 with h1
            by_cases hm : x.lag ≤ m
            · right; dsimp only at h1; rw [← h1]; congr 1; omega
            · left; exact ⟨x, by simp, e1, e2, by dsimp only at h1; omega⟩
        · exact .inr h1
      · exact .inr h1
theorem lagF_mem {L : List Af} {a b l : Int} (h : lagF L a b = some l) : ∃ x ∈ L, x.p = a ∧ x.q = b ∧ x.lag = l := by
  rcases foldl_mem h with h | h
  · exact h
  · cases h
theorem foldl_some {a b : Int} : ∀ {L : List Af} {acc : Option Int} {m : Int}, acc = some m → ∃ l, L.foldl (lstep a b) acc = some l ∧ m ≤ l
  | [], acc, m, h => ⟨m, h, Int.le_refl _⟩
  | x :: r, acc, m, h => by
    rw [List.foldl_cons]
    have key : ∃ m', lstep a b acc x = some m' ∧ m ≤ m' := by
      unfold lstep
      rw [h]
      split
      · split
        · exact ⟨_, rfl, by show m ≤ max m x.lag; omega⟩
        · exact ⟨m, rfl, Int.le_refl _⟩
      · exact ⟨m, rfl, Int.le_refl _⟩
    obtain ⟨m', h1, h2⟩ := key
    obtain ⟨l, h3, h4⟩ := foldl_some (L := r) h1
    exact ⟨l, h3, by omega⟩
theorem foldl_of {a b : Int} : ∀ {L : List Af} {acc : Option Int} {x : Af}, x ∈ L → x.p = a → x.q = b → ∃ l, L.foldl (lstep a b) acc = some l ∧ x.lag ≤ l
  | [], _, _, h, _, _ => by cases h
  | y :: r, acc, x, h, h1, h2 => by
    rw [List.foldl_cons]
    rcases List.mem_cons.1 h with rfl | h
    · have key : ∃ m', lstep a b acc x = some m' ∧ x.lag ≤ m' := by
        unfold lstep
        rw [if_pos h1, if_pos h2]
        cases acc with
        | none => exact ⟨_, rfl, Int.le_refl _⟩
        | some m => exact ⟨_, rfl, by show x.lag ≤ max m x.lag; omega⟩
      obtain ⟨m', h3, h4⟩ := key
      obtain ⟨l, h5, h6⟩ := foldl_some (L := r) h3
      exact ⟨l, h5, by omega⟩
    · exact foldl_of h h1 h2
theorem lagF_of {L : List Af} {a b : Int} {x : Af} (h : x ∈ L) (h1 : x.p = a) (h2 : x.q = b) : ∃ l, lagF L a b = some l ∧ x.lag ≤ l := foldl_of h h1 h2
theorem nxt_at {cs : List Int} {i : Nat} {x : Int} (h : cs[i]? = some x) : nxt cs i = x := by
  have hi := (List.getElem?_eq_some_iff.1 h).1
  unfold nxt
  rw [Nat.mod_eq_of_lt hi]; simp [List.getD, h]
theorem nxt_of {cs : List Int} {i : Nat} {x : Int} (h : cs[i % cs.length]? = some x) : nxt cs i = x := by unfold nxt; simp [List.getD, h]
theorem nxt_end (cs : List Int) : nxt cs cs.length = nxt cs 0 := by unfold nxt; rw [Nat.mod_self, Nat.zero_mod]
theorem circB_sound {L : List Af} {cs : List Int} {π : Int → Int} (hπ : Pot L π) : ∀ {rest pre : List Int} {g : Int}, circB L cs pre g rest = true → cs = pre ++ rest → g ≤ π (nxt cs pre.length) - π (nxt cs 0) → False
  | [], pre, g, h, hc, hg => by
    rw [circB] at h
    rw [List.append_nil] at hc
    rw [← hc, nxt_end] at hg
    have := of_decide_eq_true h
    omega
  | x :: rest, pre, g, h, hc, hg => by
    rw [circB] at h
    have hx : cs[pre.length]? = some x := by rw [hc, List.getElem?_append_right (Nat.le_refl _)]; simp
    cases hl : lagF L x (nxt cs (pre.length + 1)) with
    | none => rw [hl] at h; cases h
    | some l =>
      rw [hl] at h
      dsimp only at h
      split at h
      · cases h
      · obtain ⟨a, ha, e1, e2, e3⟩ := lagF_mem hl
        have h1 := hπ a ha
        rw [e1, e2, e3] at h1
        rw [nxt_at hx] at hg
        refine circB_sound hπ h (by rw [hc]; simp) ?_
        rw [List.length_append, List.length_singleton]
        omega
theorem circ_sound {L : List Af} {cs : List Int} (h : circB L cs [] 0 cs = true) : ∀ π, ¬ Pot L π := fun π hπ => circB_sound hπ h rfl (by simp)
theorem circB_of {n : Nat} {L : List Af} {cs : List Int} {g : Int → Int} (hn : cs.Nodup) (hl : ∀ i x y, cs[i]? = some x → cs[(i + 1) % cs.length]? = some y → ∃ a ∈ L, a.p = x ∧ a.q = y ∧ a.lag = g y) (hpos : 0 < (cs.map g).sum) {z : Int} (hz : cs[0]? = some z) :
    ∀ {rest pre : List Int} {s : Int}, cs = pre ++ rest → ((rest ≠ [] → ((cs.take (pre.length + 1)).map g).sum - g z ≤ s) ∧ (rest = [] → (cs.map g).sum ≤ s)) → circB L cs pre s rest = true
  | [], pre, s, hc, hs => by rw [circB]; have := hs.2 rfl; simp; omega
  | x :: rest, pre, s, hc, hs => by
    have hlen : cs.length = pre.length + (rest.length + 1) := by rw [hc]; simp
    have hx : cs[pre.length]? = some x := by rw [hc, List.getElem?_append_right (Nat.le_refl _)]; simp
    obtain ⟨y, hy⟩ : ∃ y, cs[(pre.length + 1) % cs.length]? = some y := ⟨_, List.getElem?_eq_getElem (Nat.mod_lt _ (by omega))⟩
    obtain ⟨a, ha, e1, e2, e3⟩ := hl _ _ _ hx hy
    obtain ⟨l, h1, h2⟩ := lagF_of ha e1 e2
    have hno : pre.any (fun y => decide (y = x)) = false := by
      refine List.any_eq_false.2 fun y hy' e => ?_
      have e := of_decide_eq_true e
      subst e
      rw [hc] at hn
      exact (List.nodup_append.1 hn).2.2 y hy' y (by simp) rfl
    rw [circB, nxt_of hy, h1]
    dsimp only
    rw [hno]
    simp only [Bool.false_eq_true, if_false]
    have hs1 := hs.1 (by simp)
    refine circB_of (n := n) hn hl hpos hz (by rw [hc]; simp) ⟨fun hr => ?_, fun hr => ?_⟩
    · rw [List.length_append, List.length_singleton]
      have hlt : pre.length + 1 < cs.length := by
        have : 0 < rest.length := List.length_pos_iff.2 hr
        omega
      have hm : (pre.length + 1) % cs.length = pre.length + 1 := Nat.mod_eq_of_lt hlt
      have e4 := hy
      rw [hm] at e4
      rw [show cs.take (pre.length + 1 + 1) = cs.take (pre.length + 1) ++ [_] from take_snoc e4, List.map_append, List.sum_append]
      simp only [List.map_cons, List.map_nil, List.sum_cons, List.sum_nil]
      omega
    · subst hr
      have hm : (pre.length + 1) % cs.length = 0 := by
        have : cs.length = pre.length + 1 := by simpa using hlen
        rw [← this, Nat.mod_self]
      have e5 := hy
      rw [hm, hz] at e5
      injection e5 with e5
      rw [← e5] at e3
      have e6 : cs.take (pre.length + 1) = cs := List.take_of_length_le (by simp at hlen; omega)
      rw [e6] at hs1
      omega
theorem circ_of {n : Nat} {L : List Af} {cs : List Int} (h : PosC n L cs) : circB L cs [] 0 cs = true := by
  obtain ⟨h0, hn, hr, g, hl, hp⟩ := h
  obtain ⟨z, r, rfl⟩ : ∃ z r, cs = z :: r := by
    cases cs with
    | nil => exact absurd rfl h0
    | cons z r => exact ⟨z, r, rfl⟩
  refine circB_of (n := n) hn hl hp (z := z) rfl rfl ⟨fun _ => ?_, fun e => by cases e⟩
  simp
theorem posC_len {n : Nat} {L : List Af} {cs : List Int} (h : PosC n L cs) : cs.length ≤ n := nodup_ints h.2.1 h.2.2.1
/-! ### step by step -/
theorem circ_hit {L : List Af} {cs : List Int} {q : Nat} {x g y : Int} {b : Bool} (hG : b = circB L cs (cs.take q) g (cs.drop q)) (hx : cs[q]? = some x) (hy : cs[(q + 1) % cs.length]? = some y) (hD : lagF L x y = none ∨ (cs.take q).any (fun y => decide (y = x)) = true) : b = false := by
  have hq := (List.getElem?_eq_some_iff.1 hx).1
  rw [hG, dropc hx, circB, show (cs.take q).length + 1 = q + 1 from by rw [List.length_take]; omega, nxt_of hy]
  cases hl : lagF L x y with
  | none => rfl
  | some l =>
    rcases hD with hD | hD
    · rw [hl] at hD; cases hD
    · dsimp only; rw [if_pos hD]
theorem circ_next {L : List Af} {cs : List Int} {q : Nat} {x g y l : Int} {b : Bool} (hG : b = circB L cs (cs.take q) g (cs.drop q)) (hx : cs[q]? = some x) (hy : cs[(q + 1) % cs.length]? = some y) (hl : lagF L x y = some l) (hn : (cs.take q).any (fun y => decide (y = x)) = false) : b = circB L cs (cs.take (q + 1)) (g + l) (cs.drop (q + 1)) := by
  have hq := (List.getElem?_eq_some_iff.1 hx).1
  rw [hG, dropc hx, circB, show (cs.take q).length + 1 = q + 1 from by rw [List.length_take]; omega, nxt_of hy, hl, take_snoc hx]
  dsimp only
  rw [hn]; rfl
theorem circ_end {L : List Af} {cs : List Int} {q : Nat} {g : Int} {b : Bool} (hG : b = circB L cs (cs.take q) g (cs.drop q)) (hq : ¬ (q : Int) < (cs.length : Int)) : b = decide (0 < g) := by
  rw [hG, drop_all hq, circB]
theorem rem_next {q n : Nat} (hq : q < n) : ∃ i : Nat, i = (q + 1) % n ∧ i < n ∧ Int.tmod ((q : Int) + 1) (n : Int) = (i : Int) := by
  refine ⟨(q + 1) % n, rfl, Nat.mod_lt _ (by omega), ?_⟩
  rw [Int.tmod_eq_emod_of_nonneg (by omega)]
  show ((q + 1 : Nat) : Int) % (n : Int) = _
  exact (Int.natCast_emod _ _).symm
theorem circF_e {J : Jb} {os : List Rw} {cs : List Int} (h : ¬ chkO J os = 0) : circF J os cs = chkO J os := by unfold circF; rw [if_neg h]
theorem circF_6 {J : Jb} {os : List Rw} {cs : List Int} (h : chkO J os = 0) (h1 : (24 : Int) < (cs.length : Int)) : circF J os cs = 6 := by unfold circF; rw [if_pos h, if_pos h1]
theorem circF_16 {J : Jb} {os : List Rw} {cs : List Int} (h : chkO J os = 0) (h1 : ¬ (24 : Int) < (cs.length : Int)) (h3 : circB (linksF J os) cs [] 0 cs = false) : circF J os cs = 16 := by unfold circF; rw [if_pos h, if_neg h1, h3]; rfl
theorem circF_0 {J : Jb} {os : List Rw} {cs : List Int} (h : chkO J os = 0) (h1 : ¬ (24 : Int) < (cs.length : Int)) (h3 : circB (linksF J os) cs [] 0 cs = true) : circF J os cs = 0 := by unfold circF; rw [if_pos h, if_neg h1, if_pos h3]
theorem circF_pos {J : Jb} {os : List Rw} {cs : List Int} (h : circF J os cs = 0) : chkO J os = 0 ∧ circB (linksF J os) cs [] 0 cs = true := by
  unfold circF at h
  split at h
  · rename_i h0
    split at h
    · cases h
    · split at h
      · rename_i h1; exact ⟨h0, h1⟩
      · cases h
  · rename_i h0; exact absurd h h0
end Go.Proofs.Ytdmkedbmoboamaa
