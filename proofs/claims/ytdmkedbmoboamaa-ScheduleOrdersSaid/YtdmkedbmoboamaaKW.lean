/- One element cut out of a row of the call's own: append(row[:k], row[j:]...). -/
import Derived.Test.YtdmkedbmoboamaaKxM
namespace Go.Proofs.Ytdmkedbmoboamaa
open Go.Kx Go.RowKit
set_option linter.unusedVariables false
set_option linter.unusedSimpArgs false
section
variable {P : Program} {W : World} {n : Cx} {T : List (Nat × Value)} {B : List (Nat × Res)} {ty : TypeId} {pos : String} {aft : Array Edge} {g : Option (Nat × Bool)} {dst : Option Tmp}
theorem ownsRow_take {w : World} {base sz len k cap : Nat} {e : TypeId} {a : Option Addr} {cs : List Value} (h : w.ownsRow base e sz (.slice a len cap) len cs) (hk : k ≤ len) : w.ownsRow base e sz (.slice a k cap) k (cs.take (k * sz)) := by
  have hle : k * sz ≤ len * sz := Nat.mul_le_mul_right _ hk
  refine ⟨by rw [List.length_take, h.1]; omega, ?_⟩
  rcases h.2 with ⟨hv, hn⟩ | ⟨g, c0, cur, hv, h1, h2, h3, h4, h5, h6⟩
  · have : k = 0 := by omega
    subst this
    injection hv with e1 e2 e3
    subst e1 e3
    exact .inl ⟨rfl, rfl⟩
  · injection hv with e1 e2 e3
    subst e1 e3
    exact .inr ⟨g, cap, cur, rfl, h1, h2, by omega, h4, h5, by rw [← h6, List.take_take]; congr 1; omega⟩
theorem flat_take {α : Type} {enc : α → List Value} {sz : Nat} (hlen : ∀ y, (enc y).length = sz) : ∀ (xs : List α) (k : Nat), (xs.flatMap enc).take (k * sz) = (xs.take k).flatMap enc
  | [], k => by simp
  | x :: r, 0 => by simp
  | x :: r, k + 1 => by
    have ih := flat_take hlen r k
    rw [List.flatMap_cons, List.take_succ_cons, List.flatMap_cons, ← ih, List.take_append, List.take_of_length_le (by rw [hlen, Nat.succ_mul]; omega)]
    congr 2
    rw [hlen, Nat.succ_mul]; omega
theorem Eff.appendCut {d : Nat} {s x : Operand} {t e : TypeId} {sz bytes : Nat} {α : Type} {enc : α → List Value} {a ay : Option Addr} {cap k j ly c : Nat} {xs : List α} (l : Nat)
    (ht : P.underlying t = some (.slice e)) (he : elemFact P e sz bytes = true) (hsz : Nat.blt 0 sz = true) (hs : opv T s = some (.slice a k cap)) (hk : k ≤ xs.length) (hl : lkp B l = some (rowL e sz enc a cap xs)) (hx : opv T x = some (.slice ay ly c)) (hay : ay = subA a cap j sz) (hly : (xs.drop j).length = ly)
    (hlen : ∀ y, (enc y).length = sz) (h1 : ∀ y, ∀ u ∈ enc y, u.oneCell' = true) (hb : (k + (xs.drop j).length) * bytes ≤ 140737488355328 ∧ k + (xs.drop j).length ≤ maxLen) (hd : Nat.blt d n.n = true) :
    Eff P W n ⟨some d, .call { callee := .builtin .append, args := #[s, x], argTypes := #[t, t] }, ty, pos, aft, g⟩ T B (fun _ : Option Addr × Nat => True) (fun p => (d, .slice p.1 (xs.take k ++ xs.drop j).length p.2) :: T) (fun p => (l, rowL e sz enc p.1 p.2 (xs.take k ++ xs.drop j)) :: B) := fun act w hT hm K Q hk' => by
  subst hay hly
  have hown : w.ownsRow 0 e sz (.slice a xs.length cap) xs.length (xs.flatMap enc) := hm.holds l _ hl
  have hown' := ownsRow_take hown hk
  rw [flat_take hlen] at hown'
  have hR := Rdb.drop_row (k := j) hm hl hlen
  have htl : (xs.take k).length = k := by rw [List.length_take]; omega
  obtain ⟨i, z, hi, hz, h2, h3, h4⟩ := elemFact_spec he
  cases hy : xs.drop j with
  | nil =>
    rw [hy] at hx hR hk'
    have hsrc : Go.Src P i.size t (.slice (subA a cap j sz) ([] : List α).length c) 0 [] w := by
      cases subA a cap j sz with
      | none => exact Src.ofNil w ht c
      | some ad => exact Src.ofSlice w ht ad 0 c [] (by simp) (fun j u h => by simp at h) (fun u h => by cases h)
    have hr := run_append_nothing w t t ty e i ht hi a k cap (ownsRow_cap hown') _ hsrc
    have hrun : (execOp act.eval ⟨some d, .call { callee := .builtin .append, args := #[s, x], argTypes := #[t, t] }, ty, pos, aft, g⟩).run P w = .ok (.value (.slice a k cap)) w := by
      simp only [execOp, resolve, invoke, builtin, Sem.run_bind, Sem.run_pure, Result.andThen_ok, List.map_toArray, List.map_cons, List.map_nil, hT.eval hs, hT.eval hx, hr]
    refine OpX.of_run (by intro c e; cases e) hrun ?_
    have hk2 := hk' (a, cap) trivial
    simp only [List.append_nil, htl] at hk2
    refine hk2 _ _ (hT.put hd _) (hm.turn l hl _ rfl rfl rfl (Nat.le_refl _) (fun _ _ _ => rfl) ?_ (fun q hq => .inl ?_))
    · show w.ownsRow 0 e sz (.slice a (xs.take k).length cap) (xs.take k).length ((xs.take k).flatMap enc)
      rw [htl]; exact hown'
    · cases a with
      | none => simp [rowL, Value.ownBlock] at hq
      | some ad => simpa [rowL, Value.ownBlock] using hq
  | cons y0 yr =>
    rw [hy] at hx hR hk' hb
    obtain ⟨ad, had, hc⟩ := hR.flat hlen (by simpa using hsz) (by simp)
    rw [had] at hx
    obtain ⟨a', cap', w', hr, ho', hgr, hloc⟩ := run_append_at (P := P) w ty ht hi hz h2 h3 h4 (by simpa using hsz) a k cap _ hown' ad (y0 :: yr).length c ((y0 :: yr).flatMap enc) (flat_len hlen _) hc (fun u hu => by
      obtain ⟨y, hy, hu⟩ := List.mem_flatMap.1 hu
      exact h1 y u hu) hb.2 hb.1
    have hrun : (execOp act.eval ⟨some d, .call { callee := .builtin .append, args := #[s, x], argTypes := #[t, t] }, ty, pos, aft, g⟩).run P w = .ok (.value (.slice a' (xs.take k ++ (y0 :: yr)).length cap')) w' := by
      simp only [execOp, resolve, invoke, builtin, Sem.run_bind, Sem.run_pure, Result.andThen_ok, List.map_toArray, List.map_cons, List.map_nil, hT.eval hs, hT.eval hx, hr, List.length_append, htl]
    have hblk : ∀ q, (Value.slice a k cap).ownBlock = some q → (rowL e sz enc a cap xs).own q := fun q hq => by
      cases a with
      | none => simp [Value.ownBlock] at hq
      | some ad => simpa [rowL, Value.ownBlock] using hq
    refine OpX.of_run (by intro c e; cases e) hrun ?_
    refine hk' (a', cap') trivial _ _ (hT.put hd _) (hm.turn l hl (rowL e sz enc a' cap' (xs.take k ++ (y0 :: yr))) hgr.os hgr.tape hgr.output hgr.size (fun q hq hno => hgr.block q hq (fun e => hno (hblk q e.symm))) ?_ (fun q hq => ?_))
    · show w'.ownsRow 0 e sz (.slice a' (xs.take k ++ (y0 :: yr)).length cap') (xs.take k ++ (y0 :: yr)).length ((xs.take k ++ (y0 :: yr)).flatMap enc)
      rw [List.flatMap_append, List.length_append, htl]; exact ho'
    · have hq' : (Value.slice a' (xs.take k ++ (y0 :: yr)).length cap').ownBlock = some q := hq
      rw [List.length_append, htl] at hq'
      rcases hloc q hq' with h | h
      · exact .inl (hblk q h)
      · exact .inr h
end
end Go.Proofs.Ytdmkedbmoboamaa
