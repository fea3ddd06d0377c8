/- A store of a whole element into a row of the call's own. -/
import Derived.Test.YtdmkedbmoboamaaKxM
namespace Go.Proofs.Ytdmkedbmoboamaa
open Go.Kx Go.RowKit
set_option linter.unusedVariables false
set_option linter.unusedSimpArgs false
section
variable {P : Program} {W : World} {n : Cx} {T : List (Nat × Value)} {B : List (Nat × Res)} {ty : TypeId} {pos : String} {aft : Array Edge} {g : Option (Nat × Bool)}
theorem splice_mid : ∀ (vs old pre post : List Value), old.length = vs.length → splice (pre ++ (old ++ post)) pre.length vs = pre ++ (vs ++ post)
  | [], old, pre, post, h => by rw [List.length_nil] at h; rw [List.eq_nil_of_length_eq_zero h]; rfl
  | v :: r, [], pre, post, h => by cases h
  | v :: r, o :: old, pre, post, h => by
    have ih := splice_mid r old (pre ++ [v]) post (by simpa using h)
    have e : (pre ++ (o :: old ++ post)).set pre.length v = (pre ++ [v]) ++ (old ++ post) := by
      rw [List.set_append_right _ _ (by omega)]; simp
    rw [List.length_append, List.length_singleton] at ih
    show splice ((pre ++ (o :: old ++ post)).set pre.length v) (pre.length + 1) r = _
    rw [e, ih]; simp
theorem Eff.storeRowA {α : Type} {enc : α → List Value} {xs : List α} {t e : TypeId} {x y : Operand} {a : Option Addr} {cap sz i : Nat} {u u' : α} (l : Nat) (hi : cellsz P t = some sz) (hx : opv T x = some (.pointer (eptr a (i * sz)))) (hy : opv T y = some (.agg (enc u').toArray)) (hv : ones (enc u') = true) (hl : lkp B l = some (rowL e sz enc a cap xs)) (hs : ∀ y, (enc y).length = sz) (hxs : xs[i]? = some u) :
    Eff P W n ⟨none, .store t x y, ty, pos, aft, g⟩ T B (fun _ : Unit => True) (fun _ => T) (fun _ => (l, rowL e sz enc a cap (xs.set i u')) :: B) := fun act w ht hm K Q hk' => by
  obtain ⟨ti, hti, h1⟩ := Option.map_eq_some_iff.1 hi
  have hown : w.ownsRow 0 e sz (.slice a xs.length cap) xs.length (xs.flatMap enc) := hm.holds l _ hl
  have hlt := (List.getElem?_eq_some_iff.1 hxs).1
  rcases hown.2 with ⟨hv', hn⟩ | ⟨gb, c0, cur, hv', hb0, hg, hnc, hcm, hcs, htake⟩
  · omega
  · injection hv' with e1 e2 e3
    subst e1 e3
    have hxd : xs = xs.take i ++ u :: xs.drop (i + 1) := by
      obtain ⟨_, rfl⟩ := List.getElem?_eq_some_iff.1 hxs
      simp
    have hA : ((xs.take i).flatMap enc).length = i * sz := by rw [flat_len hs, List.length_take]; congr 1; omega
    have hfx : xs.flatMap enc = (xs.take i).flatMap enc ++ (enc u ++ (xs.drop (i + 1)).flatMap enc) := by
      conv => lhs; rw [hxd]
      rw [List.flatMap_append, List.flatMap_cons]
    have hfx' : (xs.set i u').flatMap enc = (xs.take i).flatMap enc ++ (enc u' ++ (xs.drop (i + 1)).flatMap enc) := by
      rw [List.set_eq_take_append_cons_drop, if_pos hlt, List.flatMap_append, List.flatMap_cons]
    have hcur : cur.toList = (xs.take i).flatMap enc ++ (enc u ++ ((xs.drop (i + 1)).flatMap enc ++ cur.toList.drop (xs.length * sz))) := by
      conv => lhs; rw [← List.take_append_drop (xs.length * sz) cur.toList, htake, hfx]
      simp
    have hsp : splice cur.toList (i * sz) (enc u') = (xs.set i u').flatMap enc ++ cur.toList.drop (xs.length * sz) := by
      conv => lhs; rw [hcur]
      have := splice_mid (enc u') (enc u) ((xs.take i).flatMap enc) ((xs.drop (i + 1)).flatMap enc ++ cur.toList.drop (xs.length * sz)) (by rw [hs, hs])
      rw [hA] at this
      rw [this, hfx']; simp
    have hle : i * sz + sz ≤ xs.length * sz := by
      have : (i + 1) * sz ≤ xs.length * sz := Nat.mul_le_mul_right _ hlt
      rw [Nat.add_mul] at this; omega
    have hsz : xs.length * sz ≤ cur.size := by rw [hcs]; exact Nat.mul_le_mul_right _ hnc
    obtain ⟨w', hr, hb2, ho, htp, hp, hsz', hoth⟩ := run_storeCells (P := P) (b := gb) (ct := e) (i * sz) (enc u') 0 cur.toList w (ones_spec hv) (by rw [hs, Array.length_toList]; omega) (by simpa using hg)
    have hst : (storeVar t ⟨gb, 0 + i * sz, none⟩ (.agg (enc u').toArray)).run P w = .ok () w' := by
      simp only [storeVar, sizeOf, Sem.run_bind, run_info_of hti, Result.andThen_ok, Sem.run_pure, Value.cells, h1, List.size_toArray, hs, ne_eq, not_true_eq_false, if_false, Nat.zero_add]
      exact hr
    have hrun : (execOp act.eval ⟨none, .store t x y, ty, pos, aft, g⟩).run P w = .ok .skip w' := by
      have hx' := ht.eval hx
      simp only [eptr] at hx'
      simp only [execOp, hx', ht.eval hy, Instr.storeAt, Instr.sureAddr, Sem.run_bind, Sem.run_pure, Result.andThen_ok, hst]
    refine OpX.of_run (by intro c e; cases e) hrun ?_
    have hl2 : (xs.set i u').length = xs.length := by simp
    refine hk' () trivial _ _ ht (hm.turn l hl (rowL e sz enc (some ⟨gb, 0, none⟩) cap (xs.set i u')) ho htp hp (by omega) (fun k _ hno => hoth k (fun he => hno (by simp [rowL, Value.ownBlock, he]))) ?_ (fun k hk => .inl (by simpa [rowL, Value.ownBlock] using hk)))
    show w'.ownsRow 0 e sz (.slice (some ⟨gb, 0, none⟩) (xs.set i u').length cap) (xs.set i u').length ((xs.set i u').flatMap enc)
    rw [hl2]
    rw [Nat.add_zero, hsp] at hb2
    refine ⟨by rw [flat_len hs, hl2], .inr ⟨gb, cap, _, rfl, hb0, hb2, hnc, hcm, ?_, ?_⟩⟩
    · simp only [List.size_toArray, List.length_append, List.length_drop, Array.length_toList]
      rw [flat_len hs, hl2]; omega
    · have : ((xs.set i u').flatMap enc).length = xs.length * sz := by rw [flat_len hs, hl2]
      rw [List.take_append_of_le_length (by omega), List.take_of_length_le (by omega)]
end
end Go.Proofs.Ytdmkedbmoboamaa
