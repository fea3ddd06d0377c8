/- Rows of rows: the inner rows as one resource. -/
import Derived.Test.YtdmkedbmoboamaaA3
namespace Go.Proofs.Ytdmkedbmoboamaa
open Go.Kx Go.RowKit
set_option linter.unusedVariables false
set_option linter.unusedSimpArgs false
/-- Many rows of numbers. -/
def rowsR (e : TypeId) (rs : List Rw) : Res where
  own k := ∃ r ∈ rs, (rowL e 1 encI r.a r.cap r.xs).own k
  holds w := ∀ r ∈ rs, (rowL e 1 encI r.a r.cap r.xs).holds w
  frame w w' hs h hh := fun r hr => (rowL e 1 encI r.a r.cap r.xs).frame w w' hs (fun k hk => h k ⟨r, hr, hk⟩) (hh r hr)
  inside w h k hk := by
    obtain ⟨r, hr, hk⟩ := hk
    exact (rowL e 1 encI r.a r.cap r.xs).inside w (h r hr) k hk
theorem ones_R : ∀ y, ∀ u ∈ encRw y, u.oneCell' = true := fun y u hu => by simp [encRw] at hu; subst hu; rfl
section
variable {W w : World} {B : List (Nat × Res)}
theorem Mem.rows0 (l : Nat) (e : TypeId) (h : Mem W B w) : Mem W ((l, rowsR e []) :: B) w :=
  h.add (Below.refl _ _) l _ (fun p hp => by cases hp) (fun k ⟨p, hp, _⟩ => by cases hp)
theorem Mem.rowed {e : TypeId} {rs : List Rw} {q l : Nat} {a : Option Addr} {cap : Nat} {xs : List Int} {B0 : List (Nat × Res)} (h : Mem W B w) (hb : lkp B l = some (rowL e 1 encI a cap xs)) (hq : lkp B q = some (rowsR e rs)) (hne : Nat.beq q l = false) (h0 : subl B0 B) (ha : apartB [(q, rowsR e rs), (l, rowL e 1 encI a cap xs)] B0 = true) : Mem W ((q, rowsR e (rs ++ [⟨a, cap, xs⟩])) :: B0) w := by
  have hn : q ≠ l := fun e => by subst e; simp at hne
  have hlb : lkp [(q, rowsR e rs), (l, rowL e 1 encI a cap xs)] l = some (rowL e 1 encI a cap xs) := (lkp_cons_ne _ _ hn).trans (lkp_cons_eq _ _ _)
  refine h.fuse (Bs := [(q, rowsR e rs), (l, rowL e 1 encI a cap xs)]) q _ ⟨hq, hb, trivial⟩ h0 ha ?_ (fun hp r hr => ?_) (fun k ⟨r, hr, hk⟩ => ?_)
  · simp only [apartB, Bool.and_eq_true] at ha; simpa using ha.1
  · rcases List.mem_append.1 hr with h1 | h1
    · exact hp.1 q _ (lkp_cons_eq _ _ _) r h1
    · simp at h1; subst h1
      exact hp.1 l _ hlb
  · rcases List.mem_append.1 hr with h1 | h1
    · exact ⟨q, _, lkp_cons_eq _ _ _, r, h1, hk⟩
    · simp at h1; subst h1
      exact ⟨l, _, hlb, hk⟩
/-- One label moved. -/
theorem Mem.moved {l q : Nat} {r : Res} {B0 : List (Nat × Res)} (h : Mem W B w) (hl : lkp B l = some r) (h0 : subl B0 B) (ha : apartB [(l, r)] B0 = true) (hq : lkp B0 q = none) : Mem W ((q, r) :: B0) w :=
  h.fuse (Bs := [(l, r)]) q r ⟨hl, trivial⟩ h0 ha hq (fun hp => hp.1 l r (lkp_cons_eq _ _ _)) (fun k hk => ⟨l, r, lkp_cons_eq _ _ _, hk⟩)
theorem Rdb.of_holds {e : TypeId} {sz : Nat} {α : Type} {enc : α → List Value} {a : Option Addr} {cap : Nat} {xs : List α} (hown : w.ownsRow 0 e sz (.slice a xs.length cap) xs.length (xs.flatMap enc)) (hlen : ∀ y, (enc y).length = sz) : Rdb w a sz enc xs := fun i x hx => by
  have hlt := (List.getElem?_eq_some_iff.1 hx).1
  rcases hown.2 with ⟨hv, hn⟩ | ⟨g, c0, cur, hv, _⟩
  · omega
  · injection hv with h1 h2 h3
    subst h1
    refine ⟨g, 0, rfl, hlen x, fun j u hj => ?_⟩
    have := hown.cells (g := g) rfl (i * sz + j) u (flat_at hlen hx hj)
    rw [cell_add] at this
    exact this
theorem OrdAt.of_rows {a : Option Addr} {cap : Nat} {rs : List Rw} (l q : Nat) (h : Mem W B w) (hl : lkp B l = some (rowL 62 1 encRw a cap rs)) (hq : lkp B q = some (rowsR 3 rs)) (hn : rs.length ≤ 1000) (hr : ∀ r ∈ rs, r.xs.length ≤ 1000) : OrdAt w a rs := by
  have hp : (rowsR 3 rs).holds w := h.holds q _ hq
  refine ⟨Rdb.of_row h hl (fun _ => rfl), fun r hr => ?_, by omega, fun r h1 => by have := hr r h1; omega, fun r hr => ownsRow_cap (hp r hr)⟩
  exact Rdb.of_holds (hp r hr) (fun _ => rfl)
end
/-! ### a store of a whole element into a row of the call's own -/
section
variable {P : Program} {W : World} {n : Cx} {T : List (Nat × Value)} {B : List (Nat × Res)} {ty : TypeId} {pos : String} {aft : Array Edge} {g : Option (Nat × Bool)}
theorem splice_mid : ∀ (vs old pre post : List Value), old.length = vs.length → splice (pre ++ (old ++ post)) pre.length vs = pre ++ (vs ++ post)
  | [], old, pre, post, h => by rw [List.length_nil] at h; rw [List.eq_nil_of_length_eq_zero h]; rfl
  | v :: r, [], pre, post, h => by cases h
  | v :: r, o :: old, pre, post, h => by
    have ih := splice_mid r old (pre ++ [v]) post (by simpa using h)
    have e : (pre ++ (o :: old ++ post)).set pre.length v = (pre ++ [v]) ++ (old ++ post) := by
      rw [List.set_append_right _ _ (by omega)]; simp
    rw [List.length_append, List.length_singleton] at ih
    show splice ((pre ++ (o :: old ++ post)).set pre.length v) (pre.length + 1) r = _
    rw [e, ih]; simp
theorem Eff.storeRowA {α : Type} {enc : α → List Value} {xs : List α} {t e : TypeId} {x y : Operand} {a : Option Addr} {cap sz i : Nat} {u u' : α} (l : Nat) (hi : cellsz P t = some sz) (hx : opv T x = some (.pointer (eptr a (i * sz)))) (hy : opv T y = some (.agg (enc u').toArray)) (hv : ones (enc u') = true) (hl : lkp B l = some (rowL e sz enc a cap xs)) (hs : ∀ y, (enc y).length = sz) (hxs : xs[i]? = some u) :
    Eff P W n ⟨none, .store t x y, ty, pos, aft, g⟩ T B (fun _ : Unit => True) (fun _ => T) (fun _ => (l, rowL e sz enc a cap (xs.set i u')) :: B) := fun act w ht hm K Q hk' => by
  obtain ⟨ti, hti, h1⟩ := Option.map_eq_some_iff.1 hi
  have hown : w.ownsRow 0 e sz (.slice a xs.length cap) xs.length (xs.flatMap enc) := hm.holds l _ hl
  have hlt := (List.getElem?_eq_some_iff.1 hxs).1
  rcases hown.2 with ⟨hv', hn⟩ | ⟨gb, c0, cur, hv', hb0, hg, hnc, hcm, hcs, htake⟩
  · omega
  · injection hv' with e1 e2 e3
    subst e1 e3
    have hxd : xs = xs.take i ++ u :: xs.drop (i + 1) := by
      obtain ⟨_, rfl⟩ := List.getElem?_eq_some_iff.1 hxs
      simp
    have hA : ((xs.take i).flatMap enc).length = i * sz := by rw [flat_len hs, List.length_take]; congr 1; omega
    have hfx : xs.flatMap enc = (xs.take i).flatMap enc ++ (enc u ++ (xs.drop (i + 1)).flatMap enc) := by
      conv => lhs; rw [hxd]
      rw [List.flatMap_append, List.flatMap_cons]
    have hfx' : (xs.set i u').flatMap enc = (xs.take i).flatMap enc ++ (enc u' ++ (xs.drop (i + 1)).flatMap enc) := by
      rw [List.set_eq_take_append_cons_drop, if_pos hlt, List.flatMap_append, List.flatMap_cons]
    have hcur : cur.toList = (xs.take i).flatMap enc ++ (enc u ++ ((xs.drop (i + 1)).flatMap enc ++ cur.toList.drop (xs.length * sz))) := by
      conv => lhs; rw [← List.take_append_drop (xs.length * sz) cur.toList, htake, hfx]
      simp
    have hsp : splice cur.toList (i * sz) (enc u') = (xs.set i u').flatMap enc ++ cur.toList.drop (xs.length * sz) := by
      conv => lhs; rw [hcur]
      have := splice_mid (enc u') (enc u) ((xs.take i).flatMap enc) ((xs.drop (i + 1)).flatMap enc ++ cur.toList.drop (xs.length * sz)) (by rw [hs, hs])
      rw [hA] at this
      rw [this, hfx']; simp
    have hle : i * sz + sz ≤ xs.length * sz := by
      have : (i + 1) * sz ≤ xs.length * sz := Nat.mul_le_mul_right _ hlt
      rw [Nat.add_mul] at this; omega
    have hsz : xs.length * sz ≤ cur.size := by rw [hcs]; exact Nat.mul_le_mul_right _ hnc
    obtain ⟨w', hr, hb2, ho, htp, hp, hsz', hoth⟩ := run_storeCells (P := P) (b := gb) (ct := e) (i * sz) (enc u') 0 cur.toList w (ones_spec hv) (by rw [hs, Array.length_toList]; omega) (by simpa using hg)
    have hst : (storeVar t ⟨gb, 0 + i * sz, none⟩ (.agg (enc u').toArray)).run P w = .ok () w' := by
      simp only [storeVar, sizeOf, Sem.run_bind, run_info_of hti, Result.andThen_ok, Sem.run_pure, Value.cells, h1, List.size_toArray, hs, ne_eq, not_true_eq_false, if_false, Nat.zero_add]
      exact hr
    have hrun : (execOp act.eval ⟨none, .store t x y, ty, pos, aft, g⟩).run P w = .ok .skip w' := by
      have hx' := ht.eval hx
      simp only [eptr] at hx'
      simp only [execOp, hx', ht.eval hy, Instr.storeAt, Instr.sureAddr, Sem.run_bind, Sem.run_pure, Result.andThen_ok, hst]
    refine OpX.of_run (by intro c e; cases e) hrun ?_
    have hl2 : (xs.set i u').length = xs.length := by simp
    refine hk' () trivial _ _ ht (hm.turn l hl (rowL e sz enc (some ⟨gb, 0, none⟩) cap (xs.set i u')) ho htp hp (by omega) (fun k _ hno => hoth k (fun he => hno (by simp [rowL, Value.ownBlock, he]))) ?_ (fun k hk => .inl (by simpa [rowL, Value.ownBlock] using hk)))
    show w'.ownsRow 0 e sz (.slice (some ⟨gb, 0, none⟩) (xs.set i u').length cap) (xs.set i u').length ((xs.set i u').flatMap enc)
    rw [hl2]
    rw [Nat.add_zero, hsp] at hb2
    refine ⟨by rw [flat_len hs, hl2], .inr ⟨gb, cap, _, rfl, hb0, hb2, hnc, hcm, ?_, ?_⟩⟩
    · simp only [List.size_toArray, List.length_append, List.length_drop, Array.length_toList]
      rw [flat_len hs, hl2]; omega
    · have : ((xs.set i u').flatMap enc).length = xs.length * sz := by rw [flat_len hs, hl2]
      rw [List.take_append_of_le_length (by omega), List.take_of_length_le (by omega)]
end
end Go.Proofs.Ytdmkedbmoboamaa
