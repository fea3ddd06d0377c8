/- Rules for slices that a call makes itself and lets grow: appends, reads and stores of their elements. No program is named here. -/
import Derived.Test.YtfekoippjmojgaaKxD
namespace Go.Kx
set_option linter.unusedVariables false
set_option linter.unusedSimpArgs false
set_option linter.constructorNameAsVariable false
open Go.RowKit
section
variable {P : Program}
theorem flat_len {α : Type} {enc : α → List Value} {sz : Nat} (hlen : ∀ y, (enc y).length = sz) : ∀ ys : List α, (ys.flatMap enc).length = ys.length * sz
  | [] => by simp
  | y :: r => by
    rw [List.flatMap_cons, List.length_append, hlen, flat_len hlen r, List.length_cons, Nat.add_mul]; omega
/-- A slice of the call's own, with its elements. -/
def rowL (e : TypeId) (sz : Nat) {α : Type} (enc : α → List Value) (a : Option Addr) (cap : Nat) (xs : List α) : Res where
  own k := (Value.slice a xs.length cap).ownBlock = some k
  holds w := w.ownsRow 0 e sz (.slice a xs.length cap) xs.length (xs.flatMap enc)
  frame w w' _ h hh := by
    refine ⟨hh.1, ?_⟩
    rcases hh.2 with hn | ⟨g, c, cur, hv, hb, hg, rest⟩
    · exact .inl hn
    · refine .inr ⟨g, c, cur, hv, hb, ?_, rest⟩
      rw [h g (by rw [hv]; rfl)]; exact hg
  inside w h k hk := (h.lt k hk).2
theorem rowL_nil (e : TypeId) (sz : Nat) {α : Type} (enc : α → List Value) (w : World) : (rowL e sz enc none 0 []).holds w := World.ownsRow_nil w 0 e sz
/-- The row behind the run of an append. -/
theorem run_append_at {t e : TypeId} {i : TypeInfo} {z : Value} {sz bytes : Nat} (w : World) (ty : TypeId) (ht : P.underlying t = some (.slice e)) (hi : P.info? e = some i) (hz : i.zero = some z) (hsize : i.size = sz) (hby : i.bytes = bytes) (hzs : z.cells.size = sz) (hsz : 0 < sz)
    (a : Option Addr) (n cap : Nat) (xs : List Value) (hown : w.ownsRow 0 e sz (.slice a n cap) n xs) (ad : Addr) (m c : Nat) (news : List Value) (hl : news.length = m * sz) (hnews : ∀ j u, news[j]? = some u → w.cell? (ad.add j) = some u) (h1 : ∀ u ∈ news, u.oneCell' = true)
    (h63 : n + m ≤ maxLen) (hbytes : (n + m) * bytes ≤ 140737488355328) :
    ∃ a' cap' w', (Builtin.append_ #[t, t] ty #[.slice a n cap, .slice (some ad) m c]).run P w = .ok (.slice a' (n + m) cap') w' ∧ w'.ownsRow 0 e sz (.slice a' (n + m) cap') (n + m) (xs ++ news) ∧ w.grownBy w' (Value.slice a n cap).ownBlock ∧
      ∀ k, (Value.slice a' (n + m) cap').ownBlock = some k → (Value.slice a n cap).ownBlock = some k ∨ w.heap.size ≤ k := by
  obtain ⟨v', w', hr, hown', hgr, hnil⟩ := run_append_own w 0 t ty e i z sz bytes ht hi hz hsize hby hzs hsz (.slice a n cap) n xs hown ad m c news hl hnews h1 h63 hbytes (Nat.zero_le _)
  have hsmall : n + m ≤ 9223372036854775807 := by simp only [maxLen] at h63; omega
  rcases hown.2 with ⟨hv, hn⟩ | ⟨g, c0, cur, hv, _, hg, hnc, hcm, hcs, htake⟩
  · injection hv with h1' h2' h3'
    subst h1' h2' h3'
    by_cases hm : m = 0
    · subst hm
      have hv' := hnil.2 ⟨rfl, rfl⟩
      subst hv'
      exact ⟨none, 0, w', hr, hown', hgr, fun k hk => by simp [Value.ownBlock] at hk⟩
    · have hr2 := run_append_nil (P := P) w t ty e i z ht hi hz ad m c news (by rw [hsize]; exact hl) hnews (by omega) (by omega) (by rw [hby]; simp only [Nat.zero_add] at hbytes; omega)
      rw [hr] at hr2
      injection hr2 with hv' hw'
      subst hv'
      have hv2 : Value.slice (some ⟨w.heap.size, 0, none⟩) m (grownCap w m 0 e) = Value.slice (some ⟨w.heap.size, 0, none⟩) (0 + m) (grownCap w m 0 e) := by rw [Nat.zero_add]
      rw [hv2] at hr hown'
      exact ⟨_, _, w', hr, hown', hgr, fun k hk => .inr (by simp [Value.ownBlock] at hk; omega)⟩
  · injection hv with h1' h2' h3'
    subst h1' h3'
    by_cases hroom : n + m ≤ cap
    · have hfit : n * i.size + news.length ≤ cur.size := by rw [hl, hcs, hsize, ← Nat.add_mul]; exact Nat.mul_le_mul_right _ hroom
      have hr2 := run_append_room (P := P) w t ty e i ht hi g n cap cur hg ad m c news (by rw [hsize]; exact hl) hnews h1 hroom hfit
      rw [hr] at hr2
      injection hr2 with hv' hw'
      subst hv'
      exact ⟨_, _, w', hr, hown', hgr, fun k hk => .inl hk⟩
    · have holds : ∀ j u, xs[j]? = some u → w.cell? ((⟨g, 0, none⟩ : Addr).add j) = some u := hown.cells (g := g) rfl
      have hr2 := run_append_grow (P := P) w t ty e i z ht hi hz ⟨g, 0, none⟩ n cap xs (by rw [hsize]; exact hown.1) holds ad m c news (by rw [hsize]; exact hl) hnews (by omega) (by omega) (by rw [hby]; exact growslice_fits (by omega) hbytes)
      rw [hr] at hr2
      injection hr2 with hv' hw'
      subst hv'
      exact ⟨_, _, w', hr, hown', hgr, fun k hk => .inr (by simp [Value.ownBlock] at hk; omega)⟩
variable {W : World} {n : Cx} {T : List (Nat × Value)} {B : List (Nat × Res)} {ty : TypeId} {pos : String} {aft : Array Edge} {g : Option (Nat × Bool)}
/-- What the program's tables say of an element's type: size, bytes, a zero of that size. -/
def elemFact (P : Program) (e : TypeId) (sz bytes : Nat) : Bool := match P.info? e with
  | some i => i.size == sz && i.bytes == bytes && (match i.zero with | some z => z.cells.size == sz | none => false)
  | none => false
theorem elemFact_spec {e : TypeId} {sz bytes : Nat} (h : elemFact P e sz bytes = true) : ∃ i z, P.info? e = some i ∧ i.zero = some z ∧ i.size = sz ∧ i.bytes = bytes ∧ z.cells.size = sz := by
  unfold elemFact at h
  split at h
  · rename_i i hi
    simp only [Bool.and_eq_true, beq_iff_eq] at h
    split at h
    · rename_i z hz
      simp only [beq_iff_eq] at h
      exact ⟨i, z, hi, hz, h.1.1, h.1.2, h.2⟩
    · cases h.2
  · cases h
theorem Eff.append {d : Nat} {s x : Operand} {t e : TypeId} {sz bytes : Nat} {α : Type} {enc : α → List Value} {a : Option Addr} {cap : Nat} {xs ys : List α} {ad : Addr} {c : Nat} (l : Nat)
    (ht : P.underlying t = some (.slice e)) (he : elemFact P e sz bytes = true) (hsz : Nat.blt 0 sz = true) (hs : opv T s = some (.slice a xs.length cap)) (hl : lkp B l = some (rowL e sz enc a cap xs)) (hx : opv T x = some (.slice (some ad) ys.length c))
    (hnews : ∀ w, Mem W B w → ∀ j u, (ys.flatMap enc)[j]? = some u → w.cell? (ad.add j) = some u) (hlen : ∀ y, (enc y).length = sz) (h1 : ∀ y, ∀ u ∈ enc y, u.oneCell' = true) (hb : (xs.length + ys.length) * bytes ≤ 140737488355328 ∧ xs.length + ys.length ≤ maxLen) (hd : Nat.blt d n.n = true) :
    Eff P W n ⟨some d, .call { callee := .builtin .append, args := #[s, x], argTypes := #[t, t] }, ty, pos, aft, g⟩ T B (fun _ : Option Addr × Nat => True) (fun p => (d, .slice p.1 (xs ++ ys).length p.2) :: T) (fun p => (l, rowL e sz enc p.1 p.2 (xs ++ ys)) :: B) := fun act w hT hm K Q hk => by
  obtain ⟨i, z, hi, hz, h2, h3, h4⟩ := elemFact_spec he
  have hown : w.ownsRow 0 e sz (.slice a xs.length cap) xs.length (xs.flatMap enc) := hm.holds l _ hl
  have hfl : (ys.flatMap enc).length = ys.length * sz := flat_len hlen ys
  obtain ⟨a', cap', w', hr, ho', hgr, hloc⟩ := run_append_at (P := P) w ty ht hi hz h2 h3 h4 (by simpa using hsz) a xs.length cap _ hown ad ys.length c (ys.flatMap enc) hfl (hnews w hm) (fun u hu => by
    obtain ⟨y, hy, hu⟩ := List.mem_flatMap.1 hu
    exact h1 y u hu) hb.2 hb.1
  have hrun : (execOp act.eval ⟨some d, .call { callee := .builtin .append, args := #[s, x], argTypes := #[t, t] }, ty, pos, aft, g⟩).run P w = .ok (.value (.slice a' (xs ++ ys).length cap')) w' := by
    simp only [execOp, resolve, invoke, builtin, Sem.run_bind, Sem.run_pure, Result.andThen_ok, List.map_toArray, List.map_cons, List.map_nil, hT.eval hs, hT.eval hx, hr, List.length_append]
  refine OpX.of_run (by intro c e; cases e) hrun ?_
  refine hk (a', cap') trivial _ _ (hT.put hd _) (hm.turn l hl (rowL e sz enc a' cap' (xs ++ ys)) hgr.os hgr.tape hgr.output hgr.size (fun k hk hno => hgr.block k hk (fun e => hno e.symm)) ?_ (fun k hk => ?_))
  · show w'.ownsRow 0 e sz (.slice a' (xs ++ ys).length cap') (xs ++ ys).length ((xs ++ ys).flatMap enc)
    rw [List.flatMap_append, List.length_append]; exact ho'
  · have hk' : (Value.slice a' (xs ++ ys).length cap').ownBlock = some k := hk
    rw [List.length_append] at hk'
    exact hloc k hk'
/-! ### resources gained -/
theorem Mem.nilRow {w : World} (l : Nat) (e : TypeId) (sz : Nat) {α : Type} (enc : α → List Value) (h : Mem W B w) : Mem W ((l, rowL e sz enc none 0 []) :: B) w :=
  h.add (Below.refl _ _) l _ (rowL_nil e sz enc w) (fun k hk => by simp [rowL, Value.ownBlock] at hk)
theorem Cd.gain {c : Code} {Q : Exit → Act → World → Prop} {B' : List (Nat × Res)} (h : ∀ w, Mem W B w → Mem W B' w) (k : Cd P W n c Q T B') : Cd P W n c Q T B := fun a w ht hm => k a w ht (h w hm)
theorem Rg.gain {os l : List Oper} {Q : Exit → Act → World → Prop} {B' : List (Nat × Res)} (h : ∀ w, Mem W B w → Mem W B' w) (k : Rg P W n os Q l T B') : Rg P W n os Q l T B := fun a w ht hm => k a w ht (h w hm)
theorem Rx.gain {e : Exit} {Q : Exit → Act → World → Prop} {B' : List (Nat × Res)} (h : ∀ w, Mem W B w → Mem W B' w) (k : Rx W n Q e T B') : Rx W n Q e T B := fun a w ht hm => k a w ht (h w hm)
/-- A row of a length that is known as a slice built from its elements. -/
theorem Mem.rowOf {w : World} {l b : Nat} {e : TypeId} {sz : Nat} {α : Type} {enc : α → List Value} {cs : List Value} {xs : List α} {cap : Nat} (h : Mem W B w) (hl : lkp B l = some (blk b cs e)) (hcs : cs = xs.flatMap enc) (hlen : ∀ y, (enc y).length = sz) (hcap : xs.length = cap) (hm : cap ≤ maxLen) : Mem W ((l, rowL e sz enc (some ⟨b, 0, none⟩) cap xs) :: B) w := by
  have hg : w.heap[b]? = some (.cells cs.toArray e (0, 0)) := h.holds l _ hl
  have hfl : (xs.flatMap enc).length = xs.length * sz := flat_len hlen xs
  refine h.turn l hl _ rfl rfl rfl (Nat.le_refl _) (fun _ _ _ => rfl) ⟨hfl, .inr ⟨b, cap, cs.toArray, rfl, Nat.zero_le _, hg, by omega, hm, ?_, ?_⟩⟩ (fun k hk => .inl (by simp [rowL, Value.ownBlock] at hk; simp [blk, hk]))
  · simp only [List.size_toArray]; rw [hcs, hfl, hcap]
  · rw [List.take_of_length_le (by rw [hcs]; simp [hfl])]; exact hcs
/-- What a row reads as. -/
theorem Rdb.of_row {w : World} {l : Nat} {e : TypeId} {sz : Nat} {α : Type} {enc : α → List Value} {a : Option Addr} {cap : Nat} {xs : List α} (hm : Mem W B w) (hl : lkp B l = some (rowL e sz enc a cap xs)) (hlen : ∀ y, (enc y).length = sz) : Rdb w a sz enc xs := fun i x hx => by
  have hown : w.ownsRow 0 e sz (.slice a xs.length cap) xs.length (xs.flatMap enc) := hm.holds l _ hl
  have hlt := (List.getElem?_eq_some_iff.1 hx).1
  rcases hown.2 with ⟨hv, hn⟩ | ⟨g, c0, cur, hv, _⟩
  · omega
  · injection hv with h1 h2 h3
    subst h1
    refine ⟨g, 0, rfl, hlen x, fun j u hj => ?_⟩
    have := hown.cells (g := g) rfl (i * sz + j) u (flat_at hlen hx hj)
    rw [cell_add] at this
    exact this
/-! ### elements of a row: read -/
theorem Val.ideRow {α : Type} {enc : α → List Value} {xs : List α} {dst : Option Tmp} {t e : TypeId} {x y : Operand} {a : Option Addr} {cap sz i : Nat} {k : IntKind} {j : Int} {u : α} (l : Nat) (hu : P.underlying t = some (.slice e)) (hz : cellsz P e = some sz)
    {len : Nat} (hx : opv T x = some (.slice a len cap)) (hn : xs.length = len) (hy : opv T y = some (.int k j)) (hl : lkp B l = some (rowL e sz enc a cap xs)) (hj : j = (i : Int)) (hi : xs[i]? = some u) : Val P W n ⟨dst, .indexAddr t x y, ty, pos, aft, g⟩ T B (.pointer (eptr a (i * sz))) := fun act w ht hm => by
  have hown : w.ownsRow 0 e sz (.slice a xs.length cap) xs.length (xs.flatMap enc) := hm.holds l _ hl
  have hlt : i < xs.length := (List.getElem?_eq_some_iff.1 hi).1
  rcases hown.2 with ⟨hv, hn⟩ | ⟨g, c0, cur, hv, _⟩
  · omega
  · injection hv with h1 h2 h3
    subst h1 hj hn
    obtain ⟨ti, hti, hsz⟩ := Option.map_eq_some_iff.1 hz
    have h1 : (0 : Int) ≤ (i : Int) ∧ (i : Int) < (xs.length : Int) := by omega
    simp only [execOp, ht.eval hx, ht.eval hy, Instr.indexAt, asIntOf, Sem.run_bind, Sem.run_pure, run_underlying_of hu, Result.andThen_ok]
    simp only [h1, and_self, if_true, sizeOf, Sem.run_bind, run_info_of hti, Result.andThen_ok, Sem.run_pure, hsz, eptr, Int.toNat_natCast]
    congr 4
    unfold Addr.add
    split <;> simp_all
theorem Mem.rowCell {w : World} {l : Nat} {e : TypeId} {sz : Nat} {α : Type} {enc : α → List Value} {a : Option Addr} {cap : Nat} {xs : List α} (hm : Mem W B w) (hl : lkp B l = some (rowL e sz enc a cap xs)) (hlen : ∀ y, (enc y).length = sz) {i k : Nat} {u : α} {v : Value} (hi : xs[i]? = some u) (hk : (enc u)[k]? = some v) :
    ∃ ad, eptr a (i * sz + k) = some ad ∧ w.cell? ad = some v := by
  obtain ⟨b, off, rfl, _, hc⟩ := Rdb.of_row hm hl hlen i u hi
  exact ⟨⟨b, off + (i * sz + k), none⟩, rfl, hc k v hk⟩
theorem Val.loadRow {α : Type} {enc : α → List Value} {xs : List α} {dst : Option Tmp} {t e : TypeId} {x : Operand} {a : Option Addr} {cap sz i k : Nat} {u : α} {v : Value} (l : Nat) (hx : opv T x = some (.pointer (eptr a (i * sz + k)))) (hs : scal P t = true) (hl : lkp B l = some (rowL e sz enc a cap xs)) (hlen : ∀ y, (enc y).length = sz) (hi : xs[i]? = some u) (hk : (enc u)[k]? = some v) : Val P W n ⟨dst, .load t x, ty, pos, aft, g⟩ T B v := fun act w ht hm => by
  obtain ⟨ad, h1, h2⟩ := hm.rowCell hl hlen hi hk
  rw [h1] at hx
  simp only [execOp, ht.eval hx, Instr.loadAt, Instr.sureAddr, Sem.run_bind, Sem.run_pure, Result.andThen_ok, run_loadVar_scal hs h2]
/-- The cells of a slice that came in, from its first on. -/
theorem Rdb.flat {W : World} {a : Option Addr} {sz : Nat} {α : Type} {enc : α → List Value} {xs : List α} (h : Rdb W a sz enc xs) (hs : ∀ y, (enc y).length = sz) (hsz : 0 < sz) (h0 : 0 < xs.length) : ∃ ad, a = some ad ∧ ∀ j u, (xs.flatMap enc)[j]? = some u → W.cell? (ad.add j) = some u := by
  obtain ⟨b, off, rfl, _, _⟩ := h 0 _ (List.getElem?_eq_getElem h0)
  refine ⟨_, rfl, fun j u hj => ?_⟩
  have hlt := (List.getElem?_eq_some_iff.1 hj).1
  rw [flat_len hs] at hlt
  have hi : j / sz < xs.length := Nat.div_lt_of_lt_mul (by rw [Nat.mul_comm]; exact hlt)
  have hx : xs[j / sz]? = some xs[j / sz] := List.getElem?_eq_getElem hi
  have hk : j % sz < (enc xs[j / sz]).length := by rw [hs]; exact Nat.mod_lt _ hsz
  have hv : (enc xs[j / sz])[j % sz]? = some ((enc xs[j / sz])[j % sz]) := List.getElem?_eq_getElem hk
  have he : j / sz * sz + j % sz = j := by rw [Nat.mul_comm]; exact Nat.div_add_mod j sz
  have h1 := flat_at hs hx hv
  rw [he, hj] at h1
  injection h1 with h1
  obtain ⟨b', off', hb, _, hc⟩ := h _ _ hx
  injection hb with hb
  injection hb with hb1 hb2
  subst hb1 hb2
  have h2 := hc _ _ hv
  rw [he, ← h1] at h2
  rw [cell_add]; exact h2
theorem flat_set {α : Type} {enc : α → List Value} {sz : Nat} (hs : ∀ x, (enc x).length = sz) : ∀ {xs : List α} {i k : Nat} {u u' : α} {v : Value}, xs[i]? = some u → k < sz → enc u' = (enc u).set k v → (xs.set i u').flatMap enc = (xs.flatMap enc).set (i * sz + k) v
  | [], i, k, u, u', v, h, _, _ => by simp at h
  | y :: r, 0, k, u, u', v, h, hk, hu => by
    simp at h; subst h
    rw [List.set_cons_zero, List.flatMap_cons, List.flatMap_cons, Nat.zero_mul, Nat.zero_add, List.set_append_left _ _ (by rw [hs]; exact hk), hu]
  | y :: r, i + 1, k, u, u', v, h, hk, hu => by
    have ih := flat_set hs (xs := r) (i := i) (by simpa using h) hk hu
    rw [List.set_cons_succ, List.flatMap_cons, List.flatMap_cons, ih, List.set_append_right _ _ (by rw [hs, Nat.add_mul]; omega), hs, show (i + 1) * sz + k - sz = i * sz + k from by rw [Nat.add_mul]; omega]
/-- A store of one cell of an element. -/
theorem Eff.storeRow {α : Type} {enc : α → List Value} {xs : List α} {t e : TypeId} {x y : Operand} {a : Option Addr} {cap sz i k : Nat} {u u' : α} {v : Value} (l : Nat) (hi : cellsz P t = some 1) (hx : opv T x = some (.pointer (eptr a (i * sz + k)))) (hy : opv T y = some v) (hv : v.oneCell' = true) (hl : lkp B l = some (rowL e sz enc a cap xs)) (hs : ∀ y, (enc y).length = sz) (hxs : xs[i]? = some u) (hk : Nat.blt k sz = true) (hu : enc u' = (enc u).set k v) :
    Eff P W n ⟨none, .store t x y, ty, pos, aft, g⟩ T B (fun _ : Unit => True) (fun _ => T) (fun _ => (l, rowL e sz enc a cap (xs.set i u')) :: B) := fun act w ht hm K Q hk' => by
  have hk0 : k < sz := by simpa using hk
  obtain ⟨ti, hti, h1⟩ := Option.map_eq_some_iff.1 hi
  have hown : w.ownsRow 0 e sz (.slice a xs.length cap) xs.length (xs.flatMap enc) := hm.holds l _ hl
  have hlt := (List.getElem?_eq_some_iff.1 hxs).1
  rcases hown.2 with ⟨hv', hn⟩ | ⟨gb, c0, cur, hv', hb0, hg, hnc, hcm, hcs, htake⟩
  · omega
  · injection hv' with e1 e2 e3
    subst e1 e3
    have hfl := flat_len hs xs
    have hpos : i * sz + k < xs.length * sz := by
      have : (i + 1) * sz ≤ xs.length * sz := Nat.mul_le_mul_right _ hlt
      rw [Nat.add_mul] at this; omega
    have hsz : xs.length * sz ≤ cur.size := by rw [hcs]; exact Nat.mul_le_mul_right _ hnc
    have hcell : w.cell? ⟨gb, 0 + (i * sz + k), none⟩ = some (cur[i * sz + k]'(by omega)) := by
      simp [World.cell?, hg, Array.getElem?_eq_getElem (show i * sz + k < cur.size by omega)]
    have hst := run_storeVar_one (P := P) (t := t) (ad := ⟨gb, 0 + (i * sz + k), none⟩) (v := v) (w := w) hti h1 hv hcell (by simp [World.frozen?, hg])
    have hrun : (execOp act.eval ⟨none, .store t x y, ty, pos, aft, g⟩).run P w = .ok .skip (w.setCell ⟨gb, 0 + (i * sz + k), none⟩ v) := by
      have hx' := ht.eval hx
      simp only [eptr] at hx'
      simp only [execOp, hx', ht.eval hy, Instr.storeAt, Instr.sureAddr, Sem.run_bind, Sem.run_pure, Result.andThen_ok, hst]
    refine OpX.of_run (by intro c e; cases e) hrun ?_
    have hl2 : (xs.set i u').length = xs.length := by simp
    refine hk' () trivial _ _ ht (hm.turn l hl (rowL e sz enc (some ⟨gb, 0, none⟩) cap (xs.set i u')) rfl rfl rfl (by simp) (fun k _ hno => Below.heap_setCell _ _ _ _ (fun he => hno (by simp [rowL, Value.ownBlock, he]))) ?_ (fun k hk => .inl (by simpa [rowL, Value.ownBlock] using hk)))
    show (w.setCell ⟨gb, 0 + (i * sz + k), none⟩ v).ownsRow 0 e sz (.slice (some ⟨gb, 0, none⟩) (xs.set i u').length cap) (xs.set i u').length ((xs.set i u').flatMap enc)
    rw [hl2]
    refine ⟨by rw [flat_len hs, hl2], .inr ⟨gb, cap, cur.setIfInBounds (0 + (i * sz + k)) v, rfl, hb0, by simp [World.setCell, Array.getElem?_modify, hg], hnc, hcm, by simpa using hcs, ?_⟩⟩
    rw [flat_set hs hxs hk0 hu, ← htake]
    simp [List.take_set]
theorem Val.faeRow {α : Type} {enc : α → List Value} {xs : List α} {dst : Option Tmp} {t e : TypeId} {x : Operand} {f m k : Nat} {a : Option Addr} {cap sz i : Nat} {u : α} (l : Nat) (hx : opv T x = some (.pointer (eptr a m))) (hl : lkp B l = some (rowL e sz enc a cap xs)) (hlen : ∀ y, (enc y).length = sz) (hi : xs[i]? = some u)
    (hb : ∀ (g off : Nat) (w : World), (Instr.fieldAt t (.pointer (some ⟨g, off, none⟩)) f).run P w = .ok (.pointer (some ⟨g, off + k, none⟩)) w) : Val P W n ⟨dst, .fieldAddr t x f, ty, pos, aft, g⟩ T B (.pointer (eptr a (m + k))) := fun act w ht hm =>
  Val.fae hx ((Rdb.of_row hm hl hlen).ne hi) hb act w ht hm
theorem set_at {α : Type} {xs : List α} {i : Nat} {u u' : α} (h : xs[i]? = some u) : (xs.set i u')[i]? = some u' := by
  rw [List.getElem?_set_self (List.getElem?_eq_some_iff.1 h).1]
theorem Mem.news {w : World} {l b : Nat} {cs vs : List Value} {ct : TypeId} (hm : Mem W B w) (hl : lkp B l = some (blk b cs ct)) (hcs : vs = cs) : ∀ j u, vs[j]? = some u → w.cell? ((⟨b, 0, none⟩ : Addr).add j) = some u := fun j u hj => by
  subst hcs
  rw [cell_add, Nat.zero_add, hm.cell hl]; exact hj
theorem ones_int : ∀ y : Int, ∀ u ∈ [Value.int .i64 y], u.oneCell' = true := fun y u hu => by simp at hu; subst hu; rfl
/-- A call that hands back a new slice. -/
def RowPost (W : World) (e : TypeId) (sz : Nat) {α : Type} (enc : α → List Value) (ys : List α) (v : Option Addr → Nat → Value) (r : Ending) (w' : World) : Prop :=
  Below W.heap.size W w' ∧ ∃ a cap, r = .returned (v a cap) ∧ (rowL e sz enc a cap ys).holds w' ∧ ∀ k, (rowL e sz enc a cap ys).own k → W.heap.size ≤ k
theorem RowPost.mem {w : World} {e : TypeId} {sz : Nat} {α : Type} {enc : α → List Value} {ys : List α} {v : Option Addr → Nat → Value} {f : FuncId} {args : Array Value} (l : Nat) (hm : Mem W B w) (h : Calls P f args w (RowPost w e sz enc ys v)) :
    Calls P f args w fun r w' => ∃ p : Option Addr × Nat, True ∧ r = .returned (v p.1 p.2) ∧ Mem W ((l, rowL e sz enc p.1 p.2 ys) :: B) w' :=
  h.mono fun _ _ ⟨hb, a, cap, h1, h2, h3⟩ => ⟨(a, cap), trivial, h1, hm.add hb l _ h2 h3⟩
theorem RowPost.none {w : World} {w' : World} {e : TypeId} {sz : Nat} {α : Type} {enc : α → List Value} {ys : List α} {v : Option Addr → Nat → Value} {r : Ending} (hb : Below w.heap.size w w') (hy : ys = []) (hr : r = .returned (v .none 0)) : RowPost w e sz enc ys v r w' := by
  subst hy
  exact ⟨hb, .none, 0, hr, rowL_nil e sz enc w', fun k hk => by simp [rowL, Value.ownBlock] at hk⟩
theorem RowPost.row {w' : World} {e : TypeId} {sz : Nat} {α : Type} {enc : α → List Value} {ys : List α} {v : Option Addr → Nat → Value} {r : Ending} {a : Option Addr} {cap : Nat} (l : Nat) (hm : Mem W B w') (hl : lkp B l = some (rowL e sz enc a cap ys)) (hr : r = .returned (v a cap)) : RowPost W e sz enc ys v r w' :=
  ⟨hm.below, a, cap, hr, hm.holds l _ hl, hm.fresh l _ hl⟩
end
end Go.Kx
