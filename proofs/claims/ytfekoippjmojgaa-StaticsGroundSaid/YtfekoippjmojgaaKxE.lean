/- Rules for slices that a call makes itself and lets grow: appends, reads and stores of their elements. No program is named here. -/
import Derived.Test.YtfekoippjmojgaaKxD
namespace Go.Kx
set_option linter.unusedVariables false
set_option linter.unusedSimpArgs false
set_option linter.constructorNameAsVariable false
open Go.RowKit
section
variable {P : Program}
theorem flat_len {α : Type} {enc : α → List Value} {sz : Nat} (hlen : ∀ y, (enc y).length = sz) : ∀ ys : List α, (ys.flatMap enc).length = ys.length * sz
  | [] => by simp
  | y :: r => by
    rw [List.flatMap_cons, List.length_append, hlen, flat_len hlen r, List.length_cons, Nat.add_mul]; omega
/-- A slice of the call's own, with its elements. -/
def rowL (e : TypeId) (sz : Nat) {α : Type} (enc : α → List Value) (a : Option Addr) (cap : Nat) (xs : List α) : Res where
  own k := (Value.slice a xs.length cap).ownBlock = some k
  holds w := w.ownsRow 0 e sz (.slice a xs.length cap) xs.length (xs.flatMap enc)
  frame w w' h hh := by
    refine ⟨hh.1, ?_⟩
    rcases hh.2 with hn | ⟨g, c, cur, hv, hb, hg, rest⟩
    · exact .inl hn
    · refine .inr ⟨g, c, cur, hv, hb, ?_, rest⟩
      rw [h g (by rw [hv]; rfl)]; exact hg
  inside w h k hk := (h.lt k hk).2
theorem rowL_nil (e : TypeId) (sz : Nat) {α : Type} (enc : α → List Value) (w : World) : (rowL e sz enc none 0 []).holds w := World.ownsRow_nil w 0 e sz
/-- The row behind the run of an append. -/
theorem run_append_at {t e : TypeId} {i : TypeInfo} {z : Value} {sz bytes : Nat} (w : World) (ty : TypeId) (ht : P.underlying t = some (.slice e)) (hi : P.info? e = some i) (hz : i.zero = some z) (hsize : i.size = sz) (hby : i.bytes = bytes) (hzs : z.cells.size = sz) (hsz : 0 < sz)
    (a : Option Addr) (n cap : Nat) (xs : List Value) (hown : w.ownsRow 0 e sz (.slice a n cap) n xs) (ad : Addr) (m c : Nat) (news : List Value) (hl : news.length = m * sz) (hnews : ∀ j u, news[j]? = some u → w.cell? (ad.add j) = some u) (h1 : ∀ u ∈ news, u.oneCell' = true)
    (h63 : n + m ≤ maxLen) (hbytes : (n + m) * bytes ≤ 140737488355328) :
    ∃ a' cap' w', (Builtin.append_ #[t, t] ty #[.slice a n cap, .slice (some ad) m c]).run P w = .ok (.slice a' (n + m) cap') w' ∧ w'.ownsRow 0 e sz (.slice a' (n + m) cap') (n + m) (xs ++ news) ∧ w.grownBy w' (Value.slice a n cap).ownBlock ∧
      ∀ k, (Value.slice a' (n + m) cap').ownBlock = some k → (Value.slice a n cap).ownBlock = some k ∨ w.heap.size ≤ k := by
  obtain ⟨v', w', hr, hown', hgr, hnil⟩ := run_append_own w 0 t ty e i z sz bytes ht hi hz hsize hby hzs hsz (.slice a n cap) n xs hown ad m c news hl hnews h1 h63 hbytes (Nat.zero_le _)
  have hsmall : n + m ≤ 9223372036854775807 := by simp only [maxLen] at h63; omega
  rcases hown.2 with ⟨hv, hn⟩ | ⟨g, c0, cur, hv, _, hg, hnc, hcm, hcs, htake⟩
  · injection hv with h1' h2' h3'
    subst h1' h2' h3'
    by_cases hm : m = 0
    · subst hm
      have hv' := hnil.2 ⟨rfl, rfl⟩
      subst hv'
      exact ⟨none, 0, w', hr, hown', hgr, fun k hk => by simp [Value.ownBlock] at hk⟩
    · have hr2 := run_append_nil (P := P) w t ty e i z ht hi hz ad m c news (by rw [hsize]; exact hl) hnews (by omega) (by omega) (by rw [hby]; simp only [Nat.zero_add] at hbytes; omega)
      rw [hr] at hr2
      injection hr2 with hv' hw'
      subst hv'
      have hv2 : Value.slice (some ⟨w.heap.size, 0, none⟩) m (grownCap w m 0 e) = Value.slice (some ⟨w.heap.size, 0, none⟩) (0 + m) (grownCap w m 0 e) := by rw [Nat.zero_add]
      rw [hv2] at hr hown'
      exact ⟨_, _, w', hr, hown', hgr, fun k hk => .inr (by simp [Value.ownBlock] at hk; omega)⟩
  · injection hv with h1' h2' h3'
    subst h1' h3'
    by_cases hroom : n + m ≤ cap
    · have hfit : n * i.size + news.length ≤ cur.size := by rw [hl, hcs, hsize, ← Nat.add_mul]; exact Nat.mul_le_mul_right _ hroom
      have hr2 := run_append_room (P := P) w t ty e i ht hi g n cap cur hg ad m c news (by rw [hsize]; exact hl) hnews h1 hroom hfit
      rw [hr] at hr2
      injection hr2 with hv' hw'
      subst hv'
      exact ⟨_, _, w', hr, hown', hgr, fun k hk => .inl hk⟩
    · have holds : ∀ j u, xs[j]? = some u → w.cell? ((⟨g, 0, none⟩ : Addr).add j) = some u := hown.cells (g := g) rfl
      have hr2 := run_append_grow (P := P) w t ty e i z ht hi hz ⟨g, 0, none⟩ n cap xs (by rw [hsize]; exact hown.1) holds ad m c news (by rw [hsize]; exact hl) hnews (by omega) (by omega) (by rw [hby]; exact growslice_fits (by omega) hbytes)
      rw [hr] at hr2
      injection hr2 with hv' hw'
      subst hv'
      exact ⟨_, _, w', hr, hown', hgr, fun k hk => .inr (by simp [Value.ownBlock] at hk; omega)⟩
variable {W : World} {n : Nat} {T : List (Nat × Value)} {B : List (Nat × Res)} {ty : TypeId} {pos : String} {aft : Array Edge} {g : Option (Nat × Bool)}
/-- What the program's tables say of an element's type: size, bytes, a zero of that size. -/
def elemFact (P : Program) (e : TypeId) (sz bytes : Nat) : Bool := match P.info? e with
  | some i => i.size == sz && i.bytes == bytes && (match i.zero with | some z => z.cells.size == sz | none => false)
  | none => false
theorem elemFact_spec {e : TypeId} {sz bytes : Nat} (h : elemFact P e sz bytes = true) : ∃ i z, P.info? e = some i ∧ i.zero = some z ∧ i.size = sz ∧ i.bytes = bytes ∧ z.cells.size = sz := by
  unfold elemFact at h
  split at h
  · rename_i i hi
    simp only [Bool.and_eq_true, beq_iff_eq] at h
    split at h
    · rename_i z hz
      simp only [beq_iff_eq] at h
      exact ⟨i, z, hi, hz, h.1.1, h.1.2, h.2⟩
    · cases h.2
  · cases h
theorem Eff.append {d : Nat} {s x : Operand} {t e : TypeId} {sz bytes : Nat} {α : Type} {enc : α → List Value} {a : Option Addr} {cap : Nat} {xs ys : List α} {ad : Addr} {c : Nat} (l : Nat)
    (ht : P.underlying t = some (.slice e)) (he : elemFact P e sz bytes = true) (hsz : Nat.blt 0 sz = true) (hs : opv T s = some (.slice a xs.length cap)) (hl : lkp B l = some (rowL e sz enc a cap xs)) (hx : opv T x = some (.slice (some ad) ys.length c))
    (hnews : ∀ w, Mem W B w → ∀ j u, (ys.flatMap enc)[j]? = some u → w.cell? (ad.add j) = some u) (hlen : ∀ y, (enc y).length = sz) (h1 : ∀ y, ∀ u ∈ enc y, u.oneCell' = true) (hb : (xs.length + ys.length) * bytes ≤ 140737488355328 ∧ xs.length + ys.length ≤ maxLen) (hd : Nat.blt d n = true) :
    Eff P W n ⟨some d, .call { callee := .builtin .append, args := #[s, x], argTypes := #[t, t] }, ty, pos, aft, g⟩ T B (fun _ : Option Addr × Nat => True) (fun p => (d, .slice p.1 (xs ++ ys).length p.2) :: T) (fun p => (l, rowL e sz enc p.1 p.2 (xs ++ ys)) :: B) := fun act w hT hm K Q hk => by
  obtain ⟨i, z, hi, hz, h2, h3, h4⟩ := elemFact_spec he
  have hown : w.ownsRow 0 e sz (.slice a xs.length cap) xs.length (xs.flatMap enc) := hm.holds l _ hl
  have hfl : (ys.flatMap enc).length = ys.length * sz := flat_len hlen ys
  obtain ⟨a', cap', w', hr, ho', hgr, hloc⟩ := run_append_at (P := P) w ty ht hi hz h2 h3 h4 (by simpa using hsz) a xs.length cap _ hown ad ys.length c (ys.flatMap enc) hfl (hnews w hm) (fun u hu => by
    obtain ⟨y, hy, hu⟩ := List.mem_flatMap.1 hu
    exact h1 y u hu) hb.2 hb.1
  have hrun : (execOp act.eval ⟨some d, .call { callee := .builtin .append, args := #[s, x], argTypes := #[t, t] }, ty, pos, aft, g⟩).run P w = .ok (.value (.slice a' (xs ++ ys).length cap')) w' := by
    simp only [execOp, resolve, invoke, builtin, Sem.run_bind, Sem.run_pure, Result.andThen_ok, List.map_toArray, List.map_cons, List.map_nil, hT.eval hs, hT.eval hx, hr, List.length_append]
  unfold Oper.wp
  rw [hrun]
  refine hk (a', cap') trivial _ _ (hT.put hd _) (hm.turn l hl (rowL e sz enc a' cap' (xs ++ ys)) hgr.os hgr.tape hgr.output hgr.size (fun k hk hno => hgr.block k hk (fun e => hno e.symm)) ?_ (fun k hk => ?_))
  · show w'.ownsRow 0 e sz (.slice a' (xs ++ ys).length cap') (xs ++ ys).length ((xs ++ ys).flatMap enc)
    rw [List.flatMap_append, List.length_append]; exact ho'
  · have hk' : (Value.slice a' (xs ++ ys).length cap').ownBlock = some k := hk
    rw [List.length_append] at hk'
    exact hloc k hk'
/-! ### resources gained -/
theorem Mem.nilRow {w : World} (l : Nat) (e : TypeId) (sz : Nat) {α : Type} (enc : α → List Value) (h : Mem W B w) : Mem W ((l, rowL e sz enc none 0 []) :: B) w :=
  h.add (Below.refl _ _) l _ (rowL_nil e sz enc w) (fun k hk => by simp [rowL, Value.ownBlock] at hk)
theorem Cd.gain {c : Code} {Q : Exit → Act → World → Prop} {B' : List (Nat × Res)} (h : ∀ w, Mem W B w → Mem W B' w) (k : Cd P W n c Q T B') : Cd P W n c Q T B := fun a w ht hm => k a w ht (h w hm)
theorem Rg.gain {os l : List Oper} {Q : Exit → Act → World → Prop} {B' : List (Nat × Res)} (h : ∀ w, Mem W B w → Mem W B' w) (k : Rg P W n os Q l T B') : Rg P W n os Q l T B := fun a w ht hm => k a w ht (h w hm)
theorem Rx.gain {e : Exit} {Q : Exit → Act → World → Prop} {B' : List (Nat × Res)} (h : ∀ w, Mem W B w → Mem W B' w) (k : Rx W n Q e T B') : Rx W n Q e T B := fun a w ht hm => k a w ht (h w hm)
/-- A row of a length that is known as a slice built from its elements. -/
theorem Mem.rowOf {w : World} {l b : Nat} {e : TypeId} {sz : Nat} {α : Type} {enc : α → List Value} {cs : List Value} {xs : List α} {cap : Nat} (h : Mem W B w) (hl : lkp B l = some (blk b cs e)) (hcs : cs = xs.flatMap enc) (hlen : ∀ y, (enc y).length = sz) (hcap : xs.length = cap) (hm : cap ≤ maxLen) : Mem W ((l, rowL e sz enc (some ⟨b, 0, none⟩) cap xs) :: B) w := by
  have hg : w.heap[b]? = some (.cells cs.toArray e (0, 0)) := h.holds l _ hl
  have hfl : (xs.flatMap enc).length = xs.length * sz := flat_len hlen xs
  refine h.turn l hl _ rfl rfl rfl (Nat.le_refl _) (fun _ _ _ => rfl) ⟨hfl, .inr ⟨b, cap, cs.toArray, rfl, Nat.zero_le _, hg, by omega, hm, ?_, ?_⟩⟩ (fun k hk => .inl (by simp [rowL, Value.ownBlock] at hk; simp [blk, hk]))
  · simp only [List.size_toArray]; rw [hcs, hfl, hcap]
  · rw [List.take_of_length_le (by rw [hcs]; simp [hfl])]; exact hcs
/-- What a row reads as. -/
theorem Rdb.of_row {w : World} {l : Nat} {e : TypeId} {sz : Nat} {α : Type} {enc : α → List Value} {a : Option Addr} {cap : Nat} {xs : List α} (hm : Mem W B w) (hl : lkp B l = some (rowL e sz enc a cap xs)) (hlen : ∀ y, (enc y).length = sz) : Rdb w a sz enc xs := fun i x hx => by
  have hown : w.ownsRow 0 e sz (.slice a xs.length cap) xs.length (xs.flatMap enc) := hm.holds l _ hl
  have hlt := (List.getElem?_eq_some_iff.1 hx).1
  rcases hown.2 with ⟨hv, hn⟩ | ⟨g, c0, cur, hv, _⟩
  · omega
  · injection hv with h1 h2 h3
    subst h1
    refine ⟨g, 0, rfl, hlen x, fun j u hj => ?_⟩
    have := hown.cells (g := g) rfl (i * sz + j) u (flat_at hlen hx hj)
    rw [cell_add] at this
    exact this
/-! ### elements of a row: read -/
theorem Val.ideRow {α : Type} {enc : α → List Value} {xs : List α} {dst : Option Tmp} {t e : TypeId} {x y : Operand} {a : Option Addr} {cap sz i : Nat} {k : IntKind} {j : Int} {u : α} (l : Nat) (hu : P.underlying t = some (.slice e)) (hz : cellsz P e = some sz)
    (hx : opv T x = some (.slice a xs.length cap)) (hy : opv T y = some (.int k j)) (hl : lkp B l = some (rowL e sz enc a cap xs)) (hj : j = (i : Int)) (hi : xs[i]? = some u) : Val P W n ⟨dst, .indexAddr t x y, ty, pos, aft, g⟩ T B (.pointer (eptr a (i * sz))) := fun act w ht hm => by
  have hown : w.ownsRow 0 e sz (.slice a xs.length cap) xs.length (xs.flatMap enc) := hm.holds l _ hl
  have hlt : i < xs.length := (List.getElem?_eq_some_iff.1 hi).1
  rcases hown.2 with ⟨hv, hn⟩ | ⟨g, c0, cur, hv, _⟩
  · omega
  · injection hv with h1 h2 h3
    subst h1 hj
    obtain ⟨ti, hti, hsz⟩ := Option.map_eq_some_iff.1 hz
    have h1 : (0 : Int) ≤ (i : Int) ∧ (i : Int) < (xs.length : Int) := by omega
    simp only [execOp, ht.eval hx, ht.eval hy, Instr.indexAt, asIntOf, Sem.run_bind, Sem.run_pure, run_underlying_of hu, Result.andThen_ok]
    simp only [h1, and_self, if_true, sizeOf, Sem.run_bind, run_info_of hti, Result.andThen_ok, Sem.run_pure, hsz, eptr, Int.toNat_natCast]
    congr 4
    unfold Addr.add
    split <;> simp_all
theorem Mem.rowCell {w : World} {l : Nat} {e : TypeId} {sz : Nat} {α : Type} {enc : α → List Value} {a : Option Addr} {cap : Nat} {xs : List α} (hm : Mem W B w) (hl : lkp B l = some (rowL e sz enc a cap xs)) (hlen : ∀ y, (enc y).length = sz) {i k : Nat} {u : α} {v : Value} (hi : xs[i]? = some u) (hk : (enc u)[k]? = some v) :
    ∃ ad, eptr a (i * sz + k) = some ad ∧ w.cell? ad = some v := by
  obtain ⟨b, off, rfl, _, hc⟩ := Rdb.of_row hm hl hlen i u hi
  exact ⟨⟨b, off + (i * sz + k), none⟩, rfl, hc k v hk⟩
theorem Val.loadRow {α : Type} {enc : α → List Value} {xs : List α} {dst : Option Tmp} {t e : TypeId} {x : Operand} {a : Option Addr} {cap sz i k : Nat} {u : α} {v : Value} (l : Nat) (hx : opv T x = some (.pointer (eptr a (i * sz + k)))) (hs : scal P t = true) (hl : lkp B l = some (rowL e sz enc a cap xs)) (hlen : ∀ y, (enc y).length = sz) (hi : xs[i]? = some u) (hk : (enc u)[k]? = some v) : Val P W n ⟨dst, .load t x, ty, pos, aft, g⟩ T B v := fun act w ht hm => by
  obtain ⟨ad, h1, h2⟩ := hm.rowCell hl hlen hi hk
  rw [h1] at hx
  simp only [execOp, ht.eval hx, Instr.loadAt, Instr.sureAddr, Sem.run_bind, Sem.run_pure, Result.andThen_ok, run_loadVar_scal hs h2]
theorem Mem.news {w : World} {l b : Nat} {cs vs : List Value} {ct : TypeId} (hm : Mem W B w) (hl : lkp B l = some (blk b cs ct)) (hcs : vs = cs) : ∀ j u, vs[j]? = some u → w.cell? ((⟨b, 0, none⟩ : Addr).add j) = some u := fun j u hj => by
  subst hcs
  rw [cell_add, Nat.zero_add, hm.cell hl]; exact hj
theorem ones_int : ∀ y : Int, ∀ u ∈ [Value.int .i64 y], u.oneCell' = true := fun y u hu => by simp at hu; subst hu; rfl
/-- A call that hands back a new slice. -/
def RowPost (W : World) (e : TypeId) (sz : Nat) {α : Type} (enc : α → List Value) (ys : List α) (v : Option Addr → Nat → Value) (r : Ending) (w' : World) : Prop :=
  Below W.heap.size W w' ∧ ∃ a cap, r = .returned (v a cap) ∧ (rowL e sz enc a cap ys).holds w' ∧ ∀ k, (rowL e sz enc a cap ys).own k → W.heap.size ≤ k
theorem RowPost.mem {w : World} {e : TypeId} {sz : Nat} {α : Type} {enc : α → List Value} {ys : List α} {v : Option Addr → Nat → Value} {f : FuncId} {args : Array Value} (l : Nat) (hm : Mem W B w) (h : Calls P f args w (RowPost w e sz enc ys v)) :
    Calls P f args w fun r w' => ∃ p : Option Addr × Nat, True ∧ r = .returned (v p.1 p.2) ∧ Mem W ((l, rowL e sz enc p.1 p.2 ys) :: B) w' :=
  h.mono fun _ _ ⟨hb, a, cap, h1, h2, h3⟩ => ⟨(a, cap), trivial, h1, hm.add hb l _ h2 h3⟩
theorem RowPost.none {w : World} {w' : World} {e : TypeId} {sz : Nat} {α : Type} {enc : α → List Value} {ys : List α} {v : Option Addr → Nat → Value} {r : Ending} (hb : Below w.heap.size w w') (hy : ys = []) (hr : r = .returned (v .none 0)) : RowPost w e sz enc ys v r w' := by
  subst hy
  exact ⟨hb, .none, 0, hr, rowL_nil e sz enc w', fun k hk => by simp [rowL, Value.ownBlock] at hk⟩
theorem RowPost.row {w' : World} {e : TypeId} {sz : Nat} {α : Type} {enc : α → List Value} {ys : List α} {v : Option Addr → Nat → Value} {r : Ending} {a : Option Addr} {cap : Nat} (l : Nat) (hm : Mem W B w') (hl : lkp B l = some (rowL e sz enc a cap ys)) (hr : r = .returned (v a cap)) : RowPost W e sz enc ys v r w' :=
  ⟨hm.below, a, cap, hr, hm.holds l _ hl, hm.fresh l _ hl⟩
end
end Go.Kx
