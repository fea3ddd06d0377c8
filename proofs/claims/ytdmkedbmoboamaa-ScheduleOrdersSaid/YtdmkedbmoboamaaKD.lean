/- One element cut out of a row of the call's own, in its place; the tail behind it cleared; pools of rows joined. -/
import Derived.Test.YtdmkedbmoboamaaKW
import Derived.Test.YtdmkedbmoboamaaKS
import Derived.Lib.SliceRun
namespace Go.Proofs.Ytdmkedbmoboamaa
open Go.Kx Go.RowKit
set_option linter.unusedVariables false
set_option linter.unusedSimpArgs false
section
variable {P : Program} {W : World} {n : Cx} {T : List (Nat × Value)} {B : List (Nat × Res)} {ty : TypeId} {pos : String} {aft : Array Edge} {g : Option (Nat × Bool)} {dst : Option Tmp}
/-- append(row[:k], row[j:]...) with k ≤ j: the row stays where it is. -/
theorem Eff.appendIn {d : Nat} {s x : Operand} {t e : TypeId} {sz bytes : Nat} {α : Type} {enc : α → List Value} {a ay : Option Addr} {cap k j ly c m : Nat} {xs : List α} (l : Nat)
    (ht : P.underlying t = some (.slice e)) (he : elemFact P e sz bytes = true) (hsz : Nat.blt 0 sz = true) (hs : opv T s = some (.slice a k cap)) (hm' : k + (xs.drop j).length = m) (hk : k < xs.length) (hkj : k ≤ j) (hl : lkp B l = some (rowL e sz enc a cap xs)) (hx : opv T x = some (.slice ay ly c)) (hay : ay = subA a cap j sz) (hly : (xs.drop j).length = ly)
    (hlen : ∀ y, (enc y).length = sz) (h1 : ∀ y, ∀ u ∈ enc y, u.oneCell' = true) (hb : (k + (xs.drop j).length) * bytes ≤ 140737488355328 ∧ k + (xs.drop j).length ≤ maxLen) (hd : Nat.blt d n.n = true) :
    Eff P W n ⟨some d, .call { callee := .builtin .append, args := #[s, x], argTypes := #[t, t] }, ty, pos, aft, g⟩ T B (fun _ : Unit => True) (fun _ => (d, .slice a m cap) :: T) (fun _ => (l, rowL e sz enc a cap (xs.take k ++ xs.drop j)) :: B) := fun act w hT hm K Q hk' => by
  subst hay hly hm'
  have hown : w.ownsRow 0 e sz (.slice a xs.length cap) xs.length (xs.flatMap enc) := hm.holds l _ hl
  have hown' := ownsRow_take hown (Nat.le_of_lt hk)
  rw [flat_take hlen] at hown'
  have hR := Rdb.drop_row (k := j) hm hl hlen
  have htl : (xs.take k).length = k := by rw [List.length_take]; omega
  obtain ⟨i, z, hi, hz, h2, h3, h4⟩ := elemFact_spec he
  cases hy : xs.drop j with
  | nil =>
    rw [hy] at hx hR hk'
    have hsrc : Go.Src P i.size t (.slice (subA a cap j sz) ([] : List α).length c) 0 [] w := by
      cases subA a cap j sz with
      | none => exact Src.ofNil w ht c
      | some ad => exact Src.ofSlice w ht ad 0 c [] (by simp) (fun j u h => by simp at h) (fun u h => by cases h)
    have hr := run_append_nothing w t t ty e i ht hi a k cap (ownsRow_cap hown') _ hsrc
    have hrun : (execOp act.eval ⟨some d, .call { callee := .builtin .append, args := #[s, x], argTypes := #[t, t] }, ty, pos, aft, g⟩).run P w = .ok (.value (.slice a k cap)) w := by
      simp only [execOp, resolve, invoke, builtin, Sem.run_bind, Sem.run_pure, Result.andThen_ok, List.map_toArray, List.map_cons, List.map_nil, hT.eval hs, hT.eval hx, hr]
    refine OpX.of_run (by intro c e; cases e) hrun ?_
    have hk2 := hk' () trivial
    simp only [List.append_nil, List.length_nil, Nat.add_zero] at hk2
    refine hk2 _ _ (hT.put hd _) (hm.turn l hl _ rfl rfl rfl (Nat.le_refl _) (fun _ _ _ => rfl) ?_ (fun q hq => .inl ?_))
    · show w.ownsRow 0 e sz (.slice a (xs.take k).length cap) (xs.take k).length ((xs.take k).flatMap enc)
      rw [htl]; exact hown'
    · cases a with
      | none => simp [rowL, Value.ownBlock] at hq
      | some ad => simpa [rowL, Value.ownBlock] using hq
  | cons y0 yr =>
    have hroom0 : k + (y0 :: yr).length ≤ xs.length := by
      have := congrArg List.length hy
      rw [List.length_drop] at this; omega
    rw [hy] at hx hR hk' hb
    obtain ⟨ad, had, hc⟩ := hR.flat hlen (by simpa using hsz) (by simp)
    rw [had] at hx
    obtain ⟨a', cap', w', hr, ho', hgr, hloc⟩ := run_append_at (P := P) w ty ht hi hz h2 h3 h4 (by simpa using hsz) a k cap _ hown' ad (y0 :: yr).length c ((y0 :: yr).flatMap enc) (flat_len hlen _) hc (fun u hu => by
      obtain ⟨y, hy, hu⟩ := List.mem_flatMap.1 hu
      exact h1 y u hu) hb.2 hb.1
    have hsame : a' = a ∧ cap' = cap := by
      rcases hown.2 with ⟨hv, hn⟩ | ⟨gb, c0, cur, hv, _, hg, hnc, hcm, hcs, htake⟩
      · omega
      · injection hv with h1' h2' h3'
        subst h1' h3'
        have hroom : k + (y0 :: yr).length ≤ cap := by omega
        have hfit : k * i.size + ((y0 :: yr).flatMap enc).length ≤ cur.size := by rw [flat_len hlen, hcs, h2, ← Nat.add_mul]; exact Nat.mul_le_mul_right _ hroom
        have hr2 := run_append_room (P := P) w t ty e i ht hi gb k cap cur hg ad (y0 :: yr).length c ((y0 :: yr).flatMap enc) (by rw [h2]; exact flat_len hlen _) hc (fun u hu => by
          obtain ⟨y, hy, hu⟩ := List.mem_flatMap.1 hu
          exact h1 y u hu) hroom hfit
        rw [hr] at hr2
        injection hr2 with hv' hw'
        injection hv' with e1 e2 e3
        exact ⟨e1, e3⟩
    obtain ⟨rfl, rfl⟩ := hsame
    have hrun : (execOp act.eval ⟨some d, .call { callee := .builtin .append, args := #[s, x], argTypes := #[t, t] }, ty, pos, aft, g⟩).run P w = .ok (.value (.slice a' (k + (y0 :: yr).length) cap')) w' := by
      simp only [execOp, resolve, invoke, builtin, Sem.run_bind, Sem.run_pure, Result.andThen_ok, List.map_toArray, List.map_cons, List.map_nil, hT.eval hs, hT.eval hx, hr]
    have hblk : ∀ q, (Value.slice a' k cap').ownBlock = some q → (rowL e sz enc a' cap' xs).own q := fun q hq => by
      cases a' with
      | none => simp [Value.ownBlock] at hq
      | some ad => simpa [rowL, Value.ownBlock] using hq
    refine OpX.of_run (by intro c e; cases e) hrun ?_
    refine hk' () trivial _ _ (hT.put hd _) (hm.turn l hl (rowL e sz enc a' cap' (xs.take k ++ (y0 :: yr))) hgr.os hgr.tape hgr.output hgr.size (fun q hq hno => hgr.block q hq (fun e => hno (hblk q e.symm))) ?_ (fun q hq => ?_))
    · show w'.ownsRow 0 e sz (.slice a' (xs.take k ++ (y0 :: yr)).length cap') (xs.take k ++ (y0 :: yr)).length ((xs.take k ++ (y0 :: yr)).flatMap enc)
      rw [List.flatMap_append, List.length_append, htl]; exact ho'
    · cases a' with
      | none => simp [rowL, Value.ownBlock] at hq
      | some ad => exact .inl (by simpa [rowL, Value.ownBlock] using hq)
/-- clear(row[len(row):len(row)+1]): the row itself does not turn. -/
theorem Eff.clearOne {x : Operand} {t e : TypeId} {z : Value} {α : Type} {enc : α → List Value} {xs : List α} {a ay : Option Addr} {cap c ly : Nat} (l : Nat) (ht : P.underlying t = some (.slice e)) (hz : zerov P e = some z) (hzc : z.cells = #[z]) (h1 : z.oneCell' = true)
    (hx : opv T x = some (.slice ay ly c)) (hly : ly = 1) (hay : ay = subA a cap xs.length 1) (hcap : xs.length + 1 ≤ cap) (hl : lkp B l = some (rowL e 1 enc a cap xs)) :
    Eff P W n ⟨none, .call { callee := .builtin .clear, args := #[x], argTypes := #[t] }, ty, pos, aft, g⟩ T B (fun _ : Unit => True) (fun _ => T) (fun _ => (l, rowL e 1 enc a cap xs) :: B) := fun act w hT hm K Q hk' => by
  subst hay hly
  have hown : w.ownsRow 0 e 1 (.slice a xs.length cap) xs.length (xs.flatMap enc) := hm.holds l _ hl
  obtain ⟨i, hi, hzi⟩ := Option.bind_eq_some_iff.1 hz
  rcases hown.2 with ⟨hv, hn⟩ | ⟨gb, c0, cur, hv, hb0, hg, hnc, hcm, hcs, htake⟩
  · injection hv with h1' h2' h3'; omega
  · injection hv with h1' h2' h3'
    subst h1' h3'
    have hsub : subA (some ⟨gb, 0, none⟩) cap xs.length 1 = some ⟨gb, xs.length, none⟩ := by
      unfold subA
      rw [if_neg (by omega)]
      simp only [Option.map_some, Addr.add, Nat.mul_one]
      split
      · rename_i h0; simp [h0]
      · simp
    rw [hsub] at hx
    have hsz : xs.length < cur.size := by omega
    have hr := Go.Lib.run_clear_slice (P := P) w t e ty z ht (fun w => by simp [zeroValue, run_info_of hi, hzi]) hzc h1 gb xs.length 1 c (by decide) (fun j hj => by
      have : j = 0 := by omega
      subst this
      simp [World.cell?, hg, hsz]) (fun j hj => by simp [World.frozen?, hg])
    have hrun : (execOp act.eval ⟨none, .call { callee := .builtin .clear, args := #[x], argTypes := #[t] }, ty, pos, aft, g⟩).run P w = .ok (.value (.tuple #[])) (w.setCell ⟨gb, xs.length, none⟩ z) := by
      simp only [execOp, resolve, invoke, builtin, Sem.run_bind, Sem.run_pure, Result.andThen_ok, List.map_toArray, List.map_cons, List.map_nil, hT.eval hx, hr]
      rfl
    refine OpX.of_run (by intro c e; cases e) hrun ?_
    refine hk' () trivial _ _ hT (hm.turn l hl (rowL e 1 enc (some ⟨gb, 0, none⟩) cap xs) rfl rfl rfl (by simp) (fun k _ hno => Below.heap_setCell _ _ _ _ (fun e => hno (by simp [rowL, Value.ownBlock]; simpa using e.symm))) ?_ (fun k hk => .inl hk))
    have hg2 : (w.setCell ⟨gb, xs.length, none⟩ z).heap[gb]? = some (.cells (cur.setIfInBounds xs.length z) e (0, 0)) := by
      simp [World.setCell, Array.getElem?_modify, hg]
    refine ⟨hown.1, .inr ⟨gb, cap, _, rfl, hb0, hg2, hnc, hcm, by simp [hcs], ?_⟩⟩
    rw [Array.toList_setIfInBounds, List.take_set_of_le (by omega)]
    exact htake
end
section
variable {P : Program} {W : World} {n : Cx} {T : List (Nat × Value)} {B : List (Nat × Res)} {ty : TypeId} {pos : String} {aft : Array Edge} {g : Option (Nat × Bool)} {dst : Option Tmp}
theorem Val.slice3 {t e : TypeId} {x y1 y2 y3 : Operand} {a : Option Addr} {len cap l h m sz : Nat} {k1 k2 k3 : IntKind} {j1 j2 j3 : Int} (hu : P.underlying t = some (.slice e)) (hz : cellsz P e = some sz) (hx : opv T x = some (.slice a len cap)) (h1 : opv T y1 = some (.int k1 j1)) (h2 : opv T y2 = some (.int k2 j2)) (h3 : opv T y3 = some (.int k3 j3)) (e1 : j1 = (l : Int)) (e2 : j2 = (h : Int)) (e3 : j3 = (m : Int)) (hl : l ≤ h ∧ h ≤ m ∧ m ≤ cap) :
    Val P W n ⟨dst, .slice t x (some y1) (some y2) (some y3), ty, pos, aft, g⟩ T B (.slice (subA a m l sz) (h - l) (m - l)) := fun act w ht hm => by
  subst e1 e2 e3
  obtain ⟨ti, hti, hsz⟩ := Option.map_eq_some_iff.1 hz
  have hb : (Instr.sliceBounds true len cap (some (.int k1 (l : Int))) (some (.int k2 (h : Int))) (some (.int k3 (m : Int)))).run P w = .ok (l, h, m) w := by
    simp [Instr.sliceBounds, Instr.sliceBound, asIntOf, hl.1, hl.2.1, hl.2.2]
  simp only [execOp, ht.eval hx, ht.eval h1, ht.eval h2, ht.eval h3, Option.map_some, Instr.sliceAt, Instr.slice, Sem.run_bind, run_underlying_of hu, Result.andThen_ok, hb, sizeOf, run_info_of hti, Sem.run_pure, hsz, subA]
theorem Val.sliceLoHi {t e : TypeId} {x y1 y2 : Operand} {a : Option Addr} {len cap l h sz : Nat} {k1 k2 : IntKind} {j1 j2 : Int} (hu : P.underlying t = some (.slice e)) (hz : cellsz P e = some sz) (hx : opv T x = some (.slice a len cap)) (h1 : opv T y1 = some (.int k1 j1)) (h2 : opv T y2 = some (.int k2 j2)) (e1 : j1 = (l : Int)) (e2 : j2 = (h : Int)) (hl : l ≤ h ∧ h ≤ cap) :
    Val P W n ⟨dst, .slice t x (some y1) (some y2) none, ty, pos, aft, g⟩ T B (.slice (subA a cap l sz) (h - l) (cap - l)) := fun act w ht hm => by
  subst e1 e2
  obtain ⟨ti, hti, hsz⟩ := Option.map_eq_some_iff.1 hz
  have hb : (Instr.sliceBounds true len cap (some (.int k1 (l : Int))) (some (.int k2 (h : Int))) none).run P w = .ok (l, h, cap) w := by
    simp [Instr.sliceBounds, Instr.sliceBound, asIntOf, hl.1, hl.2]
  simp only [execOp, ht.eval hx, ht.eval h1, ht.eval h2, Option.map_some, Option.map_none, Instr.sliceAt, Instr.slice, Sem.run_bind, run_underlying_of hu, Result.andThen_ok, hb, sizeOf, run_info_of hti, Sem.run_pure, hsz, subA]
end
section
variable {W w : World} {B : List (Nat × Res)}
/-- Two pools of rows made one. -/
theorem Mem.rowsJoin {e : TypeId} {rs ss : List Rw} {q l : Nat} {B0 : List (Nat × Res)} (h : Mem W B w) (hq : lkp B q = some (rowsR e rs)) (hb : lkp B l = some (rowsR e ss)) (hne : Nat.beq q l = false) (h0 : subl B0 B) (ha : apartB [(q, rowsR e rs), (l, rowsR e ss)] B0 = true) : Mem W ((q, rowsR e (rs ++ ss)) :: B0) w := by
  have hn : q ≠ l := fun e => by subst e; simp at hne
  have hlb : lkp [(q, rowsR e rs), (l, rowsR e ss)] l = some (rowsR e ss) := (lkp_cons_ne _ _ hn).trans (lkp_cons_eq _ _ _)
  refine h.fuse (Bs := [(q, rowsR e rs), (l, rowsR e ss)]) q _ ⟨hq, hb, trivial⟩ h0 ha ?_ (fun hp r hr => ?_) (fun k ⟨r, hr, hk⟩ => ?_)
  · simp only [apartB, Bool.and_eq_true] at ha; simpa using ha.1
  · rcases List.mem_append.1 hr with h1 | h1
    · exact hp.1 q _ (lkp_cons_eq _ _ _) r h1
    · exact hp.1 l _ hlb r h1
  · rcases List.mem_append.1 hr with h1 | h1
    · exact ⟨q, _, lkp_cons_eq _ _ _, r, h1, hk⟩
    · exact ⟨l, _, hlb, r, h1, hk⟩
/-- A row of rows whose inner rows lie in a pool. -/
theorem OrdAt.of_pool {a : Option Addr} {cap : Nat} {rs pool : List Rw} (l q : Nat) (h : Mem W B w) (hl : lkp B l = some (rowL 62 1 encRw a cap rs)) (hq : lkp B q = some (rowsR 3 pool)) (hs : ∀ r ∈ rs, r ∈ pool) (hn : rs.length ≤ 1000) (hr : ∀ r ∈ rs, r.xs.length ≤ 1000) : OrdAt w a rs := by
  have hp : (rowsR 3 pool).holds w := h.holds q _ hq
  refine ⟨Rdb.of_row h hl (fun _ => rfl), fun r hr => ?_, by omega, fun r h1 => by have := hr r h1; omega, fun r hr => ownsRow_cap (hp r (hs r hr))⟩
  exact Rdb.of_holds (hp r (hs r hr)) (fun _ => rfl)
end
end Go.Proofs.Ytdmkedbmoboamaa
