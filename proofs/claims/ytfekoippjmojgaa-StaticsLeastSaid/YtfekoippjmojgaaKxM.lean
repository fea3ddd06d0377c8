/- Slices made by make, slices of slices, lists appended to a slice of the call's own; resources turned into others. No program is named here. -/
import Derived.Test.YtfekoippjmojgaaKxI
import Derived.Laws.MakeOwn
import Derived.Deep.Upon
namespace Go.Kx
set_option linter.unusedVariables false
set_option linter.unusedSimpArgs false
set_option linter.constructorNameAsVariable false
open Go.RowKit
section
variable {P : Program} {W : World} {n : Cx} {T : List (Nat × Value)} {B : List (Nat × Res)} {ty : TypeId} {pos : String} {aft : Array Edge} {g : Option (Nat × Bool)} {dst : Option Tmp}
/-- An element's type with a zero of one cell. -/
def makeFact (P : Program) (e : TypeId) (z : Value) (bytes : Nat) : Prop := (P.info? e).map (fun i => (i.zero, i.size, i.bytes)) = some (some z, 1, bytes)
theorem made_list (z : Value) (n : Nat) : (madeCells #[z] n).toList = List.replicate n z := by
  refine List.ext_getElem? fun i => ?_
  by_cases hi : i < n
  · simp [madeCells, hi, Nat.mod_one]
  · simp [madeCells, hi]
theorem Eff.makeRow {d : Nat} {t e : TypeId} {x y : Operand} {z : Value} {bytes m : Nat} {kl kc : IntKind} {j : Int} {α : Type} {enc : α → List Value} {u : α} (l : Nat) (ht : P.underlying t = some (.slice e)) (hi : makeFact P e z bytes) (hz : z.cells = #[z])
    (hx : opv T x = some (.int kl j)) (hy : opv T y = some (.int kc j)) (hj : j = (m : Int)) (hu : enc u = [z]) (hb : bytes * m ≤ 281474976710656 ∧ m ≤ maxLen) (hd : Nat.blt d n.n = true) :
    Eff P W n ⟨some d, .makeSlice t x y, ty, pos, aft, g⟩ T B (fun _ : Nat => True) (fun b => (d, .slice (some ⟨b, 0, none⟩) m m) :: T) (fun b => (l, rowL e 1 enc (some ⟨b, 0, none⟩) m (List.replicate m u)) :: B) := fun a w hT hm K Q hk => by
  subst hj
  obtain ⟨i, hi', hzz⟩ := Option.map_eq_some_iff.1 hi
  simp only [Prod.mk.injEq] at hzz
  obtain ⟨h1, h2, h3⟩ := hzz
  have hb' : (i.bytes : Int) * (m : Int) ≤ 281474976710656 := by
    have h : ((i.bytes * m : Nat) : Int) ≤ 281474976710656 := by rw [h3]; omega
    rwa [Int.natCast_mul] at h
  have hmm := hb.2
  simp only [maxLen] at hmm
  have hr := run_make (P := P) (w := w) t e i z ht hi' h1 kl kc m m (by omega) (Int.le_refl _) hb' (by omega)
  simp only [Int.toNat_natCast, h2, Nat.mul_one, hz] at hr
  have hrun : (execOp a.eval ⟨some d, .makeSlice t x y, ty, pos, aft, g⟩).run P w = .ok (.value (.slice (some ⟨w.heap.size, 0, none⟩) m m)) (w.alloc (.cells (madeCells #[z] m) e)) := by
    simp only [execOp, hT.eval hx, hT.eval hy, Sem.run_bind, hr, Result.andThen_ok, Sem.run_pure]
  refine OpX.of_run (by intro c e; cases e) hrun ?_
  have hfl : (List.replicate m u).flatMap enc = List.replicate m z := by
    have : ∀ m, (List.replicate m u).flatMap enc = List.replicate m z := fun m => by
      induction m with
      | zero => rfl
      | succ m ih => rw [List.replicate_succ, List.flatMap_cons, ih, hu]; rfl
    exact this m
  refine hk w.heap.size trivial _ _ (hT.put hd _) (hm.add ((Below.refl _ _).alloc (Nat.le_refl _) _) l _ ?_ (fun k hk => by simp [rowL, Value.ownBlock] at hk; omega))
  show World.ownsRow _ 0 e 1 (.slice (some ⟨w.heap.size, 0, none⟩) (List.replicate m u).length m) _ _
  rw [hfl, List.length_replicate]
  refine ⟨by simp, .inr ⟨w.heap.size, m, madeCells #[z] m, rfl, Nat.zero_le _, World.alloc_heap_new w _, Nat.le_refl _, hb.2, by simp [madeCells], ?_⟩⟩
  rw [made_list]
  simp

/-! ### slices of slices -/
def subA (a : Option Addr) (cap l sz : Nat) : Option Addr := if cap = l then a else a.map (·.add (l * sz))
theorem Rdb.take {w : World} {a : Option Addr} {sz : Nat} {α : Type} {enc : α → List Value} {xs : List α} (h : Rdb w a sz enc xs) (k : Nat) : Rdb w a sz enc (xs.take k) := fun i x hx => by
  rw [List.getElem?_take] at hx
  split at hx
  · exact h i x hx
  · cases hx
theorem Rdb.drop {w : World} {a : Option Addr} {sz cap : Nat} {α : Type} {enc : α → List Value} {xs : List α} (h : Rdb w a sz enc xs) (l : Nat) (hc : xs.length ≤ cap) : Rdb w (subA a cap l sz) sz enc (xs.drop l) := fun i x hx => by
  rw [List.getElem?_drop] at hx
  obtain ⟨b, off, rfl, hl, hcell⟩ := h (l + i) x hx
  have hlt := (List.getElem?_eq_some_iff.1 hx).1
  refine ⟨b, off + l * sz, ?_, hl, fun j u hj => ?_⟩
  · unfold subA
    rw [if_neg (by omega)]
    simp only [Option.map_some, Addr.add]
    split
    · rename_i h0; simp [h0]
    · rfl
  · have := hcell j u hj
    rw [Nat.add_mul] at this
    rw [show off + l * sz + (i * sz + j) = off + (l * sz + i * sz + j) from by omega]
    exact this
theorem run_bounds_hi (P : Program) (w : World) (len cap : Nat) (k : IntKind) (h : Nat) (hh : h ≤ cap) : (Instr.sliceBounds true len cap none (some (.int k (h : Int))) none).run P w = .ok (0, h, cap) w := by
  simp [Instr.sliceBounds, Instr.sliceBound, asIntOf, hh]
theorem run_bounds_lo (P : Program) (w : World) (len cap : Nat) (k : IntKind) (l : Nat) (hl : l ≤ len) : (Instr.sliceBounds true len cap (some (.int k (l : Int))) none none).run P w = .ok (l, len, cap) w := by
  simp [Instr.sliceBounds, Instr.sliceBound, asIntOf, hl]
theorem Val.sliceHi {t e : TypeId} {x y : Operand} {a : Option Addr} {len cap h sz : Nat} {k : IntKind} {j : Int} (hu : P.underlying t = some (.slice e)) (hz : cellsz P e = some sz) (hx : opv T x = some (.slice a len cap)) (hy : opv T y = some (.int k j)) (hj : j = (h : Int)) (hh : h ≤ cap) :
    Val P W n ⟨dst, .slice t x none (some y) none, ty, pos, aft, g⟩ T B (.slice a h cap) := fun act w ht hm => by
  subst hj
  obtain ⟨ti, hti, hsz⟩ := Option.map_eq_some_iff.1 hz
  have hb := run_bounds_hi P w len cap k h hh
  simp only [execOp, ht.eval hx, ht.eval hy, Option.map_none, Option.map_some, Instr.sliceAt, Instr.slice, Sem.run_bind, run_underlying_of hu, Result.andThen_ok, hb, sizeOf, run_info_of hti, Sem.run_pure, Nat.sub_zero, Nat.zero_mul]
  congr 3
  split
  · rfl
  · cases a <;> simp [Addr.add]
theorem Val.sliceLo {t e : TypeId} {x y : Operand} {a : Option Addr} {len cap l sz : Nat} {k : IntKind} {j : Int} (hu : P.underlying t = some (.slice e)) (hz : cellsz P e = some sz) (hx : opv T x = some (.slice a len cap)) (hy : opv T y = some (.int k j)) (hj : j = (l : Int)) (hl : l ≤ len) :
    Val P W n ⟨dst, .slice t x (some y) none none, ty, pos, aft, g⟩ T B (.slice (subA a cap l sz) (len - l) (cap - l)) := fun act w ht hm => by
  subst hj
  obtain ⟨ti, hti, hsz⟩ := Option.map_eq_some_iff.1 hz
  have hb := run_bounds_lo P w len cap k l hl
  simp only [execOp, ht.eval hx, ht.eval hy, Option.map_none, Option.map_some, Instr.sliceAt, Instr.slice, Sem.run_bind, run_underlying_of hu, Result.andThen_ok, hb, sizeOf, run_info_of hti, Sem.run_pure, hsz, subA]

/-! ### a list appended -/
theorem ownsRow_cap {w : World} {e : TypeId} {sz : Nat} {a : Option Addr} {m cap : Nat} {cs : List Value} (h : w.ownsRow 0 e sz (.slice a m cap) m cs) : m ≤ cap := by
  rcases h.2 with ⟨hv, hn⟩ | ⟨g, c, cur, hv, _, _, hn, _⟩
  · omega
  · injection hv with _ _ h3; omega
theorem Eff.appendSl {d : Nat} {s x : Operand} {t e : TypeId} {sz bytes : Nat} {α : Type} {enc : α → List Value} {a ay : Option Addr} {cap ly len c : Nat} {xs ys : List α} (l : Nat)
    (ht : P.underlying t = some (.slice e)) (he : elemFact P e sz bytes = true) (hsz : Nat.blt 0 sz = true) (hs : opv T s = some (.slice a len cap)) (hlen0 : xs.length = len) (hl : lkp B l = some (rowL e sz enc a cap xs)) (hx : opv T x = some (.slice ay ly c)) (hly : ys.length = ly)
    (hR : ∀ w, Mem W B w → Rdb w ay sz enc ys) (hlen : ∀ y, (enc y).length = sz) (h1 : ∀ y, ∀ u ∈ enc y, u.oneCell' = true) (hb : (xs.length + ys.length) * bytes ≤ 140737488355328 ∧ xs.length + ys.length ≤ maxLen) (hd : Nat.blt d n.n = true) :
    Eff P W n ⟨some d, .call { callee := .builtin .append, args := #[s, x], argTypes := #[t, t] }, ty, pos, aft, g⟩ T B (fun _ : Option Addr × Nat => True) (fun p => (d, .slice p.1 (xs ++ ys).length p.2) :: T) (fun p => (l, rowL e sz enc p.1 p.2 (xs ++ ys)) :: B) := by
  subst hlen0 hly
  cases ys with
  | cons y0 yr =>
    cases ay with
    | none =>
      intro act w hT hm K Q hk
      obtain ⟨b, off, h, _⟩ := hR w hm 0 y0 rfl
      cases h
    | some ad =>
      refine Eff.append l ht he hsz hs hl hx (fun w hm => ?_) hlen h1 hb hd
      obtain ⟨ad', h, hc⟩ := (hR w hm).flat hlen (by simpa using hsz) (by simp)
      injection h with h; subst h
      exact hc
  | nil =>
    intro act w hT hm K Q hk
    obtain ⟨i, z, hi, hz, h2, h3, h4⟩ := elemFact_spec he
    have hown : w.ownsRow 0 e sz (.slice a xs.length cap) xs.length (xs.flatMap enc) := hm.holds l _ hl
    have hsrc : Go.Src P i.size t (.slice ay ([] : List α).length c) 0 [] w := by
      cases ay with
      | none => exact Src.ofNil w ht c
      | some ad => exact Src.ofSlice w ht ad 0 c [] (by simp) (fun j u h => by simp at h) (fun u h => by cases h)
    have hr := run_append_nothing w t t ty e i ht hi a xs.length cap (ownsRow_cap hown) _ hsrc
    have hrun : (execOp act.eval ⟨some d, .call { callee := .builtin .append, args := #[s, x], argTypes := #[t, t] }, ty, pos, aft, g⟩).run P w = .ok (.value (.slice a xs.length cap)) w := by
      simp only [execOp, resolve, invoke, builtin, Sem.run_bind, Sem.run_pure, Result.andThen_ok, List.map_toArray, List.map_cons, List.map_nil, hT.eval hs, hT.eval hx, hr]
    refine OpX.of_run (by intro c e; cases e) hrun ?_
    have hk' := hk (a, cap) trivial
    simp only [List.append_nil] at hk'
    refine hk' _ _ (hT.put hd _) ⟨hm.below, fun l' r' h' => ?_, fun l' r' h' => ?_, fun l1 l2 r1 r2 e1 e2 => ?_⟩
    · by_cases e : l = l'
      · subst e; rw [lkp_cons_eq] at h'; cases h'; exact hm.holds l _ hl
      · rw [lkp_cons_ne _ _ e] at h'; exact hm.holds l' r' h'
    · by_cases e : l = l'
      · subst e; rw [lkp_cons_eq] at h'; cases h'; exact hm.fresh l _ hl
      · rw [lkp_cons_ne _ _ e] at h'; exact hm.fresh l' r' h'
    · have up : ∀ {q r}, lkp ((l, rowL e sz enc a cap xs) :: B) q = some r → lkp B q = some r := fun {q r} h => by
        by_cases hq : l = q
        · subst hq; rw [lkp_cons_eq] at h; cases h; exact hl
        · rw [lkp_cons_ne _ _ hq] at h; exact h
      exact hm.apart l1 l2 r1 r2 (up e1) (up e2)

theorem Val.sliceHiRow {α : Type} {enc : α → List Value} {xs : List α} {t e : TypeId} {x y : Operand} {a : Option Addr} {len cap h sz : Nat} {k : IntKind} {j : Int} (l : Nat) (hu : P.underlying t = some (.slice e)) (hz : cellsz P e = some sz) (hx : opv T x = some (.slice a len cap)) (hl : lkp B l = some (rowL e sz enc a cap xs)) (hy : opv T y = some (.int k j)) (hj : j = (h : Int)) (hh : h ≤ xs.length) :
    Val P W n ⟨dst, .slice t x none (some y) none, ty, pos, aft, g⟩ T B (.slice a h cap) := fun act w ht hm =>
  Val.sliceHi hu hz hx hy hj (Nat.le_trans hh (ownsRow_cap (hm.holds l _ hl))) act w ht hm
theorem Val.sliceLoRow {α : Type} {enc : α → List Value} {xs : List α} {t e : TypeId} {x y : Operand} {a : Option Addr} {len cap h sz : Nat} {k : IntKind} {j : Int} (hu : P.underlying t = some (.slice e)) (hz : cellsz P e = some sz) (hx : opv T x = some (.slice a len cap)) (hln : xs.length = len) (hy : opv T y = some (.int k j)) (hj : j = (h : Int)) (hh : h ≤ xs.length) :
    Val P W n ⟨dst, .slice t x (some y) none none, ty, pos, aft, g⟩ T B (.slice (subA a cap h sz) (len - h) (cap - h)) := Val.sliceLo hu hz hx hy hj (hln ▸ hh)
theorem Rdb.drop_row {w : World} {l : Nat} {e : TypeId} {sz : Nat} {α : Type} {enc : α → List Value} {a : Option Addr} {cap : Nat} {xs : List α} (hm : Mem W B w) (hl : lkp B l = some (rowL e sz enc a cap xs)) (hlen : ∀ y, (enc y).length = sz) (k : Nat) : Rdb w (subA a cap k sz) sz enc (xs.drop k) :=
  (Rdb.of_row hm hl hlen).drop k (ownsRow_cap (hm.holds l _ hl))
theorem Dr.gain {os : List Oper} {S : List (Nat × Res)} {fuel : Nat} {listed : Array Bool} {Q : Exit → Act → World → Prop} {B' : List (Nat × Res)} (h : ∀ w, Mem W B w → Mem W B' w) (k : Dr P W n os Q S fuel listed T B') : Dr P W n os Q S fuel listed T B := fun a w ht hm => k a w ht (h w hm)
/-! ### resources turned into others -/
/-- Some labels become one, of another make. -/
theorem Mem.fuse {w : World} {Bs B0 : List (Nat × Res)} (q : Nat) (r : Res) (h : Mem W B w) (hs : subl Bs B) (h0 : subl B0 B) (ha : apartB Bs B0 = true) (hq : lkp B0 q = none) (hr : (packR Bs).holds w → r.holds w) (ho : ∀ k, r.own k → (packR Bs).own k) : Mem W ((q, r) :: B0) w := by
  have h1 := h.packed q (.of hs) (.of h0) ha hq
  have hp : (packR Bs).holds w := h1.holds q _ (lkp_cons_eq _ _ _)
  refine ⟨h1.below, fun l x hl => ?_, fun l x hl k hk => ?_, fun l l' x x' e1 e2 hne k hk hk' => ?_⟩
  · by_cases e : q = l
    · subst e; rw [lkp_cons_eq] at hl; cases hl; exact hr hp
    · rw [lkp_cons_ne _ _ e] at hl; exact h1.holds l x (by rw [lkp_cons_ne _ _ e]; exact hl)
  · by_cases e : q = l
    · subst e; rw [lkp_cons_eq] at hl; cases hl; exact h1.fresh q _ (lkp_cons_eq _ _ _) k (ho k hk)
    · rw [lkp_cons_ne _ _ e] at hl; exact h1.fresh l x (by rw [lkp_cons_ne _ _ e]; exact hl) k hk
  · by_cases e : q = l
    · subst e; rw [lkp_cons_eq] at e1; cases e1
      rw [lkp_cons_ne _ _ hne] at e2
      exact h1.apart q l' _ x' (lkp_cons_eq _ _ _) (by rw [lkp_cons_ne _ _ hne]; exact e2) hne k (ho k hk) hk'
    · rw [lkp_cons_ne _ _ e] at e1
      by_cases e' : q = l'
      · subst e'; rw [lkp_cons_eq] at e2; cases e2
        exact h1.apart l q x _ (by rw [lkp_cons_ne _ _ e]; exact e1) (lkp_cons_eq _ _ _) hne k hk (ho k hk')
      · rw [lkp_cons_ne _ _ e'] at e2
        exact h1.apart l l' x x' (by rw [lkp_cons_ne _ _ e]; exact e1) (by rw [lkp_cons_ne _ _ e']; exact e2) hne k hk hk'
/-- A call whose memory is all new. -/
theorem Mem.made {w w' : World} {Bs : List (Nat × Res)} (h : Mem W B w) (hm : Mem w Bs w') (ha : apartB Bs B = true) : Mem W (Bs ++ B) w' :=
  h.over (Bs := []) (fun _ _ h => by simp [lkp] at h) .rfl rfl ⟨hm.below.os, hm.below.tape, hm.below.output, hm.below.size, fun k hk _ => hm.below.block k hk, hm.pack .rfl, fun k ⟨l, r, hl, hk⟩ => .inr (hm.fresh l r hl k hk)⟩ ha
theorem Eff.made {d : Nat} {x : Operand} {args : List Operand} {tys : Array TypeId} {f : FuncId} {fs us vs : List Value} {A : Type} {R : A → Prop} {v : A → Value} {Bs : A → List (Nat × Res)}
    (hx : opv T x = some (.func (.func f) fs.toArray us.toArray)) (ha : opvs T args = some vs) (he : Enters P f) (hd : Nat.blt d n.n = true) (hap : ∀ p, apartB (Bs p) B = true)
    (hc : ∀ w, Mem W B w → Calls P f (fs ++ vs ++ us).toArray w fun e w' => ∃ p, R p ∧ e = .returned (v p) ∧ Mem w (Bs p) w') :
    Eff P W n ⟨some d, .call { callee := .value x, args := args.toArray, argTypes := tys }, ty, pos, aft, g⟩ T B R (fun p => (d, v p) :: T) (fun p => Bs p ++ B) :=
  Eff.call hx ha he hd fun w hm => (hc w hm).mono fun _ _ ⟨p, hp, he, ht⟩ => ⟨p, hp, he, hm.made ht (hap p)⟩
/-- A call of yield, under what is known of whoever ranges. -/
theorem Eff.round {d : Nat} {fx : Operand} {args : List Operand} {tys : Array TypeId} {l : Nat} {γ σ : Type} {v : γ → Value} {Y : γ → List (Nat × Res)} {ok : List γ → γ → Prop} {J : σ → Res} {Rel Relx : List γ → σ → Prop} {B0 : List (Nat × Res)} (hY : RoundAt P W l v Y ok J Rel Relx) (pre : List γ) (x : γ) (s : σ)
    (hx : opv T fx = some (.func (.yield l) #[] #[])) (ha : opvs T args = some [v x]) (hd : Nat.blt d n.n = true) (hRel : Rel pre s) (hok : ok pre x) (hs : subl ((1, J s) :: Y x) B) (h0 : subl B0 B) (hap : apartB ((1, J s) :: Y x) B0 = true) (h1 : lkp B0 1 = none) :
    Eff P W n ⟨some d, .call { callee := .value fx, args := args.toArray, argTypes := tys }, ty, pos, aft, g⟩ T B (fun p : Bool × σ => (p.1 = true → Rel (pre ++ [x]) p.2) ∧ (p.1 = false → Relx (pre ++ [x]) p.2)) (fun p => (d, .bool p.1) :: T) (fun p => (1, J p.2) :: B0) :=
  Eff.yield (fs := #[]) (us := #[]) hx ha hd fun w hm => by
    obtain ⟨fn, tmps, assign, body, hy, hR⟩ := hY pre x s w hRel hok (hm.weak hs)
    refine ⟨fn, tmps, assign, body, by simpa using hy, RoundIn.mono hR fun e w' ⟨s', ht, h⟩ => ?_⟩
    have hm' : Mem W ((1, J s') :: B0) w' := hm.over (.of hs) (.of h0) hap ht (by simp [apartB, h1])
    rcases h with ⟨rfl, hr⟩ | ⟨rfl, hr⟩
    · exact ⟨(true, s'), ⟨fun _ => hr, fun h => (by cases h)⟩, rfl, hm'⟩
    · exact ⟨(false, s'), ⟨fun h => (by cases h), fun _ => hr⟩, rfl, hm'⟩
theorem Mem.relabel {w : World} (l q : Nat) {r : Res} (h : Mem W B w) (hl : lkp B l = some r) : Mem W [(q, r)] w :=
  h.fuse (Bs := [(l, r)]) (B0 := []) q r ⟨hl, trivial⟩ trivial rfl rfl (fun hp => hp.1 l r (lkp_cons_eq _ _ _)) (fun k hk => ⟨l, r, lkp_cons_eq _ _ _, hk⟩)
/-- Many boxes, each with what it holds. -/
def boxesR (e : TypeId) {α : Type} (enc : α → List Value) (rs : List (Nat × α)) : Res where
  own k := ∃ p ∈ rs, p.1 = k
  holds w := ∀ p ∈ rs, w.heap[p.1]? = some (.cells (enc p.2).toArray e (0, 0))
  frame w w' _ h hh := fun p hp => by rw [h p.1 ⟨p, hp, rfl⟩]; exact hh p hp
  inside w h k hk := by
    obtain ⟨p, hp, rfl⟩ := hk
    exact (Array.getElem?_eq_some_iff.1 (h p hp)).1
theorem Val.loadBox {α : Type} {enc : α → List Value} {rs : List (Nat × α)} {e t : TypeId} {x : Operand} {b off : Nat} {u : α} {v : Value} (l : Nat) (hx : opv T x = some (.pointer (some ⟨b, off, none⟩))) (hs : scal P t = true) (hl : lkp B l = some (boxesR e enc rs)) (hmem : (b, u) ∈ rs) (hk : (enc u)[off]? = some v) : Val P W n ⟨dst, .load t x, ty, pos, aft, g⟩ T B v := fun act w ht hm => by
  have h : w.heap[b]? = some (.cells (enc u).toArray e (0, 0)) := hm.holds l _ hl (b, u) hmem
  have hc : w.cell? ⟨b, off, none⟩ = some v := by simp [World.cell?, h, hk]
  simp only [execOp, ht.eval hx, Instr.loadAt, Instr.sureAddr, Sem.run_bind, Sem.run_pure, Result.andThen_ok, run_loadVar_scal hs hc]
theorem Mem.boxes0 {w : World} (l : Nat) (e : TypeId) {α : Type} (enc : α → List Value) (h : Mem W B w) : Mem W ((l, boxesR e enc []) :: B) w :=
  h.add (Below.refl _ _) l _ (fun p hp => by cases hp) (fun k ⟨p, hp, _⟩ => by cases hp)
theorem Mem.boxed {w : World} {α : Type} {enc : α → List Value} {rs : List (Nat × α)} {e : TypeId} {q lb b : Nat} {cs : List Value} {B0 : List (Nat × Res)} (u : α) (h : Mem W B w) (hb : lkp B lb = some (blk b cs e)) (hq : lkp B q = some (boxesR e enc rs)) (hne : Nat.beq q lb = false) (hcs : cs = enc u) (h0 : subl B0 B) (ha : apartB [(q, boxesR e enc rs), (lb, blk b cs e)] B0 = true) : Mem W ((q, boxesR e enc (rs ++ [(b, u)])) :: B0) w := by
  have hn : q ≠ lb := fun e => by subst e; simp at hne
  have hlb : lkp [(q, boxesR e enc rs), (lb, blk b cs e)] lb = some (blk b cs e) := (lkp_cons_ne _ _ hn).trans (lkp_cons_eq _ _ _)
  refine h.fuse (Bs := [(q, boxesR e enc rs), (lb, blk b cs e)]) q _ ⟨hq, hb, trivial⟩ h0 ha ?_ (fun hp p hpm => ?_) (fun k ⟨p, hpm, hk⟩ => ?_)
  · simp only [apartB, Bool.and_eq_true] at ha; simpa using ha.1
  · rcases List.mem_append.1 hpm with h1 | h1
    · exact hp.1 q _ (lkp_cons_eq _ _ _) p h1
    · simp at h1; subst h1
      have h2 := hp.1 lb _ hlb
      subst hcs; exact h2
  · rcases List.mem_append.1 hpm with h1 | h1
    · exact ⟨q, _, lkp_cons_eq _ _ _, p, h1, hk⟩
    · simp at h1; subst h1
      exact ⟨lb, _, hlb, hk.symm⟩
theorem Val.loadRowA {α : Type} {enc : α → List Value} {xs : List α} {t e : TypeId} {x : Operand} {a : Option Addr} {cap sz i : Nat} {u : α} (l : Nat) (hx : opv T x = some (.pointer (eptr a (i * sz)))) (hs : aggn P t sz = true) (hl : lkp B l = some (rowL e sz enc a cap xs)) (hlen : ∀ y, (enc y).length = sz) (hi : xs[i]? = some u) : Val P W n ⟨dst, .load t x, ty, pos, aft, g⟩ T B (.agg (enc u).toArray) := fun act w ht hm => by
  obtain ⟨b, off, rfl, _, hc⟩ := Rdb.of_row hm hl hlen i u hi
  have hs' : aggn P t (enc u).length = true := by rw [hlen]; exact hs
  have hld := run_loadVar_agg hs' (ad := ⟨b, off + i * sz, none⟩) (w := w) (vs := enc u) fun j v hj => by
    rw [cell_add]
    have := hc j v hj
    rwa [← Nat.add_assoc] at this
  simp only [execOp, ht.eval hx, eptr, Instr.loadAt, Instr.sureAddr, Sem.run_bind, Sem.run_pure, Result.andThen_ok, hld]
theorem Mem.rowSome {w : World} {l : Nat} {e : TypeId} {sz : Nat} {α : Type} {enc : α → List Value} {a : Option Addr} {cap : Nat} {xs : List α} (h : Mem W B w) (hl : lkp B l = some (rowL e sz enc a cap xs)) (hx : xs ≠ []) : a.isSome = true := by
  have hown : w.ownsRow 0 e sz (.slice a xs.length cap) xs.length (xs.flatMap enc) := h.holds l _ hl
  rcases hown.2 with ⟨_, hn⟩ | ⟨g, c0, cur, hv, _⟩
  · exact absurd (List.eq_nil_of_length_eq_zero hn) hx
  · injection hv with h1; rw [h1]; rfl
end
end Go.Kx
