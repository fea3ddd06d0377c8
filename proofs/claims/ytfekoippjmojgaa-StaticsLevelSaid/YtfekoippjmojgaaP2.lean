/- Plain law of levels: on level ground all cylinders are nearly equally long; raised ground changes no length by much. No program is walked here. -/
import Derived.Test.YtfekoippjmojgaaS15
namespace Go.Proofs.Ytfekoippjmojgaa
set_option linter.unusedVariables false
set_option linter.unusedSimpArgs false
set_option linter.constructorNameAsVariable false
open Go.Kx Go.RowKit
/-- A support without bounds of its own. -/
def wide (s : Sup) : Sup := { s with least := 0, most := 4096 }
def cnt (k : Int) : List Sup → Int
  | [] => 0
  | s :: r => (if s.g = k then 1 else 0) + cnt k r
theorem hsum_const (k c : Int) : ∀ xs : List Sup, hsum k xs (List.replicate xs.length c) = c * cnt k xs
  | [] => by simp [hsum, cnt]
  | s :: r => by
    have := hsum_const k c r
    simp only [List.length_cons, List.replicate_succ, hsum, cnt, this]
    split <;> grind
theorem hsum_raise (k c : Int) : ∀ (xs : List Sup) (lo : List Int), lo.length = xs.length → hsum k xs (lo.map (· + c)) = hsum k xs lo + c * cnt k xs
  | [], lo, h => by simp [hsum, cnt]
  | s :: r, [], h => by simp at h
  | s :: r, g :: t, h => by
    have := hsum_raise k c r t (by simpa using h)
    simp only [List.map_cons, hsum, cnt, this]
    split <;> grind
theorem cnt_wide (k : Int) : ∀ xs : List Sup, cnt k (xs.map wide) = cnt k xs
  | [] => rfl
  | s :: r => by
    simp only [List.map_cons, cnt, cnt_wide k r]; rfl
theorem addW_wide (m : M9) (s : Sup) : addW m (wide s) = addW m s := rfl
theorem foldW_wide : ∀ (xs : List Sup) (m : M9), (xs.map wide).foldl addW m = xs.foldl addW m
  | [], m => rfl
  | s :: r, m => by
    simp only [List.map_cons, List.foldl_cons, addW_wide]
    exact foldW_wide r _
theorem sums_wide (xs : List Sup) : sumsW (xs.map wide) = sumsW xs := foldW_wide xs zero9
theorem valid_wide {s : Sup} (h : validSup s = true) : validSup (wide s) = true := by
  obtain ⟨h1, h2, h3, h4, h5, h6, h7⟩ := validSup_b h
  show (between s.x (-131072) 131072 && between s.y (-131072) 131072 && decide (0 ≤ s.g) && decide (s.g ≤ 2) && between s.lim 1 1048576 && !decide ((0 : Int) < 0) && !decide ((4096 : Int) < 0) && !decide ((4096 : Int) < 4096)) = true
  rw [between_iff.2 h1, between_iff.2 h2, between_iff.2 h4, decide_eq_true h3.1, decide_eq_true h3.2]
  rfl
theorem deck_wide {xs : List Sup} (h : deckErr xs = 0) : deckErr (xs.map wide) = 0 := by
  obtain ⟨h3, h48, ha, hz⟩ := deck_all h
  unfold deckErr
  rw [List.length_map, if_neg (by omega), if_pos, sums_wide, if_neg hz]
  rw [List.all_eq_true] at ha ⊢
  intro s hs
  obtain ⟨t, ht, rfl⟩ := List.mem_map.1 hs
  exact valid_wide (ha t ht)
/-- The numbers of the groups' supports. -/
theorem fold_cnt : ∀ (xs : List Sup) {m : M9} {i : Int}, Mb i m → i + xs.length ≤ 48 → xs.all validSup = true →
    (xs.foldl addW m).r0.n = m.r0.n + cnt 0 xs ∧ (xs.foldl addW m).r1.n = m.r1.n + cnt 1 xs ∧ (xs.foldl addW m).r2.n = m.r2.n + cnt 2 xs
  | [], m, i, _, _, _ => by simp [cnt]
  | s :: r, m, i, h, hl, hv => by
    simp only [List.all_cons, Bool.and_eq_true] at hv
    simp only [List.length_cons] at hl
    have ih := fold_cnt r (addW_ok h (by omega) hv.1) (by omega) hv.2
    have hg := (validSup_b hv.1).2.2.1
    have n0 := h.h0.n; have n1 := h.h1.n; have n2 := h.h2.n; have ht := h.tot
    have key : (addW m s).r0.n = m.r0.n + (if s.g = 0 then 1 else 0) ∧ (addW m s).r1.n = m.r1.n + (if s.g = 1 then 1 else 0) ∧ (addW m s).r2.n = m.r2.n + (if s.g = 2 then 1 else 0) := by
      unfold addW
      by_cases g0 : s.g = 0
      · rw [if_pos g0]
        have := (add3_ok h.h0 hv.1 (by omega)).1
        simp only [this, g0]; simp
      · by_cases g1 : s.g = 1
        · rw [if_neg g0, if_pos g1]
          have := (add3_ok h.h1 hv.1 (by omega)).1
          simp only [this, g1]; simp
        · rw [if_neg g0, if_neg g1]
          have g2 : s.g = 2 := by omega
          have := (add3_ok h.h2 hv.1 (by omega)).1
          simp only [this, g2]; simp
    rw [List.foldl_cons]
    simp only [cnt]
    omega
theorem sums_cnt {xs : List Sup} (h : deckErr xs = 0) : (sumsW xs).r0.n = cnt 0 xs ∧ (sumsW xs).r1.n = cnt 1 xs ∧ (sumsW xs).r2.n = cnt 2 xs := by
  obtain ⟨_, h48, ha, _⟩ := deck_all h
  have := fold_cnt xs (m := zero9) (i := 0) ⟨⟨by decide, by decide, by decide⟩, ⟨by decide, by decide, by decide⟩, ⟨by decide, by decide, by decide⟩, rfl⟩ (by omega) ha
  simpa [zero9, sumsW] using this
/-- Three quotients, rounded down, together. -/
theorem floor3 {d a b c : Int} (hd : 0 < d) : ∃ r, d * (a / d + b / d + c / d) = a + b + c - r ∧ 0 ≤ r ∧ r ≤ 3 * d - 3 := by
  have a1 := Int.emod_add_mul_ediv a d; have a2 := Int.emod_nonneg a (show d ≠ 0 by omega); have a3 := Int.emod_lt_of_pos a hd
  have b1 := Int.emod_add_mul_ediv b d; have b2 := Int.emod_nonneg b (show d ≠ 0 by omega); have b3 := Int.emod_lt_of_pos b hd
  have c1 := Int.emod_add_mul_ediv c d; have c2 := Int.emod_nonneg c (show d ≠ 0 by omega); have c3 := Int.emod_lt_of_pos c hd
  exact ⟨a % d + b % d + c % d, by rw [Int.mul_add, Int.mul_add]; omega, by omega, by omega⟩
theorem mul_between {d z lo hi : Int} (hd : 0 < d) (h1 : d * lo - d < d * z) (h2 : d * z < d * hi + d) : lo ≤ z ∧ z ≤ hi := by
  constructor
  · by_cases h : lo ≤ z
    · exact h
    · have : d * z ≤ d * (lo - 1) := Int.mul_le_mul_of_nonneg_left (by omega) (by omega)
      rw [Int.mul_sub, Int.mul_one] at this; omega
  · by_cases h : z ≤ hi
    · exact h
    · have : d * (hi + 1) ≤ d * z := Int.mul_le_mul_of_nonneg_left (by omega) (by omega)
      rw [Int.mul_add, Int.mul_one] at this; omega
def hq (m : M9) (n0 n1 n2 x y : Int) : Int := n0 * q0 m x y / qd m + n1 * q1 m x y / qd m + n2 * q2 m x y / qd m
def ov (m : M9) (x y : Int) : Bool := over (q0 m x y) (qd m) || (over (q1 m x y) (qd m) || over (q2 m x y) (qd m))
theorem heightQ_eq (m : M9) (n0 n1 n2 x y : Int) : heightQ m n0 n1 n2 x y = if ov m x y then (0, 4) else (hq m n0 n1 n2 x y, 0) := rfl
theorem hq_level {xs : List Sup} {m : M9} (g : Good xs m) (C x y : Int) : C - 2 ≤ hq m (C * m.r0.n) (C * m.r1.n) (C * m.r2.n) x y ∧ hq m (C * m.r0.n) (C * m.r1.n) (C * m.r2.n) x y ≤ C := by
  have hd := g.wh.2.1
  obtain ⟨r, h1, h2, h3⟩ := floor3 (a := C * m.r0.n * q0 m x y) (b := C * m.r1.n * q1 m x y) (c := C * m.r2.n * q2 m x y) hd
  have hb := g.bal x y
  have e : C * m.r0.n * q0 m x y + C * m.r1.n * q1 m x y + C * m.r2.n * q2 m x y = qd m * C := by rw [← hb]; grind
  rw [e] at h1
  unfold hq
  exact mul_between hd (by rw [h1, Int.mul_sub]; omega) (by rw [h1]; omega)
theorem hq_raise {xs : List Sup} {m : M9} (g : Good xs m) (C a b c x y : Int) : C - 2 ≤ hq m (a + C * m.r0.n) (b + C * m.r1.n) (c + C * m.r2.n) x y - hq m a b c x y ∧ hq m (a + C * m.r0.n) (b + C * m.r1.n) (c + C * m.r2.n) x y - hq m a b c x y ≤ C + 2 := by
  have hd := g.wh.2.1
  obtain ⟨r, h1, h2, h3⟩ := floor3 (a := (a + C * m.r0.n) * q0 m x y) (b := (b + C * m.r1.n) * q1 m x y) (c := (c + C * m.r2.n) * q2 m x y) hd
  obtain ⟨s, k1, k2, k3⟩ := floor3 (a := a * q0 m x y) (b := b * q1 m x y) (c := c * q2 m x y) hd
  have hb := g.bal x y
  have e : (a + C * m.r0.n) * q0 m x y + (b + C * m.r1.n) * q1 m x y + (c + C * m.r2.n) * q2 m x y = qd m * C + (a * q0 m x y + b * q1 m x y + c * q2 m x y) := by rw [← hb]; grind
  rw [e] at h1
  unfold hq
  refine mul_between hd ?_ ?_
  · rw [Int.mul_sub (qd m) (_ + _ + _), h1, k1, Int.mul_sub]; omega
  · rw [Int.mul_sub, h1, k1, Int.mul_add]; omega
/-- What the lists of a level are. -/
structure Lists (xs q : List Sup) (lv lo hv : List Int) (raise : Int) : Prop where
  hq : q = xs.map wide
  hlv : lv = List.replicate xs.length 500
  hlo : lo.length = xs.length
  hsm : ∀ g ∈ lo, -1000 ≤ g ∧ g ≤ 1000
  hhv : hv = lo.map (· + raise)
section
variable {xs q : List Sup} {lv lo hv : List Int} {raise c : Int}
theorem ground_ok' {gs : List Int} {n0 n1 n2 : Int} (h0 : deckErr xs = 0) (hq : q = xs.map wide) (hl : gs.length = xs.length) (hg : ∀ g ∈ gs, -16384 ≤ g ∧ g ≤ 16384) (h1 : 0 ≤ n0 ∧ n0 ≤ 196608) (h2 : 0 ≤ n1 ∧ n1 ≤ 196608) (h3 : 0 ≤ n2 ∧ n2 ≤ 196608) : groundErr q gs n0 n1 n2 = 0 := by
  subst hq
  unfold groundErr
  rw [if_pos (deck_wide h0), if_pos (by rw [List.length_map]; exact hl), if_pos (show gs.all okg = true from List.all_eq_true.2 fun g hg' => between_iff.2 (hg g hg')), if_pos]
  simp only [fillOk, Bool.and_eq_true, between_iff]
  exact ⟨h1, h2, h3⟩
theorem fills {c : Int} (h0 : deckErr xs = 0) (hc : 0 ≤ c ∧ c ≤ 2000) : (0 ≤ c * (sumsW xs).r0.n ∧ c * (sumsW xs).r0.n ≤ 196608) ∧ (0 ≤ c * (sumsW xs).r1.n ∧ c * (sumsW xs).r1.n ≤ 196608) ∧ (0 ≤ c * (sumsW xs).r2.n ∧ c * (sumsW xs).r2.n ≤ 196608) := by
  have g := good h0
  have key : ∀ n : Int, 0 ≤ n ∧ n ≤ 48 → 0 ≤ c * n ∧ c * n ≤ 196608 := fun n hn => by
    have h1 := Int.mul_nonneg hc.1 hn.1
    have h2 : c * n ≤ 2000 * n := Int.mul_le_mul_of_nonneg_right hc.2 hn.1
    omega
  exact ⟨key _ g.b.h0.n, key _ g.b.h1.n, key _ g.b.h2.n⟩
/-- Each cylinder of a list: what it comes to. -/
theorem strokes_all {gs : List Int} {n0 n1 n2 : Int} (hg : groundErr q gs n0 n1 n2 = 0) : StrokesE q gs n0 n1 n2 = errL (strokesL q gs n0 n1 n2) := by unfold StrokesE; rw [if_pos hg]
theorem errL_cases : ∀ {l : List (Int × Int)}, (∃ p ∈ l, p.2 ≠ 0 ∧ errL l = p.2) ∨ (errL l = 0 ∧ ∀ p ∈ l, p.2 = 0)
  | [] => .inr ⟨rfl, by simp⟩
  | p :: r => by
    by_cases h : p.2 = 0
    · rcases errL_cases (l := r) with ⟨p', hp, hz, he⟩ | ⟨he, ha⟩
      · exact .inl ⟨p', by simp [hp], hz, by simp only [errL, h, if_true]; exact he⟩
      · exact .inr ⟨by simp only [errL, h, if_true]; exact he, fun z hz => by
          rcases List.mem_cons.1 hz with rfl | hz
          · exact h
          · exact ha z hz⟩
    · exact .inl ⟨p, by simp, h, by simp [errL, h]⟩
theorem strokesL_mem {gs : List Int} {n0 n1 n2 : Int} {p : Int × Int} (h : p ∈ strokesL q gs n0 n1 n2) : ∃ (i : Nat) (x : Sup) (g : Int), q[i]? = some x ∧ gs[i]? = some g ∧ p = st1 (sumsW q) (n0 + hsum 0 q gs) (n1 + hsum 1 q gs) (n2 + hsum 2 q gs) x g := by
  obtain ⟨i, hi⟩ := List.mem_iff_getElem?.1 h
  unfold strokesL at hi
  rw [List.getElem?_zipWith] at hi
  cases hx : q[i]? with
  | none => rw [hx] at hi; simp at hi
  | some x =>
    cases hg : gs[i]? with
    | none => rw [hx, hg] at hi; simp at hi
    | some g => rw [hx, hg] at hi; simp at hi; exact ⟨i, x, g, hx, hg, hi.symm⟩
theorem st1_err {m : M9} {n0 n1 n2 : Int} {x : Sup} {g : Int} : (st1 m n0 n1 n2 x g).2 = if ov m x.x x.y then 4 else if between (hq m n0 n1 n2 x.x x.y - g) x.least x.most then 0 else 14 := by
  unfold st1
  rw [heightQ_eq]
  cases h : ov m x.x x.y
  · simp only [Bool.false_eq_true, if_false, if_true]
    split <;> rfl
  · simp
theorem st1_val {m : M9} {n0 n1 n2 : Int} {x : Sup} {g : Int} (h : (st1 m n0 n1 n2 x g).2 = 0) : (st1 m n0 n1 n2 x g).1 = hq m n0 n1 n2 x.x x.y - g := by
  rw [st1_err] at h
  unfold st1
  rw [heightQ_eq]
  cases ho : ov m x.x x.y
  · rw [ho] at h
    simp only [Bool.false_eq_true, if_false, if_true] at h ⊢
    split at h
    · rename_i hb; rw [if_pos hb]
    · cases h
  · rw [ho] at h; simp at h
/-- On level ground. -/
theorem level_law (h0 : deckErr xs = 0) (L : Lists xs q lv lo hv raise) (hc : 1000 ≤ c ∧ c ≤ 1255) (E : Int) (Y : List Int) (hE : StrokesE q lv (c * (sumsW xs).r0.n) (c * (sumsW xs).r1.n) (c * (sumsW xs).r2.n) = E) (hY : StrokesY q lv (c * (sumsW xs).r0.n) (c * (sumsW xs).r1.n) (c * (sumsW xs).r2.n) = Y) :
    (E = 4 ∨ E = 0) ∧ (E = 0 → (Y.length = q.length ∧ ∀ (i : Nat) (y : Int), Y[i]? = some y → c - 3 ≤ y ∧ y ≤ c + 3) ∧ ∀ (i : Nat) (x : Sup), q[i]? = some x → ov (sumsW xs) x.x x.y = false) := by
  have hq' := L.hq; have hlv := L.hlv
  have g := good h0
  obtain ⟨f0, f1, f2⟩ := fills (c := c) h0 (by omega)
  have hlen : lv.length = xs.length := by rw [hlv]; simp
  have hge : groundErr q lv (c * (sumsW xs).r0.n) (c * (sumsW xs).r1.n) (c * (sumsW xs).r2.n) = 0 := ground_ok' h0 hq' hlen (fun z hz => by rw [hlv] at hz; have := List.eq_of_mem_replicate hz; omega) f0 f1 f2
  have hsw : sumsW q = sumsW xs := by rw [hq', sums_wide]
  obtain ⟨c0, c1, c2⟩ := sums_cnt h0
  have hh : ∀ k, hsum k q lv = 500 * cnt k xs := fun k => by
    rw [hlv, hq', show xs.length = (xs.map wide).length from by simp, hsum_const, cnt_wide]
  have key : ∀ p ∈ strokesL q lv (c * (sumsW xs).r0.n) (c * (sumsW xs).r1.n) (c * (sumsW xs).r2.n), p.2 = 0 ∨ p.2 = 4 := fun p hp => by
    obtain ⟨i, x, gg, hx, hg, rfl⟩ := strokesL_mem hp
    rw [st1_err]
    split
    · exact .inr rfl
    · left
      have hxw : x.least = 0 ∧ x.most = 4096 := by
        rw [hq', List.getElem?_map] at hx
        cases hz : xs[i]? with
        | none => rw [hz] at hx; cases hx
        | some z => rw [hz] at hx; simp at hx; rw [← hx]; exact ⟨rfl, rfl⟩
      have hgg : gg = 500 := by rw [hlv] at hg; exact List.eq_of_mem_replicate (List.mem_of_getElem? hg)
      have hl := hq_level g (c + 500) x.x x.y
      rw [hsw, hh, hh, hh, ← c0, ← c1, ← c2, ← Int.add_mul, ← Int.add_mul, ← Int.add_mul, if_pos]
      rw [between_iff]
      omega
  have hS := strokes_all hge
  rw [hE] at hS
  refine ⟨?_, fun hz => ?_⟩
  · rcases errL_cases (l := strokesL q lv (c * (sumsW xs).r0.n) (c * (sumsW xs).r1.n) (c * (sumsW xs).r2.n)) with ⟨p, hp, hpz, he⟩ | ⟨he, _⟩
    · rcases key p hp with h | h
      · exact absurd h hpz
      · left; rw [hS, he, h]
    · right; rw [hS, he]
  · have hall : ∀ p ∈ strokesL q lv (c * (sumsW xs).r0.n) (c * (sumsW xs).r1.n) (c * (sumsW xs).r2.n), p.2 = 0 := by
      rcases errL_cases (l := strokesL q lv (c * (sumsW xs).r0.n) (c * (sumsW xs).r1.n) (c * (sumsW xs).r2.n)) with ⟨p, hp, hpz, he⟩ | ⟨_, ha⟩
      · rw [← he, ← hS] at hpz; exact absurd hz hpz
      · exact ha
    have hYe : Y = (strokesL q lv (c * (sumsW xs).r0.n) (c * (sumsW xs).r1.n) (c * (sumsW xs).r2.n)).map (·.1) := by
      rw [← hY]; unfold StrokesY; rw [if_pos (by rw [hE]; exact hz)]
    refine ⟨⟨?_, fun i y hy => ?_⟩, fun i x hx => ?_⟩
    · rw [hYe, List.length_map]; unfold strokesL; rw [List.length_zipWith, hlen, hq', List.length_map]; omega
    · rw [hYe, List.getElem?_map] at hy
      cases hp : (strokesL q lv (c * (sumsW xs).r0.n) (c * (sumsW xs).r1.n) (c * (sumsW xs).r2.n))[i]? with
      | none => rw [hp] at hy; cases hy
      | some p =>
        rw [hp] at hy; simp at hy
        have hm := List.mem_of_getElem? hp
        have hz0 := hall p hm
        obtain ⟨j, x, gg, hx, hg, he⟩ := strokesL_mem hm
        have hgg : gg = 500 := by rw [hlv] at hg; exact List.eq_of_mem_replicate (List.mem_of_getElem? hg)
        rw [he] at hz0 hy
        rw [st1_val hz0] at hy
        have hl := hq_level g (c + 500) x.x x.y
        rw [hsw, hh, hh, hh, ← c0, ← c1, ← c2, ← Int.add_mul, ← Int.add_mul, ← Int.add_mul] at hy
        omega
    · have hgx : ∃ gg, lv[i]? = some gg := ⟨_, List.getElem?_eq_getElem (by have := (List.getElem?_eq_some_iff.1 hx).1; rw [hq', List.length_map] at this; omega)⟩
      obtain ⟨gg, hg⟩ := hgx
      have hm := List.mem_of_getElem? (strokesL_at (f0 := c * (sumsW xs).r0.n) (f1 := c * (sumsW xs).r1.n) (f2 := c * (sumsW xs).r2.n) hx hg)
      have := hall _ hm
      rw [st1_err, hsw] at this
      cases ho : ov (sumsW xs) x.x x.y with
      | false => rfl
      | true => rw [ho] at this; simp at this
theorem raise_err (hE0 : ∀ (i : Nat) (x : Sup), q[i]? = some x → ov (sumsW xs) x.x x.y = false) (hsw : sumsW q = sumsW xs) {gs : List Int} {n0 n1 n2 : Int} (hge : groundErr q gs n0 n1 n2 = 0) : StrokesE q gs n0 n1 n2 = 0 ∨ StrokesE q gs n0 n1 n2 = 14 := by
  rw [strokes_all hge]
  rcases errL_cases (l := strokesL q gs n0 n1 n2) with ⟨p, hp, hpz, he⟩ | ⟨he, _⟩
  · obtain ⟨i, x, gg, hx, hg, rfl⟩ := strokesL_mem hp
    rw [he, st1_err, hsw, hE0 i x hx]
    simp only [Bool.false_eq_true, if_false]
    split
    · exact .inl rfl
    · exact .inr rfl
  · exact .inl he
/-- On raised ground. -/
theorem raise_law (h0 : deckErr xs = 0) (L : Lists xs q lv lo hv raise) (hc : 1000 ≤ c ∧ c ≤ 1255) (hr : 0 ≤ raise ∧ raise ≤ 255) (hE0 : ∀ (i : Nat) (x : Sup), q[i]? = some x → ov (sumsW xs) x.x x.y = false) (E1 E2 : Int) (Y1 Y2 : List Int)
    (hE1 : StrokesE q lo (c * (sumsW xs).r0.n) (c * (sumsW xs).r1.n) (c * (sumsW xs).r2.n) = E1) (hY1 : StrokesY q lo (c * (sumsW xs).r0.n) (c * (sumsW xs).r1.n) (c * (sumsW xs).r2.n) = Y1)
    (hE2 : StrokesE q hv (c * (sumsW xs).r0.n) (c * (sumsW xs).r1.n) (c * (sumsW xs).r2.n) = E2) (hY2 : StrokesY q hv (c * (sumsW xs).r0.n) (c * (sumsW xs).r1.n) (c * (sumsW xs).r2.n) = Y2) :
    (E1 = 0 ∨ E1 = 14) ∧ (E2 = 0 ∨ E2 = 14) ∧ (E1 = 0 → E2 = 0 → Y1.length = Y2.length ∧ ∀ (i : Nat) (a b : Int), Y1[i]? = some a → Y2[i]? = some b → a - b ≤ 3 ∧ b - a ≤ 3) := by
  have hq' := L.hq; have hhv := L.hhv; have hlo := L.hlo
  have g := good h0
  obtain ⟨f0, f1, f2⟩ := fills (c := c) h0 (by omega)
  have hsw : sumsW q = sumsW xs := by rw [hq', sums_wide]
  have hlen : hv.length = xs.length := by rw [hhv, List.length_map, hlo]
  have ge1 := ground_ok' (q := q) (gs := lo) h0 hq' hlo (fun z hz => by have := L.hsm z hz; omega) f0 f1 f2
  have ge2 := ground_ok' (q := q) (gs := hv) h0 hq' hlen (fun z hz => by
    rw [hhv] at hz
    obtain ⟨y, hy, rfl⟩ := List.mem_map.1 hz
    have := L.hsm y hy
    omega) f0 f1 f2
  have e1 := raise_err hE0 hsw ge1
  have e2 := raise_err hE0 hsw ge2
  rw [hE1] at e1; rw [hE2] at e2
  refine ⟨e1, e2, fun z1 z2 => ?_⟩
  have hall : ∀ gs E, groundErr q gs (c * (sumsW xs).r0.n) (c * (sumsW xs).r1.n) (c * (sumsW xs).r2.n) = 0 → StrokesE q gs (c * (sumsW xs).r0.n) (c * (sumsW xs).r1.n) (c * (sumsW xs).r2.n) = E → E = 0 → ∀ p ∈ strokesL q gs (c * (sumsW xs).r0.n) (c * (sumsW xs).r1.n) (c * (sumsW xs).r2.n), p.2 = 0 := fun gs E hg hE hz => by
    rw [strokes_all hg] at hE
    rcases errL_cases (l := strokesL q gs (c * (sumsW xs).r0.n) (c * (sumsW xs).r1.n) (c * (sumsW xs).r2.n)) with ⟨p, hp, hpz, he⟩ | ⟨_, ha⟩
    · rw [← he, hE] at hpz; exact absurd hz hpz
    · exact ha
  have a1 := hall lo E1 ge1 hE1 z1
  have a2 := hall hv E2 ge2 hE2 z2
  have y1 : Y1 = (strokesL q lo (c * (sumsW xs).r0.n) (c * (sumsW xs).r1.n) (c * (sumsW xs).r2.n)).map (·.1) := by rw [← hY1]; unfold StrokesY; rw [if_pos (by rw [hE1]; exact z1)]
  have y2 : Y2 = (strokesL q hv (c * (sumsW xs).r0.n) (c * (sumsW xs).r1.n) (c * (sumsW xs).r2.n)).map (·.1) := by rw [← hY2]; unfold StrokesY; rw [if_pos (by rw [hE2]; exact z2)]
  refine ⟨by rw [y1, y2]; simp only [List.length_map, strokesL, List.length_zipWith]; omega, fun i a b ha hb => ?_⟩
  obtain ⟨c0, c1, c2⟩ := sums_cnt h0
  have hh : ∀ k, hsum k q hv = hsum k q lo + raise * cnt k xs := fun k => by
    rw [hhv, hsum_raise k raise q lo (by rw [hq', List.length_map]; exact hlo)]
    rw [show cnt k q = cnt k xs from by rw [hq', cnt_wide]]
  have hi : i < lo.length := by
    have := (List.getElem?_eq_some_iff.1 ha).1
    rw [y1, List.length_map] at this
    unfold strokesL at this; rw [List.length_zipWith] at this; omega
  obtain ⟨gl, hgl⟩ : ∃ z, lo[i]? = some z := ⟨_, List.getElem?_eq_getElem hi⟩
  have hgh : hv[i]? = some (gl + raise) := by rw [hhv, List.getElem?_map, hgl]; rfl
  obtain ⟨x, hx⟩ : ∃ z, q[i]? = some z := ⟨_, List.getElem?_eq_getElem (by rw [hq', List.length_map]; omega)⟩
  have s1 := strokesL_at (f0 := c * (sumsW xs).r0.n) (f1 := c * (sumsW xs).r1.n) (f2 := c * (sumsW xs).r2.n) hx hgl
  have s2 := strokesL_at (f0 := c * (sumsW xs).r0.n) (f1 := c * (sumsW xs).r1.n) (f2 := c * (sumsW xs).r2.n) hx hgh
  have v1 := st1_val (a1 _ (List.mem_of_getElem? s1))
  have v2 := st1_val (a2 _ (List.mem_of_getElem? s2))
  rw [y1, List.getElem?_map, s1] at ha
  rw [y2, List.getElem?_map, s2] at hb
  simp only [Option.map_some, Option.some.injEq] at ha hb
  rw [v1, hsw] at ha
  rw [v2, hsw, hh, hh, hh, ← c0, ← c1, ← c2] at hb
  have hd := hq_raise g raise (c * (sumsW xs).r0.n + hsum 0 q lo) (c * (sumsW xs).r1.n + hsum 1 q lo) (c * (sumsW xs).r2.n + hsum 2 q lo) x.x x.y
  simp only [Int.add_assoc] at hb hd
  omega
end
end Go.Proofs.Ytfekoippjmojgaa
