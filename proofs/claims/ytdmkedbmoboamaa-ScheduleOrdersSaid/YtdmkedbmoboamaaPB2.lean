/- The plain law of the best order: how many orders there are, which they are, and what is the first of those that end soonest. No program in sight. -/
import Derived.Test.YtdmkedbmoboamaaD3
import Derived.Test.YtdmkedbmoboamaaB8
import Derived.Test.YtdmkedbmoboamaaPF
namespace Go.Proofs.Ytdmkedbmoboamaa
open Go.Kx
set_option linter.unusedVariables false
set_option linter.unusedSimpArgs false
set_option linter.unnecessarySimpa false
/-! ### how many -/
def facN : Nat → Int
  | 0 => 1
  | n + 1 => facN n * ((n : Int) + 1)
/-- The product of the factorials of the first k teams' counts. -/
def prodN (J : Jb) : Nat → Int
  | 0 => 1
  | k + 1 => prodN J k * facN (memF (k : Int) 0 J.ts).length
theorem le_mul {a b : Int} (ha : 1 ≤ a) (hb : 1 ≤ b) : a ≤ a * b ∧ b ≤ a * b ∧ 1 ≤ a * b := by
  have h1 := Int.mul_le_mul_of_nonneg_left hb (show 0 ≤ a by omega)
  have h2 := Int.mul_le_mul_of_nonneg_right ha (show 0 ≤ b by omega)
  rw [Int.mul_one] at h1
  rw [Int.one_mul] at h2
  omega
theorem facN_pos : ∀ n, 1 ≤ facN n
  | 0 => by decide
  | n + 1 => (le_mul (facN_pos n) (by omega)).2.2
theorem facN_mono {m n : Nat} (h : m ≤ n) : facN m ≤ facN n := by
  induction h with
  | refl => exact Int.le_refl _
  | step _ ih => exact Int.le_trans ih (le_mul (facN_pos _) (by omega)).1
theorem prodN_pos (J : Jb) : ∀ k, 1 ≤ prodN J k
  | 0 => Int.le_refl 1
  | k + 1 => (le_mul (prodN_pos J k) (facN_pos _)).2.2
theorem prodN_mono {J : Jb} {m n : Nat} (h : m ≤ n) : prodN J m ≤ prodN J n := by
  induction h with
  | refl => exact Int.le_refl _
  | step _ ih => exact Int.le_trans ih (le_mul (prodN_pos J _) (facN_pos _)).1
/-- A product that is too great within a team is too great at the end. -/
theorem prod_over {J : Jb} {i k : Nat} {z : Int} (hi : i < J.gs.length) (hk : k < (memF (i : Int) 0 J.ts).length) (h : z < prodN J i * facN k * ((k : Int) + 1)) : z < prodN J J.gs.length := by
  have h1 : prodN J i * facN k * ((k : Int) + 1) = prodN J i * facN (k + 1) := by rw [facN, Int.mul_assoc]
  have h2 : prodN J i * facN (k + 1) ≤ prodN J (i + 1) := Int.mul_le_mul_of_nonneg_left (facN_mono (by omega)) (by have := prodN_pos J i; omega)
  have h3 := prodN_mono (J := J) (show i + 1 ≤ J.gs.length by omega)
  omega
def rise : Nat → Nat → Int
  | 0, _ => 1
  | m + 1, j => (j : Int) * rise m (j + 1)
theorem minmul {q j : Int} (hj : 1 ≤ j) (hq : 1 ≤ q) : Min.min (Min.min q 5041 * j) 5041 = Min.min (q * j) 5041 := by
  have h1 := le_mul hq hj
  by_cases h : q ≤ 5041
  · rw [Int.min_eq_left h]
  · rw [Int.min_eq_right (by omega : (5041 : Int) ≤ q)]
    have := le_mul (show (1 : Int) ≤ 5041 by omega) hj
    omega
theorem facS_rise : ∀ (m j : Nat) (q : Int), 1 ≤ j → 1 ≤ q → facS m j (Min.min q 5041) = Min.min (q * rise m j) 5041
  | 0, j, q, _, _ => by rw [facS, rise, Int.mul_one]
  | m + 1, j, q, hj, hq => by
    have h1 := le_mul hq (show (1 : Int) ≤ (j : Int) by omega)
    rw [facS, minmul (by omega) hq, facS_rise m (j + 1) (q * j) (by omega) h1.2.2, rise, Int.mul_assoc]
theorem facN_rise : ∀ (m j : Nat), facN j * rise m (j + 1) = facN (j + m)
  | 0, j => by rw [rise, Int.mul_one]; rfl
  | m + 1, j => by
    rw [rise, ← Int.mul_assoc]
    have := facN_rise m (j + 1)
    rw [facN] at this
    rw [show j + (m + 1) = j + 1 + m from by omega, ← this]
    rfl
theorem facS_fac (n : Nat) {q : Int} (hq : 1 ≤ q) : facS (n - 1) 2 (Min.min q 5041) = Min.min (q * facN n) 5041 := by
  rw [facS_rise _ _ _ (by omega) hq]
  cases n with
  | zero => rfl
  | succ m =>
    have := facN_rise m 1
    rw [show facN 1 = 1 from by decide, Int.one_mul, Nat.add_comm 1 m] at this
    rw [Nat.add_sub_cancel, this]
theorem many_prod {J : Jb} : ∀ (m k : Nat), manyF J m k (Min.min (prodN J k) 5041) = Min.min (prodN J (k + m)) 5041
  | 0, k => rfl
  | m + 1, k => by
    have h := many_prod m (k + 1) (J := J)
    rw [manyF, facS_fac _ (prodN_pos J k)]
    rw [show k + (m + 1) = k + 1 + m from by omega, ← h]
    rfl
theorem many_eq (J : Jb) : manyF J J.gs.length 0 1 = Min.min (prodN J J.gs.length) 5041 := by
  have := many_prod (J := J) J.gs.length 0
  rw [Nat.zero_add] at this
  exact this
theorem turnI_len {r : Nat} {p rs : List Int} {c : Int} (h : ∀ i x, rs[i]? = some x → ((turnsF r (p ++ [x]) (rs.take i ++ rs.drop (i + 1))).length : Int) = c) : ∀ k, k ≤ rs.length → ((turnI r p rs k).length : Int) = c * k
  | 0, _ => by simp [turnI]
  | k + 1, hk => by
    have hx : rs[k]? = some rs[k] := List.getElem?_eq_getElem (by omega)
    rw [turnI_succ hx, List.length_append]
    have := turnI_len h k (by omega)
    have := h k _ hx
    have e : c * ((k + 1 : Nat) : Int) = c * k + c := by rw [show ((k + 1 : Nat) : Int) = (k : Int) + 1 from by omega, Int.mul_add, Int.mul_one]
    omega
theorem turnsF_len : ∀ (n : Nat) (p r : List Int), r.length = n → ((turnsF n p r).length : Int) = facN n
  | 0, p, r, _ => by rw [turnsF]; rfl
  | n + 1, p, r, h => by
    rw [turnsF_succ, turnI_len (c := facN n) (fun i x hx => ?_) r.length (Nat.le_refl _), h]
    · rw [facN]; congr 1
    · have hi := (List.getElem?_eq_some_iff.1 hx).1
      exact turnsF_len n _ _ (by simp only [List.length_append, List.length_take, List.length_drop]; omega)
/-! ### which -/
theorem ordD_mem : ∀ (ts : List (List (List Int))) (o z : List (List Int)), z ∈ ordD ts o ↔ ∃ q, z = o ++ q ∧ q.length = ts.length ∧ ∀ (i : Nat) (t : List Int) (l : List (List Int)), q[i]? = some t → ts[i]? = some l → t ∈ l
  | [], o, z => by
    rw [ordD]
    constructor
    · intro h
      exact ⟨[], by simpa using h, rfl, fun i t l h => by simp at h⟩
    · rintro ⟨q, rfl, h, _⟩
      have : q = [] := List.length_eq_zero_iff.1 h
      subst this; simp
  | l :: r, o, z => by
    rw [ordD, List.mem_flatMap]
    constructor
    · rintro ⟨t, ht, hz⟩
      obtain ⟨q, rfl, h1, h2⟩ := (ordD_mem r _ z).1 hz
      refine ⟨t :: q, by simp, by simp [h1], fun i u k hu hk => ?_⟩
      cases i with
      | zero => simp at hu hk; subst hu hk; exact ht
      | succ i => exact h2 i u k (by simpa using hu) (by simpa using hk)
    · rintro ⟨q, rfl, h1, h2⟩
      cases q with
      | nil => simp at h1
      | cons t q =>
        exact ⟨t, h2 0 t l rfl rfl, (ordD_mem r _ _).2 ⟨q, by simp, by simpa using h1, fun i u k hu hk => h2 (i + 1) u k (by simpa using hu) (by simpa using hk)⟩⟩
theorem badR_no {J : Jb} : ∀ {os : List Rw} {t : Int}, (∀ (i : Nat) (r : Rw), os[i]? = some r → sortI r.xs = memF (t + i) 0 J.ts) → badR J t os = false
  | [], t, _ => rfl
  | x :: os, t, h => by
    have h0 := h 0 x rfl
    rw [show t + ((0 : Nat) : Int) = t from by omega] at h0
    rw [badR, if_pos h0]
    refine badR_no fun i r hr => ?_
    have := h (i + 1) r (by simpa using hr)
    rw [this]; congr 1; omega
theorem tss_at {J : Jb} {i : Nat} {l : List (List Int)} (h : (tss J)[i]? = some l) : l = teamT J i := by
  unfold tss at h
  rw [List.getElem?_map] at h
  obtain ⟨k, hk, rfl⟩ := Option.map_eq_some_iff.1 h
  obtain ⟨_, rfl⟩ := List.getElem?_eq_some_iff.1 hk
  rw [List.getElem_range]
theorem tss_len (J : Jb) : (tss J).length = J.gs.length := by unfold tss; simp
theorem tss_get {J : Jb} {i : Nat} (h : i < J.gs.length) : (tss J)[i]? = some (teamT J i) := by
  rw [List.getElem?_eq_getElem (by rw [tss_len]; exact h)]
  exact congrArg some (tss_at (List.getElem?_eq_getElem (by rw [tss_len]; exact h)))
theorem ord_ok {J : Jb} (h0 : chkF J = 0) {os : List Rw} (h : xss os ∈ ordD (tss J) []) : chkO J os = 0 := by
  obtain ⟨q, e, h1, h2⟩ := (ordD_mem _ _ _).1 h
  rw [List.nil_append] at e
  subst e
  have hl : os.length = J.gs.length := by rw [tss_len] at h1; simpa using h1
  have hb : badR J 0 os = false := badR_no fun i r hr => by
    have hi := (List.getElem?_eq_some_iff.1 hr).1
    have h3 := h2 i r.xs (teamT J i) (by rw [xss, List.getElem?_map, hr]; rfl) (tss_get (by omega))
    obtain ⟨q, e, hp⟩ := turnsF_perm _ _ _ _ rfl h3
    rw [List.nil_append] at e
    rw [e, Int.zero_add]
    exact sortI_eq memF_sorted hp
  exact chkO_0 h0 (by omega) hb
theorem ord_all {J : Jb} {os : List Rw} (h : chkO J os = 0) : xss os ∈ ordD (tss J) [] := by
  obtain ⟨hK, hV, hs⟩ := OrdOk.of h
  refine (ordD_mem _ _ _).2 ⟨xss os, rfl, by rw [tss_len]; simpa using hV.len, fun i t l ht hl => ?_⟩
  rw [xss, List.getElem?_map] at ht
  obtain ⟨r, hr, rfl⟩ := Option.map_eq_some_iff.1 ht
  rw [tss_at hl]
  have h1 := hs i r hr
  have h2 := turnsF_all _ [] (memF (i : Int) 0 J.ts) r.xs rfl (by rw [← h1]; exact (sortI_perm _).symm)
  rw [List.nil_append] at h2
  exact h2
/-! ### the best -/
theorem linkR_xs {ts : List Tk} : ∀ {gs : List Int} {os os' : List Rw}, xss os = xss os' → linkR ts gs os = linkR ts gs os'
  | [], os, os', _ => by rw [linkR, linkR] <;> (intros; contradiction)
  | g :: gs, [], [], _ => rfl
  | g :: gs, [], _ :: _, h => by simp at h
  | g :: gs, _ :: _, [], h => by simp at h
  | g :: gs, r :: os, r' :: os', h => by
    simp only [xss, List.map_cons, List.cons.injEq] at h
    rw [linkR, linkR, h.1, linkR_xs h.2]
theorem linksF_xs {J : Jb} {os os' : List Rw} (h : xss os = xss os') : linksF J os = linksF J os' := by unfold linksF; rw [linkR_xs h]
def mkR (o : List (List Int)) : List Rw := o.map fun xs => ⟨none, 0, xs⟩
theorem xss_mkR : ∀ o : List (List Int), xss (mkR o) = o
  | [] => rfl
  | x :: o => by
    have := xss_mkR o
    simp only [xss, mkR, List.map_cons] at *
    rw [this]
/-- The earliest plan of an order. -/
noncomputable def EJ (J : Jb) (o : List (List Int)) : Option (List Int) := earlF J (linksF J (mkR o))
theorem EJ_xs {J : Jb} {os : List Rw} : EJ J (xss os) = earlF J (linksF J os) := by unfold EJ; rw [linksF_xs (xss_mkR _)]
noncomputable def bestJ (J : Jb) : Option (List (List Int) × List Int) := bestF (EJ J) (fun l => endF 0 l J.ts) (ordD (tss J) [])
noncomputable def BestB (J : Jb) : Option (List (List Int) × List Int) := if chkF J = 0 then (if 5040 < prodN J J.gs.length then none else bestJ J) else none
noncomputable def BestE (J : Jb) : Int := if chkF J = 0 then (if 5040 < prodN J J.gs.length then 6 else (if (bestJ J).isSome = true then 0 else 15)) else chkF J
noncomputable def BestO (J : Jb) : List (List Int) := ((BestB J).map (·.1)).getD []
noncomputable def BestS (J : Jb) : List Int := ((BestB J).map (·.2)).getD []
noncomputable def BestN (J : Jb) : Int := ((BestB J).map (fun b => endF 0 b.2 J.ts)).getD 0
structure BestV (J : Jb) (e : Int) (o : List (List Int)) (s : List Int) (n : Int) : Prop where
  e : BestE J = e
  o : BestO J = o
  s : BestS J = s
  n : BestN J = n
theorem best_chk {J : Jb} (h : ¬ chkF J = 0) : BestV J (chkF J) [] [] 0 := by
  have hb : BestB J = none := by unfold BestB; rw [if_neg h]
  exact ⟨by unfold BestE; rw [if_neg h], by unfold BestO; rw [hb]; rfl, by unfold BestS; rw [hb]; rfl, by unfold BestN; rw [hb]; rfl⟩
theorem best_many {J : Jb} (h : chkF J = 0) (h1 : 5040 < prodN J J.gs.length) : BestV J 6 [] [] 0 := by
  have hb : BestB J = none := by unfold BestB; rw [if_pos h, if_pos h1]
  exact ⟨by unfold BestE; rw [if_pos h, if_pos h1], by unfold BestO; rw [hb]; rfl, by unfold BestS; rw [hb]; rfl, by unfold BestN; rw [hb]; rfl⟩
theorem best_no {J : Jb} (h : chkF J = 0) (h1 : ¬ 5040 < prodN J J.gs.length) (h2 : bestJ J = none) : BestV J 15 [] [] 0 := by
  have hb : BestB J = none := by unfold BestB; rw [if_pos h, if_neg h1, h2]
  exact ⟨by unfold BestE; rw [if_pos h, if_neg h1, h2]; rfl, by unfold BestO; rw [hb]; rfl, by unfold BestS; rw [hb]; rfl, by unfold BestN; rw [hb]; rfl⟩
theorem best_got {J : Jb} (h : chkF J = 0) (h1 : ¬ 5040 < prodN J J.gs.length) {o : List (List Int)} {s : List Int} (h2 : bestJ J = some (o, s)) : BestV J 0 o s (endF 0 s J.ts) := by
  have hb : BestB J = some (o, s) := by unfold BestB; rw [if_pos h, if_neg h1, h2]
  exact ⟨by unfold BestE; rw [if_pos h, if_neg h1, h2]; rfl, by unfold BestO; rw [hb]; rfl, by unfold BestS; rw [hb]; rfl, by unfold BestN; rw [hb]; rfl⟩
theorem endF_ge : ∀ (ss : List Int) (ts : List Tk) (e : Int), e ≤ endF e ss ts
  | [], _, e => by rw [endF]; exact Int.le_refl _; intros; contradiction
  | _ :: _, [], e => by rw [endF]; exact Int.le_refl _; intros; contradiction
  | s :: ss, t :: ts, e => by
    rw [endF]
    have := endF_ge ss ts (Max.max e (s + t.m))
    omega
/-- What holds between two orders: what is kept, and which rows are in the pool. -/
structure BstI (J : Jb) (pre : List Ox) (os : List Rw) (ss : List Int) (en : Int) (pool : List Rw) : Prop where
  st : (bestF (EJ J) (fun l => endF 0 l J.ts) (oss pre) = none ∧ os = [] ∧ ss = [] ∧ en = -1) ∨ (bestF (EJ J) (fun l => endF 0 l J.ts) (oss pre) = some (xss os, ss) ∧ en = endF 0 ss J.ts)
  pl : ∀ r, InP pre r → r ∈ pool
  os : ∀ r ∈ os, r ∈ pool
theorem BstI.start {J : Jb} : BstI J [] [] [] (-1) [] := ⟨.inl ⟨rfl, rfl, rfl, rfl⟩, fun r ⟨y, hy, _⟩ => (by cases hy), fun r h => (by cases h)⟩
theorem bestF_snoc {α β : Type} {E : α → Option β} {m : β → Int} {os : List α} {x : α} : bestF E m (os ++ [x]) = keepF E m (bestF E m os) x := by unfold bestF; rw [List.foldl_append]; rfl
theorem oss_snoc {pre : List Ox} {x : Ox} : oss (pre ++ [x]) = oss pre ++ [xss x.rs] := by simp
theorem BstI.pool {J : Jb} {pre : List Ox} {os : List Rw} {ss : List Int} {en : Int} {pool : List Rw} (h : BstI J pre os ss en pool) (x : Ox) : ∀ r, InP (pre ++ [x]) r → r ∈ pool ++ x.nw := fun r ⟨y, hy, hr⟩ => by
  rcases List.mem_append.1 hy with h1 | h1
  · exact List.mem_append_left _ (h.pl r ⟨y, h1, hr⟩)
  · rw [List.mem_singleton.1 h1] at hr; exact List.mem_append_right _ hr
theorem BstI.skip {J : Jb} {pre : List Ox} {os : List Rw} {ss : List Int} {en : Int} {pool : List Rw} (h : BstI J pre os ss en pool) {x : Ox} (hE : earlF J (linksF J x.rs) = none) : BstI J (pre ++ [x]) os ss en (pool ++ x.nw) := by
  refine ⟨?_, h.pool x, fun r hr => List.mem_append_left _ (h.os r hr)⟩
  rw [oss_snoc, bestF_snoc]
  unfold keepF
  rw [EJ_xs, hE]
  exact h.st
theorem BstI.worse {J : Jb} {pre : List Ox} {os : List Rw} {ss : List Int} {en : Int} {pool : List Rw} (h : BstI J pre os ss en pool) {x : Ox} {s : List Int} (hE : earlF J (linksF J x.rs) = some s) (h0 : ¬ en < 0) (h1 : ¬ endF 0 s J.ts < en) : BstI J (pre ++ [x]) os ss en (pool ++ x.nw) := by
  refine ⟨?_, h.pool x, fun r hr => List.mem_append_left _ (h.os r hr)⟩
  rw [oss_snoc, bestF_snoc]
  unfold keepF
  rw [EJ_xs, hE]
  rcases h.st with ⟨_, _, _, h4⟩ | ⟨h2, h3⟩
  · omega
  · right
    rw [h2]
    refine ⟨?_, h3⟩
    show (if endF 0 s J.ts < endF 0 ss J.ts then some (xss x.rs, s) else some (xss os, ss)) = _
    rw [if_neg (by omega)]
theorem BstI.better {J : Jb} {pre : List Ox} {os : List Rw} {ss : List Int} {en : Int} {pool : List Rw} (h : BstI J pre os ss en pool) {x : Ox} {s : List Int} (hE : earlF J (linksF J x.rs) = some s) (h1 : en < 0 ∨ endF 0 s J.ts < en) (hx : ∀ r ∈ x.rs, InP (pre ++ [x]) r) : BstI J (pre ++ [x]) x.rs s (endF 0 s J.ts) (pool ++ x.nw) := by
  refine ⟨.inr ⟨?_, rfl⟩, h.pool x, fun r hr => h.pool x r (hx r hr)⟩
  rw [oss_snoc, bestF_snoc]
  unfold keepF
  rw [EJ_xs, hE]
  rcases h.st with ⟨h2, _⟩ | ⟨h2, h3⟩
  · rw [h2]
  · rw [h2]
    have := endF_ge ss J.ts 0
    show (if endF 0 s J.ts < endF 0 ss J.ts then some (xss x.rs, s) else some (xss os, ss)) = _
    rw [if_pos (by omega)]
theorem BstI.done {J : Jb} {pre : List Ox} {os : List Rw} {ss : List Int} {en : Int} {pool : List Rw} (h : BstI J pre os ss en pool) (hf : finO (ordD (tss J) []) pre) : (en < 0 → bestJ J = none) ∧ (¬ en < 0 → bestJ J = some (xss os, ss) ∧ en = endF 0 ss J.ts) := by
  unfold bestJ
  rw [← hf]
  rcases h.st with ⟨h2, _, _, h4⟩ | ⟨h2, h3⟩
  · exact ⟨fun _ => h2, fun h => by omega⟩
  · exact ⟨fun h => by have := endF_ge ss J.ts 0; omega, fun _ => ⟨h2, h3⟩⟩
/-- An order that is handed over is one of the job. -/
theorem okO_ok {J : Jb} (h0 : chkF J = 0) {pre : List Ox} {x : Ox} (h : okO (ordD (tss J) []) pre x) : chkO J x.rs = 0 :=
  ord_ok h0 (h.1.subset (List.mem_append_right _ (by simp)))
end Go.Proofs.Ytdmkedbmoboamaa
