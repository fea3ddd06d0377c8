/- The plain law of circles: far sums that never stand still lead back, by what they stand on, to a circle that gains; far sums that stand still forbid one. No program in sight. -/
import Derived.Test.YtdmkedbmoboamaaPE2
namespace Go.Proofs.Ytdmkedbmoboamaa
set_option linter.unusedVariables false
set_option linter.unusedSimpArgs false
def Lk (n : Nat) (L : List Af) : Prop := ∀ a ∈ L, (0 ≤ a.p ∧ a.p < n) ∧ (0 ≤ a.q ∧ a.q < n) ∧ -2097152 ≤ a.lag ∧ a.lag ≤ 2097152
structure FarI (n : Nat) (L : List Af) (far by_ : List Int) (gl : Nat → Int) (gt gp : Nat → Nat) (clk : Nat) : Prop where
  lf : far.length = n
  lb : by_.length = n
  pos : ∀ x ∈ far, 0 ≤ x ∧ x ≤ (clk : Int) * 2097152
  up : ∀ k, k < n → gp k = 0 ∨ ∃ a ∈ L, a.q = k ∧ by_[k]? = some a.p ∧ a.lag = gl k ∧ at_ far k ≤ at_ far a.p + gl k ∧ (gt k ≤ gt a.p.toNat → at_ far k < at_ far a.p + gl k) ∧ gp k ≤ gp a.p.toNat + 1
  tm : ∀ k, gt k ≤ clk
structure FarP (n : Nat) (L : List Af) (ps c : Nat) (last : Int) (far by_ : List Int) (gl : Nat → Int) (gt gp : Nat → Nat) (clk : Nat) : Prop where
  fi : FarI n L far by_ gl gt gp clk
  done : ∀ a ∈ L.take c, gp a.p.toNat < ps + 1 → sat far a
  todo : ∀ a ∈ L.drop c, gp a.p.toNat < ps → sat far a
  le : ∀ k, gp k ≤ ps + 1
  no : last = -1 → ∀ k, gp k ≤ ps
  yes : last ≠ -1 → (0 ≤ last ∧ last < n) ∧ gp last.toNat = ps + 1
  ck : clk ≤ 240 * ps + c
structure FarR (n : Nat) (L : List Af) (ps : Nat) (last : Int) (far by_ : List Int) (gl : Nat → Int) (gt gp : Nat → Nat) (clk : Nat) : Prop where
  fi : FarI n L far by_ gl gt gp clk
  sats : ∀ a ∈ L, gp a.p.toNat < ps → sat far a
  le : ∀ k, gp k ≤ ps
  yes : 1 ≤ ps → (0 ≤ last ∧ last < n) ∧ gp last.toNat = ps
  ck : clk ≤ 240 * ps
section
variable {n : Nat} {L : List Af}
theorem FarR.start : FarR n L 0 (-1) (List.replicate n 0) (List.replicate n 0) (fun _ => 0) (fun _ => 0) (fun _ => 0) 0 :=
  ⟨⟨by simp, by simp, fun x hx => by have := List.eq_of_mem_replicate hx; omega, fun k _ => .inl rfl, fun _ => Nat.le_refl _⟩, fun a _ h => by omega, fun _ => Nat.le_refl _, fun h => by omega, Nat.le_refl _⟩
theorem FarR.pass {ps : Nat} {last : Int} {far by_ : List Int} {gl : Nat → Int} {gt gp : Nat → Nat} {clk : Nat} (h : FarR n L ps last far by_ gl gt gp clk) : FarP n L ps 0 (-1) far by_ gl gt gp clk :=
  ⟨h.fi, fun a ha => by simp at ha, fun a ha => h.sats a (by simpa using ha), fun k => Nat.le_succ_of_le (h.le k), fun _ => h.le, fun h => absurd rfl h, h.ck⟩
theorem FarP.skip {ps c : Nat} {last : Int} {far by_ : List Int} {gl : Nat → Int} {gt gp : Nat → Nat} {clk : Nat} (h : FarP n L ps c last far by_ gl gt gp clk) {a : Af} (ha : L[c]? = some a) (hs : ¬ at_ far a.q < at_ far a.p + a.lag) : FarP n L ps (c + 1) last far by_ gl gt gp clk :=
  ⟨h.fi, fun b hb hl => by
    rw [List.take_add_one, ha] at hb
    rcases List.mem_append.1 hb with hb | hb
    · exact h.done b hb hl
    · simp at hb; subst hb; unfold sat; omega, fun b hb => h.todo b (by rw [dropc ha]; exact List.mem_cons_of_mem _ hb), h.le, h.no, h.yes, by have := h.ck; omega⟩
theorem at_set_same {l : List Int} {k : Int} {z : Int} (h : k.toNat < l.length) : at_ (l.set k.toNat z) k = z := by
  exact at_of (by rw [List.getElem?_set_self h])
theorem at_set_other {l : List Int} {k : Int} {j : Nat} {z : Int} (h : k.toNat ≠ j) : at_ (l.set j z) k = at_ l k := by
  unfold at_; simp only [List.getD]; rw [List.getElem?_set_ne (by omega)]
theorem FarP.upd (hL : Lk n L) {ps c : Nat} {last : Int} {far by_ : List Int} {gl : Nat → Int} {gt gp : Nat → Nat} {clk : Nat} (h : FarP n L ps c last far by_ gl gt gp clk) {a : Af} (ha : L[c]? = some a) (hs : at_ far a.q < at_ far a.p + a.lag) :
    FarP n L ps (c + 1) a.q (far.set a.q.toNat (at_ far a.p + a.lag)) (by_.set a.q.toNat a.p) (fun k => if k = a.q.toNat then a.lag else gl k) (fun k => if k = a.q.toNat then clk + 1 else gt k) (fun k => if k = a.q.toNat then ps + 1 else gp k) (clk + 1) := by
  have hm := List.mem_of_getElem? ha
  have hk := hL a hm
  have hf := h.fi
  have hns : ¬ sat far a := by unfold sat; omega
  have hgp : ps ≤ gp a.p.toNat := Nat.le_of_not_lt fun hl => hns (h.todo a (by rw [dropc ha]; simp) hl)
  have hq : a.q.toNat < far.length := by rw [hf.lf]; omega
  have hp : a.p.toNat < far.length := by rw [hf.lf]; omega
  have xp : at_ far a.p ∈ far := by
    have e : far[a.p.toNat]? = some far[a.p.toNat] := List.getElem?_eq_getElem hp
    rw [at_of e]; exact List.getElem_mem _
  have xq : at_ far a.q ∈ far := by
    have e : far[a.q.toNat]? = some far[a.q.toNat] := List.getElem?_eq_getElem hq
    rw [at_of e]; exact List.getElem_mem _
  have bp := hf.pos _ xp
  have bq := hf.pos _ xq
  have key : ∀ b ∈ L, b.p ≠ a.q → sat far b → sat (far.set a.q.toNat (at_ far a.p + a.lag)) b := fun b hbm hne hsb => by
    have hb' := hL b hbm
    unfold sat at *
    rw [at_set_other (by omega)]
    by_cases e : b.q = a.q
    · rw [e, at_set_same hq]; rw [e] at hsb; omega
    · rw [at_set_other (by omega)]; exact hsb
  refine ⟨⟨by simpa using hf.lf, by simpa using hf.lb, fun x hx => ?_, fun k hkn => ?_, fun k => ?_⟩, fun b hb hl => ?_, fun b hb hl => ?_, fun k => ?_, fun e => ?_, fun _ => ⟨⟨hk.2.1.1, hk.2.1.2⟩, ?_⟩, by have := h.ck; omega⟩
  · rcases List.mem_or_eq_of_mem_set hx with hx | hx
    · have := hf.pos x hx; omega
    · omega
  · by_cases e : k = a.q.toNat
    · refine .inr ⟨a, hm, by omega, ?_, by simp [e], ?_, fun ht => ?_, ?_⟩
      · rw [e, List.getElem?_set_self (by rw [hf.lb]; omega)]
      · have e1 : at_ (far.set a.q.toNat (at_ far a.p + a.lag)) (k : Int) = at_ far a.p + a.lag := by
          have : ((k : Nat) : Int) = a.q := by omega
          rw [this, at_set_same hq]
        rw [e1]; simp only [e, if_true]
        by_cases e2 : a.p = a.q
        · rw [e2, at_set_same hq]; rw [e2] at hs; omega
        · rw [at_set_other (by omega)]; omega
      · have e1 : at_ (far.set a.q.toNat (at_ far a.p + a.lag)) (k : Int) = at_ far a.p + a.lag := by
          have : ((k : Nat) : Int) = a.q := by omega
          rw [this, at_set_same hq]
        rw [e1]
        simp only [e, if_true] at ht ⊢
        by_cases e2 : a.p = a.q
        · rw [e2, at_set_same hq]; rw [e2] at hs; omega
        · rw [if_neg (by omega)] at ht
          have := hf.tm a.p.toNat
          omega
      · simp only [e, if_true]; split <;> omega
    · rcases hf.up k hkn with h0 | ⟨b, hb, h1, h2, h3, h4, h5, h6⟩
      · exact .inl (by simp [e, h0])
      · have hb' := hL b hb
        refine .inr ⟨b, hb, h1, ?_, by simp [e, h3], ?_, fun ht => ?_, ?_⟩
        · rw [List.getElem?_set_ne (by omega)]; exact h2
        · simp only [e, if_false]
          rw [at_set_other (by omega)]
          by_cases e2 : b.p = a.q
          · rw [e2, at_set_same hq]; rw [e2] at h4; omega
          · rw [at_set_other (by omega)]; exact h4
        · simp only [e, if_false] at ht ⊢
          rw [at_set_other (by omega)]
          by_cases e2 : b.p = a.q
          · rw [e2, at_set_same hq]; rw [e2] at h4; omega
          · rw [at_set_other (by omega)]
            rw [if_neg (by omega)] at ht
            exact h5 ht
        · simp only [e, if_false]
          split
          · have := h.le k; omega
          · exact h6
  · show (if k = a.q.toNat then clk + 1 else gt k) ≤ clk + 1
    have := hf.tm k
    split <;> omega
  · split at hl
    · omega
    · rename_i hne
      rw [List.take_add_one, ha] at hb
      rcases List.mem_append.1 hb with hb | hb
      · have hbm := List.mem_of_mem_take hb
        have hb' := hL b hbm
        exact key b hbm (fun e => by rw [e] at hne; exact hne rfl) (h.done b hb hl)
      · simp at hb; subst hb
        unfold sat
        rw [at_set_other hne, at_set_same hq]; omega
  · split at hl
    · omega
    · rename_i hne
      have hbd : b ∈ L.drop c := by rw [dropc ha]; exact List.mem_cons_of_mem _ hb
      have hbm := List.mem_of_mem_drop hbd
      exact key b hbm (fun e => by rw [e] at hne; exact hne rfl) (h.todo b hbd hl)
  · show (if k = a.q.toNat then ps + 1 else gp k) ≤ ps + 1
    have := h.le k
    split <;> omega
  · omega
  · show (if a.q.toNat = a.q.toNat then ps + 1 else gp a.q.toNat) = ps + 1
    rw [if_pos rfl]
theorem FarP.rest (hl : L.length ≤ 240) {ps c : Nat} {last : Int} {far by_ : List Int} {gl : Nat → Int} {gt gp : Nat → Nat} {clk : Nat} (h : FarP n L ps c last far by_ gl gt gp clk) (hc : L.length ≤ c) (hc2 : c ≤ L.length) (h0 : ¬ last < 0) : FarR n L (ps + 1) last far by_ gl gt gp clk :=
  ⟨h.fi, fun a ha => h.done a (by rw [List.take_of_length_le hc]; exact ha), h.le, fun _ => h.yes (by omega), by have := h.ck; omega⟩
theorem FarP.pot {ps c : Nat} {last : Int} {far by_ : List Int} {gl : Nat → Int} {gt gp : Nat → Nat} {clk : Nat} (h : FarP n L ps c last far by_ gl gt gp clk) (hc : L.length ≤ c) (h0 : last < 0) : ∃ π, Pot L π := by
  refine ⟨fun k => at_ far k, fun a ha => h.done a (by rw [List.take_of_length_le hc]; exact ha) ?_⟩
  have e : last = -1 := by
    by_cases e : last = -1
    · exact e
    · have := h.yes e; omega
  have := h.no e a.p.toNat; omega
/-! ### back along what sums stand on -/
def itr (by_ : List Int) : Nat → Int → Int
  | 0, v => v
  | j + 1, v => at_ by_ (itr by_ j v)
theorem itr_add (by_ : List Int) (i j : Nat) (v : Int) : itr by_ (i + j) v = itr by_ i (itr by_ j v) := by
  induction i with
  | zero => rw [Nat.zero_add]; rfl
  | succ i ih => rw [Nat.add_right_comm]; show at_ by_ (itr by_ (i + j) v) = at_ by_ (itr by_ i (itr by_ j v)); rw [ih]
theorem least_nat {P : Nat → Prop} : ∀ m, P m → ∃ k, P k ∧ ∀ j, j < k → ¬ P j := fun m => by
  induction m using Nat.strongRecOn with
  | _ m ih =>
    intro hm
    by_cases h : ∃ j, j < m ∧ P j
    · obtain ⟨j, hj, hp⟩ := h; exact ih j hj hp
    · exact ⟨m, hm, fun j hj hp => h ⟨j, hj, hp⟩⟩
theorem FarI.back (hL : Lk n L) {far by_ : List Int} {gl : Nat → Int} {gt gp : Nat → Nat} {clk : Nat} (h : FarI n L far by_ gl gt gp clk) {v : Int} (hv : 0 ≤ v ∧ v < n) (hg : 1 ≤ gp v.toNat) : (0 ≤ at_ by_ v ∧ at_ by_ v < n) ∧ gp v.toNat ≤ gp (at_ by_ v).toNat + 1 := by
  rcases h.up v.toNat (by omega) with h0 | ⟨a, ha, h1, h2, h3, h4, h5, h6⟩
  · omega
  · rw [at_of h2]
    exact ⟨(hL a ha).1, h6⟩
theorem FarI.walk (hL : Lk n L) {far by_ : List Int} {gl : Nat → Int} {gt gp : Nat → Nat} {clk : Nat} (h : FarI n L far by_ gl gt gp clk) {v : Int} (hv : 0 ≤ v ∧ v < n) (hg : gp v.toNat = n + 1) : ∀ j, j ≤ n → (0 ≤ itr by_ j v ∧ itr by_ j v < n) ∧ n + 1 ≤ gp (itr by_ j v).toNat + j := by
  intro j
  induction j with
  | zero => intro _; exact ⟨hv, by show n + 1 ≤ gp v.toNat + 0; omega⟩
  | succ j ih =>
    intro hj
    obtain ⟨h1, h2⟩ := ih (by omega)
    obtain ⟨h3, h4⟩ := h.back hL h1 (by omega)
    exact ⟨h3, by show n + 1 ≤ gp (at_ by_ (itr by_ j v)).toNat + (j + 1); omega⟩
/-- A place on a circle. -/
structure OnC (n : Nat) (gp : Nat → Nat) (by_ : List Int) (v : Int) (m : Nat) : Prop where
  m0 : 0 < m
  ret : itr by_ m v = v
  first : ∀ j, j < m → 0 < j → itr by_ j v ≠ v
  inn : ∀ j, (0 ≤ itr by_ j v ∧ itr by_ j v < n) ∧ 1 ≤ gp (itr by_ j v).toNat
theorem pigeon {n : Nat} (f : Nat → Int) (hf : ∀ j, j ≤ n → 0 ≤ f j ∧ f j < n) : ∃ i j, i < j ∧ j ≤ n ∧ f i = f j := by
  by_cases h : ∃ i j, i < j ∧ j ≤ n ∧ f i = f j
  · exact h
  · exfalso
    have hn : ((List.range (n + 1)).map f).Nodup := by
      rw [List.nodup_iff_pairwise_ne, List.pairwise_map]
      refine List.pairwise_iff_getElem.2 fun i j hi hj hij e => h ⟨i, j, hij, ?_, ?_⟩
      · simp at hj; omega
      · simpa using e
    have := nodup_ints (n := n) hn fun x hx => by
      obtain ⟨j, hj, rfl⟩ := List.mem_map.1 hx
      exact hf j (by have := List.mem_range.1 hj; omega)
    simp at this
    omega
theorem FarI.onC (hL : Lk n L) {far by_ : List Int} {gl : Nat → Int} {gt gp : Nat → Nat} {clk : Nat} (h : FarI n L far by_ gl gt gp clk) {v : Int} (hv : 0 ≤ v ∧ v < n) (hg : gp v.toNat = n + 1) : ∃ m, OnC n gp by_ (itr by_ n v) m := by
  have hw := h.walk hL hv hg
  obtain ⟨i, j, hij, hj, he⟩ := pigeon (fun j => itr by_ j v) (fun j hj => (hw j hj).1)
  -- every place behind i is one of the first
  have per : ∀ k, ∃ t, t ≤ n ∧ itr by_ (i + k) v = itr by_ t v := fun k => by
    induction k using Nat.strongRecOn with
    | _ k ih =>
      by_cases hk : i + k ≤ n
      · exact ⟨i + k, hk, rfl⟩
      · obtain ⟨t, ht, e⟩ := ih (k - (j - i)) (by omega)
        refine ⟨t, ht, ?_⟩
        rw [← e, show i + k = (i + k - j) + j from by omega, itr_add, ← he, ← itr_add]
        congr 1; omega
  have hinn : ∀ k, (0 ≤ itr by_ k (itr by_ n v) ∧ itr by_ k (itr by_ n v) < n) ∧ 1 ≤ gp (itr by_ k (itr by_ n v)).toNat := fun k => by
    obtain ⟨t, ht, e⟩ := per (k + n - i)
    rw [← itr_add, show k + n = i + (k + n - i) from by omega, e]
    have := hw t ht
    exact ⟨this.1, by omega⟩
  have hret : itr by_ (j - i) (itr by_ n v) = itr by_ n v := by
    rw [← itr_add]
    have e1 : itr by_ (j - i + n) v = itr by_ (n - i) (itr by_ j v) := by rw [← itr_add]; congr 1; omega
    have e2 : itr by_ n v = itr by_ (n - i) (itr by_ i v) := by rw [← itr_add]; congr 1; omega
    rw [e1, e2, he]
  obtain ⟨m, ⟨h1, h2⟩, h3⟩ := least_nat (P := fun m => 0 < m ∧ itr by_ m (itr by_ n v) = itr by_ n v) (j - i) ⟨by omega, hret⟩
  exact ⟨m, h1, h2, fun k hk h0 e => h3 k hk ⟨h0, e⟩, hinn⟩
def orb (by_ : List Int) (v : Int) (k : Nat) : List Int := (List.range k).map fun i => itr by_ i v
theorem orb_succ (by_ : List Int) (v : Int) (k : Nat) : orb by_ v (k + 1) = orb by_ v k ++ [itr by_ k v] := by simp [orb, List.range_succ]
/-- A circle whose lags are together above 0. -/
def PosC (n : Nat) (L : List Af) (c : List Int) : Prop := c ≠ [] ∧ c.Nodup ∧ (∀ x ∈ c, 0 ≤ x ∧ x < n) ∧ ∃ g : Int → Int, (∀ i x y, c[i]? = some x → c[(i + 1) % c.length]? = some y → ∃ a ∈ L, a.p = x ∧ a.q = y ∧ a.lag = g y) ∧ 0 < (c.map g).sum
theorem OnC.nodup {gp : Nat → Nat} {by_ : List Int} {v : Int} {m : Nat} (h : OnC n gp by_ v m) : (orb by_ v m).Nodup := by
  unfold orb
  rw [List.nodup_iff_pairwise_ne, List.pairwise_map]
  refine List.pairwise_iff_getElem.2 fun i j hi hj hij e => ?_
  simp at hi hj e
  refine h.first (m - j + i) (by omega) (by omega) ?_
  rw [itr_add, e, ← itr_add, show m - j + j = m from by omega]; exact h.ret
theorem sum_snoc (l : List Int) (x : Int) : (l ++ [x]).sum = l.sum + x := by simp
theorem OnC.posC (hL : Lk n L) {far by_ : List Int} {gl : Nat → Int} {gt gp : Nat → Nat} {clk : Nat} (hf : FarI n L far by_ gl gt gp clk) {v : Int} {m : Nat} (h : OnC n gp by_ v m) : PosC n L (orb by_ v m).reverse := by
  have hlen : (orb by_ v m).length = m := by simp [orb]
  -- what each place stands on
  have st : ∀ j, ∃ a ∈ L, a.q = itr by_ j v ∧ a.p = itr by_ (j + 1) v ∧ a.lag = gl (itr by_ j v).toNat ∧ at_ far (itr by_ j v) ≤ at_ far (itr by_ (j + 1) v) + gl (itr by_ j v).toNat ∧
      (gt (itr by_ j v).toNat ≤ gt (itr by_ (j + 1) v).toNat → at_ far (itr by_ j v) < at_ far (itr by_ (j + 1) v) + gl (itr by_ j v).toNat) := fun j => by
    have hi := h.inn j
    rcases hf.up (itr by_ j v).toNat (by omega) with h0 | ⟨a, ha, h1, h2, h3, h4, h5, _⟩
    · omega
    · have e : ((itr by_ j v).toNat : Int) = itr by_ j v := by omega
      rw [e] at h1 h4 h5
      have e2 : a.p = itr by_ (j + 1) v := (at_of (k := itr by_ j v) h2).symm
      rw [e2] at h4 h5
      exact ⟨a, ha, h1, e2, h3, h4, h5⟩
  have tele : ∀ k, at_ far v - at_ far (itr by_ k v) ≤ ((orb by_ v k).map fun x => gl x.toNat).sum ∧ ((∃ j, j < k ∧ gt (itr by_ j v).toNat ≤ gt (itr by_ (j + 1) v).toNat) → at_ far v - at_ far (itr by_ k v) < ((orb by_ v k).map fun x => gl x.toNat).sum) := fun k => by
    induction k with
    | zero => exact ⟨by simp [orb, itr], by rintro ⟨j, hj, _⟩; omega⟩
    | succ k ih =>
      obtain ⟨a, _, _, _, _, h4, h5⟩ := st k
      rw [orb_succ, List.map_append, List.map_cons, List.map_nil, sum_snoc]
      refine ⟨by have := ih.1; omega, ?_⟩
      rintro ⟨j, hj, hjt⟩
      by_cases e : j = k
      · subst e; have := ih.1; have := h5 hjt; omega
      · have := ih.2 ⟨j, by omega, hjt⟩; omega
  have strict : ∃ j, j < m ∧ gt (itr by_ j v).toNat ≤ gt (itr by_ (j + 1) v).toNat := by
    by_cases hh : ∃ j, j < m ∧ gt (itr by_ j v).toNat ≤ gt (itr by_ (j + 1) v).toNat
    · exact hh
    · exfalso
      have dec : ∀ k, k ≤ m → gt (itr by_ k v).toNat + k ≤ gt v.toNat := fun k => by
        induction k with
        | zero => intro _; exact Nat.le_refl _
        | succ k ih =>
          intro hk
          have h1 := ih (by omega)
          have h2 : ¬ gt (itr by_ k v).toNat ≤ gt (itr by_ (k + 1) v).toNat := fun h => hh ⟨k, by omega, h⟩
          omega
      have := dec m (Nat.le_refl _)
      rw [h.ret] at this
      have := h.m0
      omega
  have hsum := (tele m).2 strict
  rw [h.ret] at hsum
  refine ⟨?_, by rw [List.nodup_iff_pairwise_ne, List.pairwise_reverse]; exact (List.nodup_iff_pairwise_ne.1 h.nodup).imp (fun h e => h e.symm), fun x hx => ?_, fun x => gl x.toNat, fun i x y hx hy => ?_, ?_⟩
  · intro e
    have := congrArg List.length e
    rw [List.length_reverse, hlen] at this
    have := h.m0; simp at *; omega
  · obtain ⟨j, _, rfl⟩ := List.mem_map.1 (List.mem_reverse.1 hx)
    exact (h.inn j).1
  · rw [List.length_reverse, hlen] at hy
    have hi : i < m := by have := (List.getElem?_eq_some_iff.1 hx).1; rw [List.length_reverse, hlen] at this; exact this
    have get : ∀ k, k < m → (orb by_ v m).reverse[k]? = some (itr by_ (m - 1 - k) v) := fun k hk => by
      rw [List.getElem?_reverse (by rw [hlen]; exact hk), hlen]
      simp [orb, show m - 1 - k < m by omega]
    rw [get i hi] at hx
    injection hx with hx
    by_cases hl : i + 1 < m
    · rw [Nat.mod_eq_of_lt hl, get _ hl] at hy
      injection hy with hy
      obtain ⟨a, ha, h1, h2, h3, _⟩ := st (m - 1 - (i + 1))
      rw [show m - 1 - (i + 1) + 1 = m - 1 - i from by omega] at h2
      exact ⟨a, ha, by rw [h2, hx], by rw [h1, hy], by rw [h3, hy]⟩
    · have e : i + 1 = m := by omega
      rw [e, Nat.mod_self, get 0 h.m0] at hy
      injection hy with hy
      obtain ⟨a, ha, h1, h2, h3, _⟩ := st (m - 1 - 0)
      rw [show m - 1 - 0 + 1 = m from by have := h.m0; omega, h.ret] at h2
      refine ⟨a, ha, ?_, by rw [h1, hy], by rw [h3, hy]⟩
      rw [h2, ← hx, show m - 1 - i = 0 from by omega]; rfl
  · rw [List.map_reverse, List.sum_reverse]; omega
theorem path_le {l : List Int} {g : Int → Int} : ∀ (c : List Int) (x : Int), (∀ i u w, (x :: c)[i]? = some u → (x :: c)[i + 1]? = some w → at_ l u + g w ≤ at_ l w) → at_ l x + (c.map g).sum ≤ at_ l ((x :: c).getLast (by simp))
  | [], x, _ => by simp
  | y :: c, x, h => by
    have h1 := h 0 x y rfl rfl
    have h2 := path_le c y fun i u w hu hw => h (i + 1) u w (by simpa using hu) (by simpa using hw)
    rw [List.map_cons, List.sum_cons, List.getLast_cons (by simp)]
    omega
/-- A circle that gains forbids whatever numbers would meet all links. -/
theorem PosC.no {c : List Int} (h : PosC n L c) (π : Int → Int) : ¬ Pot L π := by
  intro hp
  obtain ⟨h0, _, _, g, h1, h2⟩ := h
  match c, h0 with
  | x :: c, _ =>
    have hpi : ∀ (c : List Int) (x : Int), (∀ i u w, (x :: c)[i]? = some u → (x :: c)[i + 1]? = some w → π u + g w ≤ π w) → π x + (c.map g).sum ≤ π ((x :: c).getLast (by simp)) := fun c => by
      induction c with
      | nil => intro x _; simp
      | cons y c ih =>
        intro x h
        have h1 := h 0 x y rfl rfl
        have h2 := ih y fun i u w hu hw => h (i + 1) u w (by simpa using hu) (by simpa using hw)
        rw [List.map_cons, List.sum_cons, List.getLast_cons (by simp)]
        omega
    have e1 := hpi c x fun i u w hu hw => by
      have hlt := (List.getElem?_eq_some_iff.1 hw).1
      obtain ⟨a, ha, ap, aq, al⟩ := h1 i u w hu (by rw [Nat.mod_eq_of_lt hlt]; exact hw)
      have := hp a ha
      rw [ap, aq, al] at this; exact this
    have e2 : π ((x :: c).getLast (by simp)) + g x ≤ π x := by
      have hl : (x :: c)[c.length]? = some ((x :: c).getLast (by simp)) := by
        rw [List.getLast_eq_getElem]; simp
      obtain ⟨a, ha, ap, aq, al⟩ := h1 c.length _ x hl (by simp)
      have := hp a ha
      rw [ap, aq, al] at this; exact this
    rw [List.map_cons, List.sum_cons] at h2
    omega
theorem PosC.noPlan {J : Jb} {c : List Int} (h : PosC n L c) : ¬ ∃ l, IsPlan J L l := by
  rintro ⟨l, hl⟩
  exact h.no (fun k => at_ l k) fun a ha => hl.link a ha
end
end Go.Proofs.Ytdmkedbmoboamaa
