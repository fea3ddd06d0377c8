/- The plain law of chains: where no circle gains, a chain of reasons is no longer than tasks times windows. No program in sight. -/
import Derived.Test.YtdmkedbmoboamaaPE
namespace Go.Proofs.Ytdmkedbmoboamaa
set_option linter.unusedVariables false
set_option linter.unusedSimpArgs false
theorem nodup_len {α : Type} [DecidableEq α] : ∀ {xs ys : List α}, xs.Nodup → (∀ x ∈ xs, x ∈ ys) → xs.length ≤ ys.length
  | [], ys, _, _ => by simp
  | x :: r, ys, hn, hm => by
    have hx : x ∈ ys := hm x (by simp)
    have hn' := List.nodup_cons.1 hn
    have h := nodup_len (xs := r) (ys := ys.erase x) hn'.2 fun z hz => (List.mem_erase_of_ne (fun e => by subst e; exact hn'.1 hz)).2 (hm z (by simp [hz]))
    rw [List.length_erase_of_mem hx] at h
    have : 0 < ys.length := List.length_pos_of_mem hx
    simp only [List.length_cons]; omega
theorem nodup_ints {xs : List Int} {n : Nat} (hn : xs.Nodup) (h : ∀ x ∈ xs, 0 ≤ x ∧ x < n) : xs.length ≤ n := by
  have := nodup_len (ys := (List.range n).map Int.ofNat) hn fun x hx => List.mem_map.2 ⟨x.toNat, List.mem_range.2 (by have := h x hx; omega), by have := h x hx; simp; omega⟩
  simpa using this
/-- Where windows begin. -/
def allJ : Nat → List Tk → List (Int × Int)
  | _, [] => []
  | i, t :: r => t.ws.map (fun w => ((i : Int), w.f)) ++ allJ (i + 1) r
theorem allJ_mem : ∀ {ts : List Tk} {i k : Nat} {t : Tk} {w : Wn}, ts[k]? = some t → w ∈ t.ws → (((i + k : Nat) : Int), w.f) ∈ allJ i ts
  | [], i, k, t, w, h, _ => by simp at h
  | u :: r, i, 0, t, w, h, hw => by
    simp at h; subst h
    rw [allJ]; exact List.mem_append_left _ (List.mem_map.2 ⟨w, hw, rfl⟩)
  | u :: r, i, k + 1, t, w, h, hw => by
    have := allJ_mem (i := i + 1) (k := k) (ts := r) (by simpa using h) hw
    rw [allJ]
    refine List.mem_append_right _ ?_
    rwa [show i + 1 + k = i + (k + 1) from by omega] at this
theorem allJ_len : ∀ {ts : List Tk} {i : Nat}, (∀ t ∈ ts, t.ws.length ≤ 32) → (allJ i ts).length ≤ 32 * ts.length
  | [], i, _ => by simp [allJ]
  | t :: r, i, h => by
    have h1 := h t (by simp)
    have h2 := allJ_len (ts := r) (i := i + 1) fun t ht => h t (by simp [ht])
    rw [allJ, List.length_append, List.length_map, List.length_cons]; omega
def Pot (L : List Af) (π : Int → Int) : Prop := ∀ a ∈ L, π a.p + a.lag ≤ π a.q
theorem chain_inv {J : Jb} {L : List Af} (hS : Sound J L) {π : Int → Int} (hπ : Pot L π) {c : List Re} (h : Chain J L c) : c.Pairwise (fun r r' => Grows r' r) → ∃ (r : Re) (seg : List Re) (js : List (Int × Int)), c.head? = some r ∧ seg.head? = some r ∧
    c.length + J.ts.length ≤ J.ts.length * (js.length + 1) + seg.length ∧ (∀ s ∈ seg, s ∈ c) ∧ (seg.map (·.task)).Nodup ∧ (∀ s ∈ c, 0 ≤ s.task ∧ s.task < J.ts.length) ∧ (∀ s ∈ seg, r.start ≤ s.start + π r.task - π s.task) ∧
    js.Nodup ∧ (∀ p ∈ js, p ∈ allJ 0 J.ts) ∧ (∀ p ∈ js, ∃ s ∈ c, (s.task, s.start) = p) := by
  induction h with
  | @one r _ _ ho =>
    intro _
    obtain ⟨t, _, h1, _⟩ := ho
    exact ⟨r, [r], [], rfl, rfl, by simp; omega, by simp, by simp, by simpa using h1, by simp, by simp, by simp, by simp⟩
  | @more r r' c hst ho hc ih =>
    intro hp
    obtain ⟨hp1, hp2⟩ := List.pairwise_cons.1 hp
    obtain ⟨r0, seg, js, e1, e2, hl, hs, hn, hb, hlow, hj, hja, hjc⟩ := ih hp2
    simp at e1; subst e1
    obtain ⟨t, ht, hr', hf⟩ := ho
    obtain ⟨hby, a, ha, hap, haq, hfr⟩ := hst
    have hpa := hπ a ha
    rw [hap, haq] at hpa
    have hsl : seg.length ≤ J.ts.length := by
      have := nodup_ints (n := J.ts.length) hn (fun x hx => by
        obtain ⟨s, hs', rfl⟩ := List.mem_map.1 hx
        exact hb s (hs s hs'))
      simpa using this
    have hb' : ∀ s ∈ r' :: r :: c, 0 ≤ s.task ∧ s.task < J.ts.length := fun s hs' => by
      rcases List.mem_cons.1 hs' with rfl | hs'
      · exact hr'
      · exact hb s hs'
    by_cases hjump : r'.start = r'.from_
    · refine ⟨r', r' :: seg, js, rfl, rfl, by simp only [List.length_cons] at *; omega, fun s hs' => ?_, ?_, hb', fun s hs' => ?_, hj, hja, fun p hp => ?_⟩
      · rcases List.mem_cons.1 hs' with rfl | hs'
        · simp
        · exact List.mem_cons_of_mem _ (hs s hs')
      · rw [List.map_cons, List.nodup_cons]
        refine ⟨fun hm => ?_, hn⟩
        obtain ⟨s, hs', he⟩ := List.mem_map.1 hm
        have h1 := hp1 s (hs s hs') he
        have h2 := hlow s hs'
        rw [he] at h2; omega
      · rcases List.mem_cons.1 hs' with rfl | hs'
        · omega
        · have h2 := hlow s hs'; omega
      · obtain ⟨s, h1, h2⟩ := hjc p hp
        exact ⟨s, List.mem_cons_of_mem _ h1, h2⟩
    · obtain ⟨w, hw, hwf⟩ := (firstF_jump hf).resolve_left hjump
      have hin : (r'.task, r'.start) ∈ allJ 0 J.ts := by
        have := allJ_mem (i := 0) ht hw
        rw [hwf]
        rwa [show (((0 + r'.task.toNat : Nat)) : Int) = r'.task from by omega] at this
      refine ⟨r', [r'], (r'.task, r'.start) :: js, rfl, rfl, ?_, by simp, by simp, hb', by simp, ?_, fun p hp => ?_, fun p hp => ?_⟩
      · simp only [List.length_cons, List.length_nil, Nat.zero_add] at *
        rw [Nat.mul_succ, Nat.mul_succ]
        rw [Nat.mul_succ] at hl
        omega
      · refine List.nodup_cons.2 ⟨fun hm => ?_, hj⟩
        obtain ⟨s, h1, h2⟩ := hjc _ hm
        simp only [Prod.mk.injEq] at h2
        have := hp1 s h1 h2.1
        omega
      · rcases List.mem_cons.1 hp with rfl | hp
        · exact hin
        · exact hja p hp
      · rcases List.mem_cons.1 hp with rfl | hp
        · exact ⟨r', by simp, rfl⟩
        · obtain ⟨s, h1, h2⟩ := hjc p hp
          exact ⟨s, List.mem_cons_of_mem _ h1, h2⟩
theorem chain_len {J : Jb} {L : List Af} (hS : Sound J L) (hn : J.ts.length ≤ 24) {π : Int → Int} (hπ : Pot L π) {c : List Re} (h : Chain J L c) (hp : c.Pairwise (fun r r' => Grows r' r)) : c.length ≤ 18456 := by
  obtain ⟨r, seg, js, _, _, hl, hs, hsn, hb, _, hj, hja, _⟩ := chain_inv hS hπ h hp
  have h1 := nodup_len hj hja
  have h2 := allJ_len (ts := J.ts) (i := 0) fun t ht => (hS.tk t ht).2.2
  have h3 : seg.length ≤ J.ts.length := by
    have := nodup_ints (n := J.ts.length) hsn (fun x hx => by
      obtain ⟨s, hs', rfl⟩ := List.mem_map.1 hx
      exact hb s (hs s hs'))
    simpa using this
  have h4 : J.ts.length * (js.length + 1) ≤ 24 * 769 := Nat.mul_le_mul hn (by omega)
  omega
/-- How often the links are gone through. -/
theorem lastp_le {J : Jb} {L : List Af} (hS : Sound J L) (hn : J.ts.length ≤ 24) {π : Int → Int} (hπ : Pot L π) {E : List (Re × Nat)} {ss : List Int} (h : Log J L E ss) {k : Nat} {x : Int} (hx : ss[k]? = some x) (h0 : 0 ≤ x) : lastp E k ≤ 18456 := by
  obtain ⟨_, h2, h3⟩ := h.cur hS
  rcases h3 k x hx with h4 | ⟨i, e, _, _, _, h5, c, h6, h7, h8⟩
  · omega
  · have h9 := chain_len hS hn hπ h6 (by
      have := h2.sublist h8
      rw [List.pairwise_reverse] at this
      exact this)
    simp only [List.length_cons] at h9
    omega
end Go.Proofs.Ytdmkedbmoboamaa
