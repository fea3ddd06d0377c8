/- Rows of rows: the inner rows as one resource. -/
import Derived.Test.YtdmkedbmoboamaaA3
namespace Go.Proofs.Ytdmkedbmoboamaa
open Go.Kx Go.RowKit
set_option linter.unusedVariables false
set_option linter.unusedSimpArgs false
/-- Many rows of numbers. -/
def rowsR (e : TypeId) (rs : List Rw) : Res where
  own k := ∃ r ∈ rs, (rowL e 1 encI r.a r.cap r.xs).own k
  holds w := ∀ r ∈ rs, (rowL e 1 encI r.a r.cap r.xs).holds w
  frame w w' hs h hh := fun r hr => (rowL e 1 encI r.a r.cap r.xs).frame w w' hs (fun k hk => h k ⟨r, hr, hk⟩) (hh r hr)
  inside w h k hk := by
    obtain ⟨r, hr, hk⟩ := hk
    exact (rowL e 1 encI r.a r.cap r.xs).inside w (h r hr) k hk
theorem ones_R : ∀ y, ∀ u ∈ encRw y, u.oneCell' = true := fun y u hu => by simp [encRw] at hu; subst hu; rfl
section
variable {W w : World} {B : List (Nat × Res)}
theorem Mem.rows0 (l : Nat) (e : TypeId) (h : Mem W B w) : Mem W ((l, rowsR e []) :: B) w :=
  h.add (Below.refl _ _) l _ (fun p hp => by cases hp) (fun k ⟨p, hp, _⟩ => by cases hp)
theorem Mem.rowed {e : TypeId} {rs : List Rw} {q l : Nat} {a : Option Addr} {cap : Nat} {xs : List Int} {B0 : List (Nat × Res)} (h : Mem W B w) (hb : lkp B l = some (rowL e 1 encI a cap xs)) (hq : lkp B q = some (rowsR e rs)) (hne : Nat.beq q l = false) (h0 : subl B0 B) (ha : apartB [(q, rowsR e rs), (l, rowL e 1 encI a cap xs)] B0 = true) : Mem W ((q, rowsR e (rs ++ [⟨a, cap, xs⟩])) :: B0) w := by
  have hn : q ≠ l := fun e => by subst e; simp at hne
  have hlb : lkp [(q, rowsR e rs), (l, rowL e 1 encI a cap xs)] l = some (rowL e 1 encI a cap xs) := (lkp_cons_ne _ _ hn).trans (lkp_cons_eq _ _ _)
  refine h.fuse (Bs := [(q, rowsR e rs), (l, rowL e 1 encI a cap xs)]) q _ ⟨hq, hb, trivial⟩ h0 ha ?_ (fun hp r hr => ?_) (fun k ⟨r, hr, hk⟩ => ?_)
  · simp only [apartB, Bool.and_eq_true] at ha; simpa using ha.1
  · rcases List.mem_append.1 hr with h1 | h1
    · exact hp.1 q _ (lkp_cons_eq _ _ _) r h1
    · simp at h1; subst h1
      exact hp.1 l _ hlb
  · rcases List.mem_append.1 hr with h1 | h1
    · exact ⟨q, _, lkp_cons_eq _ _ _, r, h1, hk⟩
    · simp at h1; subst h1
      exact ⟨l, _, hlb, hk⟩
/-- One label moved. -/
theorem Mem.moved {l q : Nat} {r : Res} {B0 : List (Nat × Res)} (h : Mem W B w) (hl : lkp B l = some r) (h0 : subl B0 B) (ha : apartB [(l, r)] B0 = true) (hq : lkp B0 q = none) : Mem W ((q, r) :: B0) w :=
  h.fuse (Bs := [(l, r)]) q r ⟨hl, trivial⟩ h0 ha hq (fun hp => hp.1 l r (lkp_cons_eq _ _ _)) (fun k hk => ⟨l, r, lkp_cons_eq _ _ _, hk⟩)
theorem Rdb.of_holds {e : TypeId} {sz : Nat} {α : Type} {enc : α → List Value} {a : Option Addr} {cap : Nat} {xs : List α} (hown : w.ownsRow 0 e sz (.slice a xs.length cap) xs.length (xs.flatMap enc)) (hlen : ∀ y, (enc y).length = sz) : Rdb w a sz enc xs := fun i x hx => by
  have hlt := (List.getElem?_eq_some_iff.1 hx).1
  rcases hown.2 with ⟨hv, hn⟩ | ⟨g, c0, cur, hv, _⟩
  · omega
  · injection hv with h1 h2 h3
    subst h1
    refine ⟨g, 0, rfl, hlen x, fun j u hj => ?_⟩
    have := hown.cells (g := g) rfl (i * sz + j) u (flat_at hlen hx hj)
    rw [cell_add] at this
    exact this
theorem OrdAt.of_rows {a : Option Addr} {cap : Nat} {rs : List Rw} (l q : Nat) (h : Mem W B w) (hl : lkp B l = some (rowL 62 1 encRw a cap rs)) (hq : lkp B q = some (rowsR 3 rs)) (hn : rs.length ≤ 1000) (hr : ∀ r ∈ rs, r.xs.length ≤ 1000) : OrdAt w a rs := by
  have hp : (rowsR 3 rs).holds w := h.holds q _ hq
  refine ⟨Rdb.of_row h hl (fun _ => rfl), fun r hr => ?_, by omega, fun r h1 => by have := hr r h1; omega, fun r hr => ownsRow_cap (hp r hr)⟩
  exact Rdb.of_holds (hp r hr) (fun _ => rfl)
end
end Go.Proofs.Ytdmkedbmoboamaa
