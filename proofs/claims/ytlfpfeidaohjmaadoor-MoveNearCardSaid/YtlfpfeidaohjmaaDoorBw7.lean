/- Bodies in a row of the call's own: a place or a speed stored. -/
import Derived.Test.YtlfpfeidaohjmaaDoorBw6
set_option linter.unusedSimpArgs false
set_option linter.unusedVariables false
namespace Go.Proofs.YtlfpfeidaohjmaaDoor
open Go.RowKit Go.Grow Go.Bo

/-- The bodies B lie in block g from o on, which is free to be written. -/
structure Row (w : World) (g o n : Nat) (B : Nat → Bd) : Prop where
  lt : g < w.heap.size
  frozen : ∀ i, w.frozen? ⟨g, i, none⟩ = false
  body : ∀ k, k < n → BodyAt w g (o + k * 7) (B k)
theorem Row.below {w w' : World} {g o n : Nat} {B : Nat → Bd} (h : Row w g o n B) (hb : Below w.heap.size w w') : Row w' g o n B :=
  ⟨Nat.lt_of_lt_of_le h.lt hb.size, fun i => (hb.frozen (p := ⟨g, i, none⟩) h.lt).trans (h.frozen i), fun k hk => (h.body k hk).below hb h.lt⟩
theorem Row.at {w : World} {g o n : Nat} {B C : Nat → Bd} (h : Row w g o n B) (e : ∀ k, k < n → B k = C k) : Row w g o n C := ⟨h.lt, h.frozen, fun k hk => e k hk ▸ h.body k hk⟩
theorem Row.bods {w : World} {g o n : Nat} {B : Nat → Bd} (h : Row w g o n B) : BodsAt w (some ⟨g, o, none⟩) n B := .inr ⟨g, o, rfl, h.lt, h.body⟩
theorem put_far (w : World) (g i j : Nat) (v : Value) (h : i ≠ j) : (w.setCell ⟨g, i, none⟩ v).cell? ⟨g, j, none⟩ = w.cell? ⟨g, j, none⟩ := by
  rw [cell?_put, if_neg (fun e => h e.2)]
theorem put_same (w : World) (g i : Nat) (v u : Value) (h : w.cell? ⟨g, i, none⟩ = some u) : (w.setCell ⟨g, i, none⟩ v).cell? ⟨g, i, none⟩ = some v := by
  rw [cell?_put, if_pos ⟨rfl, rfl⟩, h]; rfl
def set3 (w : World) (g o : Nat) (c : C3) : World := ((w.setCell ⟨g, o, none⟩ (.int .i64 c.x)).setCell ⟨g, o + 1, none⟩ (.int .i64 c.y)).setCell ⟨g, o + 2, none⟩ (.int .i64 c.z)
theorem set3_far (w : World) (g o j : Nat) (c : C3) (h : j < o ∨ o + 2 < j) : (set3 w g o c).cell? ⟨g, j, none⟩ = w.cell? ⟨g, j, none⟩ := by
  unfold set3
  rw [put_far _ _ _ _ _ (by omega), put_far _ _ _ _ _ (by omega), put_far _ _ _ _ _ (by omega)]
theorem set3_at (w : World) (g o : Nat) (c : C3) {a b d : Value} (h0 : w.cell? ⟨g, o, none⟩ = some a) (h1 : w.cell? ⟨g, o + 1, none⟩ = some b) (h2 : w.cell? ⟨g, o + 2, none⟩ = some d) :
    (set3 w g o c).cell? ⟨g, o, none⟩ = some (.int .i64 c.x) ∧ (set3 w g o c).cell? ⟨g, o + 1, none⟩ = some (.int .i64 c.y) ∧ (set3 w g o c).cell? ⟨g, o + 2, none⟩ = some (.int .i64 c.z) := by
  unfold set3
  refine ⟨?_, ?_, ?_⟩
  · rw [put_far _ _ _ _ _ (by omega), put_far _ _ _ _ _ (by omega)]
    exact put_same _ _ _ _ _ h0
  · rw [put_far _ _ _ _ _ (by omega)]
    exact put_same _ _ _ _ b (by rw [put_far _ _ _ _ _ (by omega)]; exact h1)
  · exact put_same _ _ _ _ d (by rw [put_far _ _ _ _ _ (by omega), put_far _ _ _ _ _ (by omega)]; exact h2)
theorem set3_frozen (w : World) (g o : Nat) (c : C3) (a : Addr) : (set3 w g o c).frozen? a = w.frozen? a := by unfold set3; rw [frozen?_setCell, frozen?_setCell, frozen?_setCell]
theorem set3_size (w : World) (g o : Nat) (c : C3) : (set3 w g o c).heap.size = w.heap.size := by unfold set3; simp
theorem but_set3 {g : Nat} {a w : World} (h : But g a w) (o : Nat) (c : C3) : But g a (set3 w g o c) := ((h.setCell _ _).setCell _ _).setCell _ _
def updV (B : Nat → Bd) (i : Nat) (c : C3) : Nat → Bd := fun j => if j = i then ⟨(B i).p, c, (B i).m⟩ else B j
def updP (B : Nat → Bd) (i : Nat) (c : C3) : Nat → Bd := fun j => if j = i then ⟨c, (B i).v, (B i).m⟩ else B j
theorem Row.setV {w : World} {g o n : Nat} {B : Nat → Bd} (h : Row w g o n B) {i : Nat} (hi : i < n) (c : C3) : Row (set3 w g (o + i * 7 + 3) c) g o n (updV B i c) := by
  refine ⟨by rw [set3_size]; exact h.lt, fun j => by rw [set3_frozen]; exact h.frozen j, fun k hk => ?_⟩
  unfold updV
  by_cases e : k = i
  · subst e
    rw [if_pos rfl]
    have b := h.body k hk
    obtain ⟨s0, s1, s2⟩ := set3_at w g (o + k * 7 + 3) c b.c3 b.c4 b.c5
    exact ⟨by rw [set3_far _ _ _ _ _ (by omega)]; exact b.c0, by rw [set3_far _ _ _ _ _ (by omega)]; exact b.c1, by rw [set3_far _ _ _ _ _ (by omega)]; exact b.c2, s0, s1, s2, by rw [set3_far _ _ _ _ _ (by omega)]; exact b.c6⟩
  · rw [if_neg e]
    have b := h.body k hk
    have far : ∀ t, t < 7 → (set3 w g (o + i * 7 + 3) c).cell? ⟨g, o + k * 7 + t, none⟩ = w.cell? ⟨g, o + k * 7 + t, none⟩ := fun t ht => set3_far _ _ _ _ _ (by omega)
    exact ⟨(far 0 (by omega)).trans b.c0, (far 1 (by omega)).trans b.c1, (far 2 (by omega)).trans b.c2, (far 3 (by omega)).trans b.c3, (far 4 (by omega)).trans b.c4, (far 5 (by omega)).trans b.c5, (far 6 (by omega)).trans b.c6⟩
theorem Row.setP {w : World} {g o n : Nat} {B : Nat → Bd} (h : Row w g o n B) {i : Nat} (hi : i < n) (c : C3) : Row (set3 w g (o + i * 7) c) g o n (updP B i c) := by
  refine ⟨by rw [set3_size]; exact h.lt, fun j => by rw [set3_frozen]; exact h.frozen j, fun k hk => ?_⟩
  unfold updP
  by_cases e : k = i
  · subst e
    rw [if_pos rfl]
    have b := h.body k hk
    obtain ⟨s0, s1, s2⟩ := set3_at w g (o + k * 7) c b.c0 b.c1 b.c2
    exact ⟨s0, s1, s2, by rw [set3_far _ _ _ _ _ (by omega)]; exact b.c3, by rw [set3_far _ _ _ _ _ (by omega)]; exact b.c4, by rw [set3_far _ _ _ _ _ (by omega)]; exact b.c5, by rw [set3_far _ _ _ _ _ (by omega)]; exact b.c6⟩
  · rw [if_neg e]
    have b := h.body k hk
    have far : ∀ t, t < 7 → (set3 w g (o + i * 7) c).cell? ⟨g, o + k * 7 + t, none⟩ = w.cell? ⟨g, o + k * 7 + t, none⟩ := fun t ht => set3_far _ _ _ _ _ (by omega)
    exact ⟨(far 0 (by omega)).trans b.c0, (far 1 (by omega)).trans b.c1, (far 2 (by omega)).trans b.c2, (far 3 (by omega)).trans b.c3, (far 4 (by omega)).trans b.c4, (far 5 (by omega)).trans b.c5, (far 6 (by omega)).trans b.c6⟩
end Go.Proofs.YtlfpfeidaohjmaaDoor
