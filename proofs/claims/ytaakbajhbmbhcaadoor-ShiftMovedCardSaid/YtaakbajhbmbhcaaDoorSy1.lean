/- Pictures: whether one is right: the program's test and the document's. -/
import Derived.Test.YtaakbajhbmbhcaaDoorSx1
import Derived.Deep.QuietTactic
import Derived.BigQuiet
set_option linter.unusedSimpArgs false
set_option linter.unusedVariables false
namespace Go.Proofs.YtaakbajhbmbhcaaDoor
open Go.RowKit Go.Grow

structure Pic where
  W : Int
  H : Int
  r : Option Addr
  n : Nat
  cap : Nat
  z : Nat → Int
def picV (p : Pic) : Value := .agg #[.int .i64 p.W, .int .i64 p.H, .slice p.r p.n p.cap]
def picE (p : Pic) : Nat := if 256 < p.W ∨ 256 < p.H then 2 else if p.W < 1 ∨ p.H < 1 ∨ (p.n : Int) ≠ p.W * p.H then 5 else if anyZ badB p.z p.n then 5 else 0
/-- The picture lies in w. -/
def PicAt (w : World) (p : Pic) : Prop := IntsAt w p.r p.n p.z ∧ p.n ≤ 9223372036854775807
theorem PicAt.below {w w' : World} {p : Pic} (h : PicAt w p) (hb : Below w.heap.size w w') : PicAt w' p := ⟨h.1.below hb, h.2⟩
theorem area {W H : Int} (h1 : 1 ≤ W) (h2 : W ≤ 256) (h3 : 1 ≤ H) (h4 : H ≤ 256) : 1 ≤ W * H ∧ W * H ≤ 65536 := by
  constructor
  · have := Int.mul_le_mul h1 h3 (by omega) (by omega); omega
  · have := Int.mul_le_mul h2 h4 (by omega) (by omega); omega
set_option maxRecDepth 100000 in
set_option maxHeartbeats 8000000 in
theorem frameValid_walk (a : Nat → Addr) (p : Pic) (w : World) (hs : Sen a [2, 5] w) (hp : PicAt w p) :
    Calls Tryd.prog 37 #[picV p] w fun e w' => e = .returned (errV a (picE p)) ∧ Below w.heap.size w w' := by
  obtain ⟨W, H, r, n, cap, z⟩ := p
  obtain ⟨hr, hn⟩ := hp
  simp only at hr hn
  unfold picV picE
  simp only
  have HE2 := Lib.hid (errV_pos a (show 2 ≠ 0 by decide))
  have HE5 := Lib.hid (errV_pos a (show 5 ≠ 0 by decide))
  have c2 := (hs 2 (by decide)).1
  have l2 := (hs.lt (k := 2) (by decide)).1
  have c5 := (hs 5 (by decide)).1
  have l5 := (hs.lt (k := 5) (by decide)).1
  simp only [gOf] at c2 l2 c5 l5
  have CF := Lib.hid (fun X (hX : Below w.heap.size w X) => has_valid1 r n cap z X hn (hr.below hX))
  clear hs hr
  by_cases h1 : 256 < W
  · rw [if_pos (.inl h1), HE2.out]
    go_enter Tryd.func37, Tryd.ntmps37
    go_wp2
    go_ret
    exact ⟨rfl, grow_alloc (grow_refl w) _⟩
  · by_cases h2 : 256 < H
    · rw [if_pos (.inr h2), HE2.out]
      go_enter Tryd.func37, Tryd.ntmps37
      go_wp2
      go_ret
      exact ⟨rfl, grow_alloc (grow_refl w) _⟩
    · rw [if_neg (by omega)]
      by_cases h3 : W < 1
      · rw [if_pos (.inl h3), HE5.out]
        go_enter Tryd.func37, Tryd.ntmps37
        go_wp2
        go_ret
        exact ⟨rfl, grow_alloc (grow_refl w) _⟩
      · by_cases h4 : H < 1
        · rw [if_pos (.inr (.inl h4)), HE5.out]
          go_enter Tryd.func37, Tryd.ntmps37
          go_wp2
          go_ret
          exact ⟨rfl, grow_alloc (grow_refl w) _⟩
        · obtain ⟨m1, m2⟩ := area (W := W) (H := H) (by omega) (by omega) (by omega) (by omega)
          by_cases h5 : (n : Int) = W * H
          · rw [if_neg (by omega)]
            have d5 : ((n : Int) != W * H) = false := by simp [h5]
            have H5 := Lib.hid h5
            clear h5
            cases hb : anyZ badB z n with
            | true =>
              rw [hb] at CF
              rw [if_pos rfl, HE5.out]
              go_enter Tryd.func37, Tryd.ntmps37
              go_wp2_with (go_at_call 53; (with_reducible refine (CF.out _ (grow_alloc (grow_refl w) _)).mono ?_); rintro e w1 ⟨rfl, rfl⟩)
              go_ret
              exact ⟨rfl, grow_alloc (grow_refl w) _⟩
            | false =>
              rw [hb] at CF
              rw [if_neg Bool.false_ne_true, errV_zero]
              go_enter Tryd.func37, Tryd.ntmps37
              go_wp2_with (go_at_call 53; (with_reducible refine (CF.out _ (grow_alloc (grow_refl w) _)).mono ?_); rintro e w1 ⟨rfl, rfl⟩)
              go_ret
              exact ⟨rfl, grow_alloc (grow_refl w) _⟩
          · rw [if_pos (.inr (.inr h5)), HE5.out]
            have d5 : ((n : Int) != W * H) = true := by simp [h5]
            clear h5
            go_enter Tryd.func37, Tryd.ntmps37
            go_wp2
            go_ret
            exact ⟨rfl, grow_alloc (grow_refl w) _⟩
end Go.Proofs.YtaakbajhbmbhcaaDoor
