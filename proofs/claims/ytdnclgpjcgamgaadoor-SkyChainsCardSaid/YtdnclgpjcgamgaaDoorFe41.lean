/- A chain of turns, along and against. Nothing of a program stands here. -/
import Derived.Test.YtdnclgpjcgamgaaDoorFe40
set_option linter.unusedSimpArgs false
set_option linter.unusedVariables false
namespace Go.Fe
open Ieee Fl

/-! A chain of turns, along and against: nearly the same. -/
def trF (ax k : Int) (v : V3) : V3 :=
  if ax = 0 then ⟨v.x, Fl.fsub (Fl.fmul v.y (Tr.cosA k)) (Fl.fmul v.z (Tr.sinA k)), Fl.fadd (Fl.fmul v.y (Tr.sinA k)) (Fl.fmul v.z (Tr.cosA k))⟩
  else if ax = 1 then ⟨Fl.fadd (Fl.fmul v.z (Tr.sinA k)) (Fl.fmul v.x (Tr.cosA k)), v.y, Fl.fsub (Fl.fmul v.z (Tr.cosA k)) (Fl.fmul v.x (Tr.sinA k))⟩
  else if ax = 2 then ⟨Fl.fsub (Fl.fmul v.x (Tr.cosA k)) (Fl.fmul v.y (Tr.sinA k)), Fl.fadd (Fl.fmul v.x (Tr.sinA k)) (Fl.fmul v.y (Tr.cosA k)), v.z⟩
  else v
def alongF (l : List (Int × Int)) (v : V3) : V3 := l.foldl (fun v s => trF s.1 s.2 v) v
def againstF (l : List (Int × Int)) (v : V3) : V3 := l.foldr (fun s v => trF s.1 (-Tr.nrm s.2) v) v
/-- One turn, with what the way back gives. -/
theorem one_step {a b z : Nat} {m : Rat} (k : Int) (h : V3Ok a b z m) (hm : 2 * m ≤ two 700) :
    ∃ x y, Fl.fsub (Fl.fmul (some a) (Tr.cosA k)) (Fl.fmul (some b) (Tr.sinA k)) = some x ∧ Fl.fadd (Fl.fmul (some a) (Tr.sinA k)) (Fl.fmul (some b) (Tr.cosA k)) = some y ∧ V3Ok x y z ((1 + 12 * U) * m) ∧
      ∀ p q t E, Fn p → Fn q → Fn t → L2 (V p - V x) (V q - V y) (V t - V z) E → E ≤ 1 / 1000 * m →
        ∃ p' q', Fl.fsub (Fl.fmul (some p) (Tr.cosA (-Tr.nrm k))) (Fl.fmul (some q) (Tr.sinA (-Tr.nrm k))) = some p' ∧ Fl.fadd (Fl.fmul (some p) (Tr.sinA (-Tr.nrm k))) (Fl.fmul (some q) (Tr.cosA (-Tr.nrm k))) = some q' ∧ Fn p' ∧ Fn q' ∧
          L2 (V p' - V a) (V q' - V b) (V t - V z) (E + 26 * U * m) := by
  have hU := U_pos
  have hU1 : U ≤ 1 / 100000 := by decide +kernel
  have m0 := h.l.e0
  have Um1 := Rat.mul_le_mul_of_nonneg_right hU1 m0
  obtain ⟨c, s, hc, hs, ho⟩ := ang_ok k
  obtain ⟨c', s', hc', hs', ho'⟩ := ang_ok (-Tr.nrm k)
  obtain ⟨x, y, hx, hy, fx, fy, hl⟩ := turn_ok h ho
  rw [hc, hs, hc', hs']
  refine ⟨x, y, hx, hy, turned_ok h fx fy hl (by grind), ?_⟩
  intro p q t E fp fq ft hE hE1
  exact back_step h ho' hm hl fp fq ft hE hE1
theorem L2.rot2 {x y z e : Rat} (h : L2 x y z e) : L2 z x y e := h.rot.rot
theorem chain_ok : ∀ (l : List (Int × Int)) (x y z : Nat) (m : Rat), (∀ s ∈ l, 0 ≤ s.1 ∧ s.1 ≤ 2) → V3Ok x y z m → l.length ≤ 60 → m ≤ (100 - (l.length : Rat)) * two 600 →
    ∃ a b c p q t, alongF l ⟨some x, some y, some z⟩ = ⟨some a, some b, some c⟩ ∧ againstF l ⟨some a, some b, some c⟩ = ⟨some p, some q, some t⟩ ∧ Fn p ∧ Fn q ∧ Fn t ∧ L2 (V p - V x) (V q - V y) (V t - V z) ((l.length : Rat) * (30 * U * m))
  | [], x, y, z, m, _, h, _, _ => by
    refine ⟨x, y, z, x, y, z, rfl, rfl, h.fa, h.fb, h.fz, ?_⟩
    have c0 : ((([] : List (Int × Int)).length : Nat) : Rat) = 0 := rfl
    rw [c0]
    exact ⟨by grind, by grind⟩
  | (ax, k) :: l, x, y, z, m, hs, h, hn, hm => by
    have hU := U_pos
    have hU1 : U ≤ 1 / 100000000 := by decide +kernel
    have m0 := h.l.e0
    have Um := Rat.mul_nonneg (Rat.le_of_lt hU) m0
    have Um1 := Rat.mul_le_mul_of_nonneg_right hU1 m0
    have Um2 := Rat.mul_le_mul_of_nonneg_right hU1 Um
    have hlen : ((((ax, k) :: l).length : Nat) : Rat) = (l.length : Rat) + 1 := by
      rw [List.length_cons, Rat.natCast_add]; rfl
    have hl60 : l.length ≤ 60 := by simp at hn; omega
    have hl59 : (l.length : Rat) ≤ 59 := by
      have : ((l.length : Nat) : Rat) ≤ ((59 : Nat) : Rat) := rat_le (by simp at hn; omega)
      have c : ((59 : Nat) : Rat) = 59 := rfl
      rw [c] at this; exact this
    have l0 := nat_nonneg l.length
    rw [hlen] at hm ⊢
    generalize hL : (l.length : Rat) = L at *
    have h600 := two_pos 600
    have h7 : 1000 * two 600 ≤ two 700 := by decide +kernel
    have hLt := Rat.mul_le_mul_of_nonneg_right hl59 (Rat.le_of_lt h600)
    have hL0 := Rat.mul_nonneg l0 (Rat.le_of_lt h600)
    have hm2 : 2 * m ≤ two 700 := by grind
    have hm3 : (1 + 12 * U) * m ≤ (100 - L) * two 600 := by
      have g0 : 12 * U * m ≤ 12 * U * ((100 - (L + 1)) * two 600) := Rat.mul_le_mul_of_nonneg_left hm (show 0 ≤ 12 * U by grind)
      have g3 := Rat.mul_nonneg (Rat.le_of_lt hU) (Rat.le_of_lt h600)
      have g1 := Rat.mul_le_mul_of_nonneg_right hU1 (Rat.le_of_lt h600)
      have g2 := Rat.mul_nonneg (Rat.le_of_lt hU) hL0
      grind
    have E1 : L * (30 * U * ((1 + 12 * U) * m)) ≤ 1 / 1000 * m := by
      have g := mul_le_both l0 (show 0 ≤ 30 * U * ((1 + 12 * U) * m) by
        have := Rat.mul_nonneg (Rat.le_of_lt hU) Um
        grind) hl59 Rat.le_refl
      grind
    have E2 : L * (30 * U * ((1 + 12 * U) * m)) + 26 * U * m ≤ (L + 1) * (30 * U * m) := by
      have g0 := Rat.mul_nonneg (Rat.le_of_lt hU) Um
      have g := Rat.mul_le_mul_of_nonneg_right hl59 g0
      grind
    have hs' : ∀ s ∈ l, 0 ≤ s.1 ∧ s.1 ≤ 2 := fun s h => hs s (List.mem_cons_of_mem _ h)
    obtain ⟨ax0, ax2⟩ := hs (ax, k) List.mem_cons_self
    have hax : ax = 0 ∨ ax = 1 ∨ ax = 2 := by omega
    rcases hax with rfl | rfl | rfl
    · obtain ⟨y1, z1, hy, hz, ok, back⟩ := one_step k h.rot hm2
      obtain ⟨a, b, c, p, q, t, h1, h2, fp, fq, ft, hE⟩ := chain_ok l x y1 z1 _ hs' ok.rot.rot hl60 (by rw [hL]; exact hm3)
      obtain ⟨q', t', hq, ht, fq', ft', hE'⟩ := back q t p _ fq ft fp hE.rot (by rw [hL]; exact E1)
      refine ⟨a, b, c, p, q', t', ?_, ?_, fp, fq', ft', ?_⟩
      · show alongF l (trF 0 k _) = _
        unfold trF; rw [if_pos rfl, hy, hz]; exact h1
      · show trF 0 (-Tr.nrm k) (againstF l _) = _
        rw [h2]; unfold trF; rw [if_pos rfl, hq, ht]
      · rw [hL] at hE'
        exact hE'.rot.rot.le E2
    · obtain ⟨z1, x1, hz, hx, ok, back⟩ := one_step k h.rot.rot hm2
      obtain ⟨a, b, c, p, q, t, h1, h2, fp, fq, ft, hE⟩ := chain_ok l x1 y z1 _ hs' ok.rot hl60 (by rw [hL]; exact hm3)
      obtain ⟨t', p', ht, hp, ft', fp', hE'⟩ := back t p q _ ft fp fq hE.rot.rot (by rw [hL]; exact E1)
      refine ⟨a, b, c, p', q, t', ?_, ?_, fp', fq, ft', ?_⟩
      · show alongF l (trF 1 k _) = _
        unfold trF; rw [if_neg (by decide), if_pos rfl, hz, hx]; exact h1
      · show trF 1 (-Tr.nrm k) (againstF l _) = _
        rw [h2]; unfold trF; rw [if_neg (by decide), if_pos rfl, ht, hp]
      · rw [hL] at hE'
        exact hE'.rot.le E2
    · obtain ⟨x1, y1, hx, hy, ok, back⟩ := one_step k h hm2
      obtain ⟨a, b, c, p, q, t, h1, h2, fp, fq, ft, hE⟩ := chain_ok l x1 y1 z _ hs' ok hl60 (by rw [hL]; exact hm3)
      obtain ⟨p', q', hp, hq, fp', fq', hE'⟩ := back p q t _ fp fq ft hE (by rw [hL]; exact E1)
      refine ⟨a, b, c, p', q', t, ?_, ?_, fp', fq', ft, ?_⟩
      · show alongF l (trF 2 k _) = _
        unfold trF; rw [if_neg (by decide), if_neg (by decide), if_pos rfl, hx, hy]; exact h1
      · show trF 2 (-Tr.nrm k) (againstF l _) = _
        rw [h2]; unfold trF; rw [if_neg (by decide), if_neg (by decide), if_pos rfl, hp, hq]
      · rw [hL] at hE'
        exact hE'.le E2
end Go.Fe
