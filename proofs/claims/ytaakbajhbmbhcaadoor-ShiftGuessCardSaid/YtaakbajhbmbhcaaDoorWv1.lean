/- Waves: a product and a wave, the program's and the document's. -/
import Derived.Test.YtaakbajhbmbhcaaDoorCx
import Derived.Test.YtaakbajhbmbhcaaDoorFs11
set_option linter.unusedSimpArgs false
set_option linter.unusedVariables false
namespace Go.Proofs.YtaakbajhbmbhcaaDoor
open Go.RowKit Go.Fl Go.Grow Go.Tr

/-- A product, each operation rounded by itself. -/
def cmul (x y : C2) : C2 := ⟨fsub (fmul x.re y.re) (fmul x.im y.im), fadd (fmul x.re y.im) (fmul x.im y.re)⟩
def cadd (x y : C2) : C2 := ⟨fadd x.re y.re, fadd x.im y.im⟩
def csub (x y : C2) : C2 := ⟨fsub x.re y.re, fsub x.im y.im⟩
def wav (g : Int) (back : Bool) : C2 := ⟨cosA g, if back then sinA g else fneg (sinA g)⟩
/-- A pair of the document's. -/
def IsPair (X : C2) (v : Value) : Prop := ∃ a b, v = .agg #[.float .f64 a, .float .f64 b] ∧ fl a = X.re ∧ fl b = X.im
set_option maxRecDepth 100000 in
set_option maxHeartbeats 4000000 in
theorem times_walk (a b c d : Nat) (w : World) : Calls Tryd.prog 35 #[.complex .f64 a b, .complex .f64 c d] w (PostD (IsC (cmul ⟨fl a, fl b⟩ ⟨fl c, fl d⟩)) w) := by
  go_enter Tryd.func35, Tryd.ntmps35
  go_wp2_with (refine wpList_arith rfl rfl (by rfl) rfl rfl ?_; intro b1 n1 H1)
  go_ret
  exact PostD.mk ⟨_, _, rfl, by simp only [Hid] at *; simp only [*]; rfl, by simp only [Hid] at *; simp only [*]; rfl⟩
set_option maxRecDepth 100000 in
set_option maxHeartbeats 4000000 in
theorem wave_walk (g : Int) (back : Bool) (w : World) : Calls Tryd.prog 36 #[.int .i64 g, .bool back] w (Post (IsC (wav g back)) w) := by
  have SW := Lib.hid (fun x => sin_walk g x)
  have CW := Lib.hid (fun x => cos_walk g x)
  unfold wav
  cases back with
  | true =>
    simp only [if_true]
    generalize sinA g = s at *
    generalize cosA g = c at *
    go_enter Tryd.func36, Tryd.ntmps36
    go_wp2_with (first
      | (go_at_call 51; (with_reducible refine (SW.out _).mono ?_); rintro e w1 ⟨v, rfl, ⟨b1, rfl, h1⟩, hB⟩; have H1 := Lib.hid h1; have HB1 := Lib.hid hB; clear h1 hB)
      | (go_at_call 52; (with_reducible refine (CW.out _).mono ?_); rintro e w2 ⟨v, rfl, ⟨b2, rfl, h2⟩, hB⟩; have H2 := Lib.hid h2; have HB2 := Lib.hid hB; clear h2 hB))
    go_ret
    exact Post.mk ⟨_, _, rfl, H2.out, H1.out⟩ (grow_trans HB1.out HB2.out)
  | false =>
    simp only [Bool.false_eq_true, if_false]
    generalize sinA g = s at *
    generalize cosA g = c at *
    go_enter Tryd.func36, Tryd.ntmps36
    go_wp2_with (first
      | (go_at_call 51; (with_reducible refine (SW.out _).mono ?_); rintro e w1 ⟨v, rfl, ⟨b1, rfl, h1⟩, hB⟩; have H1 := Lib.hid h1; have HB1 := Lib.hid hB; clear h1 hB)
      | (go_at_call 52; (with_reducible refine (CW.out _).mono ?_); rintro e w2 ⟨v, rfl, ⟨b2, rfl, h2⟩, hB⟩; have H2 := Lib.hid h2; have HB2 := Lib.hid hB; clear h2 hB))
    go_ret
    exact Post.mk ⟨_, _, rfl, H2.out, by rw [fl_neg, H1.out]⟩ (grow_trans HB1.out HB2.out)
set_option maxRecDepth 100000 in
set_option maxHeartbeats 4000000 in
theorem product_walk (a b c d : Nat) (w : World) : Calls Tryd.prog 44 #[.agg #[.float .f64 a, .float .f64 b], .agg #[.float .f64 c, .float .f64 d]] w (Post (IsPair (cmul ⟨fl a, fl b⟩ ⟨fl c, fl d⟩)) w) := by
  go_enter Tryd.func44, Tryd.ntmps44
  go_wp2_with (refine wpList_arith rfl rfl (by rfl) rfl rfl ?_; intro b1 n1 H1)
  refine bodyPost_ret (v := .agg #[.float .f64 _, .float .f64 _]) (by simp [results, Tryd.results44, go_sem]; first | rfl | exact ⟨rfl, rfl⟩) rfl ?_
  exact Post.mk ⟨_, _, rfl, by simp only [Hid] at *; simp only [*]; rfl, by simp only [Hid] at *; simp only [*]; rfl⟩ (by (repeat (with_reducible first | exact grow_refl _ | refine Grow.grow_setCell ?_ ?_ _ | refine Grow.grow_alloc ?_ _ | refine Grow.grow_drewN ?_ _)) <;> omega)
set_option maxRecDepth 100000 in
set_option maxHeartbeats 4000000 in
theorem waveOf_walk (g : Int) (back : Bool) (w : World) : Calls Tryd.prog 45 #[.int .i64 g, .bool back] w (Post (IsPair (wav g back)) w) := by
  have SW := Lib.hid (fun x => sinCos_walk g x)
  unfold IsSC at SW
  unfold wav
  cases back with
  | true =>
    simp only [if_true]
    generalize sinA g = s at *
    generalize cosA g = c at *
    go_enter Tryd.func45, Tryd.ntmps45
    go_wp2_with (go_at_call 59; (with_reducible refine (SW.out _).mono ?_); rintro e w1 ⟨v, rfl, ⟨b1, b2, rfl, h1, h2⟩, hB⟩; have H1 := Lib.hid h1; have H2 := Lib.hid h2; have K := (Known.new w _ _).below hB; have c4 := K.cell; have f4 := K.frozen; have l4 := K.lt; have HB1 := Lib.hid hB; clear h1 h2 hB)
    refine bodyPost_ret (v := .agg #[.float .f64 b2, .float .f64 b1]) (by simp [results, Tryd.results45, go_sem, c4]) rfl ?_
    exact Post.mk ⟨_, _, rfl, H2.out, H1.out⟩ (by (repeat (with_reducible first | exact grow_trans (grow_alloc (grow_refl _) _) HB1.out | refine Grow.grow_setCell ?_ ?_ _)) <;> omega)
  | false =>
    simp only [Bool.false_eq_true, if_false]
    generalize sinA g = s at *
    generalize cosA g = c at *
    go_enter Tryd.func45, Tryd.ntmps45
    go_wp2_with (go_at_call 59; (with_reducible refine (SW.out _).mono ?_); rintro e w1 ⟨v, rfl, ⟨b1, b2, rfl, h1, h2⟩, hB⟩; have H1 := Lib.hid h1; have H2 := Lib.hid h2; have K := (Known.new w _ _).below hB; have c4 := K.cell; have f4 := K.frozen; have l4 := K.lt; have HB1 := Lib.hid hB; clear h1 h2 hB)
    refine bodyPost_ret (v := .agg #[.float .f64 b2, .float .f64 (Op.negFloat .f64 b1)]) (by simp [results, Tryd.results45, go_sem, c4]) rfl ?_
    exact Post.mk ⟨_, _, rfl, H2.out, by rw [fl_neg, H1.out]⟩ (by (repeat (with_reducible first | exact grow_trans (grow_alloc (grow_refl _) _) HB1.out | refine Grow.grow_setCell ?_ ?_ _)) <;> omega)
end Go.Proofs.YtaakbajhbmbhcaaDoor
