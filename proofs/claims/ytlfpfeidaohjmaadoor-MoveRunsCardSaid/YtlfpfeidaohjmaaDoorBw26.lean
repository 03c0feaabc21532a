/- MoveRuns: the law's walk, at whatever both runs answer alike. -/
import Derived.Test.YtlfpfeidaohjmaaDoorBw25
import Derived.Test.YtlfpfeidaohjmaaDoorBw16
set_option linter.unusedSimpArgs false
set_option linter.unusedVariables false
namespace Go.Proofs.YtlfpfeidaohjmaaDoor
open Go.RowKit Go.Grow Go.Bo

set_option maxRecDepth 100000 in
set_option maxHeartbeats 16000000 in
theorem runs_short (a : Nat → Addr) (r : Option Addr) (n cap : Nat) (st : Int) (B E : Nat → Bd) (n1 x y : Nat) (w : World) (hs : Sen a [2, 5, 6] w) (hr : BodsAt w r n B) (hsh : shortB n st) (hv : validE n B = y) (hx : x ≤ 10) (hn1 : n1 ≤ 1000000)
    (CD : ∀ k ≤ 10, ∀ x, Below w.heap.size w x → Calls Tryd.prog 33 #[errV a k, .int .i64 k] x fun e w' => e = .returned (.bool true) ∧ Below x.heap.size x w')
    (R : ∀ x' r' c, Below w.heap.size w x' → (r' = none → c = 0) → BodsAt x' r' n B → Calls Tryd.prog 16 #[.slice r' n c, .int .i64 st] x' fun e w' => ∃ r1 c1, e = .returned (.tuple #[.slice r1 n1 c1, errV a x]) ∧ BodsAt w' r1 n1 E ∧ Below x'.heap.size x' w')
    (Q : ∀ x', Below w.heap.size w x' → Calls Tryd.prog 32 #[.slice r n cap, .int .i64 st] x' fun e w' => ∃ r1 c1, e = .returned (.tuple #[.slice r1 n1 c1, .int .i64 x]) ∧ BodsAt w' r1 n1 E ∧ Below x'.heap.size x' w') :
    Calls Tryd.prog 6 #[.slice r n cap, .int .i64 st] w fun e w' => e = .returned (.bool true) ∧ Below w.heap.size w w' := by
  have MV := Lib.hid (fun x (hx : Below w.heap.size w x) => moves_walk a x (hs.below hx))
  have g : Hid (Below w.heap.size w w) := Lib.hid (grow_refl w)
  have hn14 := hsh.1
  have SH := Lib.hid (short_yes r n cap st · hsh)
  have BD := Lib.hid (fun x (hx : Below w.heap.size w x) => bodies_walk r n cap B x (by omega) (hr.below hx))
  have VD := Lib.hid (fun x r c (hx : Below w.heap.size w x) (hb : BodsAt x r n B) => valid_walk a r n c B x (by omega) hb (hs.below hx))
  have BE := Lib.hid (fun x (hx : Below w.heap.size w x) => bodiesError_walk r n cap B x (by omega) (hr.below hx))
  rw [hv] at VD BE
  have hy : y ≤ 10 := hv ▸ validE_le n B
  have C1 := Lib.hid (CD x hx)
  have C2 := Lib.hid (CD y hy)
  have RN := Lib.hid R
  have QN := Lib.hid Q
  clear hs hr hsh hv CD R Q
  have s0 := trivial
  have t0 := trivial
  go_enter Tryd.func6, Tryd.ntmps6
  go_wp2_with (first
    | (go_at_call 14; (with_reducible refine (MV.out _ g.out).mono ?_); rintro e w1 ⟨rfl, hb⟩; replace g := Lib.hid (grow_trans g.out hb); clear hb)
    | (go_at_call 15; (with_reducible refine (SH.out _).mono ?_); rintro e w2 ⟨rfl, rfl⟩)
    | (clear s0; go_at_call 17; (with_reducible refine (BD.out _ g.out).mono ?_); rintro e w3 ⟨r3, c3, rfl, hrc3, hb3, hb⟩; replace g := Lib.hid (grow_trans g.out hb); have HB3 := Lib.hid hb3; have HC3 := Lib.hid hrc3; clear hb hb3 hrc3; have s1 := trivial)
    | (go_at_call 16; (with_reducible refine (RN.out _ _ _ g.out HC3.out HB3.out).mono ?_); rintro e w4 ⟨r4, c4, rfl, hb4, hb⟩; replace g := Lib.hid (grow_trans g.out hb); have HB4 := Lib.hid hb4; clear hb hb4 HB3 HC3)
    | (go_at_call 32; (with_reducible refine (QN.out _ g.out).mono ?_); rintro e w5 ⟨r5, c5, rfl, hb5, hb⟩; replace g := Lib.hid (grow_trans g.out hb); have X1 := Lib.hid (HB4.out.below hb); have Y1 := Lib.hid hb5; clear hb hb5 HB4)
    | (clear t0; go_at_call 33; (with_reducible refine (C1.out _ g.out).mono ?_); rintro e w6 ⟨rfl, hb⟩; replace g := Lib.hid (grow_trans g.out hb); have X2 := Lib.hid (X1.out.below hb); have Y2 := Lib.hid (Y1.out.below hb); clear hb X1 Y1; have t1 := trivial)
    | (clear s1; go_at_call 17; (with_reducible refine (BD.out _ g.out).mono ?_); rintro e w7 ⟨r7, c7, rfl, hrc7, hb7, hb⟩; replace g := Lib.hid (grow_trans g.out hb); have HB7 := Lib.hid hb7; have X3 := Lib.hid (X2.out.below hb); have Y3 := Lib.hid (Y2.out.below hb); clear hb hb7 hrc7 X2 Y2)
    | (go_at_call 34; (with_reducible refine (VD.out _ _ _ g.out HB7.out).mono ?_); rintro e w8 ⟨rfl, hb⟩; replace g := Lib.hid (grow_trans g.out hb); have X4 := Lib.hid (X3.out.below hb); have Y4 := Lib.hid (Y3.out.below hb); clear hb X3 Y3 HB7)
    | (go_at_call 35; (with_reducible refine (BE.out _ g.out).mono ?_); rintro e w9 ⟨rfl, hb⟩; replace g := Lib.hid (grow_trans g.out hb); have X5 := Lib.hid (X4.out.below hb); have Y5 := Lib.hid (Y4.out.below hb); clear hb X4 Y4)
    | (clear t1; go_at_call 33; (with_reducible refine (C2.out _ g.out).mono ?_); rintro e w10 ⟨rfl, hb⟩; replace g := Lib.hid (grow_trans g.out hb); have X6 := Lib.hid (X5.out.below hb); have Y6 := Lib.hid (Y5.out.below hb); clear hb X5 Y5)
    | (go_at_call 18; (with_reducible refine (same_walk _ _ n1 _ _ E _ hn1 X6.out Y6.out).mono ?_); rintro e w11 ⟨rfl, hb⟩; replace g := Lib.hid (grow_trans g.out hb); clear hb X6 Y6))
  go_ret
  exact ⟨rfl, g.out⟩
end Go.Proofs.YtlfpfeidaohjmaaDoor
