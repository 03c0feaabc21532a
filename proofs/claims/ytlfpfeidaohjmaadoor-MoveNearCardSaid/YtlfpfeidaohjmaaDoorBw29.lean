/- MoveNear: the law's walk. -/
import Derived.Test.YtlfpfeidaohjmaaDoorBw28
import Derived.Test.YtlfpfeidaohjmaaDoorBw25
set_option linter.unusedSimpArgs false
set_option linter.unusedVariables false
namespace Go.Proofs.YtlfpfeidaohjmaaDoor
open Go.RowKit Go.Grow Go.Bo

theorem run_pre {n : Nat} {s : Int} {j k : Nat} {B F : Nat → Bd} (h : Bo.run n s k B = some F) (hj : j ≤ k) : ∃ E, Bo.run n s j B = some E := by
  obtain ⟨m, rfl⟩ : ∃ m, k = j + m := ⟨k - j, by omega⟩
  rw [run_add] at h
  obtain ⟨E, hE, _⟩ := Option.bind_eq_some_iff.1 h
  exact ⟨E, hE⟩
theorem run_next {n : Nat} {s : Int} {t k : Nat} {B E F : Nat → Bd} (h : Bo.run n s k B = some F) (ht : t < k) (hE : Bo.run n s t B = some E) : ∃ G, Bo.step n s E = some G ∧ Bo.run n s (t + 1) B = some G := by
  obtain ⟨G, hG⟩ := run_pre h (show t + 1 ≤ k by omega)
  have h2 : (Bo.run n s t B).bind (Bo.step n s) = some G := hG
  rw [hE] at h2
  exact ⟨G, h2, hG⟩
def SomeRow (w : World) (n : Nat) (x : Nat) (e : Ending) (w' : World) : Prop :=
  ∃ r1 n1 c1, e = .returned (.tuple #[.slice r1 n1 c1, .int .i64 (x : Nat)]) ∧ Below w.heap.size w w'
set_option maxRecDepth 100000 in
set_option maxHeartbeats 16000000 in
theorem near_long (a : Nat → Addr) (r : Option Addr) (n cap : Nat) (st : Int) (w : World) (hs : Sen a [2, 5, 6] w) (hl : ¬ shortB n st) :
    Calls Tryd.prog 8 #[.slice r n cap, .int .i64 st] w fun e w' => e = .returned (.bool true) ∧ Below w.heap.size w w' := by
  have MV := Lib.hid (fun x (hx : Below w.heap.size w x) => moves_walk a x (hs.below hx))
  have g : Hid (Below w.heap.size w w) := Lib.hid (grow_refl w)
  have SH := Lib.hid (short_no r n cap st · hl)
  clear hs hl
  go_enter Tryd.func8, Tryd.ntmps8
  go_wp2_with (first
    | (go_at_call 14; (with_reducible refine (MV.out _ g.out).mono ?_); rintro e w1 ⟨rfl, hb⟩; replace g := Lib.hid (grow_trans g.out hb); clear hb)
    | (go_at_call 15; (with_reducible refine (SH.out _).mono ?_); rintro e w2 ⟨rfl, rfl⟩))
  go_ret
  exact ⟨rfl, g.out⟩
set_option maxRecDepth 100000 in
set_option maxHeartbeats 16000000 in
theorem nearL_bad (a : Nat → Addr) (r : Option Addr) (n cap : Nat) (st : Int) (B : Nat → Bd) (w : World) (hs : Sen a [2, 5, 6] w) (hr : BodsAt w r n B) (hsh : shortB n st) (y : Nat) (hv : validE n B = y) (hy : 0 < y) (hy10 : y ≤ 10)
    (CD : ∀ k ≤ 10, ∀ x, Below w.heap.size w x → Calls Tryd.prog 33 #[errV a k, .int .i64 k] x fun e w' => e = .returned (.bool true) ∧ Below x.heap.size x w')
    (NR : ∀ x' r' c, Below w.heap.size w x' → (r' = none → c = 0) → BodsAt x' r' n B → Calls Tryd.prog 39 #[.slice r' n c, .int .i64 st] x' (NearOut a x' y)) :
    Calls Tryd.prog 8 #[.slice r n cap, .int .i64 st] w fun e w' => e = .returned (.bool true) ∧ Below w.heap.size w w' := by
  have MV := Lib.hid (fun x (hx : Below w.heap.size w x) => moves_walk a x (hs.below hx))
  have g : Hid (Below w.heap.size w w) := Lib.hid (grow_refl w)
  have hn14 := hsh.1
  have SH := Lib.hid (short_yes r n cap st · hsh)
  have BD := Lib.hid (fun x (hx : Below w.heap.size w x) => bodies_walk r n cap B x (by omega) (hr.below hx))
  have BE := Lib.hid (fun x (hx : Below w.heap.size w x) => bodiesError_walk r n cap B x (by omega) (hr.below hx))
  rw [hv] at BE
  have C1 := Lib.hid (CD y hy10)
  have NN := Lib.hid NR
  clear hs hr hsh hv CD NR
  have d0 : decide ((y : Int) = 0) = false := decide_eq_false (by omega)
  have d1 : decide (0 < (y : Int)) = true := decide_eq_true (by omega)
  go_enter Tryd.func8, Tryd.ntmps8
  go_wp2_with (first
    | (go_at_call 14; (with_reducible refine (MV.out _ g.out).mono ?_); rintro e w1 ⟨rfl, hb⟩; replace g := Lib.hid (grow_trans g.out hb); clear hb)
    | (go_at_call 15; (with_reducible refine (SH.out _).mono ?_); rintro e w2 ⟨rfl, rfl⟩)
    | (go_at_call 17; (with_reducible refine (BD.out _ g.out).mono ?_); rintro e w3 ⟨r3, c3, rfl, hrc3, hb3, hb⟩; replace g := Lib.hid (grow_trans g.out hb); have HB3 := Lib.hid hb3; have HC3 := Lib.hid hrc3; clear hb hb3 hrc3)
    | (go_at_call 39; (with_reducible refine (NN.out _ _ _ g.out HC3.out HB3.out).mono ?_); rintro e w4 ⟨rfl, hb⟩; replace g := Lib.hid (grow_trans g.out hb); clear hb HB3 HC3)
    | (go_at_call 35; (with_reducible refine (BE.out _ g.out).mono ?_); rintro e w5 ⟨rfl, hb⟩; replace g := Lib.hid (grow_trans g.out hb); clear hb)
    | (go_at_call 33; (with_reducible refine (C1.out _ g.out).mono ?_); rintro e w7 ⟨rfl, hb⟩; replace g := Lib.hid (grow_trans g.out hb); clear hb))
  go_ret
  exact ⟨rfl, g.out⟩
set_option maxRecDepth 100000 in
set_option maxHeartbeats 16000000 in
theorem nearL_back (a : Nat → Addr) (r : Option Addr) (n cap : Nat) (st : Int) (B : Nat → Bd) (w : World) (hs : Sen a [2, 5, 6] w) (hr : BodsAt w r n B) (hsh : shortB n st) (hv : validE n B = 0) (hst : st < 0)
    (CD : ∀ k ≤ 10, ∀ x, Below w.heap.size w x → Calls Tryd.prog 33 #[errV a k, .int .i64 k] x fun e w' => e = .returned (.bool true) ∧ Below x.heap.size x w')
    (NR : ∀ x' r' c, Below w.heap.size w x' → (r' = none → c = 0) → BodsAt x' r' n B → Calls Tryd.prog 39 #[.slice r' n c, .int .i64 st] x' (NearOut a x' 2)) :
    Calls Tryd.prog 8 #[.slice r n cap, .int .i64 st] w fun e w' => e = .returned (.bool true) ∧ Below w.heap.size w w' := by
  have MV := Lib.hid (fun x (hx : Below w.heap.size w x) => moves_walk a x (hs.below hx))
  have g : Hid (Below w.heap.size w w) := Lib.hid (grow_refl w)
  have hn14 := hsh.1
  have SH := Lib.hid (short_yes r n cap st · hsh)
  have BD := Lib.hid (fun x (hx : Below w.heap.size w x) => bodies_walk r n cap B x (by omega) (hr.below hx))
  have BE := Lib.hid (fun x (hx : Below w.heap.size w x) => bodiesError_walk r n cap B x (by omega) (hr.below hx))
  rw [hv] at BE
  have C1 := Lib.hid (show ∀ x, Below w.heap.size w x → Calls Tryd.prog 33 #[errV a 2, .int .i64 2] x fun e w' => e = .returned (.bool true) ∧ Below x.heap.size x w' from CD 2 (by decide))
  have NN := Lib.hid NR
  clear hs hr hsh hv CD NR
  have d0 : decide (st < 0) = true := decide_eq_true hst
  go_enter Tryd.func8, Tryd.ntmps8
  go_wp2_with (first
    | (go_at_call 14; (with_reducible refine (MV.out _ g.out).mono ?_); rintro e w1 ⟨rfl, hb⟩; replace g := Lib.hid (grow_trans g.out hb); clear hb)
    | (go_at_call 15; (with_reducible refine (SH.out _).mono ?_); rintro e w2 ⟨rfl, rfl⟩)
    | (go_at_call 17; (with_reducible refine (BD.out _ g.out).mono ?_); rintro e w3 ⟨r3, c3, rfl, hrc3, hb3, hb⟩; replace g := Lib.hid (grow_trans g.out hb); have HB3 := Lib.hid hb3; have HC3 := Lib.hid hrc3; clear hb hb3 hrc3)
    | (go_at_call 39; (with_reducible refine (NN.out _ _ _ g.out HC3.out HB3.out).mono ?_); rintro e w4 ⟨rfl, hb⟩; replace g := Lib.hid (grow_trans g.out hb); clear hb HB3 HC3)
    | (go_at_call 35; (with_reducible refine (BE.out _ g.out).mono ?_); rintro e w5 ⟨rfl, hb⟩; replace g := Lib.hid (grow_trans g.out hb); clear hb)
    | (go_at_call 33; (with_reducible refine (C1.out _ g.out).mono ?_); rintro e w7 ⟨rfl, hb⟩; replace g := Lib.hid (grow_trans g.out hb); clear hb))
  go_ret
  exact ⟨rfl, g.out⟩
set_option maxRecDepth 100000 in
set_option maxHeartbeats 16000000 in
theorem nearL_run (a : Nat → Addr) (r : Option Addr) (n cap : Nat) (st : Int) (B : Nat → Bd) (w : World) (hs : Sen a [2, 5, 6] w) (hr : BodsAt w r n B) (hsh : shortB n st) (hv : validE n B = 0) (hst : ¬ st < 0) (y : Nat) (hy : 0 < y) (hy10 : y ≤ 10)
    (CD : ∀ k ≤ 10, ∀ x, Below w.heap.size w x → Calls Tryd.prog 33 #[errV a k, .int .i64 k] x fun e w' => e = .returned (.bool true) ∧ Below x.heap.size x w')
    (NR : ∀ x' r' c, Below w.heap.size w x' → (r' = none → c = 0) → BodsAt x' r' n B → Calls Tryd.prog 39 #[.slice r' n c, .int .i64 st] x' (NearOut a x' y))
    (QR : ∀ x', Below w.heap.size w x' → Calls Tryd.prog 32 #[.slice r n cap, .int .i64 st] x' (SomeRow x' n y)) :
    Calls Tryd.prog 8 #[.slice r n cap, .int .i64 st] w fun e w' => e = .returned (.bool true) ∧ Below w.heap.size w w' := by
  have MV := Lib.hid (fun x (hx : Below w.heap.size w x) => moves_walk a x (hs.below hx))
  have g : Hid (Below w.heap.size w w) := Lib.hid (grow_refl w)
  have hn14 := hsh.1
  have SH := Lib.hid (short_yes r n cap st · hsh)
  have BD := Lib.hid (fun x (hx : Below w.heap.size w x) => bodies_walk r n cap B x (by omega) (hr.below hx))
  have BE := Lib.hid (fun x (hx : Below w.heap.size w x) => bodiesError_walk r n cap B x (by omega) (hr.below hx))
  rw [hv] at BE
  have C1 := Lib.hid (CD y hy10)
  have NN := Lib.hid NR
  have QN := Lib.hid QR
  clear hs hr hsh hv CD NR QR
  have d0 : decide (st < 0) = false := decide_eq_false hst
  have d2 : decide ((y : Int) = 0) = false := decide_eq_false (by omega)
  have d1 : decide (0 < (y : Int)) = true := decide_eq_true (by omega)
  go_enter Tryd.func8, Tryd.ntmps8
  go_wp2_with (first
    | (go_at_call 14; (with_reducible refine (MV.out _ g.out).mono ?_); rintro e w1 ⟨rfl, hb⟩; replace g := Lib.hid (grow_trans g.out hb); clear hb)
    | (go_at_call 15; (with_reducible refine (SH.out _).mono ?_); rintro e w2 ⟨rfl, rfl⟩)
    | (go_at_call 17; (with_reducible refine (BD.out _ g.out).mono ?_); rintro e w3 ⟨r3, c3, rfl, hrc3, hb3, hb⟩; replace g := Lib.hid (grow_trans g.out hb); have HB3 := Lib.hid hb3; have HC3 := Lib.hid hrc3; clear hb hb3 hrc3)
    | (go_at_call 39; (with_reducible refine (NN.out _ _ _ g.out HC3.out HB3.out).mono ?_); rintro e w4 ⟨rfl, hb⟩; replace g := Lib.hid (grow_trans g.out hb); clear hb HB3 HC3)
    | (go_at_call 35; (with_reducible refine (BE.out _ g.out).mono ?_); rintro e w5 ⟨rfl, hb⟩; replace g := Lib.hid (grow_trans g.out hb); clear hb)
    | (go_at_call 32; (with_reducible refine (QN.out _ g.out).mono ?_); rintro e w6 ⟨r6, n6, c6, rfl, hb⟩; replace g := Lib.hid (grow_trans g.out hb); clear hb)
    | (go_at_call 33; (with_reducible refine (C1.out _ g.out).mono ?_); rintro e w7 ⟨rfl, hb⟩; replace g := Lib.hid (grow_trans g.out hb); clear hb))
  go_ret
  exact ⟨rfl, g.out⟩
set_option maxRecDepth 100000 in
set_option maxHeartbeats 16000000 in
theorem nearL_few (a : Nat → Addr) (r : Option Addr) (n cap : Nat) (st : Int) (B : Nat → Bd) (w : World) (hs : Sen a [2, 5, 6] w) (hr : BodsAt w r n B) (hsh : shortB n st) (hv : validE n B = 0) (hst : ¬ st < 0) (hn2 : n < 2)
    (CD : ∀ k ≤ 10, ∀ x, Below w.heap.size w x → Calls Tryd.prog 33 #[errV a k, .int .i64 k] x fun e w' => e = .returned (.bool true) ∧ Below x.heap.size x w')
    (NR : ∀ x' r' c, Below w.heap.size w x' → (r' = none → c = 0) → BodsAt x' r' n B → Calls Tryd.prog 39 #[.slice r' n c, .int .i64 st] x' (NearOut a x' 9))
    (QR : ∀ x', Below w.heap.size w x' → Calls Tryd.prog 32 #[.slice r n cap, .int .i64 st] x' (SomeRow x' n 0)) :
    Calls Tryd.prog 8 #[.slice r n cap, .int .i64 st] w fun e w' => e = .returned (.bool true) ∧ Below w.heap.size w w' := by
  have MV := Lib.hid (fun x (hx : Below w.heap.size w x) => moves_walk a x (hs.below hx))
  have g : Hid (Below w.heap.size w w) := Lib.hid (grow_refl w)
  have hn14 := hsh.1
  have SH := Lib.hid (short_yes r n cap st · hsh)
  have BD := Lib.hid (fun x (hx : Below w.heap.size w x) => bodies_walk r n cap B x (by omega) (hr.below hx))
  have BE := Lib.hid (fun x (hx : Below w.heap.size w x) => bodiesError_walk r n cap B x (by omega) (hr.below hx))
  rw [hv] at BE
  have C1 := Lib.hid (show ∀ x, Below w.heap.size w x → Calls Tryd.prog 33 #[errV a 9, .int .i64 9] x fun e w' => e = .returned (.bool true) ∧ Below x.heap.size x w' from CD 9 (by decide))
  have NN := Lib.hid NR
  have QN := Lib.hid QR
  clear hs hr hsh hv CD NR QR
  have d0 : decide (st < 0) = false := decide_eq_false hst
  have d1 : decide ((n : Int) < 2) = true := decide_eq_true (by omega)
  go_enter Tryd.func8, Tryd.ntmps8
  go_wp2_with (first
    | (go_at_call 14; (with_reducible refine (MV.out _ g.out).mono ?_); rintro e w1 ⟨rfl, hb⟩; replace g := Lib.hid (grow_trans g.out hb); clear hb)
    | (go_at_call 15; (with_reducible refine (SH.out _).mono ?_); rintro e w2 ⟨rfl, rfl⟩)
    | (go_at_call 17; (with_reducible refine (BD.out _ g.out).mono ?_); rintro e w3 ⟨r3, c3, rfl, hrc3, hb3, hb⟩; replace g := Lib.hid (grow_trans g.out hb); have HB3 := Lib.hid hb3; have HC3 := Lib.hid hrc3; clear hb hb3 hrc3)
    | (go_at_call 39; (with_reducible refine (NN.out _ _ _ g.out HC3.out HB3.out).mono ?_); rintro e w4 ⟨rfl, hb⟩; replace g := Lib.hid (grow_trans g.out hb); clear hb HB3 HC3)
    | (go_at_call 35; (with_reducible refine (BE.out _ g.out).mono ?_); rintro e w5 ⟨rfl, hb⟩; replace g := Lib.hid (grow_trans g.out hb); clear hb)
    | (go_at_call 32; (with_reducible refine (QN.out _ g.out).mono ?_); rintro e w6 ⟨r6, n6, c6, rfl, hb⟩; replace g := Lib.hid (grow_trans g.out hb); clear hb)
    | (go_at_call 33; (with_reducible refine (C1.out _ g.out).mono ?_); rintro e w7 ⟨rfl, hb⟩; replace g := Lib.hid (grow_trans g.out hb); clear hb))
  go_ret
  exact ⟨rfl, g.out⟩
set_option maxRecDepth 100000 in
set_option maxHeartbeats 16000000 in
theorem nearL_main (a : Nat → Addr) (r : Option Addr) (n cap : Nat) (K : Nat) (B : Nat → Bd) (w : World) (hs : Sen a [2, 5, 6] w) (hr : BodsAt w r n B) (hsh : shortB n K) (hv : validE n B = 0) (hn2 : 2 ≤ n) (hK : K ≤ 2000) (EK : Nat → Bd) (hEK : Bo.run n 1 K B = some EK)
    (NR : ∀ x' r' c, Below w.heap.size w x' → (r' = none → c = 0) → BodsAt x' r' n B → Calls Tryd.prog 39 #[.slice r' n c, .int .i64 K] x' fun e w' => e = .returned (.tuple #[.int .i64 (nrB n B (K + 1)).t, .int .i64 (nrB n B (K + 1)).i, .int .i64 (nrB n B (K + 1)).k, .int .i64 (nrB n B (K + 1)).f, .nilIface]) ∧ Below x'.heap.size x' w')
    (QR : ∀ x', Below w.heap.size w x' → Calls Tryd.prog 32 #[.slice r n cap, .int .i64 K] x' (SomeRow x' n 0)) :
    Calls Tryd.prog 8 #[.slice r n cap, .int .i64 K] w fun e w' => e = .returned (.bool true) ∧ Below w.heap.size w w' := by
  have MV := Lib.hid (fun x (hx : Below w.heap.size w x) => moves_walk a x (hs.below hx))
  have g : Hid (Below w.heap.size w w) := Lib.hid (grow_refl w)
  have hn14 := hsh.1
  have SH := Lib.hid (short_yes r n cap K · hsh)
  have BD := Lib.hid (fun x (hx : Below w.heap.size w x) => bodies_walk r n cap B x (by omega) (hr.below hx))
  have BE := Lib.hid (fun x (hx : Below w.heap.size w x) => bodiesError_walk r n cap B x (by omega) (hr.below hx))
  obtain ⟨hn12, hok⟩ := validE_ok.1 hv
  have HOK := Lib.hid hok
  rw [hv] at BE
  have NN := Lib.hid NR
  have QN := Lib.hid QR
  have HRR := Lib.hid hr
  have HEK := Lib.hid hEK
  clear hs hr hsh hv NR QR hok hEK
  have d0 : decide ((K : Int) < 0) = false := decide_eq_false (by omega)
  have d1 : decide ((n : Int) < 2) = false := decide_eq_false (by omega)
  generalize hzz : nrB n B (K + 1) = zz at NN
  have ZZ := Lib.hid hzz
  clear hzz
  go_enter Tryd.func8, Tryd.ntmps8
  go_wp2_with (first
    | (go_at_call 14; (with_reducible refine (MV.out _ g.out).mono ?_); rintro e w1 ⟨rfl, hb⟩; replace g := Lib.hid (grow_trans g.out hb); clear hb)
    | (go_at_call 15; (with_reducible refine (SH.out _).mono ?_); rintro e w2 ⟨rfl, rfl⟩)
    | (go_at_call 17; (with_reducible refine (BD.out _ g.out).mono ?_); rintro e w3 ⟨r3, c3, rfl, hrc3, hb3, hb⟩; replace g := Lib.hid (grow_trans g.out hb); have HB3 := Lib.hid hb3; have HC3 := Lib.hid hrc3; clear hb hb3 hrc3)
    | (go_at_call 39; (with_reducible refine (NN.out _ _ _ g.out HC3.out HB3.out).mono ?_); rintro e w4 ⟨rfl, hb⟩; replace g := Lib.hid (grow_trans g.out hb); clear hb HB3 HC3)
    | (go_at_call 35; (with_reducible refine (BE.out _ g.out).mono ?_); rintro e w5 ⟨rfl, hb⟩; replace g := Lib.hid (grow_trans g.out hb); clear hb)
    | (go_at_call 32; (with_reducible refine (QN.out _ g.out).mono ?_); rintro e w6 ⟨r6, n6, c6, rfl, hb⟩; replace g := Lib.hid (grow_trans g.out hb); clear hb))
  clear NN QN BE BD SH MV d0 d1
  go_loopw [13, 14, 15, 16, 17, 18] (fun v13 v14 v15 v16 v17 v18 wr => ∃ (t : Nat) (r1 : Option Addr) (c1 : Nat) (E : Nat → Bd), t ≤ K + 1 ∧ v18 = .int .i64 t ∧ v17 = .slice r1 n c1 ∧ v13 = .int .i64 (nrB n B t).f ∧ v14 = .int .i64 (nrB n B t).t ∧ v15 = .int .i64 (nrB n B t).i ∧ v16 = .int .i64 (nrB n B t).k ∧ (t ≤ K → Bo.run n 1 t B = some E ∧ BodsAt wr r1 n E) ∧ Below w.heap.size w wr) (fun _ _ _ _ _ v _ => K + 1 - (intOf v).toNat)
  case atStart => exact ⟨0, r, cap, B, Nat.zero_le _, rfl, rfl, rfl, rfl, rfl, rfl, fun _ => ⟨rfl, HRR.out.below g.out⟩, g.out⟩
  case round =>
    clear g
    obtain ⟨t, r1, c1, E, ht, rfl, rfl, rfl, rfl, rfl, rfl, hE, hb⟩ := hrel
    have HB := Lib.hid hb
    clear hb
    by_cases htK : t ≤ K
    · obtain ⟨hrun, hbods⟩ := hE htK
      have BS := Lib.hid hbods
      have HRUN := Lib.hid hrun
      have OKE := Lib.hid (run_ok' HOK.out hrun)
      have NB := Lib.hid (nrB_succ hrun)
      clear hE hbods hrun
      generalize nrB n B t = z0 at NB ⊢
      have dt : decide ((t : Int) ≤ K) = true := decide_eq_true (by omega)
      go_wp2
      go_loopw [13, 14, 15, 16, 19] (fun v13 v14 v15 v16 v19 wq => ∃ i : Nat, i ≤ n ∧ v19 = .int .i64 i ∧ v13 = .int .i64 (nrI n E t i z0).f ∧ v14 = .int .i64 (nrI n E t i z0).t ∧ v15 = .int .i64 (nrI n E t i z0).i ∧ v16 = .int .i64 (nrI n E t i z0).k ∧ BodsAt wq r1 n E ∧ Below w.heap.size w wq) (fun _ _ _ _ v _ => n - (intOf v).toNat)
      case atStart => exact ⟨0, Nat.zero_le _, rfl, rfl, rfl, rfl, rfl, BS.out, HB.out⟩
      case round =>
        clear BS HB dt
        obtain ⟨i, hi, rfl, rfl, rfl, rfl, rfl, hbods, hb⟩ := hrel
        have BS := Lib.hid hbods
        have HB := Lib.hid hb
        clear hbods hb
        by_cases hlt : i < n
        · have NI := Lib.hid (show nrI n E t (i + 1) z0 = nrK E t i (n - (i + 1)) (nrI n E t i z0) from rfl)
          generalize nrI n E t i z0 = z1 at NI ⊢
          go_wp2
          go_loopw [13, 14, 15, 16, 20] (fun v13 v14 v15 v16 v20 wx => ∃ k : Nat, i < k ∧ k ≤ n ∧ v20 = .int .i64 k ∧ v13 = .int .i64 (nrK E t i (k - (i + 1)) z1).f ∧ v14 = .int .i64 (nrK E t i (k - (i + 1)) z1).t ∧ v15 = .int .i64 (nrK E t i (k - (i + 1)) z1).i ∧ v16 = .int .i64 (nrK E t i (k - (i + 1)) z1).k ∧ BodsAt wx r1 n E ∧ Below w.heap.size w wx) (fun _ _ _ _ v _ => n - (intOf v).toNat)
          case atStart => exact ⟨i + 1, by omega, by omega, by go_num, by rw [Nat.sub_self]; rfl, by rw [Nat.sub_self]; rfl, by rw [Nat.sub_self]; rfl, by rw [Nat.sub_self]; rfl, BS.out, HB.out⟩
          case round =>
            clear BS HB
            obtain ⟨k, hik, hk, rfl, rfl, rfl, rfl, rfl, hbods, hb⟩ := hrel
            have BS := Lib.hid hbods
            have HB := Lib.hid hb
            by_cases hkn : k < n
            · obtain ⟨b1, o1, rfl, hl1, hc⟩ := hbods.resolve_left (by omega)
              obtain ⟨k0, k1, k2, _, _, _, _⟩ := hc k hkn
              obtain ⟨i0, i1, i2, _, _, _, _⟩ := hc i hlt
              clear hbods hb hc
              have A1 := Lib.hid (fun x => less_walk (E k).p (E i).p x ((okP_less OKE.out.p hlt hkn).mono (by decide)))
              have S1 := Lib.hid (fun x => squareOfC_walk ((E k).p.less (E i).p) x (okP_less OKE.out.p hlt hkn))
              have NX := Lib.hid (nrK_next E t hik z1)
              unfold nrP at NX
              generalize sqZ ((E k).p.less (E i).p) = s at S1 NX
              generalize (E k).p.less (E i).p = df at A1 S1
              generalize (E k).p = pk at k0 k1 k2 A1
              generalize (E i).p = pi at i0 i1 i2 A1
              generalize nrK E t i (k - (i + 1)) z1 = y at NX ⊢
              obtain ⟨yt, yi, yk, yf⟩ := y
              unfold vec at A1 S1
              obtain ⟨dx, dy, dz⟩ := df
              obtain ⟨kx, ky, kz⟩ := pk
              obtain ⟨ix, iy, iz⟩ := pi
              simp only at k0 k1 k2 i0 i1 i2 A1 S1 ⊢
              go_wp2
              refine Grow.wp_region_over (by kernel_rfl) (by kernel_rfl) ?_
              repeat (go_big_quiet_step (first | (go_at_call 41; with_reducible exact Calls.over_of (A1.out _)) | (go_at_call 40; with_reducible exact Calls.over_of (S1.out _))))
              refine wpQuiet_nil ?_
              intro xx hzz
              have RX := Lib.hid (BS.out.below (below_over wr xx))
              have HX := Lib.hid (grow_trans HB.out (below_over wr xx))
              clear k0 k1 k2 i0 i1 i2 BS HB A1 S1
              generalize over wr xx = w5 at *
              by_cases hy : yf < 0
              · have e0 : decide (yf < 0) = true := decide_eq_true hy
                have U := Lib.hid (NX.out.trans (nrUp_yes (z := ⟨yt, yi, yk, yf⟩) (.inl hy)))
                clear NX
                go_wp2
                go_roundw
                case rel => exact ⟨k + 1, by omega, by omega, by go_num, by rw [U.out], by rw [U.out], by rw [U.out], by rw [U.out], RX.out, HX.out⟩
                case measure => simp [intOf]; omega
              · have e0 : decide (yf < 0) = false := decide_eq_false hy
                by_cases hys : s < yf
                · have e1 : decide (s < yf) = true := decide_eq_true hys
                  have U := Lib.hid (NX.out.trans (nrUp_yes (z := ⟨yt, yi, yk, yf⟩) (.inr hys)))
                  clear NX
                  go_wp2
                  go_roundw
                  case rel => exact ⟨k + 1, by omega, by omega, by go_num, by rw [U.out], by rw [U.out], by rw [U.out], by rw [U.out], RX.out, HX.out⟩
                  case measure => simp [intOf]; omega
                · have e1 : decide (s < yf) = false := decide_eq_false hys
                  have U := Lib.hid (NX.out.trans (nrUp_no (z := ⟨yt, yi, yk, yf⟩) (fun h => h.elim hy hys)))
                  clear NX
                  go_wp2
                  go_roundw
                  case rel => exact ⟨k + 1, by omega, by omega, by go_num, by rw [U.out], by rw [U.out], by rw [U.out], by rw [U.out], RX.out, HX.out⟩
                  case measure => simp [intOf]; omega
            · obtain rfl : k = n := by omega
              clear hbods hb
              go_wp2
              go_roundw
              case rel => exact ⟨i + 1, by omega, by go_num, by rw [NI.out], by rw [NI.out], by rw [NI.out], by rw [NI.out], BS.out, HB.out⟩
              case measure => simp [intOf]; omega
        · obtain rfl : i = n := by omega
          generalize hz1 : nrI i E t i z0 = z1 at NB ⊢
          have NZ := Lib.hid NB.out
          clear hz1 NB
          by_cases hlt2 : t < K
          · have du : decide ((t : Int) < K) = true := decide_eq_true (by omega)
            obtain ⟨F, hF, hrF⟩ := run_next HEK.out hlt2 HRUN.out
            have HF := Lib.hid hrF
            have ST := Lib.hid (show Calls Tryd.prog 42 #[.slice r1 i c1, .int .i64 1] wr fun e w' => ∃ g c, e = .returned (.tuple #[.slice (some ⟨g, 0, none⟩) i c, .bool true]) ∧ BodsAt w' (some ⟨g, 0, none⟩) i F ∧ Below wr.heap.size wr w' from
              (stepOf_walk r1 i c1 1 E wr (by omega) BS.out hn12 (by decide) OKE.out).mono fun e w' ⟨h1, h2⟩ => by
                rcases h2 with ⟨F2, g, c, h3, h4, h5⟩ | ⟨h3, _⟩
                · rw [hF] at h3; cases h3; exact ⟨g, c, h4, h5.bods, h1⟩
                · rw [hF] at h3; cases h3)
            clear hF hrF
            go_wp2_with (go_at_call 42; (with_reducible refine ST.out.mono ?_); rintro e w3 ⟨g, c, rfl, hrw, hb⟩; have R3 := Lib.hid hrw; have HB3 := Lib.hid (grow_trans HB.out hb); clear hrw hb)
            go_roundw
            case rel => exact ⟨t + 1, some ⟨g, 0, none⟩, c, F, by omega, by go_num, rfl, by rw [NZ.out], by rw [NZ.out], by rw [NZ.out], by rw [NZ.out], fun _ => ⟨HF.out, R3.out⟩, HB3.out⟩
            case measure => simp [intOf]; omega
          · have du : decide ((t : Int) < K) = false := decide_eq_false (by omega)
            go_wp2
            go_roundw
            case rel => exact ⟨t + 1, r1, c1, E, by omega, by go_num, rfl, by rw [NZ.out], by rw [NZ.out], by rw [NZ.out], by rw [NZ.out], fun h => absurd h (by omega), HB.out⟩
            case measure => simp [intOf]; omega
    · obtain rfl : t = K + 1 := by omega
      have dt : decide (((K + 1 : Nat) : Int) ≤ K) = false := decide_eq_false (by omega)
      have e : nrB n B (K + 1) = zz := ZZ.out
      generalize nrB n B (K + 1) = z2 at e ⊢
      subst e
      clear hE ZZ
      go_wp2
      go_ret
      exact ⟨by simp, HB.out⟩

theorem moveNear_walk (a : Nat → Addr) (r : Option Addr) (n cap : Nat) (st : Int) (B : Nat → Bd) (w : World) (hs9 : Sen a [2, 5, 6, 9] w) (hr : BodsAt w r n B) (hn : n ≤ 9223372036854775807)
    (CD : ∀ k ≤ 10, ∀ x, Below w.heap.size w x → Calls Tryd.prog 33 #[errV a k, .int .i64 k] x fun e w' => e = .returned (.bool true) ∧ Below x.heap.size x w') :
    Calls Tryd.prog 8 #[.slice r n cap, .int .i64 st] w fun e w' => e = .returned (.bool true) ∧ Below w.heap.size w w' := by
  have hs : Sen a [2, 5, 6] w := hs9.sub (by decide)
  by_cases hsh : shortB n st
  · by_cases h0 : validE n B = 0
    · by_cases hst : st < 0
      · exact nearL_back a r n cap st B w hs hr hsh h0 hst CD fun x' r' c hx hc hb => near_far a r' n c st B x' hn hb (hs.below hx) h0 (.inl hst)
      · by_cases hk : 2000 < st
        · exact nearL_run a r n cap st B w hs hr hsh h0 hst 2 (by decide) (by decide) CD (fun x' r' c hx hc hb => near_far a r' n c st B x' hn hb (hs.below hx) h0 (.inr hk))
            (fun x' hx => (runOf_far r n cap st B x' hn (hr.below hx) h0 (.inr hk)).mono fun e w' ⟨h1, h2⟩ => ⟨none, 0, 0, h1, h2⟩)
        · obtain ⟨K, rfl⟩ : ∃ K : Nat, (K : Int) = st := ⟨st.toNat, by omega⟩
          have hK : K ≤ 2000 := by omega
          have RZ : runZ n K B = Bo.run n 1 K B := by unfold runZ sgn; rw [if_neg hst, show (K : Int).natAbs = K by omega]
          by_cases hn2 : n < 2
          · cases hE : runZ n K B with
            | none =>
              exact nearL_run a r n cap K B w hs hr hsh h0 hst 6 (by decide) (by decide) CD (fun x' r' c hx hc hb => near_few_none a r' n c K B x' hn hb (hs.below hx) h0 hK hn2 hc hE)
                (fun x' hx => (runOf_none r n cap K B x' (hr.below hx) h0 (by omega) hE).mono fun e w' ⟨h1, h2⟩ => ⟨none, 0, 0, h1, h2⟩)
            | some E =>
              exact nearL_few a r n cap K B w hs hr hsh h0 hst hn2 CD (fun x' r' c hx hc hb => near_few_some a r' n c K B x' hn hb (hs9.below hx) h0 hK hn2 hc E hE)
                (fun x' hx => (runOf_some r n cap K B E x' (hr.below hx) h0 (by omega) hE).mono fun e w' ⟨r1, c1, h1, h3, h4⟩ => ⟨r1, n, c1, h1, h4⟩)
          · cases hE : runZ n K B with
            | none =>
              exact nearL_run a r n cap K B w hs hr hsh h0 hst 6 (by decide) (by decide) CD (fun x' r' c hx hc hb => (near_main a r' n c K B x' hn hb (hs.below hx) h0 hK (by omega)).mono fun e w' ⟨h1, h2⟩ => by
                  rcases h2 with ⟨F, z, h3, _⟩ | ⟨_, h3⟩
                  · rw [← RZ, hE] at h3; cases h3
                  · exact ⟨h3, h1⟩)
                (fun x' hx => (runOf_none r n cap K B x' (hr.below hx) h0 (by omega) hE).mono fun e w' ⟨h1, h2⟩ => ⟨none, 0, 0, h1, h2⟩)
            | some E =>
              exact nearL_main a r n cap K B w hs hr hsh h0 (by omega) hK E (RZ ▸ hE) (fun x' r' c hx hc hb => (near_main a r' n c K B x' hn hb (hs.below hx) h0 hK (by omega)).mono fun e w' ⟨h1, h2⟩ => by
                  rcases h2 with ⟨F, z, _, h4, h3⟩ | ⟨h3, _⟩
                  · exact ⟨by rw [h4]; exact h3, h1⟩
                  · rw [← RZ, hE] at h3; cases h3)
                (fun x' hx => (runOf_some r n cap K B E x' (hr.below hx) h0 (by omega) hE).mono fun e w' ⟨r1, c1, h1, h3, h4⟩ => ⟨r1, n, c1, h1, h4⟩)
    · exact nearL_bad a r n cap st B w hs hr hsh (validE n B) rfl (by omega) (validE_le n B) CD fun x' r' c hx hc hb => near_bad a r' n c st B x' hn hb (hs.below hx) h0
  · exact near_long a r n cap st w hs hsh
end Go.Proofs.YtlfpfeidaohjmaaDoor
