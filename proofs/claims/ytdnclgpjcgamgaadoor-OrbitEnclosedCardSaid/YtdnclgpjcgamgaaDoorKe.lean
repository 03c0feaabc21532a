/- Kepler's equation: the program's walk and the document's. -/
import Derived.Test.YtdnclgpjcgamgaaDoorS11
import Derived.Test.YtdnclgpjcgamgaaDoorCode
set_option linter.unusedSimpArgs false
set_option linter.unusedVariables false
namespace Go.Proofs.YtdnclgpjcgamgaaDoor
open Go.RowKit Go.Fl Go.Grow Go.Tr

/-- How far k is from the root: below 0 or not. -/
def kf (E M : Option Nat) (k : Int) : Option Nat := fsub (fsub (fmul (ofI k) (fl 4437543736006956352)) (fmul E (sinA k))) M
def kb (E M : Option Nat) (k : Int) : Bool := fle (kf E M k) (some 0)
def kmean (m : Int) : Option Nat := fmul (ofI (nrm m)) (fl 4437543736006956352)
/-- What is found. -/
def kep (m : Int) (E : Option Nat) : Int := bis (kb E (kmean m)) 0 1296000000000
theorem kb_yes {u : Nat} {E M : Option Nat} {k : Int} (h : (FloatKind.f64.format.order u 0 == some Ordering.lt) = true ∨ (FloatKind.f64.format.order u 0 == some Ordering.eq) = true) (hu : fl u = kf E M k) : kb E M k = true := by
  have e : FloatKind.f64.format.order u 0 = ford (fl u) (fl 0) := order_fl u 0
  rw [fl_zero, hu] at e
  rw [e] at h
  unfold kb fle
  rcases h with h | h <;> rw [h] <;> simp
theorem kb_no {u : Nat} {E M : Option Nat} {k : Int} (h : (FloatKind.f64.format.order u 0 == some Ordering.lt) = false ∧ (FloatKind.f64.format.order u 0 == some Ordering.eq) = false) (hu : fl u = kf E M k) : kb E M k = false := by
  have e : FloatKind.f64.format.order u 0 = ford (fl u) (fl 0) := order_fl u 0
  rw [fl_zero, hu] at e
  rw [e] at h
  unfold kb fle
  rw [h.1, h.2]
  rfl
theorem kf_of {b3 b5 b6 b7 b8 bm p : Nat} {m k : Int} (H5 : Hid (fl b5 = fop .mul (fl (floatOfInt FloatKind.f64 k)) (fl 4437543736006956352))) (G3 : Hid (fl b3 = sinA k)) (H6 : Hid (fl b6 = fop .mul (fl p) (fl b3)))
    (H7 : Hid (fl b7 = fop .sub (fl b5) (fl b6))) (H8 : Hid (fl b8 = fop .sub (fl b7) (fl bm))) (HM : Hid (fl bm = fop .mul (fl (floatOfInt FloatKind.f64 (nrm m))) (fl 4437543736006956352))) : fl b8 = kf (fl p) (kmean m) k := by
  have h := H8.out
  rw [H7.out, H5.out, H6.out, G3.out, HM.out] at h
  exact h
def KRel (f : Int → Bool) (w : World) (v7 v8 : Value) (wr : World) : Prop :=
  ∃ lo hi : Int, v7 = .int .i64 lo ∧ v8 = .int .i64 hi ∧ 0 ≤ lo ∧ lo < hi ∧ hi ≤ 1296000000000 ∧ Hid (bis f 0 1296000000000 = bis f lo hi) ∧ Below w.heap.size w wr
theorem k_up {f : Int → Bool} {w wr : World} {lo hi : Int} (h0 : 0 ≤ lo) (h2 : hi ≤ 1296000000000) (hd : 1 < hi - lo) (H : Hid (bis f 0 1296000000000 = bis f lo hi)) (ht : f ((lo + hi) / 2) = true) (hb : Below w.heap.size w wr) :
    KRel f w (.int .i64 ((lo + hi) / 2)) (.int .i64 hi) wr :=
  ⟨_, _, rfl, rfl, by omega, by omega, h2, Lib.hid (by rw [H.out, bis_up hd ht]), hb⟩
theorem k_down {f : Int → Bool} {w wr : World} {lo hi : Int} (h0 : 0 ≤ lo) (h2 : hi ≤ 1296000000000) (hd : 1 < hi - lo) (H : Hid (bis f 0 1296000000000 = bis f lo hi)) (ht : f ((lo + hi) / 2) = false) (hb : Below w.heap.size w wr) :
    KRel f w (.int .i64 lo) (.int .i64 ((lo + hi) / 2)) wr :=
  ⟨_, _, rfl, rfl, by omega, by omega, by omega, Lib.hid (by rw [H.out, bis_down hd ht]), hb⟩
/-- An eccentricity from 0 to below 1, by the orders that the code asks. -/
def Ecc (p : Nat) : Prop := (FloatKind.f64.format.order p 0 = some .eq ∨ FloatKind.f64.format.order p 0 = some .gt) ∧ FloatKind.f64.format.order p 4607182418800017408 = some .lt
theorem ecc_cases (p : Nat) : Ecc p ∨ (¬ Ecc p ∧ ((FloatKind.f64.format.order p 0 = none ∨ FloatKind.f64.format.order p 0 = some .lt) ∨ ((FloatKind.f64.format.order p 0 = some .eq ∨ FloatKind.f64.format.order p 0 = some .gt) ∧
    (FloatKind.f64.format.order p 4607182418800017408 = none ∨ FloatKind.f64.format.order p 4607182418800017408 = some .eq ∨ FloatKind.f64.format.order p 4607182418800017408 = some .gt)))) := by
  unfold Ecc
  rcases FloatKind.f64.format.order p 0 with _ | _ | _ | _ <;> rcases FloatKind.f64.format.order p 4607182418800017408 with _ | _ | _ | _ <;> simp

set_option maxRecDepth 100000 in
set_option maxHeartbeats 4000000 in
theorem kepler_bad (a : Nat → Addr) (m : Int) (p : Nat) (hb : ¬ Ecc p) (w : World) (hsen : Sen a [5] w) :
    Calls Tryd.prog 6 #[.int .i64 m, .float .f64 p] w fun e w' => e = .returned (.tuple #[.int .i64 0, errV a 5]) ∧ Below w.heap.size w w' := by
  have c5 : w.cell? ⟨gOf 5, 0, none⟩ = some (errV a 5) := (hsen 5 (by decide)).1
  have l5 := (hsen.lt (k := 5) (by decide)).1
  simp only [gOf] at c5 l5
  clear hsen
  rcases (ecc_cases p).resolve_left hb with ⟨_, (h0 | h0) | ⟨h0 | h0, h1 | h1 | h1⟩⟩
  all_goals
    go_enter Tryd.func6, Tryd.ntmps6
    go_wp2
    go_quiet (fail)
    go_wp2
    go_ret2
    exact ⟨rfl, grow_drewN (grow_refl _) _⟩
theorem keplerOf_bad (m : Int) (p : Nat) (hb : ¬ Ecc p) (w : World) :
    Calls Tryd.prog 9 #[.int .i64 m, .float .f64 p] w fun e w' => e = .returned (.tuple #[.int .i64 0, .int .i64 5]) ∧ Below w.heap.size w w' := by
  rcases (ecc_cases p).resolve_left hb with ⟨_, (h0 | h0) | ⟨h0 | h0, h1 | h1 | h1⟩⟩
  all_goals
    go_enter Tryd.func9, Tryd.ntmps9
    go_wp2
    go_ret2
    exact ⟨rfl, grow_refl _⟩

set_option maxRecDepth 100000 in
set_option maxHeartbeats 4000000 in
theorem kepler_ok (m : Int) (p : Nat) (hb : Ecc p) (w : World) :
    Calls Tryd.prog 6 #[.int .i64 m, .float .f64 p] w fun e w' => e = .returned (.tuple #[.int .i64 (kep m (fl p)), .nilIface]) ∧ Below w.heap.size w w' := by
  obtain ⟨h0 | h0, h1⟩ := hb
  all_goals
    obtain ⟨u1, u2⟩ := nrm_in m
    have NW := Lib.hid (norm_walk m w)
    have HNR := Lib.hid (rfl : nrm m = nrm m)
    go_enter Tryd.func6, Tryd.ntmps6
    go_wp2_with (first
      | (go_at_call 20; (with_reducible refine NW.out.mono ?_); rintro e w1 ⟨rfl, rfl⟩)
      | (refine wpList_arith rfl rfl (by rfl) rfl rfl ?_; intro bm nm HM))
    go_loopw [7, 8] (fun v7 v8 wr => KRel (kb (fl p) (kmean m)) w v7 v8 wr) (fun lo hi _ => (intOf hi - intOf lo).toNat)
    case atStart => exact ⟨0, 1296000000000, rfl, rfl, by omega, by omega, by omega, Lib.hid rfl, grow_drewN (grow_refl _) _⟩
    case round =>
      obtain ⟨lo, hi, rfl, rfl, h0, h1, h2, HBIS, hb⟩ := hrel
      have HB := Lib.hid hb
      clear hb
      by_cases hd : 1 < hi - lo
      · have m1 : lo < (lo + hi) / 2 := by omega
        have m2 : (lo + hi) / 2 < hi := by omega
        have t0 := trivial
        go_wp2_with (first
          | (clear t0; refine wpList_arith rfl rfl (by rfl) rfl rfl ?_; intro b5 n0 H5; have t1 := trivial)
          | (go_at_call 21; refine (sin_walk _ _).mono ?_; rintro e w3 ⟨v, rfl, ⟨b3, rfl, g3⟩, hB⟩; have G3 := Lib.hid g3; have HB3 := Lib.hid hB; clear g3 hB)
          | (clear t1; refine wpList_arith rfl rfl (by rfl) rfl rfl ?_; intro b6 n1 H6; have t2 := trivial)
          | (clear t2; refine wpList_arith rfl rfl (by rfl) rfl rfl ?_; intro b7 n2 H7; have t3 := trivial)
          | (clear t3; refine wpList_arith rfl rfl (by rfl) rfl rfl ?_; intro b8 n3 H8; have t4 := trivial))
        · refine ⟨k_up h0 h2 hd HBIS (kb_yes (by assumption) (kf_of H5 G3 H6 H7 H8 HM)) ?_, ?_⟩
          · (repeat (with_reducible first | exact HB.out | refine Grow.grow_alloc ?_ _ | refine Grow.grow_drewN ?_ _ | refine Grow.grow_via (by assumption) ?_))
          · simp only [intOf]; omega
        · refine ⟨k_down h0 h2 hd HBIS (kb_no (by assumption) (kf_of H5 G3 H6 H7 H8 HM)) ?_, ?_⟩
          · (repeat (with_reducible first | exact HB.out | refine Grow.grow_alloc ?_ _ | refine Grow.grow_drewN ?_ _ | refine Grow.grow_via (by assumption) ?_))
          · simp only [intOf]; omega
      · have hl : kep m (fl p) = lo := HBIS.out.trans (bis_done (by omega))
        have HL := Lib.hid hl
        clear hl
        go_wp2
        go_ret2
        exact ⟨by rw [HL.out]; rfl, HB.out⟩

theorem kf_of2 {b3 b5 b7 b8 bm p : Nat} {m k : Int} (H5 : Hid (fl b5 = fop .mul (fl (floatOfInt FloatKind.f64 k)) (fl 4437543736006956352))) (G3 : Hid (fl b3 = sinA k)) (G7 : Hid (fl b7 = mns (fl b5) (fl p) (fl b3)))
    (H8 : Hid (fl b8 = fop .sub (fl b7) (fl bm))) (HM : Hid (fl bm = fop .mul (fl (floatOfInt FloatKind.f64 (nrm m))) (fl 4437543736006956352))) : fl b8 = kf (fl p) (kmean m) k := by
  have h := H8.out
  rw [G7.out, H5.out, G3.out, HM.out] at h
  exact h

set_option maxRecDepth 100000 in
set_option maxHeartbeats 4000000 in
theorem keplerOf_ok (m : Int) (p : Nat) (hb : Ecc p) (w : World) :
    Calls Tryd.prog 9 #[.int .i64 m, .float .f64 p] w fun e w' => e = .returned (.tuple #[.int .i64 (kep m (fl p)), .int .i64 0]) ∧ Below w.heap.size w w' := by
  obtain ⟨h0 | h0, h1⟩ := hb
  all_goals
    obtain ⟨u1, u2⟩ := nrm_in m
    have NW := Lib.hid (normOf_walk m w)
    have HNR := Lib.hid (rfl : nrm m = nrm m)
    go_enter Tryd.func9, Tryd.ntmps9
    go_wp2_with (first
      | (go_at_call 8; (with_reducible refine NW.out.mono ?_); rintro e w1 ⟨rfl, rfl⟩)
      | (refine wpList_arith rfl rfl (by rfl) rfl rfl ?_; intro bm nm HM))
    go_loopw [9, 10] (fun v7 v8 wr => KRel (kb (fl p) (kmean m)) w v7 v8 wr) (fun lo hi _ => (intOf hi - intOf lo).toNat)
    case atStart => exact ⟨0, 1296000000000, rfl, rfl, by omega, by omega, by omega, Lib.hid rfl, grow_drewN (grow_refl _) _⟩
    case round =>
      obtain ⟨lo, hi, rfl, rfl, h0, h1, h2, HBIS, hb⟩ := hrel
      have HB := Lib.hid hb
      clear hb
      by_cases hd : 1 < hi - lo
      · have m1 : lo < (lo + hi) / 2 := by omega
        have m2 : (lo + hi) / 2 < hi := by omega
        have t0 := trivial
        go_wp2_with (first
          | (go_at_call 7; refine (sinCos_walk _ _).mono ?_; rintro e w3 ⟨v, rfl, ⟨b3, b4, rfl, g3, g4⟩, hB⟩; have G3 := Lib.hid g3; have HB3 := Lib.hid hB; clear g3 g4 hB)
          | (clear t0; refine wpList_arith rfl rfl (by rfl) rfl rfl ?_; intro b5 n0 H5; have t1 := trivial)
          | (clear t1; go_at_call 23; refine (less_walk _ _ _ _).mono ?_; rintro e w4 ⟨v, rfl, ⟨b7, rfl, g7⟩, n9, rfl⟩; have G7 := Lib.hid g7; clear g7; have t2 := trivial)
          | (clear t2; refine wpList_arith rfl rfl (by rfl) rfl rfl ?_; intro b8 n2 H8; have t3 := trivial))
        · refine ⟨k_up h0 h2 hd HBIS (kb_yes (by assumption) (kf_of2 H5 G3 G7 H8 HM)) ?_, ?_⟩
          · (repeat (with_reducible first | exact HB.out | refine Grow.grow_alloc ?_ _ | refine Grow.grow_drewN ?_ _ | refine Grow.grow_via (by assumption) ?_))
          · simp only [intOf]; omega
        · refine ⟨k_down h0 h2 hd HBIS (kb_no (by assumption) (kf_of2 H5 G3 G7 H8 HM)) ?_, ?_⟩
          · (repeat (with_reducible first | exact HB.out | refine Grow.grow_alloc ?_ _ | refine Grow.grow_drewN ?_ _ | refine Grow.grow_via (by assumption) ?_))
          · simp only [intOf]; omega
      · have hl : kep m (fl p) = lo := HBIS.out.trans (bis_done (by omega))
        have HL := Lib.hid hl
        clear hl
        go_wp2
        go_ret2
        exact ⟨by rw [HL.out]; rfl, HB.out⟩

end Go.Proofs.YtdnclgpjcgamgaaDoor
