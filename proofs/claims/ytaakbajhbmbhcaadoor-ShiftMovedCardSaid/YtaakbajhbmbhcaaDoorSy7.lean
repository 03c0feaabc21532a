/- ShiftMoved: the law's walk. -/
import Derived.Test.YtaakbajhbmbhcaaDoorSy6
import Derived.Test.YtaakbajhbmbhcaaDoorSx7
import Derived.Test.YtaakbajhbmbhcaaDoorCs5
import Derived.Deep.RegionHeld3
set_option linter.unusedSimpArgs false
set_option linter.unusedVariables false
namespace Go.Proofs.YtaakbajhbmbhcaaDoor
open Go.RowKit Go.Grow

def z90 (k : Nat) : Int := if k = 0 then 9 else 0
def z09 (k : Nat) : Int := if k = 1 then 9 else 0
theorem first_moved (a : Nat → Addr) (w X : World) (b0 b2 : Nat) (hs : Sen a [2, 5] w) (hX : Below w.heap.size w X) (k0 : Known X b0 #[.int .i64 9, .int .i64 0]) (k2 : Known X b2 #[.int .i64 0, .int .i64 9]) :
    Calls Tryd.prog 16 #[.agg #[.int .i64 2, .int .i64 1, .slice (some ⟨b0, 0, none⟩) 2 2], .agg #[.int .i64 2, .int .i64 1, .slice (some ⟨b2, 0, none⟩) 2 2], .int .i64 1] X fun e w' => ∃ dy s : Int, e = .returned (.tuple #[.int .i64 1, .int .i64 dy, .int .i64 s, .nilIface]) ∧ Below w.heap.size w w' := by
  have i0 : IntsAt X (some ⟨b0, 0, none⟩) 2 z90 := ints_of_known k0 fun k hk => by
    have : k = 0 ∨ k = 1 := by omega
    rcases this with rfl | rfl <;> rfl
  have i2 : IntsAt X (some ⟨b2, 0, none⟩) 2 z09 := ints_of_known k2 fun k hk => by
    have : k = 0 ∨ k = 1 := by omega
    rcases this with rfl | rfl <;> rfl
  have h := moved_look a ⟨2, 1, some ⟨b0, 0, none⟩, 2, 2, z90⟩ ⟨2, 1, some ⟨b2, 0, none⟩, 2, 2, z09⟩ 1 X (hs.below hX) ⟨i0, by simp⟩ ⟨i2, by simp⟩ (show picE ⟨2, 1, none, 2, 2, z90⟩ = 0 by decide +kernel) (show picE ⟨2, 1, none, 2, 2, z09⟩ = 0 by decide +kernel) (by omega) (show (2 : Int) * 1 ≤ 150 by decide) 2 1 2 1 ⟨rfl, rfl, by omega, by omega, by omega, by omega, rfl⟩ ⟨rfl, rfl, by omega, by omega, by omega, by omega, rfl⟩
  rw [show (mvZ (togF ⟨2, 1, some ⟨b0, 0, none⟩, 2, 2, z90⟩ ⟨2, 1, some ⟨b2, 0, none⟩, 2, 2, z09⟩ 2 1 2 1) 1).dx = 1 by
    have e : togF ⟨2, 1, some ⟨b0, 0, none⟩, 2, 2, z90⟩ ⟨2, 1, some ⟨b2, 0, none⟩, 2, 2, z09⟩ 2 1 2 1 = togF ⟨2, 1, none, 2, 2, z90⟩ ⟨2, 1, none, 2, 2, z09⟩ 2 1 2 1 := rfl
    rw [e]
    decide +kernel] at h
  exact h.mono fun e w' hh => ⟨_, _, hh.1, grow_trans hX hh.2⟩
set_option maxRecDepth 100000 in
set_option maxHeartbeats 16000000 in
theorem moved_nil1 (a : Nat → Addr) (w : World) (hs2 : Sen a [2, 5] w) (v : Value) (R : Int) :
    Calls Tryd.prog 4 #[.pointer none, v, .int .i64 R] w fun e w' => e = .returned (.bool true) ∧ Below w.heap.size w w' := by
  have MF := Lib.hid (fun X b0 b2 hX k0 k2 => first_moved a w X b0 b2 hs2 hX k0 k2)
  clear hs2
  go_enter Tryd.func4, Tryd.ntmps4
  go_wp2_with (go_at_call 16; (with_reducible refine (MF.out _ _ _ ?_ ?_ ?_).mono ?_); ((repeat (with_reducible first | exact grow_refl w | refine Grow.grow_setCell ?_ ?_ _ | refine Grow.grow_alloc ?_ _)) <;> (first | omega | (simp; omega))); ((repeat (with_reducible first | exact Known.new _ _ _ | (apply Known.new'; (first | rfl | (simp; done))) | apply Known.other | apply Known.alloc)) <;> (first | omega | (simp; omega))); ((repeat (with_reducible first | exact Known.new _ _ _ | (apply Known.new'; (first | rfl | (simp; done))) | apply Known.other | apply Known.alloc)) <;> (first | omega | (simp; omega))); rintro e w1 ⟨dy1, s1, rfl, hb⟩; have HB := Lib.hid hb; clear hb MF)
  go_ret
  exact ⟨rfl, HB.out⟩
set_option maxRecDepth 100000 in
set_option maxHeartbeats 16000000 in
theorem moved_nil2 (a : Nat → Addr) (w : World) (hs2 : Sen a [2, 5] w) (p : Addr) (R : Int) :
    Calls Tryd.prog 4 #[.pointer (some p), .pointer none, .int .i64 R] w fun e w' => e = .returned (.bool true) ∧ Below w.heap.size w w' := by
  have MF := Lib.hid (fun X b0 b2 hX k0 k2 => first_moved a w X b0 b2 hs2 hX k0 k2)
  clear hs2
  go_enter Tryd.func4, Tryd.ntmps4
  go_wp2_with (go_at_call 16; (with_reducible refine (MF.out _ _ _ ?_ ?_ ?_).mono ?_); ((repeat (with_reducible first | exact grow_refl w | refine Grow.grow_setCell ?_ ?_ _ | refine Grow.grow_alloc ?_ _)) <;> (first | omega | (simp; omega))); ((repeat (with_reducible first | exact Known.new _ _ _ | (apply Known.new'; (first | rfl | (simp; done))) | apply Known.other | apply Known.alloc)) <;> (first | omega | (simp; omega))); ((repeat (with_reducible first | exact Known.new _ _ _ | (apply Known.new'; (first | rfl | (simp; done))) | apply Known.other | apply Known.alloc)) <;> (first | omega | (simp; omega))); rintro e w1 ⟨dy1, s1, rfl, hb⟩; have HB := Lib.hid hb; clear hb MF)
  go_ret
  exact ⟨rfl, HB.out⟩
set_option maxRecDepth 100000 in
set_option maxHeartbeats 16000000 in
theorem moved_long (a : Nat → Addr) (w : World) (hs2 : Sen a [2, 5] w) (A B : Pic) (b0 o0 b3 o3 : Nat) (R : Int) (hA : PicPtr w b0 o0 A) (hB : PicPtr w b3 o3 B) (h : 150 < A.n ∨ 150 < B.n) :
    Calls Tryd.prog 4 #[.pointer (some ⟨b0, o0, none⟩), .pointer (some ⟨b3, o3, none⟩), .int .i64 R] w fun e w' => e = .returned (.bool true) ∧ Below w.heap.size w w' := by
  have MF := Lib.hid (fun X b0 b2 hX k0 k2 => first_moved a w X b0 b2 hs2 hX k0 k2)
  clear hs2
  have hna := hA.2.2.2.2
  have hnb := hB.2.2.2.2
  have PA := Lib.hid hA
  have PB := Lib.hid hB
  clear hA hB
  obtain ⟨W1, H1, r1, n1, cap1, z1⟩ := A
  obtain ⟨W2, H2, r2, n2, cap2, z2⟩ := B
  simp only at h hna hnb
  go_enter Tryd.func4, Tryd.ntmps4
  go_wp2_with (go_at_call 16; (with_reducible refine (MF.out _ _ _ ?_ ?_ ?_).mono ?_); ((repeat (with_reducible first | exact grow_refl w | refine Grow.grow_setCell ?_ ?_ _ | refine Grow.grow_alloc ?_ _)) <;> (first | omega | (simp; omega))); ((repeat (with_reducible first | exact Known.new _ _ _ | (apply Known.new'; (first | rfl | (simp; done))) | apply Known.other | apply Known.alloc)) <;> (first | omega | (simp; omega))); ((repeat (with_reducible first | exact Known.new _ _ _ | (apply Known.new'; (first | rfl | (simp; done))) | apply Known.other | apply Known.alloc)) <;> (first | omega | (simp; omega))); rintro e w1 ⟨dy1, s1, rfl, hb⟩; have HB := Lib.hid hb; clear hb MF; obtain ⟨ca0, ca1, ca2, _⟩ := PA.out.below HB.out; obtain ⟨cb0, cb1, cb2, _⟩ := PB.out.below HB.out; simp only at ca0 ca1 ca2 cb0 cb1 cb2; have lb0 : b0 < w1.heap.size := lt_of_cell ca0; have lb3 : b3 < w1.heap.size := lt_of_cell cb0)
  all_goals
    go_ret
    exact ⟨rfl, HB.out⟩
set_option maxRecDepth 100000 in
set_option maxHeartbeats 16000000 in
theorem law_bad1 (a : Nat → Addr) (w : World) (hs : Sen a allK w) (hh : Hand w) (hne : ∀ j ∈ allK, ∀ k ∈ allK, j ≠ k → a j ≠ a k) (A B : Pic) (b0 o0 b3 o3 : Nat) (R : Int) (hA : PicPtr w b0 o0 A) (hB : PicPtr w b3 o3 B) (hl : A.n ≤ 150 ∧ B.n ≤ 150) (eA : picE A ≠ 0) :
    Calls Tryd.prog 4 #[.pointer (some ⟨b0, o0, none⟩), .pointer (some ⟨b3, o3, none⟩), .int .i64 R] w fun e w' => e = .returned (.bool true) ∧ Below w.heap.size w w' := by
  have hs2 : Sen a [2, 5] w := hs.sub (by decide)
  have MF := Lib.hid (fun X b0 b2 hX k0 k2 => first_moved a w X b0 b2 hs2 hX k0 k2)
  obtain ⟨hl1, hl2⟩ := hl
  have QA := Lib.hid (fun X (hX : Below w.heap.size w X) => picError_walk b0 o0 A X (hA.below hX))
  have QB := Lib.hid (fun X (hX : Below w.heap.size w X) => picError_walk b3 o3 B X (hB.below hX))
  have MV := Lib.hid (fun X (hX : Below w.heap.size w X) => moved_bad1 a A B R X (hs2.below hX) (hA.2.2.2.below hX) (hB.2.2.2.below hX) eA)
  obtain ⟨E, hEE⟩ : ∃ E, picE A = E := ⟨_, rfl⟩
  have hE10 : E ≤ 10 := by rw [← hEE]; (try unfold picE); (try split) <;> (try split) <;> (try split) <;> omega
  have hE0 : 0 < E := by rw [← hEE]; omega
  have CD := Lib.hid (fun X (hX : Below w.heap.size w X) => (show Calls Tryd.prog 18 #[errV a E, .int .i64 (E : Int)] X fun e w' => e = .returned (.bool true) ∧ Below X.heap.size X w' from coded_same a E hE10 X (hs.below hX) (hh.below hX) hne))
  obtain ⟨u, hu⟩ := err_pos a (show E ≠ 0 by omega)
  rw [hEE] at QA MV
  clear eA hEE
  rw [hu] at CD MV
  unfold MvNo at MV
  clear hs hh hne hs2 hu
  have hE1 : (E : Int) ≠ 0 := by omega
  have dE : ((E : Int) == 0) = false := by simp; omega
  clear hE1
  unfold picV at MV
  have PA := Lib.hid hA
  have PB := Lib.hid hB
  clear hA hB
  obtain ⟨W1, H1, r1, n1, cap1, z1⟩ := A
  obtain ⟨W2, H2, r2, n2, cap2, z2⟩ := B
  simp only at *
  have SK := Lib.hid (show ∀ X, Below w.heap.size w X → X.cell? ⟨b0, o0, none⟩ = some (.int .i64 W1) ∧ X.cell? ⟨b0, o0 + 1, none⟩ = some (.int .i64 H1) ∧ X.cell? ⟨b0, o0 + 2, none⟩ = some (.slice r1 n1 cap1) ∧ X.cell? ⟨b3, o3, none⟩ = some (.int .i64 W2) ∧ X.cell? ⟨b3, o3 + 1, none⟩ = some (.int .i64 H2) ∧ X.cell? ⟨b3, o3 + 2, none⟩ = some (.slice r2 n2 cap2) from fun X hX => by
    obtain ⟨a0, a1, a2, _⟩ := PA.out.below hX
    obtain ⟨d0, d1, d2, _⟩ := PB.out.below hX
    exact ⟨a0, a1, a2, d0, d1, d2⟩)
  go_enter Tryd.func4, Tryd.ntmps4
  go_wp2_with (go_at_call 16; (with_reducible refine (MF.out _ _ _ ?_ ?_ ?_).mono ?_); ((repeat (with_reducible first | exact grow_refl w | refine Grow.grow_setCell ?_ ?_ _ | refine Grow.grow_alloc ?_ _)) <;> (first | omega | (simp; omega))); ((repeat (with_reducible first | exact Known.new _ _ _ | (apply Known.new'; (first | rfl | (simp; done))) | apply Known.other | apply Known.alloc)) <;> (first | omega | (simp; omega))); ((repeat (with_reducible first | exact Known.new _ _ _ | (apply Known.new'; (first | rfl | (simp; done))) | apply Known.other | apply Known.alloc)) <;> (first | omega | (simp; omega))); rintro e w1 ⟨dy1, s1, rfl, hb⟩; have HB := Lib.hid hb; clear hb MF; obtain ⟨ca0, ca1, ca2, _⟩ := PA.out.below HB.out; obtain ⟨cb0, cb1, cb2, _⟩ := PB.out.below HB.out; simp only at ca0 ca1 ca2 cb0 cb1 cb2; have lb0 : b0 < w1.heap.size := lt_of_cell ca0; have lb3 : b3 < w1.heap.size := lt_of_cell cb0)
  go_region_held3 (fun w' => w'.cell? ⟨b0, o0, none⟩ = some (.int .i64 W1) ∧ w'.cell? ⟨b0, o0 + 1, none⟩ = some (.int .i64 H1) ∧ w'.cell? ⟨b0, o0 + 2, none⟩ = some (.slice r1 n1 cap1) ∧ w'.cell? ⟨b3, o3, none⟩ = some (.int .i64 W2) ∧ w'.cell? ⟨b3, o3 + 1, none⟩ = some (.int .i64 H2) ∧ w'.cell? ⟨b3, o3 + 2, none⟩ = some (.slice r2 n2 cap2)) (first | go_keep | (exact SK.out _ G3.out)) ((go_at_call 16; (with_reducible refine (MV.out _ (grow_drew HB.out)).mono ?_); rintro e w3 ⟨rfl, hb⟩; have G3 := Lib.hid (grow_trans (grow_drew HB.out) hb); clear hb; have s3 := trivial))
  clear ca0 ca1 ca2 cb0 cb1 cb2 HB
  go_wp2_with (first
    | (clear s3; go_at_call 17; (with_reducible refine (QA.out _ G3.out).mono ?_); rintro e w4 ⟨rfl, q4, rfl⟩; have s4 := trivial)
    | (go_at_call 18; (with_reducible refine (CD.out _ (grow_drewN G3.out _)).mono ?_); rintro e w9 ⟨rfl, hb⟩; have HB9 := Lib.hid (grow_trans (grow_drewN G3.out _) hb); clear hb))
  go_ret
  exact ⟨rfl, HB9.out⟩
set_option maxRecDepth 100000 in
set_option maxHeartbeats 16000000 in
theorem law_bad2 (a : Nat → Addr) (w : World) (hs : Sen a allK w) (hh : Hand w) (hne : ∀ j ∈ allK, ∀ k ∈ allK, j ≠ k → a j ≠ a k) (A B : Pic) (b0 o0 b3 o3 : Nat) (R : Int) (hA : PicPtr w b0 o0 A) (hB : PicPtr w b3 o3 B) (hl : A.n ≤ 150 ∧ B.n ≤ 150) (eA : picE A = 0) (eB : picE B ≠ 0) :
    Calls Tryd.prog 4 #[.pointer (some ⟨b0, o0, none⟩), .pointer (some ⟨b3, o3, none⟩), .int .i64 R] w fun e w' => e = .returned (.bool true) ∧ Below w.heap.size w w' := by
  have hs2 : Sen a [2, 5] w := hs.sub (by decide)
  have MF := Lib.hid (fun X b0 b2 hX k0 k2 => first_moved a w X b0 b2 hs2 hX k0 k2)
  obtain ⟨hl1, hl2⟩ := hl
  have QA := Lib.hid (fun X (hX : Below w.heap.size w X) => picError_walk b0 o0 A X (hA.below hX))
  have QB := Lib.hid (fun X (hX : Below w.heap.size w X) => picError_walk b3 o3 B X (hB.below hX))
  have MV := Lib.hid (fun X (hX : Below w.heap.size w X) => moved_bad2 a A B R X (hs2.below hX) (hA.2.2.2.below hX) (hB.2.2.2.below hX) eA eB)
  obtain ⟨E, hEE⟩ : ∃ E, picE B = E := ⟨_, rfl⟩
  have hE10 : E ≤ 10 := by rw [← hEE]; (try unfold picE); (try split) <;> (try split) <;> (try split) <;> omega
  have hE0 : 0 < E := by rw [← hEE]; omega
  have CD := Lib.hid (fun X (hX : Below w.heap.size w X) => (show Calls Tryd.prog 18 #[errV a E, .int .i64 (E : Int)] X fun e w' => e = .returned (.bool true) ∧ Below X.heap.size X w' from coded_same a E hE10 X (hs.below hX) (hh.below hX) hne))
  obtain ⟨u, hu⟩ := err_pos a (show E ≠ 0 by omega)
  clear QA
  have QA := Lib.hid (fun X (hX : Below w.heap.size w X) => show Calls Tryd.prog 17 #[.pointer (some ⟨b0, o0, none⟩)] X fun e w' => e = .returned (.int .i64 0) ∧ ∃ q, w' = X.drewN q by have h := picError_walk b0 o0 A X (hA.below hX); rw [eA] at h; exact h)
  rw [hEE] at QB MV
  clear eA eB hEE
  rw [hu] at CD MV
  unfold MvNo at MV
  clear hs hh hne hs2 hu
  have hE1 : (E : Int) ≠ 0 := by omega
  have dE : ((E : Int) == 0) = false := by simp; omega
  clear hE1
  unfold picV at MV
  have PA := Lib.hid hA
  have PB := Lib.hid hB
  clear hA hB
  obtain ⟨W1, H1, r1, n1, cap1, z1⟩ := A
  obtain ⟨W2, H2, r2, n2, cap2, z2⟩ := B
  simp only at *
  have SK := Lib.hid (show ∀ X, Below w.heap.size w X → X.cell? ⟨b0, o0, none⟩ = some (.int .i64 W1) ∧ X.cell? ⟨b0, o0 + 1, none⟩ = some (.int .i64 H1) ∧ X.cell? ⟨b0, o0 + 2, none⟩ = some (.slice r1 n1 cap1) ∧ X.cell? ⟨b3, o3, none⟩ = some (.int .i64 W2) ∧ X.cell? ⟨b3, o3 + 1, none⟩ = some (.int .i64 H2) ∧ X.cell? ⟨b3, o3 + 2, none⟩ = some (.slice r2 n2 cap2) from fun X hX => by
    obtain ⟨a0, a1, a2, _⟩ := PA.out.below hX
    obtain ⟨d0, d1, d2, _⟩ := PB.out.below hX
    exact ⟨a0, a1, a2, d0, d1, d2⟩)
  go_enter Tryd.func4, Tryd.ntmps4
  go_wp2_with (go_at_call 16; (with_reducible refine (MF.out _ _ _ ?_ ?_ ?_).mono ?_); ((repeat (with_reducible first | exact grow_refl w | refine Grow.grow_setCell ?_ ?_ _ | refine Grow.grow_alloc ?_ _)) <;> (first | omega | (simp; omega))); ((repeat (with_reducible first | exact Known.new _ _ _ | (apply Known.new'; (first | rfl | (simp; done))) | apply Known.other | apply Known.alloc)) <;> (first | omega | (simp; omega))); ((repeat (with_reducible first | exact Known.new _ _ _ | (apply Known.new'; (first | rfl | (simp; done))) | apply Known.other | apply Known.alloc)) <;> (first | omega | (simp; omega))); rintro e w1 ⟨dy1, s1, rfl, hb⟩; have HB := Lib.hid hb; clear hb MF; obtain ⟨ca0, ca1, ca2, _⟩ := PA.out.below HB.out; obtain ⟨cb0, cb1, cb2, _⟩ := PB.out.below HB.out; simp only at ca0 ca1 ca2 cb0 cb1 cb2; have lb0 : b0 < w1.heap.size := lt_of_cell ca0; have lb3 : b3 < w1.heap.size := lt_of_cell cb0)
  go_region_held3 (fun w' => w'.cell? ⟨b0, o0, none⟩ = some (.int .i64 W1) ∧ w'.cell? ⟨b0, o0 + 1, none⟩ = some (.int .i64 H1) ∧ w'.cell? ⟨b0, o0 + 2, none⟩ = some (.slice r1 n1 cap1) ∧ w'.cell? ⟨b3, o3, none⟩ = some (.int .i64 W2) ∧ w'.cell? ⟨b3, o3 + 1, none⟩ = some (.int .i64 H2) ∧ w'.cell? ⟨b3, o3 + 2, none⟩ = some (.slice r2 n2 cap2)) (first | go_keep | (exact SK.out _ G3.out)) ((go_at_call 16; (with_reducible refine (MV.out _ (grow_drew HB.out)).mono ?_); rintro e w3 ⟨rfl, hb⟩; have G3 := Lib.hid (grow_trans (grow_drew HB.out) hb); clear hb; have s3 := trivial))
  clear ca0 ca1 ca2 cb0 cb1 cb2 HB
  go_wp2_with (first
    | (clear s3; go_at_call 17; (with_reducible refine (QA.out _ G3.out).mono ?_); rintro e w4 ⟨rfl, q4, rfl⟩; have s4 := trivial)
    | (clear s4; go_at_call 17; (with_reducible refine (QB.out _ (grow_drewN G3.out _)).mono ?_); rintro e w5 ⟨rfl, q5, rfl⟩)
    | (go_at_call 18; (with_reducible refine (CD.out _ (grow_drewN G3.out _)).mono ?_); rintro e w9 ⟨rfl, hb⟩; have HB9 := Lib.hid (grow_trans (grow_drewN G3.out _) hb); clear hb))
  go_ret
  exact ⟨rfl, HB9.out⟩
end Go.Proofs.YtaakbajhbmbhcaaDoor
