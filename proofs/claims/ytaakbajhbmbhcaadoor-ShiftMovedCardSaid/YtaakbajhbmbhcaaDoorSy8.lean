/- ShiftMoved: the law's walk, the last two ways. -/
import Derived.Test.YtaakbajhbmbhcaaDoorSy7
set_option linter.unusedSimpArgs false
set_option linter.unusedVariables false
namespace Go.Proofs.YtaakbajhbmbhcaaDoor
open Go.RowKit Go.Grow

set_option maxRecDepth 100000 in
set_option maxHeartbeats 16000000 in
theorem law_far1 (a : Nat → Addr) (w : World) (hs : Sen a allK w) (hh : Hand w) (hne : ∀ j ∈ allK, ∀ k ∈ allK, j ≠ k → a j ≠ a k) (A B : Pic) (b0 o0 b3 o3 : Nat) (R : Int) (hA : PicPtr w b0 o0 A) (hB : PicPtr w b3 o3 B) (hl : A.n ≤ 150 ∧ B.n ≤ 150) (eA : picE A = 0) (eB : picE B = 0) (hr : R < 0) :
    Calls Tryd.prog 4 #[.pointer (some ⟨b0, o0, none⟩), .pointer (some ⟨b3, o3, none⟩), .int .i64 R] w fun e w' => e = .returned (.bool true) ∧ Below w.heap.size w w' := by
  have hR : R < 0 ∨ 16 < R := by omega
  have hs2 : Sen a [2, 5] w := hs.sub (by decide)
  have MF := Lib.hid (fun X b0 b2 hX k0 k2 => first_moved a w X b0 b2 hs2 hX k0 k2)
  obtain ⟨hl1, hl2⟩ := hl
  have QA := Lib.hid (fun X (hX : Below w.heap.size w X) => show Calls Tryd.prog 17 #[.pointer (some ⟨b0, o0, none⟩)] X fun e w' => e = .returned (.int .i64 0) ∧ ∃ q, w' = X.drewN q by have h := picError_walk b0 o0 A X (hA.below hX); rw [eA] at h; exact h)
  have QB := Lib.hid (fun X (hX : Below w.heap.size w X) => show Calls Tryd.prog 17 #[.pointer (some ⟨b3, o3, none⟩)] X fun e w' => e = .returned (.int .i64 0) ∧ ∃ q, w' = X.drewN q by have h := picError_walk b3 o3 B X (hB.below hX); rw [eB] at h; exact h)
  have MV := Lib.hid (fun X (hX : Below w.heap.size w X) => moved_far a A B R X (hs2.below hX) (hA.2.2.2.below hX) (hB.2.2.2.below hX) eA eB hR)
  have CD := Lib.hid (fun X (hX : Below w.heap.size w X) => (show Calls Tryd.prog 18 #[errV a 5, .int .i64 5] X fun e w' => e = .returned (.bool true) ∧ Below X.heap.size X w' from coded_same a 5 (by omega) X (hs.below hX) (hh.below hX) hne))
  obtain ⟨u, hu⟩ := err_pos a (show 5 ≠ 0 by omega)
  rw [hu] at CD MV
  unfold MvNo at MV
  clear hR hs hh hne hs2 hu eA eB
  unfold picV at MV
  have PA := Lib.hid hA
  have PB := Lib.hid hB
  clear hA hB
  obtain ⟨W1, H1, r1, n1, cap1, z1⟩ := A
  obtain ⟨W2, H2, r2, n2, cap2, z2⟩ := B
  simp only at *
  have SK := Lib.hid (show ∀ X, Below w.heap.size w X → X.cell? ⟨b0, o0, none⟩ = some (.int .i64 W1) ∧ X.cell? ⟨b0, o0 + 1, none⟩ = some (.int .i64 H1) ∧ X.cell? ⟨b0, o0 + 2, none⟩ = some (.slice r1 n1 cap1) ∧ X.cell? ⟨b3, o3, none⟩ = some (.int .i64 W2) ∧ X.cell? ⟨b3, o3 + 1, none⟩ = some (.int .i64 H2) ∧ X.cell? ⟨b3, o3 + 2, none⟩ = some (.slice r2 n2 cap2) from fun X hX => by
    obtain ⟨a0, a1, a2, _⟩ := PA.out.below hX
    obtain ⟨d0, d1, d2, _⟩ := PB.out.below hX
    exact ⟨a0, a1, a2, d0, d1, d2⟩)
  go_enter Tryd.func4, Tryd.ntmps4
  go_wp2_with (go_at_call 16; (with_reducible refine (MF.out _ _ _ ?_ ?_ ?_).mono ?_); ((repeat (with_reducible first | exact grow_refl w | refine Grow.grow_setCell ?_ ?_ _ | refine Grow.grow_alloc ?_ _)) <;> (first | omega | (simp; omega))); ((repeat (with_reducible first | exact Known.new _ _ _ | (apply Known.new'; (first | rfl | (simp; done))) | apply Known.other | apply Known.alloc)) <;> (first | omega | (simp; omega))); ((repeat (with_reducible first | exact Known.new _ _ _ | (apply Known.new'; (first | rfl | (simp; done))) | apply Known.other | apply Known.alloc)) <;> (first | omega | (simp; omega))); rintro e w1 ⟨dy1, s1, rfl, hb⟩; have HB := Lib.hid hb; clear hb MF; obtain ⟨ca0, ca1, ca2, _⟩ := PA.out.below HB.out; obtain ⟨cb0, cb1, cb2, _⟩ := PB.out.below HB.out; simp only at ca0 ca1 ca2 cb0 cb1 cb2; have lb0 : b0 < w1.heap.size := lt_of_cell ca0; have lb3 : b3 < w1.heap.size := lt_of_cell cb0)
  go_region_held3 (fun w' => w'.cell? ⟨b0, o0, none⟩ = some (.int .i64 W1) ∧ w'.cell? ⟨b0, o0 + 1, none⟩ = some (.int .i64 H1) ∧ w'.cell? ⟨b0, o0 + 2, none⟩ = some (.slice r1 n1 cap1) ∧ w'.cell? ⟨b3, o3, none⟩ = some (.int .i64 W2) ∧ w'.cell? ⟨b3, o3 + 1, none⟩ = some (.int .i64 H2) ∧ w'.cell? ⟨b3, o3 + 2, none⟩ = some (.slice r2 n2 cap2)) (first | go_keep | (exact SK.out _ G3.out)) ((go_at_call 16; (with_reducible refine (MV.out _ (grow_drew HB.out)).mono ?_); rintro e w3 ⟨rfl, hb⟩; have G3 := Lib.hid (grow_trans (grow_drew HB.out) hb); clear hb; have s3 := trivial))
  clear ca0 ca1 ca2 cb0 cb1 cb2 HB
  go_wp2_with (first
    | (clear s3; go_at_call 17; (with_reducible refine (QA.out _ G3.out).mono ?_); rintro e w4 ⟨rfl, q4, rfl⟩; have s4 := trivial)
    | (clear s4; go_at_call 17; (with_reducible refine (QB.out _ (grow_drewN G3.out _)).mono ?_); rintro e w5 ⟨rfl, q5, rfl⟩)
    | (go_at_call 18; (with_reducible refine (CD.out _ (grow_drewN G3.out _)).mono ?_); rintro e w9 ⟨rfl, hb⟩; have HB9 := Lib.hid (grow_trans (grow_drewN G3.out _) hb); clear hb))
  go_ret
  exact ⟨rfl, HB9.out⟩
set_option maxRecDepth 100000 in
set_option maxHeartbeats 16000000 in
theorem law_far2 (a : Nat → Addr) (w : World) (hs : Sen a allK w) (hh : Hand w) (hne : ∀ j ∈ allK, ∀ k ∈ allK, j ≠ k → a j ≠ a k) (A B : Pic) (b0 o0 b3 o3 : Nat) (R : Int) (hA : PicPtr w b0 o0 A) (hB : PicPtr w b3 o3 B) (hl : A.n ≤ 150 ∧ B.n ≤ 150) (eA : picE A = 0) (eB : picE B = 0) (hr : 16 < R) :
    Calls Tryd.prog 4 #[.pointer (some ⟨b0, o0, none⟩), .pointer (some ⟨b3, o3, none⟩), .int .i64 R] w fun e w' => e = .returned (.bool true) ∧ Below w.heap.size w w' := by
  have hR : R < 0 ∨ 16 < R := by omega
  have hs2 : Sen a [2, 5] w := hs.sub (by decide)
  have MF := Lib.hid (fun X b0 b2 hX k0 k2 => first_moved a w X b0 b2 hs2 hX k0 k2)
  obtain ⟨hl1, hl2⟩ := hl
  have QA := Lib.hid (fun X (hX : Below w.heap.size w X) => show Calls Tryd.prog 17 #[.pointer (some ⟨b0, o0, none⟩)] X fun e w' => e = .returned (.int .i64 0) ∧ ∃ q, w' = X.drewN q by have h := picError_walk b0 o0 A X (hA.below hX); rw [eA] at h; exact h)
  have QB := Lib.hid (fun X (hX : Below w.heap.size w X) => show Calls Tryd.prog 17 #[.pointer (some ⟨b3, o3, none⟩)] X fun e w' => e = .returned (.int .i64 0) ∧ ∃ q, w' = X.drewN q by have h := picError_walk b3 o3 B X (hB.below hX); rw [eB] at h; exact h)
  have MV := Lib.hid (fun X (hX : Below w.heap.size w X) => moved_far a A B R X (hs2.below hX) (hA.2.2.2.below hX) (hB.2.2.2.below hX) eA eB hR)
  have CD := Lib.hid (fun X (hX : Below w.heap.size w X) => (show Calls Tryd.prog 18 #[errV a 5, .int .i64 5] X fun e w' => e = .returned (.bool true) ∧ Below X.heap.size X w' from coded_same a 5 (by omega) X (hs.below hX) (hh.below hX) hne))
  obtain ⟨u, hu⟩ := err_pos a (show 5 ≠ 0 by omega)
  rw [hu] at CD MV
  unfold MvNo at MV
  clear hR hs hh hne hs2 hu eA eB
  unfold picV at MV
  have PA := Lib.hid hA
  have PB := Lib.hid hB
  clear hA hB
  obtain ⟨W1, H1, r1, n1, cap1, z1⟩ := A
  obtain ⟨W2, H2, r2, n2, cap2, z2⟩ := B
  simp only at *
  have SK := Lib.hid (show ∀ X, Below w.heap.size w X → X.cell? ⟨b0, o0, none⟩ = some (.int .i64 W1) ∧ X.cell? ⟨b0, o0 + 1, none⟩ = some (.int .i64 H1) ∧ X.cell? ⟨b0, o0 + 2, none⟩ = some (.slice r1 n1 cap1) ∧ X.cell? ⟨b3, o3, none⟩ = some (.int .i64 W2) ∧ X.cell? ⟨b3, o3 + 1, none⟩ = some (.int .i64 H2) ∧ X.cell? ⟨b3, o3 + 2, none⟩ = some (.slice r2 n2 cap2) from fun X hX => by
    obtain ⟨a0, a1, a2, _⟩ := PA.out.below hX
    obtain ⟨d0, d1, d2, _⟩ := PB.out.below hX
    exact ⟨a0, a1, a2, d0, d1, d2⟩)
  go_enter Tryd.func4, Tryd.ntmps4
  go_wp2_with (go_at_call 16; (with_reducible refine (MF.out _ _ _ ?_ ?_ ?_).mono ?_); ((repeat (with_reducible first | exact grow_refl w | refine Grow.grow_setCell ?_ ?_ _ | refine Grow.grow_alloc ?_ _)) <;> (first | omega | (simp; omega))); ((repeat (with_reducible first | exact Known.new _ _ _ | (apply Known.new'; (first | rfl | (simp; done))) | apply Known.other | apply Known.alloc)) <;> (first | omega | (simp; omega))); ((repeat (with_reducible first | exact Known.new _ _ _ | (apply Known.new'; (first | rfl | (simp; done))) | apply Known.other | apply Known.alloc)) <;> (first | omega | (simp; omega))); rintro e w1 ⟨dy1, s1, rfl, hb⟩; have HB := Lib.hid hb; clear hb MF; obtain ⟨ca0, ca1, ca2, _⟩ := PA.out.below HB.out; obtain ⟨cb0, cb1, cb2, _⟩ := PB.out.below HB.out; simp only at ca0 ca1 ca2 cb0 cb1 cb2; have lb0 : b0 < w1.heap.size := lt_of_cell ca0; have lb3 : b3 < w1.heap.size := lt_of_cell cb0)
  go_region_held3 (fun w' => w'.cell? ⟨b0, o0, none⟩ = some (.int .i64 W1) ∧ w'.cell? ⟨b0, o0 + 1, none⟩ = some (.int .i64 H1) ∧ w'.cell? ⟨b0, o0 + 2, none⟩ = some (.slice r1 n1 cap1) ∧ w'.cell? ⟨b3, o3, none⟩ = some (.int .i64 W2) ∧ w'.cell? ⟨b3, o3 + 1, none⟩ = some (.int .i64 H2) ∧ w'.cell? ⟨b3, o3 + 2, none⟩ = some (.slice r2 n2 cap2)) (first | go_keep | (exact SK.out _ G3.out)) ((go_at_call 16; (with_reducible refine (MV.out _ (grow_drew HB.out)).mono ?_); rintro e w3 ⟨rfl, hb⟩; have G3 := Lib.hid (grow_trans (grow_drew HB.out) hb); clear hb; have s3 := trivial))
  clear ca0 ca1 ca2 cb0 cb1 cb2 HB
  go_wp2_with (first
    | (clear s3; go_at_call 17; (with_reducible refine (QA.out _ G3.out).mono ?_); rintro e w4 ⟨rfl, q4, rfl⟩; have s4 := trivial)
    | (clear s4; go_at_call 17; (with_reducible refine (QB.out _ (grow_drewN G3.out _)).mono ?_); rintro e w5 ⟨rfl, q5, rfl⟩)
    | (go_at_call 18; (with_reducible refine (CD.out _ (grow_drewN G3.out _)).mono ?_); rintro e w9 ⟨rfl, hb⟩; have HB9 := Lib.hid (grow_trans (grow_drewN G3.out _) hb); clear hb))
  go_ret
  exact ⟨rfl, HB9.out⟩
set_option maxRecDepth 100000 in
set_option maxHeartbeats 16000000 in
theorem law_main (a : Nat → Addr) (w : World) (hs : Sen a allK w) (hh : Hand w) (hne : ∀ j ∈ allK, ∀ k ∈ allK, j ≠ k → a j ≠ a k) (A B : Pic) (b0 o0 b3 o3 : Nat) (R : Nat) (hA : PicPtr w b0 o0 A) (hB : PicPtr w b3 o3 B) (hl : A.n ≤ 150 ∧ B.n ≤ 150) (pA : picE A = 0) (pB : picE B = 0) (hR : R ≤ 16) (aw ah bw bh : Nat) (fA : Fine A aw ah) (fB : Fine B bw bh) :
    Calls Tryd.prog 4 #[.pointer (some ⟨b0, o0, none⟩), .pointer (some ⟨b3, o3, none⟩), .int .i64 R] w fun e w' => e = .returned (.bool true) ∧ Below w.heap.size w w' := by
  have hs2 : Sen a [2, 5] w := hs.sub (by decide)
  have MF := Lib.hid (fun X b0 b2 hX k0 k2 => first_moved a w X b0 b2 hs2 hX k0 k2)
  obtain ⟨hl1, hl2⟩ := hl
  have eA : picE A = 0 := pA
  have eB : picE B = 0 := pB
  have QA := Lib.hid (fun X (hX : Below w.heap.size w X) => show Calls Tryd.prog 17 #[.pointer (some ⟨b0, o0, none⟩)] X fun e w' => e = .returned (.int .i64 0) ∧ ∃ q, w' = X.drewN q by have h := picError_walk b0 o0 A X (hA.below hX); rw [eA] at h; exact h)
  have QB := Lib.hid (fun X (hX : Below w.heap.size w X) => show Calls Tryd.prog 17 #[.pointer (some ⟨b3, o3, none⟩)] X fun e w' => e = .returned (.int .i64 0) ∧ ∃ q, w' = X.drewN q by have h := picError_walk b3 o3 B X (hB.below hX); rw [eB] at h; exact h)
  have MV := Lib.hid (fun X (hX : Below w.heap.size w X) => moved_look a A B R X (hs2.below hX) (hA.2.2.2.below hX) (hB.2.2.2.below hX) eA eB hR (by rw [fA.w, fA.h, ← Int.natCast_mul]; have := fA.n; rw [Nat.mul_comm]; omega) aw ah bw bh fA fB)
  have CD := Lib.hid (fun X (hX : Below w.heap.size w X) => (show Calls Tryd.prog 18 #[.nilIface, .int .i64 0] X fun e w' => e = .returned (.bool true) ∧ Below X.heap.size X w' from coded_same a 0 (by omega) X (hs.below hX) (hh.below hX) hne))
  have TT := Lib.hid (fun X (hX : Below w.heap.size w X) dx dy hx hy => togetherAt_walk A B b0 o0 b3 o3 aw ah bw bh dx dy X (hA.below hX) (hB.below hX) fA fB hx hy)
  obtain ⟨f, hf⟩ : ∃ f, togF A B aw ah bw bh = f := ⟨_, rfl⟩
  have TF := Lib.hid (show ∀ X, Below w.heap.size w X → ∀ dx dy : Int, -16 ≤ dx ∧ dx ≤ 16 → -16 ≤ dy ∧ dy ≤ 16 → Calls Tryd.prog 19 #[.pointer (some ⟨b0, o0, none⟩), .pointer (some ⟨b3, o3, none⟩), .int .i64 dx, .int .i64 dy] X fun e w' => e = .returned (.int .i64 (f dx dy)) ∧ ∃ q, w' = X.drewN q from fun X hX dx dy h1 h2 => by
    rw [← hf]
    exact TT.out X hX dx dy h1 h2)
  rw [hf] at MV
  unfold mvZ at MV
  clear hs hh hne hs2 eA eB TT hf fA fB pA pB
  unfold picV at MV
  have PA := Lib.hid hA
  have PB := Lib.hid hB
  clear hA hB
  obtain ⟨W1, H1, r1, n1, cap1, z1⟩ := A
  obtain ⟨W2, H2, r2, n2, cap2, z2⟩ := B
  simp only at *
  have SK := Lib.hid (show ∀ X, Below w.heap.size w X → X.cell? ⟨b0, o0, none⟩ = some (.int .i64 W1) ∧ X.cell? ⟨b0, o0 + 1, none⟩ = some (.int .i64 H1) ∧ X.cell? ⟨b0, o0 + 2, none⟩ = some (.slice r1 n1 cap1) ∧ X.cell? ⟨b3, o3, none⟩ = some (.int .i64 W2) ∧ X.cell? ⟨b3, o3 + 1, none⟩ = some (.int .i64 H2) ∧ X.cell? ⟨b3, o3 + 2, none⟩ = some (.slice r2 n2 cap2) from fun X hX => by
    obtain ⟨a0, a1, a2, _⟩ := PA.out.below hX
    obtain ⟨d0, d1, d2, _⟩ := PB.out.below hX
    exact ⟨a0, a1, a2, d0, d1, d2⟩)
  go_enter Tryd.func4, Tryd.ntmps4
  go_wp2_with (go_at_call 16; (with_reducible refine (MF.out _ _ _ ?_ ?_ ?_).mono ?_); ((repeat (with_reducible first | exact grow_refl w | refine Grow.grow_setCell ?_ ?_ _ | refine Grow.grow_alloc ?_ _)) <;> (first | omega | (simp; omega))); ((repeat (with_reducible first | exact Known.new _ _ _ | (apply Known.new'; (first | rfl | (simp; done))) | apply Known.other | apply Known.alloc)) <;> (first | omega | (simp; omega))); ((repeat (with_reducible first | exact Known.new _ _ _ | (apply Known.new'; (first | rfl | (simp; done))) | apply Known.other | apply Known.alloc)) <;> (first | omega | (simp; omega))); rintro e w1 ⟨dy1, s1, rfl, hb⟩; have HB := Lib.hid hb; clear hb MF; obtain ⟨ca0, ca1, ca2, _⟩ := PA.out.below HB.out; obtain ⟨cb0, cb1, cb2, _⟩ := PB.out.below HB.out; simp only at ca0 ca1 ca2 cb0 cb1 cb2; have lb0 : b0 < w1.heap.size := lt_of_cell ca0; have lb3 : b3 < w1.heap.size := lt_of_cell cb0)
  go_region_held3 (fun w' => w'.cell? ⟨b0, o0, none⟩ = some (.int .i64 W1) ∧ w'.cell? ⟨b0, o0 + 1, none⟩ = some (.int .i64 H1) ∧ w'.cell? ⟨b0, o0 + 2, none⟩ = some (.slice r1 n1 cap1) ∧ w'.cell? ⟨b3, o3, none⟩ = some (.int .i64 W2) ∧ w'.cell? ⟨b3, o3 + 1, none⟩ = some (.int .i64 H2) ∧ w'.cell? ⟨b3, o3 + 2, none⟩ = some (.slice r2 n2 cap2)) (first | go_keep | (exact SK.out _ G3.out)) ((go_at_call 16; (with_reducible refine (MV.out _ (grow_drew HB.out)).mono ?_); rintro e w3 ⟨rfl, hb⟩; have G3 := Lib.hid (grow_trans (grow_drew HB.out) hb); clear hb; have s3 := trivial))
  clear ca0 ca1 ca2 cb0 cb1 cb2 HB
  go_wp2_with (first
    | (clear s3; go_at_call 17; (with_reducible refine (QA.out _ G3.out).mono ?_); rintro e w4 ⟨rfl, q4, rfl⟩; have s4 := trivial)
    | (clear s4; go_at_call 17; (with_reducible refine (QB.out _ (grow_drewN G3.out _)).mono ?_); rintro e w5 ⟨rfl, q5, rfl⟩)
    | (go_at_call 18; (with_reducible refine (CD.out _ (grow_drewN G3.out _)).mono ?_); rintro e w9 ⟨rfl, hb⟩; have HB9 := Lib.hid (grow_trans (grow_drewN G3.out _) hb); clear hb))
  go_loopw [17, 18, 19, 20] (fun v17 v18 v19 v20 wr => ∃ y q : Nat, y ≤ 2 * R + 1 ∧ v20 = .int .i64 (-(R : Int) + y) ∧ v18 = .int .i64 (allUp f R y).dx ∧ v19 = .int .i64 (allUp f R y).dy ∧ v17 = .int .i64 (allUp f R y).s ∧ wr = w9.drewN q) (fun _ _ _ v _ => 2 * R + 1 - (intOf v + R).toNat)
  case atStart => exact ⟨0, 0, by omega, by congr 1; omega, rfl, rfl, rfl, rfl⟩
  case round =>
    obtain ⟨y, q, hy, rfl, rfl, rfl, rfl, rfl⟩ := hrel
    by_cases hlt : y < 2 * R + 1
    · have HY := Lib.hid (show allUp f R (y + 1) = rowUp f R y (allUp f R y) (2 * R + 1) from rfl)
      obtain ⟨m, hm⟩ : ∃ m, allUp f R y = m := ⟨_, rfl⟩
      rw [hm] at HY ⊢
      clear hm
      have dY : decide (-(R : Int) + (y : Int) ≤ (R : Int)) = true := decide_eq_true (by omega)
      go_wp2
      go_loopw [17, 18, 19, 21] (fun v17 v18 v19 v21 wr => ∃ x q : Nat, x ≤ 2 * R + 1 ∧ v21 = .int .i64 (-(R : Int) + x) ∧ v18 = .int .i64 (rowUp f R y m x).dx ∧ v19 = .int .i64 (rowUp f R y m x).dy ∧ v17 = .int .i64 (rowUp f R y m x).s ∧ wr = w9.drewN q) (fun _ _ _ v _ => 2 * R + 1 - (intOf v + R).toNat)
      case atStart => exact ⟨0, q, by omega, by congr 1; omega, rfl, rfl, rfl, rfl⟩
      case round =>
        obtain ⟨x, q2, hx, rfl, rfl, rfl, rfl, rfl⟩ := hrel
        by_cases hxt : x < 2 * R + 1
        · have HX := Lib.hid (show rowUp f R y m (x + 1) = mvStep f R y x (rowUp f R y m x) from rfl)
          unfold mvStep at HX
          have TF2 := Lib.hid (TF.out (w9.drewN q2) (grow_drewN HB9.out q2) (-(R : Int) + x) (-(R : Int) + y) (by omega) (by omega))
          generalize rowUp f R y m x = mm at HX ⊢
          generalize f (-(R : Int) + x) (-(R : Int) + y) = t at HX TF2
          by_cases hst : mm.s < t
          · rw [if_pos hst] at HX
            go_wp2_with (go_at_call 19; (with_reducible refine TF2.out.mono ?_); rintro e wt ⟨rfl, q3, rfl⟩)
            go_roundw
            case rel => exact ⟨x + 1, _, by omega, by congr 1; omega, by rw [HX.out], by rw [HX.out], by rw [HX.out], rfl⟩
            case measure => simp [intOf]; omega
          · rw [if_neg hst] at HX
            go_wp2_with (go_at_call 19; (with_reducible refine TF2.out.mono ?_); rintro e wt ⟨rfl, q3, rfl⟩)
            go_roundw
            case rel => exact ⟨x + 1, _, by omega, by congr 1; omega, by rw [HX.out], by rw [HX.out], by rw [HX.out], rfl⟩
            case measure => simp [intOf]; omega
        · obtain rfl : x = 2 * R + 1 := by omega
          go_wp2
          go_roundw
          case rel => exact ⟨y + 1, _, by omega, by congr 1; omega, by rw [HY.out], by rw [HY.out], by rw [HY.out], rfl⟩
          case measure => simp [intOf]; omega
    · obtain rfl : y = 2 * R + 1 := by omega
      go_wp2
      go_ret
      exact ⟨by simp, grow_drewN HB9.out _⟩
end Go.Proofs.YtaakbajhbmbhcaaDoor
