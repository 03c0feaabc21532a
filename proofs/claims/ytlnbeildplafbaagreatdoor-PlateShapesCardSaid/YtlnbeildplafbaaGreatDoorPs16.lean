/- Shapes of three points: the document's ratios. -/
import Derived.Test.YtlnbeildplafbaaGreatDoorPs14
import Derived.Test.YtlnbeildplafbaaGreatDoorPs11
set_option linter.unusedSimpArgs false
set_option linter.unusedVariables false
namespace Go.Proofs.YtlnbeildplafbaaGreatDoor
open Go.RowKit Go.Grow Go.Bg Go.Atl Go.Pl

theorem dig_length_pos {n : Nat} (h : 0 < n) : 0 < (dig n).length := by rw [dig_pos h]; simp
theorem dig_mono : ∀ (n m : Nat), m ≤ n → (dig m).length ≤ (dig n).length := by
  intro n
  induction n using Nat.strongRecOn with
  | ind n ih =>
    intro m h
    by_cases hm : 0 < m
    · rw [dig_pos hm, dig_pos (show 0 < n by omega), List.length_cons, List.length_cons]
      have := ih (n / 1000000) (Nat.div_lt_self (by omega) (by decide)) (m / 1000000) (Nat.div_le_div_right h)
      omega
    · obtain rfl : m = 0 := by omega
      rw [dig_zero]
      exact Nat.zero_le _
theorem dgSub_walk (r1 r2 : Option Addr) (x y : Nat) (c1 c2 : Nat) (w : World) (hx : x < 1000000 ^ 100) (h0 : 0 < x) (hxy : y ≤ x) (h1 : DgAt w r1 (dig x)) (h2 : DgAt w r2 (dig y)) :
    Calls Tryz.prog 72 #[.slice r1 (dig x).length c1, .slice r2 (dig y).length c2] w (DgPost (dig (x - y)) w) := by
  have hl := dig_length_pos h0
  obtain ⟨b, o, rfl, hc⟩ := h1.resolve_left (by intro h; rw [h] at hl; exact absurd hl (by simp))
  have hcut := difUp_dig (canon_dig x).small (canon_dig y).small (dig_mono x y hxy) (by rw [val_dig, val_dig]; exact hxy)
  rw [val_dig, val_dig] at hcut
  have h := bigSub_walk b o c1 r2 c2 (dig x) (dig y) w (canon_dig x).small (canon_dig y).small (Nat.le_trans (dig_length_le _ 100 hx) (by decide)) hl (dig_mono x y hxy) (fun k hk => by
    rw [hc k hk, List.getD_eq_getElem?_getD, List.getElem?_eq_getElem hk]
    rfl) h2
  refine h.mono ?_
  rintro e w' ⟨g, c, rfl, hd, hb⟩
  rw [hcut] at hd
  have hlen : cutTo (difUp (dig x) (dig y) (dig x).length).1 (dig x).length = (dig (x - y)).length := by
    rw [← hcut, List.length_take, difUp_length]
    have := cutTo_le (difUp (dig x) (dig y) (dig x).length).1 (dig x).length
    omega
  rw [hlen]
  exact ⟨_, _, rfl, hd, hb⟩
theorem cmpN_ls (x y : Nat) : (cmpN x y < 0) ↔ x < y := by unfold cmpN; split <;> (try split) <;> simp <;> omega
theorem cmpN_ll (x y : Nat) : (cmpN x y ≤ 0) ↔ x ≤ y := by unfold cmpN; split <;> (try split) <;> simp <;> omega
theorem prod_le {m n : Nat} (hm : m ≤ 274877906944) (hn : n ≤ 274877906944) : m * n ≤ 75557863725914323419136 := Nat.mul_le_mul hm hn
set_option maxRecDepth 100000 in
set_option maxHeartbeats 16000000 in
theorem near_ge (m l M L k : Nat) (hm : m ≤ 274877906944) (hl : l ≤ 274877906944) (hM : M ≤ 274877906944) (hL : L ≤ 274877906944) (hk : k ≤ 1000) (h0 : 0 < m * L) (hc : M * l ≤ m * L) (w : World) :
    Calls Tryz.prog 34 #[.int .i64 m, .int .i64 l, .int .i64 M, .int .i64 L, .int .i64 k] w fun e w' => e = .returned (.bool (decide ((m * L - M * l) * 1000 ≤ l * L * k))) ∧ Below w.heap.size w w' := by
  have q1 := prod_le hm hL
  have q2 := prod_le hM hl
  have q3 := prod_le hl hL
  have q4 : l * L * k ≤ 75557863725914323419136 * 1000 := Nat.mul_le_mul q3 hk
  have OM := Lib.hid (fun X => bigOf_walk m (by omega) X)
  have OL := Lib.hid (fun X => bigOf_walk L (by omega) X)
  have OMM := Lib.hid (fun X => bigOf_walk M (by omega) X)
  have Ol := Lib.hid (fun X => bigOf_walk l (by omega) X)
  have OT := Lib.hid (fun X => (show Calls Tryz.prog 51 #[.int .i64 1000] X (DgPost (dig 1000) X) from bigOf_walk 1000 (by decide) X))
  have OK := Lib.hid (fun X => bigOf_walk k (by omega) X)
  have M3 := Lib.hid (fun r1 r2 c1 c2 X h1 h2 => dgMul_walk r1 r2 m L c1 c2 X (by omega) (by omega) h1 h2)
  have M6 := Lib.hid (fun r1 r2 c1 c2 X h1 h2 => dgMul_walk r1 r2 M l c1 c2 X (by omega) (by omega) h1 h2)
  have M13 := Lib.hid (fun r1 r2 c1 c2 X h1 h2 => dgMul_walk r1 r2 l L c1 c2 X (by omega) (by omega) h1 h2)
  have M15 := Lib.hid (fun r1 r2 c1 c2 X h1 h2 => dgMul_walk r1 r2 (l * L) k c1 c2 X (by omega) (by omega) h1 h2)
  generalize l * L * k = lk at *
  generalize l * L = ll at *
  generalize m * L = xx at *
  generalize M * l = yy at *
  have C7 := Lib.hid (fun r1 r2 c1 c2 X h1 h2 => dgCmp_walk r1 r2 xx yy c1 c2 X (by omega) (by omega) h1 h2)
  have S8 := Lib.hid (fun r1 r2 c1 c2 X h1 h2 => dgSub_walk r1 r2 xx yy c1 c2 X (by omega) (by omega) (by omega) h1 h2)
  obtain ⟨dd, hdd⟩ : ∃ d, xx - yy = d := ⟨_, rfl⟩
  have hdl : dd ≤ 75557863725914323419136 := by omega
  have M10 := Lib.hid (fun r1 r2 c1 c2 X h1 h2 => dgMul_walk r1 r2 dd 1000 c1 c2 X (by omega) (by decide) h1 h2)
  have C16 := Lib.hid (fun r1 r2 c1 c2 X h1 h2 => dgCmp_walk r1 r2 (dd * 1000) lk c1 c2 X (by omega) (by omega) h1 h2)
  have t1 : decide (cmpN xx yy < 0) = false := decide_eq_false (by rw [cmpN_ls]; omega)
  have HR : decide (cmpN (dd * 1000) lk ≤ 0) = decide (dd * 1000 ≤ lk) := by simp only [cmpN_ll]
  rw [hdd] at S8 ⊢
  rw [← HR]
  clear q1 q2 q3 q4 hdd hdl HR hm hl hM hL hk h0 hc
  generalize dd * 1000 = dt at *
  generalize hcv : cmpN dt lk = cv at *
  generalize hcw : cmpN xx yy = cw at *
  clear hcv hcw
  go_enter Tryz.func34, Tryz.ntmps34
  go_wp2_with (first
    | (have _ := Q15; go_at_call 52; go_loud ((with_reducible refine (C16.out _ _ _ _ _ N10.out Q15.out).mono ?_); rintro e16 w16 ⟨rfl, hb⟩; have B16 := Lib.hid (grow_trans (by (repeat (with_reducible first | exact grow_refl _ | exact B16.out | exact B15.out | exact B14.out | exact B13.out | exact B12.out | exact B11.out | exact B10.out | exact B9.out | exact B8.out | exact B7.out | exact B6.out | exact B5.out | exact B4.out | exact B3.out | exact B2.out | exact B1.out | refine Grow.grow_drewN ?_ _ | refine Grow.grow_drew ?_))) hb : Below w.heap.size w w16); have T16 := Lib.hid True.intro; clear hb))
    | (have _ := F14; go_at_call 49; go_loud ((with_reducible refine (M15.out _ _ _ _ _ P13.out F14.out).mono ?_); rintro e15 w15 ⟨r15, c15, rfl, h15, hb⟩; have B15 := Lib.hid (grow_trans (by (repeat (with_reducible first | exact grow_refl _ | exact B16.out | exact B15.out | exact B14.out | exact B13.out | exact B12.out | exact B11.out | exact B10.out | exact B9.out | exact B8.out | exact B7.out | exact B6.out | exact B5.out | exact B4.out | exact B3.out | exact B2.out | exact B1.out | refine Grow.grow_drewN ?_ _ | refine Grow.grow_drew ?_))) hb : Below w.heap.size w w15); replace N10 := Lib.hid (N10.out.below (grow_trans (by (repeat (with_reducible first | exact grow_refl _ | refine Grow.grow_drewN ?_ _ | refine Grow.grow_drew ?_))) hb)); have Q15 := Lib.hid h15; clear h15 hb))
    | (have _ := P13; go_at_call 51; go_loud ((with_reducible refine (OK.out _).mono ?_); rintro e14 w14 ⟨r14, c14, rfl, h14, hb⟩; have B14 := Lib.hid (grow_trans (by (repeat (with_reducible first | exact grow_refl _ | exact B16.out | exact B15.out | exact B14.out | exact B13.out | exact B12.out | exact B11.out | exact B10.out | exact B9.out | exact B8.out | exact B7.out | exact B6.out | exact B5.out | exact B4.out | exact B3.out | exact B2.out | exact B1.out | refine Grow.grow_drewN ?_ _ | refine Grow.grow_drew ?_))) hb : Below w.heap.size w w14); replace N10 := Lib.hid (N10.out.below (grow_trans (by (repeat (with_reducible first | exact grow_refl _ | refine Grow.grow_drewN ?_ _ | refine Grow.grow_drew ?_))) hb)); replace P13 := Lib.hid (P13.out.below (grow_trans (by (repeat (with_reducible first | exact grow_refl _ | refine Grow.grow_drewN ?_ _ | refine Grow.grow_drew ?_))) hb)); have F14 := Lib.hid h14; clear h14 hb))
    | (have _ := F12; go_at_call 49; go_loud ((with_reducible refine (M13.out _ _ _ _ _ F11.out F12.out).mono ?_); rintro e13 w13 ⟨r13, c13, rfl, h13, hb⟩; have B13 := Lib.hid (grow_trans (by (repeat (with_reducible first | exact grow_refl _ | exact B16.out | exact B15.out | exact B14.out | exact B13.out | exact B12.out | exact B11.out | exact B10.out | exact B9.out | exact B8.out | exact B7.out | exact B6.out | exact B5.out | exact B4.out | exact B3.out | exact B2.out | exact B1.out | refine Grow.grow_drewN ?_ _ | refine Grow.grow_drew ?_))) hb : Below w.heap.size w w13); replace N10 := Lib.hid (N10.out.below (grow_trans (by (repeat (with_reducible first | exact grow_refl _ | refine Grow.grow_drewN ?_ _ | refine Grow.grow_drew ?_))) hb)); have P13 := Lib.hid h13; clear h13 hb))
    | (have _ := F11; go_at_call 51; go_loud ((with_reducible refine (OL.out _).mono ?_); rintro e12 w12 ⟨r12, c12, rfl, h12, hb⟩; have B12 := Lib.hid (grow_trans (by (repeat (with_reducible first | exact grow_refl _ | exact B16.out | exact B15.out | exact B14.out | exact B13.out | exact B12.out | exact B11.out | exact B10.out | exact B9.out | exact B8.out | exact B7.out | exact B6.out | exact B5.out | exact B4.out | exact B3.out | exact B2.out | exact B1.out | refine Grow.grow_drewN ?_ _ | refine Grow.grow_drew ?_))) hb : Below w.heap.size w w12); replace N10 := Lib.hid (N10.out.below (grow_trans (by (repeat (with_reducible first | exact grow_refl _ | refine Grow.grow_drewN ?_ _ | refine Grow.grow_drew ?_))) hb)); replace F11 := Lib.hid (F11.out.below (grow_trans (by (repeat (with_reducible first | exact grow_refl _ | refine Grow.grow_drewN ?_ _ | refine Grow.grow_drew ?_))) hb)); have F12 := Lib.hid h12; clear h12 hb))
    | (have _ := N10; go_at_call 51; go_loud ((with_reducible refine (Ol.out _).mono ?_); rintro e11 w11 ⟨r11, c11, rfl, h11, hb⟩; have B11 := Lib.hid (grow_trans (by (repeat (with_reducible first | exact grow_refl _ | exact B16.out | exact B15.out | exact B14.out | exact B13.out | exact B12.out | exact B11.out | exact B10.out | exact B9.out | exact B8.out | exact B7.out | exact B6.out | exact B5.out | exact B4.out | exact B3.out | exact B2.out | exact B1.out | refine Grow.grow_drewN ?_ _ | refine Grow.grow_drew ?_))) hb : Below w.heap.size w w11); replace N10 := Lib.hid (N10.out.below (grow_trans (by (repeat (with_reducible first | exact grow_refl _ | refine Grow.grow_drewN ?_ _ | refine Grow.grow_drew ?_))) hb)); have F11 := Lib.hid h11; clear h11 hb))
    | (have _ := F9; go_at_call 49; go_loud ((with_reducible refine (M10.out _ _ _ _ _ D8.out F9.out).mono ?_); rintro e10 w10 ⟨r10, c10, rfl, h10, hb⟩; have B10 := Lib.hid (grow_trans (by (repeat (with_reducible first | exact grow_refl _ | exact B16.out | exact B15.out | exact B14.out | exact B13.out | exact B12.out | exact B11.out | exact B10.out | exact B9.out | exact B8.out | exact B7.out | exact B6.out | exact B5.out | exact B4.out | exact B3.out | exact B2.out | exact B1.out | refine Grow.grow_drewN ?_ _ | refine Grow.grow_drew ?_))) hb : Below w.heap.size w w10); have N10 := Lib.hid h10; clear h10 hb))
    | (have _ := D8; go_at_call 51; go_loud ((with_reducible refine (OT.out _).mono ?_); rintro e9 w9 ⟨r9, c9, rfl, h9, hb⟩; have B9 := Lib.hid (grow_trans (by (repeat (with_reducible first | exact grow_refl _ | exact B16.out | exact B15.out | exact B14.out | exact B13.out | exact B12.out | exact B11.out | exact B10.out | exact B9.out | exact B8.out | exact B7.out | exact B6.out | exact B5.out | exact B4.out | exact B3.out | exact B2.out | exact B1.out | refine Grow.grow_drewN ?_ _ | refine Grow.grow_drew ?_))) hb : Below w.heap.size w w9); replace D8 := Lib.hid (D8.out.below (grow_trans (by (repeat (with_reducible first | exact grow_refl _ | refine Grow.grow_drewN ?_ _ | refine Grow.grow_drew ?_))) hb)); have F9 := Lib.hid h9; clear h9 hb))
    | (have _ := T7; go_at_call 72; go_loud ((with_reducible refine (S8.out _ _ _ _ _ X3.out Y6.out).mono ?_); rintro e8 w8 ⟨r8, c8, rfl, h8, hb⟩; have B8 := Lib.hid (grow_trans (by (repeat (with_reducible first | exact grow_refl _ | exact B16.out | exact B15.out | exact B14.out | exact B13.out | exact B12.out | exact B11.out | exact B10.out | exact B9.out | exact B8.out | exact B7.out | exact B6.out | exact B5.out | exact B4.out | exact B3.out | exact B2.out | exact B1.out | refine Grow.grow_drewN ?_ _ | refine Grow.grow_drew ?_))) hb : Below w.heap.size w w8); have D8 := Lib.hid h8; clear h8 hb))
    | (have _ := Y6; go_at_call 52; go_loud ((with_reducible refine (C7.out _ _ _ _ _ X3.out Y6.out).mono ?_); rintro e7 w7 ⟨rfl, hb⟩; have B7 := Lib.hid (grow_trans (by (repeat (with_reducible first | exact grow_refl _ | exact B16.out | exact B15.out | exact B14.out | exact B13.out | exact B12.out | exact B11.out | exact B10.out | exact B9.out | exact B8.out | exact B7.out | exact B6.out | exact B5.out | exact B4.out | exact B3.out | exact B2.out | exact B1.out | refine Grow.grow_drewN ?_ _ | refine Grow.grow_drew ?_))) hb : Below w.heap.size w w7); replace X3 := Lib.hid (X3.out.below (grow_trans (by (repeat (with_reducible first | exact grow_refl _ | refine Grow.grow_drewN ?_ _ | refine Grow.grow_drew ?_))) hb)); replace Y6 := Lib.hid (Y6.out.below (grow_trans (by (repeat (with_reducible first | exact grow_refl _ | refine Grow.grow_drewN ?_ _ | refine Grow.grow_drew ?_))) hb)); have T7 := Lib.hid True.intro; clear hb))
    | (have _ := F5; go_at_call 49; go_loud ((with_reducible refine (M6.out _ _ _ _ _ F4.out F5.out).mono ?_); rintro e6 w6 ⟨r6, c6, rfl, h6, hb⟩; have B6 := Lib.hid (grow_trans (by (repeat (with_reducible first | exact grow_refl _ | exact B16.out | exact B15.out | exact B14.out | exact B13.out | exact B12.out | exact B11.out | exact B10.out | exact B9.out | exact B8.out | exact B7.out | exact B6.out | exact B5.out | exact B4.out | exact B3.out | exact B2.out | exact B1.out | refine Grow.grow_drewN ?_ _ | refine Grow.grow_drew ?_))) hb : Below w.heap.size w w6); replace X3 := Lib.hid (X3.out.below (grow_trans (by (repeat (with_reducible first | exact grow_refl _ | refine Grow.grow_drewN ?_ _ | refine Grow.grow_drew ?_))) hb)); have Y6 := Lib.hid h6; clear h6 hb))
    | (have _ := F4; go_at_call 51; go_loud ((with_reducible refine (Ol.out _).mono ?_); rintro e5 w5 ⟨r5, c5, rfl, h5, hb⟩; have B5 := Lib.hid (grow_trans (by (repeat (with_reducible first | exact grow_refl _ | exact B16.out | exact B15.out | exact B14.out | exact B13.out | exact B12.out | exact B11.out | exact B10.out | exact B9.out | exact B8.out | exact B7.out | exact B6.out | exact B5.out | exact B4.out | exact B3.out | exact B2.out | exact B1.out | refine Grow.grow_drewN ?_ _ | refine Grow.grow_drew ?_))) hb : Below w.heap.size w w5); replace X3 := Lib.hid (X3.out.below (grow_trans (by (repeat (with_reducible first | exact grow_refl _ | refine Grow.grow_drewN ?_ _ | refine Grow.grow_drew ?_))) hb)); replace F4 := Lib.hid (F4.out.below (grow_trans (by (repeat (with_reducible first | exact grow_refl _ | refine Grow.grow_drewN ?_ _ | refine Grow.grow_drew ?_))) hb)); have F5 := Lib.hid h5; clear h5 hb))
    | (have _ := X3; go_at_call 51; go_loud ((with_reducible refine (OMM.out _).mono ?_); rintro e4 w4 ⟨r4, c4, rfl, h4, hb⟩; have B4 := Lib.hid (grow_trans (by (repeat (with_reducible first | exact grow_refl _ | exact B16.out | exact B15.out | exact B14.out | exact B13.out | exact B12.out | exact B11.out | exact B10.out | exact B9.out | exact B8.out | exact B7.out | exact B6.out | exact B5.out | exact B4.out | exact B3.out | exact B2.out | exact B1.out | refine Grow.grow_drewN ?_ _ | refine Grow.grow_drew ?_))) hb : Below w.heap.size w w4); replace X3 := Lib.hid (X3.out.below (grow_trans (by (repeat (with_reducible first | exact grow_refl _ | refine Grow.grow_drewN ?_ _ | refine Grow.grow_drew ?_))) hb)); have F4 := Lib.hid h4; clear h4 hb))
    | (have _ := F2; go_at_call 49; go_loud ((with_reducible refine (M3.out _ _ _ _ _ F1.out F2.out).mono ?_); rintro e3 w3 ⟨r3, c3, rfl, h3, hb⟩; have B3 := Lib.hid (grow_trans (by (repeat (with_reducible first | exact grow_refl _ | exact B16.out | exact B15.out | exact B14.out | exact B13.out | exact B12.out | exact B11.out | exact B10.out | exact B9.out | exact B8.out | exact B7.out | exact B6.out | exact B5.out | exact B4.out | exact B3.out | exact B2.out | exact B1.out | refine Grow.grow_drewN ?_ _ | refine Grow.grow_drew ?_))) hb : Below w.heap.size w w3); have X3 := Lib.hid h3; clear h3 hb))
    | (have _ := F1; go_at_call 51; go_loud ((with_reducible refine (OL.out _).mono ?_); rintro e2 w2 ⟨r2, c2, rfl, h2, hb⟩; have B2 := Lib.hid (grow_trans (by (repeat (with_reducible first | exact grow_refl _ | exact B16.out | exact B15.out | exact B14.out | exact B13.out | exact B12.out | exact B11.out | exact B10.out | exact B9.out | exact B8.out | exact B7.out | exact B6.out | exact B5.out | exact B4.out | exact B3.out | exact B2.out | exact B1.out | refine Grow.grow_drewN ?_ _ | refine Grow.grow_drew ?_))) hb : Below w.heap.size w w2); replace F1 := Lib.hid (F1.out.below (grow_trans (by (repeat (with_reducible first | exact grow_refl _ | refine Grow.grow_drewN ?_ _ | refine Grow.grow_drew ?_))) hb)); have F2 := Lib.hid h2; clear h2 hb))
    | (go_at_call 51; go_loud ((with_reducible refine (OM.out _).mono ?_); rintro e1 w1 ⟨r1, c1, rfl, h1, hb⟩; have B1 := Lib.hid (grow_trans (by (repeat (with_reducible first | exact grow_refl _ | exact B16.out | exact B15.out | exact B14.out | exact B13.out | exact B12.out | exact B11.out | exact B10.out | exact B9.out | exact B8.out | exact B7.out | exact B6.out | exact B5.out | exact B4.out | exact B3.out | exact B2.out | exact B1.out | refine Grow.grow_drewN ?_ _ | refine Grow.grow_drew ?_))) hb : Below w.heap.size w w1); have F1 := Lib.hid h1; clear h1 hb))
    | fail)
  go_ret
  exact ⟨rfl, B16.out⟩
set_option maxRecDepth 100000 in
set_option maxHeartbeats 16000000 in
theorem near_lt (m l M L k : Nat) (hm : m ≤ 274877906944) (hl : l ≤ 274877906944) (hM : M ≤ 274877906944) (hL : L ≤ 274877906944) (hk : k ≤ 1000) (h0 : 0 < m * L) (hc : m * L < M * l) (w : World) :
    Calls Tryz.prog 34 #[.int .i64 m, .int .i64 l, .int .i64 M, .int .i64 L, .int .i64 k] w fun e w' => e = .returned (.bool (decide ((M * l - m * L) * 1000 ≤ l * L * k))) ∧ Below w.heap.size w w' := by
  have q1 := prod_le hm hL
  have q2 := prod_le hM hl
  have q3 := prod_le hl hL
  have q4 : l * L * k ≤ 75557863725914323419136 * 1000 := Nat.mul_le_mul q3 hk
  have OM := Lib.hid (fun X => bigOf_walk m (by omega) X)
  have OL := Lib.hid (fun X => bigOf_walk L (by omega) X)
  have OMM := Lib.hid (fun X => bigOf_walk M (by omega) X)
  have Ol := Lib.hid (fun X => bigOf_walk l (by omega) X)
  have OT := Lib.hid (fun X => (show Calls Tryz.prog 51 #[.int .i64 1000] X (DgPost (dig 1000) X) from bigOf_walk 1000 (by decide) X))
  have OK := Lib.hid (fun X => bigOf_walk k (by omega) X)
  have M3 := Lib.hid (fun r1 r2 c1 c2 X h1 h2 => dgMul_walk r1 r2 m L c1 c2 X (by omega) (by omega) h1 h2)
  have M6 := Lib.hid (fun r1 r2 c1 c2 X h1 h2 => dgMul_walk r1 r2 M l c1 c2 X (by omega) (by omega) h1 h2)
  have M13 := Lib.hid (fun r1 r2 c1 c2 X h1 h2 => dgMul_walk r1 r2 l L c1 c2 X (by omega) (by omega) h1 h2)
  have M15 := Lib.hid (fun r1 r2 c1 c2 X h1 h2 => dgMul_walk r1 r2 (l * L) k c1 c2 X (by omega) (by omega) h1 h2)
  generalize l * L * k = lk at *
  generalize l * L = ll at *
  generalize m * L = xx at *
  generalize M * l = yy at *
  have C7 := Lib.hid (fun r1 r2 c1 c2 X h1 h2 => dgCmp_walk r1 r2 xx yy c1 c2 X (by omega) (by omega) h1 h2)
  have S8 := Lib.hid (fun r1 r2 c1 c2 X h1 h2 => dgSub_walk r1 r2 yy xx c1 c2 X (by omega) (by omega) (by omega) h1 h2)
  obtain ⟨dd, hdd⟩ : ∃ d, yy - xx = d := ⟨_, rfl⟩
  have hdl : dd ≤ 75557863725914323419136 := by omega
  have M10 := Lib.hid (fun r1 r2 c1 c2 X h1 h2 => dgMul_walk r1 r2 dd 1000 c1 c2 X (by omega) (by decide) h1 h2)
  have C16 := Lib.hid (fun r1 r2 c1 c2 X h1 h2 => dgCmp_walk r1 r2 (dd * 1000) lk c1 c2 X (by omega) (by omega) h1 h2)
  have t1 : decide (cmpN xx yy < 0) = true := decide_eq_true (by rw [cmpN_ls]; omega)
  have HR : decide (cmpN (dd * 1000) lk ≤ 0) = decide (dd * 1000 ≤ lk) := by simp only [cmpN_ll]
  rw [hdd] at S8 ⊢
  rw [← HR]
  clear q1 q2 q3 q4 hdd hdl HR hm hl hM hL hk h0 hc
  generalize dd * 1000 = dt at *
  generalize hcv : cmpN dt lk = cv at *
  generalize hcw : cmpN xx yy = cw at *
  clear hcv hcw
  go_enter Tryz.func34, Tryz.ntmps34
  go_wp2_with (first
    | (have _ := Q15; go_at_call 52; go_loud ((with_reducible refine (C16.out _ _ _ _ _ N10.out Q15.out).mono ?_); rintro e16 w16 ⟨rfl, hb⟩; have B16 := Lib.hid (grow_trans (by (repeat (with_reducible first | exact grow_refl _ | exact B16.out | exact B15.out | exact B14.out | exact B13.out | exact B12.out | exact B11.out | exact B10.out | exact B9.out | exact B8.out | exact B7.out | exact B6.out | exact B5.out | exact B4.out | exact B3.out | exact B2.out | exact B1.out | refine Grow.grow_drewN ?_ _ | refine Grow.grow_drew ?_))) hb : Below w.heap.size w w16); have T16 := Lib.hid True.intro; clear hb))
    | (have _ := F14; go_at_call 49; go_loud ((with_reducible refine (M15.out _ _ _ _ _ P13.out F14.out).mono ?_); rintro e15 w15 ⟨r15, c15, rfl, h15, hb⟩; have B15 := Lib.hid (grow_trans (by (repeat (with_reducible first | exact grow_refl _ | exact B16.out | exact B15.out | exact B14.out | exact B13.out | exact B12.out | exact B11.out | exact B10.out | exact B9.out | exact B8.out | exact B7.out | exact B6.out | exact B5.out | exact B4.out | exact B3.out | exact B2.out | exact B1.out | refine Grow.grow_drewN ?_ _ | refine Grow.grow_drew ?_))) hb : Below w.heap.size w w15); replace N10 := Lib.hid (N10.out.below (grow_trans (by (repeat (with_reducible first | exact grow_refl _ | refine Grow.grow_drewN ?_ _ | refine Grow.grow_drew ?_))) hb)); have Q15 := Lib.hid h15; clear h15 hb))
    | (have _ := P13; go_at_call 51; go_loud ((with_reducible refine (OK.out _).mono ?_); rintro e14 w14 ⟨r14, c14, rfl, h14, hb⟩; have B14 := Lib.hid (grow_trans (by (repeat (with_reducible first | exact grow_refl _ | exact B16.out | exact B15.out | exact B14.out | exact B13.out | exact B12.out | exact B11.out | exact B10.out | exact B9.out | exact B8.out | exact B7.out | exact B6.out | exact B5.out | exact B4.out | exact B3.out | exact B2.out | exact B1.out | refine Grow.grow_drewN ?_ _ | refine Grow.grow_drew ?_))) hb : Below w.heap.size w w14); replace N10 := Lib.hid (N10.out.below (grow_trans (by (repeat (with_reducible first | exact grow_refl _ | refine Grow.grow_drewN ?_ _ | refine Grow.grow_drew ?_))) hb)); replace P13 := Lib.hid (P13.out.below (grow_trans (by (repeat (with_reducible first | exact grow_refl _ | refine Grow.grow_drewN ?_ _ | refine Grow.grow_drew ?_))) hb)); have F14 := Lib.hid h14; clear h14 hb))
    | (have _ := F12; go_at_call 49; go_loud ((with_reducible refine (M13.out _ _ _ _ _ F11.out F12.out).mono ?_); rintro e13 w13 ⟨r13, c13, rfl, h13, hb⟩; have B13 := Lib.hid (grow_trans (by (repeat (with_reducible first | exact grow_refl _ | exact B16.out | exact B15.out | exact B14.out | exact B13.out | exact B12.out | exact B11.out | exact B10.out | exact B9.out | exact B8.out | exact B7.out | exact B6.out | exact B5.out | exact B4.out | exact B3.out | exact B2.out | exact B1.out | refine Grow.grow_drewN ?_ _ | refine Grow.grow_drew ?_))) hb : Below w.heap.size w w13); replace N10 := Lib.hid (N10.out.below (grow_trans (by (repeat (with_reducible first | exact grow_refl _ | refine Grow.grow_drewN ?_ _ | refine Grow.grow_drew ?_))) hb)); have P13 := Lib.hid h13; clear h13 hb))
    | (have _ := F11; go_at_call 51; go_loud ((with_reducible refine (OL.out _).mono ?_); rintro e12 w12 ⟨r12, c12, rfl, h12, hb⟩; have B12 := Lib.hid (grow_trans (by (repeat (with_reducible first | exact grow_refl _ | exact B16.out | exact B15.out | exact B14.out | exact B13.out | exact B12.out | exact B11.out | exact B10.out | exact B9.out | exact B8.out | exact B7.out | exact B6.out | exact B5.out | exact B4.out | exact B3.out | exact B2.out | exact B1.out | refine Grow.grow_drewN ?_ _ | refine Grow.grow_drew ?_))) hb : Below w.heap.size w w12); replace N10 := Lib.hid (N10.out.below (grow_trans (by (repeat (with_reducible first | exact grow_refl _ | refine Grow.grow_drewN ?_ _ | refine Grow.grow_drew ?_))) hb)); replace F11 := Lib.hid (F11.out.below (grow_trans (by (repeat (with_reducible first | exact grow_refl _ | refine Grow.grow_drewN ?_ _ | refine Grow.grow_drew ?_))) hb)); have F12 := Lib.hid h12; clear h12 hb))
    | (have _ := N10; go_at_call 51; go_loud ((with_reducible refine (Ol.out _).mono ?_); rintro e11 w11 ⟨r11, c11, rfl, h11, hb⟩; have B11 := Lib.hid (grow_trans (by (repeat (with_reducible first | exact grow_refl _ | exact B16.out | exact B15.out | exact B14.out | exact B13.out | exact B12.out | exact B11.out | exact B10.out | exact B9.out | exact B8.out | exact B7.out | exact B6.out | exact B5.out | exact B4.out | exact B3.out | exact B2.out | exact B1.out | refine Grow.grow_drewN ?_ _ | refine Grow.grow_drew ?_))) hb : Below w.heap.size w w11); replace N10 := Lib.hid (N10.out.below (grow_trans (by (repeat (with_reducible first | exact grow_refl _ | refine Grow.grow_drewN ?_ _ | refine Grow.grow_drew ?_))) hb)); have F11 := Lib.hid h11; clear h11 hb))
    | (have _ := F9; go_at_call 49; go_loud ((with_reducible refine (M10.out _ _ _ _ _ D8.out F9.out).mono ?_); rintro e10 w10 ⟨r10, c10, rfl, h10, hb⟩; have B10 := Lib.hid (grow_trans (by (repeat (with_reducible first | exact grow_refl _ | exact B16.out | exact B15.out | exact B14.out | exact B13.out | exact B12.out | exact B11.out | exact B10.out | exact B9.out | exact B8.out | exact B7.out | exact B6.out | exact B5.out | exact B4.out | exact B3.out | exact B2.out | exact B1.out | refine Grow.grow_drewN ?_ _ | refine Grow.grow_drew ?_))) hb : Below w.heap.size w w10); have N10 := Lib.hid h10; clear h10 hb))
    | (have _ := D8; go_at_call 51; go_loud ((with_reducible refine (OT.out _).mono ?_); rintro e9 w9 ⟨r9, c9, rfl, h9, hb⟩; have B9 := Lib.hid (grow_trans (by (repeat (with_reducible first | exact grow_refl _ | exact B16.out | exact B15.out | exact B14.out | exact B13.out | exact B12.out | exact B11.out | exact B10.out | exact B9.out | exact B8.out | exact B7.out | exact B6.out | exact B5.out | exact B4.out | exact B3.out | exact B2.out | exact B1.out | refine Grow.grow_drewN ?_ _ | refine Grow.grow_drew ?_))) hb : Below w.heap.size w w9); replace D8 := Lib.hid (D8.out.below (grow_trans (by (repeat (with_reducible first | exact grow_refl _ | refine Grow.grow_drewN ?_ _ | refine Grow.grow_drew ?_))) hb)); have F9 := Lib.hid h9; clear h9 hb))
    | (have _ := T7; go_at_call 72; go_loud ((with_reducible refine (S8.out _ _ _ _ _ Y6.out X3.out).mono ?_); rintro e8 w8 ⟨r8, c8, rfl, h8, hb⟩; have B8 := Lib.hid (grow_trans (by (repeat (with_reducible first | exact grow_refl _ | exact B16.out | exact B15.out | exact B14.out | exact B13.out | exact B12.out | exact B11.out | exact B10.out | exact B9.out | exact B8.out | exact B7.out | exact B6.out | exact B5.out | exact B4.out | exact B3.out | exact B2.out | exact B1.out | refine Grow.grow_drewN ?_ _ | refine Grow.grow_drew ?_))) hb : Below w.heap.size w w8); have D8 := Lib.hid h8; clear h8 hb))
    | (have _ := Y6; go_at_call 52; go_loud ((with_reducible refine (C7.out _ _ _ _ _ X3.out Y6.out).mono ?_); rintro e7 w7 ⟨rfl, hb⟩; have B7 := Lib.hid (grow_trans (by (repeat (with_reducible first | exact grow_refl _ | exact B16.out | exact B15.out | exact B14.out | exact B13.out | exact B12.out | exact B11.out | exact B10.out | exact B9.out | exact B8.out | exact B7.out | exact B6.out | exact B5.out | exact B4.out | exact B3.out | exact B2.out | exact B1.out | refine Grow.grow_drewN ?_ _ | refine Grow.grow_drew ?_))) hb : Below w.heap.size w w7); replace X3 := Lib.hid (X3.out.below (grow_trans (by (repeat (with_reducible first | exact grow_refl _ | refine Grow.grow_drewN ?_ _ | refine Grow.grow_drew ?_))) hb)); replace Y6 := Lib.hid (Y6.out.below (grow_trans (by (repeat (with_reducible first | exact grow_refl _ | refine Grow.grow_drewN ?_ _ | refine Grow.grow_drew ?_))) hb)); have T7 := Lib.hid True.intro; clear hb))
    | (have _ := F5; go_at_call 49; go_loud ((with_reducible refine (M6.out _ _ _ _ _ F4.out F5.out).mono ?_); rintro e6 w6 ⟨r6, c6, rfl, h6, hb⟩; have B6 := Lib.hid (grow_trans (by (repeat (with_reducible first | exact grow_refl _ | exact B16.out | exact B15.out | exact B14.out | exact B13.out | exact B12.out | exact B11.out | exact B10.out | exact B9.out | exact B8.out | exact B7.out | exact B6.out | exact B5.out | exact B4.out | exact B3.out | exact B2.out | exact B1.out | refine Grow.grow_drewN ?_ _ | refine Grow.grow_drew ?_))) hb : Below w.heap.size w w6); replace X3 := Lib.hid (X3.out.below (grow_trans (by (repeat (with_reducible first | exact grow_refl _ | refine Grow.grow_drewN ?_ _ | refine Grow.grow_drew ?_))) hb)); have Y6 := Lib.hid h6; clear h6 hb))
    | (have _ := F4; go_at_call 51; go_loud ((with_reducible refine (Ol.out _).mono ?_); rintro e5 w5 ⟨r5, c5, rfl, h5, hb⟩; have B5 := Lib.hid (grow_trans (by (repeat (with_reducible first | exact grow_refl _ | exact B16.out | exact B15.out | exact B14.out | exact B13.out | exact B12.out | exact B11.out | exact B10.out | exact B9.out | exact B8.out | exact B7.out | exact B6.out | exact B5.out | exact B4.out | exact B3.out | exact B2.out | exact B1.out | refine Grow.grow_drewN ?_ _ | refine Grow.grow_drew ?_))) hb : Below w.heap.size w w5); replace X3 := Lib.hid (X3.out.below (grow_trans (by (repeat (with_reducible first | exact grow_refl _ | refine Grow.grow_drewN ?_ _ | refine Grow.grow_drew ?_))) hb)); replace F4 := Lib.hid (F4.out.below (grow_trans (by (repeat (with_reducible first | exact grow_refl _ | refine Grow.grow_drewN ?_ _ | refine Grow.grow_drew ?_))) hb)); have F5 := Lib.hid h5; clear h5 hb))
    | (have _ := X3; go_at_call 51; go_loud ((with_reducible refine (OMM.out _).mono ?_); rintro e4 w4 ⟨r4, c4, rfl, h4, hb⟩; have B4 := Lib.hid (grow_trans (by (repeat (with_reducible first | exact grow_refl _ | exact B16.out | exact B15.out | exact B14.out | exact B13.out | exact B12.out | exact B11.out | exact B10.out | exact B9.out | exact B8.out | exact B7.out | exact B6.out | exact B5.out | exact B4.out | exact B3.out | exact B2.out | exact B1.out | refine Grow.grow_drewN ?_ _ | refine Grow.grow_drew ?_))) hb : Below w.heap.size w w4); replace X3 := Lib.hid (X3.out.below (grow_trans (by (repeat (with_reducible first | exact grow_refl _ | refine Grow.grow_drewN ?_ _ | refine Grow.grow_drew ?_))) hb)); have F4 := Lib.hid h4; clear h4 hb))
    | (have _ := F2; go_at_call 49; go_loud ((with_reducible refine (M3.out _ _ _ _ _ F1.out F2.out).mono ?_); rintro e3 w3 ⟨r3, c3, rfl, h3, hb⟩; have B3 := Lib.hid (grow_trans (by (repeat (with_reducible first | exact grow_refl _ | exact B16.out | exact B15.out | exact B14.out | exact B13.out | exact B12.out | exact B11.out | exact B10.out | exact B9.out | exact B8.out | exact B7.out | exact B6.out | exact B5.out | exact B4.out | exact B3.out | exact B2.out | exact B1.out | refine Grow.grow_drewN ?_ _ | refine Grow.grow_drew ?_))) hb : Below w.heap.size w w3); have X3 := Lib.hid h3; clear h3 hb))
    | (have _ := F1; go_at_call 51; go_loud ((with_reducible refine (OL.out _).mono ?_); rintro e2 w2 ⟨r2, c2, rfl, h2, hb⟩; have B2 := Lib.hid (grow_trans (by (repeat (with_reducible first | exact grow_refl _ | exact B16.out | exact B15.out | exact B14.out | exact B13.out | exact B12.out | exact B11.out | exact B10.out | exact B9.out | exact B8.out | exact B7.out | exact B6.out | exact B5.out | exact B4.out | exact B3.out | exact B2.out | exact B1.out | refine Grow.grow_drewN ?_ _ | refine Grow.grow_drew ?_))) hb : Below w.heap.size w w2); replace F1 := Lib.hid (F1.out.below (grow_trans (by (repeat (with_reducible first | exact grow_refl _ | refine Grow.grow_drewN ?_ _ | refine Grow.grow_drew ?_))) hb)); have F2 := Lib.hid h2; clear h2 hb))
    | (go_at_call 51; go_loud ((with_reducible refine (OM.out _).mono ?_); rintro e1 w1 ⟨r1, c1, rfl, h1, hb⟩; have B1 := Lib.hid (grow_trans (by (repeat (with_reducible first | exact grow_refl _ | exact B16.out | exact B15.out | exact B14.out | exact B13.out | exact B12.out | exact B11.out | exact B10.out | exact B9.out | exact B8.out | exact B7.out | exact B6.out | exact B5.out | exact B4.out | exact B3.out | exact B2.out | exact B1.out | refine Grow.grow_drewN ?_ _ | refine Grow.grow_drew ?_))) hb : Below w.heap.size w w1); have F1 := Lib.hid h1; clear h1 hb))
    | fail)
  go_ret
  exact ⟨rfl, B16.out⟩
/-- The document's answer on two ratios. -/
theorem nearR_walk (m l M L k : Nat) (hm : m ≤ 274877906944) (hl : l ≤ 274877906944) (hM : M ≤ 274877906944) (hL : L ≤ 274877906944) (hk : k ≤ 1000) (h0 : 0 < m * L) (w : World) :
    Calls Tryz.prog 34 #[.int .i64 m, .int .i64 l, .int .i64 M, .int .i64 L, .int .i64 k] w fun e w' => e = .returned (.bool (nearB m M L l k)) ∧ Below w.heap.size w w' := by
  have hN : nearB m M L l k = decide ((if m * L < M * l then M * l - m * L else m * L - M * l) * 1000 ≤ l * L * k) := by
    unfold nearB
    rw [decide_eq_decide]
    have e1 : (m : Int) * (L : Int) = ((m * L : Nat) : Int) := by simp
    have e2 : (M : Int) * (l : Int) = ((M * l : Nat) : Int) := by simp
    have e3 : (k : Int) * (l : Int) * (L : Int) = ((l * L * k : Nat) : Int) := by
      rw [Int.natCast_mul, Int.natCast_mul, Int.mul_assoc, Int.mul_comm]
    rw [e1, e2, e3]
    generalize l * L * k = z
    generalize m * L = x
    generalize M * l = y
    split <;> omega
  rw [hN]
  by_cases h : m * L < M * l
  · rw [if_pos h]
    exact near_lt m l M L k hm hl hM hL hk h0 h w
  · rw [if_neg h]
    exact near_ge m l M L k hm hl hM hL hk h0 (by omega) w
end Go.Proofs.YtlnbeildplafbaaGreatDoor
/- Shapes of three points: the document's AlikeShapes. -/
set_option linter.unusedSimpArgs false
set_option linter.unusedVariables false
namespace Go.Proofs.YtlnbeildplafbaaGreatDoor
open Go.RowKit Go.Grow Go.Bg Go.Atl Go.Pl

theorem nearI_walk (m l M L k : Int) (hm : 0 < m ∧ m ≤ 274877906944) (hl : 0 < l ∧ l ≤ 274877906944) (hM : 0 < M ∧ M ≤ 274877906944) (hL : 0 < L ∧ L ≤ 274877906944) (hk : 0 ≤ k ∧ k ≤ 1000) (w : World) :
    Calls Tryz.prog 34 #[.int .i64 m, .int .i64 l, .int .i64 M, .int .i64 L, .int .i64 k] w fun e w' => e = .returned (.bool (nearB m M L l k)) ∧ Below w.heap.size w w' := by
  obtain ⟨m, rfl⟩ := Int.eq_ofNat_of_zero_le (Int.le_of_lt hm.1)
  obtain ⟨l, rfl⟩ := Int.eq_ofNat_of_zero_le (Int.le_of_lt hl.1)
  obtain ⟨M, rfl⟩ := Int.eq_ofNat_of_zero_le (Int.le_of_lt hM.1)
  obtain ⟨L, rfl⟩ := Int.eq_ofNat_of_zero_le (Int.le_of_lt hL.1)
  obtain ⟨k, rfl⟩ := Int.eq_ofNat_of_zero_le hk.1
  exact nearR_walk m l M L k (by omega) (by omega) (by omega) (by omega) (by omega) (Nat.mul_pos (by omega) (by omega)) w
set_option maxRecDepth 100000 in
set_option maxHeartbeats 16000000 in
theorem alikeR_far (l m s h l2 m2 s2 h2 k : Int) (w : World) (hk : 0 ≤ k ∧ k ≤ 1000) (hv : validB l m s h = true) (hv2 : validB l2 m2 s2 h2 = true) (hh : ¬ h = h2) :
    Calls Tryz.prog 13 #[shV l m s h, shV l2 m2 s2 h2, .int .i64 k] w fun e w' => e = .returned (.bool (false)) ∧ Below w.heap.size w w' := by
  obtain ⟨u1, u2, u3, u4, -, -⟩ := validB_iff.1 hv
  obtain ⟨t1, t2, t3, t4, -, -⟩ := validB_iff.1 hv2
  have N1 := Lib.hid (fun Y => nearI_walk m l m2 l2 k (by omega) (by omega) (by omega) (by omega) hk Y)
  have N2 := Lib.hid (fun Y => nearI_walk s l s2 l2 k (by omega) (by omega) (by omega) (by omega) hk Y)
  clear hv hv2 u1 u2 u3 u4 t1 t2 t3 t4 hk
  have dh : (h != h2) = true := bne_iff_ne.2 hh
  clear hh
  unfold shV
  go_enter Tryz.func13, Tryz.ntmps13
  go_upto_region 1 with (fail)
  refine seal_wp fun X hX => ?_
  have ZA := Lib.hid (show Known X w.heap.size #[.int .i64 l, .int .i64 m, .int .i64 s, .int .i64 h] by rw [hX.out]; exact (Known.new w _ _).alloc _)
  have ZB := Lib.hid (show Known X (w.heap.size + 1) #[.int .i64 l2, .int .i64 m2, .int .i64 s2, .int .i64 h2] by rw [hX.out]; exact Known.new' (by simp))
  have BX := Lib.hid (show Below w.heap.size w X by rw [hX.out]; exact grow_alloc (grow_alloc (grow_refl w) _) _)
  clear hX
  generalize w.heap.size + 1 = bq at *
  generalize hbp : w.heap.size = bp at *
  have HBP := Lib.hid hbp
  clear hbp
  have HXB := Lib.hid (show bp ≤ X.heap.size by have := BX.out.size; have := HBP.out; omega)
  have ZAX := ZA.out.below (grow_refl X)
  have a0 := ZAX.cell 0
  have a1 := ZAX.cell 1
  have a2 := ZAX.cell 2
  have a3 := ZAX.cell 3
  have al := ZAX.lt
  clear ZAX
  have ZBX := ZB.out.below (grow_refl X)
  have b0 := ZBX.cell 0
  have b1 := ZBX.cell 1
  have b2 := ZBX.cell 2
  have b3 := ZBX.cell 3
  have bl := ZBX.lt
  clear ZBX
  simp only [List.getElem?_toArray, List.getElem?_cons_zero, List.getElem?_cons_succ] at a0 a1 a2 a3 b0 b1 b2 b3
  go_wp2
  go_ret
  first
    | exact ⟨rfl, by rw [HBP.out]; exact BX.out⟩
    | exact ⟨rfl, by rw [HBP.out]; exact grow_drew BX.out⟩
set_option maxRecDepth 100000 in
set_option maxHeartbeats 16000000 in
theorem alikeR_no (l m s h l2 m2 s2 h2 k : Int) (w : World) (hk : 0 ≤ k ∧ k ≤ 1000) (hv : validB l m s h = true) (hv2 : validB l2 m2 s2 h2 = true) (hh : h = h2) (q1 : nearB m m2 l2 l k = false) :
    Calls Tryz.prog 13 #[shV l m s h, shV l2 m2 s2 h2, .int .i64 k] w fun e w' => e = .returned (.bool (false)) ∧ Below w.heap.size w w' := by
  obtain ⟨u1, u2, u3, u4, -, -⟩ := validB_iff.1 hv
  obtain ⟨t1, t2, t3, t4, -, -⟩ := validB_iff.1 hv2
  have N1 := Lib.hid (fun Y => nearI_walk m l m2 l2 k (by omega) (by omega) (by omega) (by omega) hk Y)
  have N2 := Lib.hid (fun Y => nearI_walk s l s2 l2 k (by omega) (by omega) (by omega) (by omega) hk Y)
  clear hv hv2 u1 u2 u3 u4 t1 t2 t3 t4 hk
  have dh : (h != h2) = false := by rw [hh]; simp
  clear hh
  rw [q1] at N1
  clear q1
  generalize nearB s s2 l2 l k = bb at *
  unfold shV
  go_enter Tryz.func13, Tryz.ntmps13
  go_upto_region 1 with (fail)
  refine seal_wp fun X hX => ?_
  have ZA := Lib.hid (show Known X w.heap.size #[.int .i64 l, .int .i64 m, .int .i64 s, .int .i64 h] by rw [hX.out]; exact (Known.new w _ _).alloc _)
  have ZB := Lib.hid (show Known X (w.heap.size + 1) #[.int .i64 l2, .int .i64 m2, .int .i64 s2, .int .i64 h2] by rw [hX.out]; exact Known.new' (by simp))
  have BX := Lib.hid (show Below w.heap.size w X by rw [hX.out]; exact grow_alloc (grow_alloc (grow_refl w) _) _)
  clear hX
  generalize w.heap.size + 1 = bq at *
  generalize hbp : w.heap.size = bp at *
  have HBP := Lib.hid hbp
  clear hbp
  have HXB := Lib.hid (show bp ≤ X.heap.size by have := BX.out.size; have := HBP.out; omega)
  have ZAX := ZA.out.below (grow_refl X)
  have a0 := ZAX.cell 0
  have a1 := ZAX.cell 1
  have a2 := ZAX.cell 2
  have a3 := ZAX.cell 3
  have al := ZAX.lt
  clear ZAX
  have ZBX := ZB.out.below (grow_refl X)
  have b0 := ZBX.cell 0
  have b1 := ZBX.cell 1
  have b2 := ZBX.cell 2
  have b3 := ZBX.cell 3
  have bl := ZBX.lt
  clear ZBX
  simp only [List.getElem?_toArray, List.getElem?_cons_zero, List.getElem?_cons_succ] at a0 a1 a2 a3 b0 b1 b2 b3
  go_wp2_with (first
    | (go_at_call 34; go_loud ((with_reducible refine (N2.out _).mono ?_); rintro e w2 ⟨rfl, hb⟩; have B2 := Lib.hid (grow_trans B1.out (grow_trans (by (repeat (with_reducible first | exact grow_refl _ | refine Grow.grow_drewN ?_ _ | refine Grow.grow_drew ?_))) hb) : Below X.heap.size X w2); clear hb; clear a0 a1 a2 a3 al b0 b1 b2 b3 bl))
    | (go_at_call 34; go_loud ((with_reducible refine (N1.out _).mono ?_); rintro e w1 ⟨rfl, hb⟩; have B1 := Lib.hid (grow_trans (by (repeat (with_reducible first | exact grow_refl _ | refine Grow.grow_drewN ?_ _ | refine Grow.grow_drew ?_))) hb : Below X.heap.size X w1); clear hb; clear a0 a1 a2 a3 al b0 b1 b2 b3 bl; have ZAX := ZA.out.below B1.out; have a0 := ZAX.cell 0; have a1 := ZAX.cell 1; have a2 := ZAX.cell 2; have a3 := ZAX.cell 3; have al := ZAX.lt; clear ZAX; have ZBX := ZB.out.below B1.out; have b0 := ZBX.cell 0; have b1 := ZBX.cell 1; have b2 := ZBX.cell 2; have b3 := ZBX.cell 3; have bl := ZBX.lt; clear ZBX; simp only [List.getElem?_toArray, List.getElem?_cons_zero, List.getElem?_cons_succ] at a0 a1 a2 a3 b0 b1 b2 b3)))
  go_ret
  refine ⟨rfl, ?_⟩
  rw [HBP.out]
  exact BX.out.trans (B2.out.mono HXB.out)
set_option maxRecDepth 100000 in
set_option maxHeartbeats 16000000 in
theorem alikeR_yes (l m s h l2 m2 s2 h2 k : Int) (w : World) (hk : 0 ≤ k ∧ k ≤ 1000) (hv : validB l m s h = true) (hv2 : validB l2 m2 s2 h2 = true) (hh : h = h2) (q1 : nearB m m2 l2 l k = true) :
    Calls Tryz.prog 13 #[shV l m s h, shV l2 m2 s2 h2, .int .i64 k] w fun e w' => e = .returned (.bool (nearB s s2 l2 l k)) ∧ Below w.heap.size w w' := by
  obtain ⟨u1, u2, u3, u4, -, -⟩ := validB_iff.1 hv
  obtain ⟨t1, t2, t3, t4, -, -⟩ := validB_iff.1 hv2
  have N1 := Lib.hid (fun Y => nearI_walk m l m2 l2 k (by omega) (by omega) (by omega) (by omega) hk Y)
  have N2 := Lib.hid (fun Y => nearI_walk s l s2 l2 k (by omega) (by omega) (by omega) (by omega) hk Y)
  clear hv hv2 u1 u2 u3 u4 t1 t2 t3 t4 hk
  have dh : (h != h2) = false := by rw [hh]; simp
  clear hh
  rw [q1] at N1
  clear q1
  generalize nearB s s2 l2 l k = bb at *
  unfold shV
  go_enter Tryz.func13, Tryz.ntmps13
  go_upto_region 1 with (fail)
  refine seal_wp fun X hX => ?_
  have ZA := Lib.hid (show Known X w.heap.size #[.int .i64 l, .int .i64 m, .int .i64 s, .int .i64 h] by rw [hX.out]; exact (Known.new w _ _).alloc _)
  have ZB := Lib.hid (show Known X (w.heap.size + 1) #[.int .i64 l2, .int .i64 m2, .int .i64 s2, .int .i64 h2] by rw [hX.out]; exact Known.new' (by simp))
  have BX := Lib.hid (show Below w.heap.size w X by rw [hX.out]; exact grow_alloc (grow_alloc (grow_refl w) _) _)
  clear hX
  generalize w.heap.size + 1 = bq at *
  generalize hbp : w.heap.size = bp at *
  have HBP := Lib.hid hbp
  clear hbp
  have HXB := Lib.hid (show bp ≤ X.heap.size by have := BX.out.size; have := HBP.out; omega)
  have ZAX := ZA.out.below (grow_refl X)
  have a0 := ZAX.cell 0
  have a1 := ZAX.cell 1
  have a2 := ZAX.cell 2
  have a3 := ZAX.cell 3
  have al := ZAX.lt
  clear ZAX
  have ZBX := ZB.out.below (grow_refl X)
  have b0 := ZBX.cell 0
  have b1 := ZBX.cell 1
  have b2 := ZBX.cell 2
  have b3 := ZBX.cell 3
  have bl := ZBX.lt
  clear ZBX
  simp only [List.getElem?_toArray, List.getElem?_cons_zero, List.getElem?_cons_succ] at a0 a1 a2 a3 b0 b1 b2 b3
  go_wp2_with (first
    | (go_at_call 34; go_loud ((with_reducible refine (N2.out _).mono ?_); rintro e w2 ⟨rfl, hb⟩; have B2 := Lib.hid (grow_trans B1.out (grow_trans (by (repeat (with_reducible first | exact grow_refl _ | refine Grow.grow_drewN ?_ _ | refine Grow.grow_drew ?_))) hb) : Below X.heap.size X w2); clear hb; clear a0 a1 a2 a3 al b0 b1 b2 b3 bl))
    | (go_at_call 34; go_loud ((with_reducible refine (N1.out _).mono ?_); rintro e w1 ⟨rfl, hb⟩; have B1 := Lib.hid (grow_trans (by (repeat (with_reducible first | exact grow_refl _ | refine Grow.grow_drewN ?_ _ | refine Grow.grow_drew ?_))) hb : Below X.heap.size X w1); clear hb; clear a0 a1 a2 a3 al b0 b1 b2 b3 bl; have ZAX := ZA.out.below B1.out; have a0 := ZAX.cell 0; have a1 := ZAX.cell 1; have a2 := ZAX.cell 2; have a3 := ZAX.cell 3; have al := ZAX.lt; clear ZAX; have ZBX := ZB.out.below B1.out; have b0 := ZBX.cell 0; have b1 := ZBX.cell 1; have b2 := ZBX.cell 2; have b3 := ZBX.cell 3; have bl := ZBX.lt; clear ZBX; simp only [List.getElem?_toArray, List.getElem?_cons_zero, List.getElem?_cons_succ] at a0 a1 a2 a3 b0 b1 b2 b3)))
  go_ret
  refine ⟨rfl, ?_⟩
  rw [HBP.out]
  exact BX.out.trans (B2.out.mono HXB.out)
/-- The document's answer on two right shapes. -/
theorem alikeR_walk (l m s h l2 m2 s2 h2 k : Int) (w : World) (hk : 0 ≤ k ∧ k ≤ 1000) (hv : validB l m s h = true) (hv2 : validB l2 m2 s2 h2 = true) :
    Calls Tryz.prog 13 #[shV l m s h, shV l2 m2 s2 h2, .int .i64 k] w fun e w' => e = .returned (.bool (alikeB l m s h l2 m2 s2 h2 k)) ∧ Below w.heap.size w w' := by
  unfold alikeB
  by_cases hh : h = h2
  · rw [decide_eq_true hh, Bool.true_and]
    cases q1 : nearB m m2 l2 l k
    · rw [Bool.false_and]
      exact alikeR_no l m s h l2 m2 s2 h2 k w hk hv hv2 hh q1
    · rw [Bool.true_and]
      exact alikeR_yes l m s h l2 m2 s2 h2 k w hk hv hv2 hh q1
  · rw [decide_eq_false hh, Bool.false_and]
    exact alikeR_far l m s h l2 m2 s2 h2 k w hk hv hv2 hh
end Go.Proofs.YtlnbeildplafbaaGreatDoor
