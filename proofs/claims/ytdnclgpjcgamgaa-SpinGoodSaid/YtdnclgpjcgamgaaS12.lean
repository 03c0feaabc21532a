/- The walks of the angle of a point. -/
import Derived.Test.YtdnclgpjcgamgaaS11
import Derived.Outline
set_option linter.unusedSimpArgs false
set_option linter.unusedVariables false
namespace Go.Proofs.Ytdnclgpjcgamgaa
open Go.RowKit Go.Fl Go.Grow Go.Tr

theorem run89 (args : Array Value) (w : World) : (callFunc 89 args).run Try.prog w = ((Extern.MathFloatBits.float64frombits args).run Try.prog w).andThen fun v w' => .ok (.value v) w' :=
  run_callFunc_extern Try.func89 (by kernel_rfl) (by kernel_rfl) (by kernel_rfl) (by kernel_rfl) args w
theorem bits89 (b : Nat) (w : World) : (Extern.MathFloatBits.float64frombits #[.int .u64 b]).run Try.prog w = .ok (.float .f64 b) w := rfl
theorem abs_bits (b : Nat) : IntKind.u64.wrap ((BitVec.ofInt 64 (b : Int) &&& ~~~ BitVec.ofInt 64 9223372036854775808).toNat : Int) = ((b % 9223372036854775808 : Nat) : Int) := by
  have e : (~~~ BitVec.ofInt 64 9223372036854775808) = BitVec.ofNat 64 (2 ^ 63 - 1) := by decide
  rw [e, BitVec.toNat_and, BitVec.toNat_ofNat, BitVec.toNat_ofInt]
  have h1 : (2 ^ 63 - 1) % 2 ^ 64 = 2 ^ 63 - 1 := by decide
  rw [h1, Nat.and_two_pow_sub_one_eq_mod]
  have h2 : ((b : Int) % (2 ^ 64 : Nat)).toNat % 2 ^ 63 = b % 9223372036854775808 := by omega
  rw [h2]
  have h3 : b % 9223372036854775808 < 9223372036854775808 := Nat.mod_lt _ (by decide)
  generalize b % 9223372036854775808 = c at h3
  show (c : Int) % 2 ^ 64 = c
  omega
theorem run_andNot (b : Nat) : bits .andNot .u64 (b : Int) 9223372036854775808 = (b : Int) % 9223372036854775808 := by
  have := abs_bits b
  rw [Int.natCast_emod] at this
  exact this
theorem abs_walk (b : Nat) (w : World) : Calls Try.prog 88 #[.float .f64 b] w fun e w' => e = .returned (.float .f64 (b % 9223372036854775808)) ∧ w = w' := by
  have r58 := run58
  have b58 := bits58
  have r89 := run89
  have b89 : ∀ w, (Extern.MathFloatBits.float64frombits #[.int .u64 ((b : Int) % 9223372036854775808)]).run Try.prog w = .ok (.float .f64 (b % 9223372036854775808)) w := fun w => by
    have := bits89 (b % 9223372036854775808) w
    rw [Int.natCast_emod] at this
    exact this
  have hA := run_andNot b
  go_enter Try.func88, Try.ntmps88
  go_wp2
  go_ret
  exact ⟨rfl, rfl⟩
theorem ford_some {b : Nat} (h : fin (fl b) = true) : ford (fl b) (some 0) = some .lt ∨ ford (fl b) (some 0) = some .eq ∨ ford (fl b) (some 0) = some .gt := by
  unfold fl at h ⊢
  split at h
  · cases h
  · rename_i hn
    rw [if_neg hn]
    show Ieee.Datum.order (Ieee.double.read b) (Ieee.double.read 0) = _ ∨ Ieee.Datum.order (Ieee.double.read b) (Ieee.double.read 0) = _ ∨ Ieee.Datum.order (Ieee.double.read b) (Ieee.double.read 0) = _
    rw [read_zero]
    revert hn
    cases Ieee.double.read b with
    | number s m e =>
      intro _
      have : ∀ o : Ordering, some o = some .lt ∨ some o = some .eq ∨ some o = some .gt := fun o => by cases o <;> simp
      exact this _
    | infinity s => intro _; cases s <;> simp [Ieee.Datum.order]
    | nan s u => intro hn; exact absurd rfl hn
theorem order0 {b : Nat} {o : Ordering} (h : ford (fl b) (some 0) = some o) : FloatKind.f64.format.order b 0 = some o := by
  have e := order_fl b 0
  rw [fl_zero, h] at e
  exact e
/-- The angle of a point, as a value. -/
def IsA (y x : Option Nat) (v : Value) : Prop := v = .tuple #[.int .i64 (ang y x).1, .bool (ang y x).2]
def HalfRel (f : Int → Bool) (w : World) (v8 v9 : Value) (wr : World) : Prop :=
  ∃ lo hi : Int, v8 = .int .i64 lo ∧ v9 = .int .i64 hi ∧ 0 ≤ lo ∧ lo < hi ∧ hi ≤ 324000000001 ∧ Hid (bis f 0 324000000001 = bis f lo hi) ∧ Below w.heap.size w wr
theorem half_up {f : Int → Bool} {w wr : World} {lo hi : Int} (h0 : 0 ≤ lo) (h2 : hi ≤ 324000000001) (hd : 1 < hi - lo) (H : Hid (bis f 0 324000000001 = bis f lo hi)) (ht : f ((lo + hi) / 2) = true) (hb : Below w.heap.size w wr) :
    HalfRel f w (.int .i64 ((lo + hi) / 2)) (.int .i64 hi) wr :=
  ⟨_, _, rfl, rfl, by omega, by omega, h2, Lib.hid (by rw [H.out, bis_up hd ht]), hb⟩
theorem half_down {f : Int → Bool} {w wr : World} {lo hi : Int} (h0 : 0 ≤ lo) (h2 : hi ≤ 324000000001) (hd : 1 < hi - lo) (H : Hid (bis f 0 324000000001 = bis f lo hi)) (ht : f ((lo + hi) / 2) = false) (hb : Below w.heap.size w wr) :
    HalfRel f w (.int .i64 lo) (.int .i64 ((lo + hi) / 2)) wr :=
  ⟨_, _, rfl, rfl, by omega, by omega, by omega, Lib.hid (by rw [H.out, bis_down hd ht]), hb⟩
theorem under_yes {u v : Nat} {U W : Option Nat} {m : Int} (h : (FloatKind.f64.format.order u v == some Ordering.lt) = true ∨ (FloatKind.f64.format.order u v == some Ordering.eq) = true) (hu : fl u = fmul (sinA m) U) (hv : fl v = fmul (cosA m) W) : under U W m = true := by
  have e : FloatKind.f64.format.order u v = ford (fl u) (fl v) := order_fl u v
  rw [e, hu, hv] at h
  unfold under fle
  rcases h with h | h <;> rw [h] <;> simp
theorem under_no {u v : Nat} {U W : Option Nat} {m : Int} (h : (FloatKind.f64.format.order u v == some Ordering.lt) = false ∧ (FloatKind.f64.format.order u v == some Ordering.eq) = false) (hu : fl u = fmul (sinA m) U) (hv : fl v = fmul (cosA m) W) : under U W m = false := by
  have e : FloatKind.f64.format.order u v = ford (fl u) (fl v) := order_fl u v
  rw [e, hu, hv] at h
  unfold under fle
  rw [h.1, h.2]
  rfl
theorem mul_abs {b c x : Nat} {S : Option Nat} (H : Hid (fl b = fop .mul (fl c) (fl (x % 9223372036854775808)))) (G : Hid (fl c = S)) : fl b = fmul S (fabs (fl x)) := by
  have h := H.out
  rw [G.out, show fl (x % 9223372036854775808) = fabs (fl x) from fl_abs x] at h
  exact h
set_option maxRecDepth 100000 in
set_option maxHeartbeats 4000000 in
theorem angle_walk (y x : Nat) (w : World) : Calls Try.prog 77 #[.float .f64 y, .float .f64 x] w (Post (IsA (fl y) (fl x)) w) := by
  cases hx : fin (fl x)
  · have HX := Lib.hid hx
    clear hx
    go_enter Try.func77, Try.ntmps77
    go_wp2_with (go_at_call 61; refine (finite_walk _ _).mono ?_; rintro e w2 ⟨v, rfl, hv, n2, rfl⟩; rw [HX.out] at hv; subst hv)
    go_ret2
    refine Post.mk ?_ ?_
    · unfold IsA
      rw [ang_x (y := fl y) HX.out]
      rfl
    · exact grow_drewN (grow_refl _) _
  · cases hy : fin (fl y)
    · have HX := Lib.hid hx
      have HY := Lib.hid hy
      clear hx hy
      have s0 := trivial
      go_enter Try.func77, Try.ntmps77
      go_wp2_with (first
        | (clear s0; go_at_call 61; refine (finite_walk _ _).mono ?_; rintro e w2 ⟨v, rfl, hv, n2, rfl⟩; rw [HX.out] at hv; subst hv; have s1 := trivial)
        | (clear s1; go_at_call 61; refine (finite_walk _ _).mono ?_; rintro e w2 ⟨v, rfl, hv, n3, rfl⟩; rw [HY.out] at hv; subst hv))
      go_ret2
      refine Post.mk ?_ ?_
      · unfold IsA
        rw [ang_y HX.out HY.out]
        rfl
      · exact grow_drewN (grow_refl _) _
    · have ox := ford_some hx
      have oy := ford_some hy
      have HX := Lib.hid hx
      have HY := Lib.hid hy
      clear hx hy
      rcases ox with ox | ox | ox <;> rcases oy with oy | oy | oy
      all_goals
        have OX := Lib.hid ox
        have OY := Lib.hid oy
        have kx := order0 ox
        have ky := order0 oy
        clear ox oy
        have s0 := trivial
        go_enter Try.func77, Try.ntmps77
        go_wp2_with (first
          | (clear s0; go_at_call 61; refine (finite_walk _ _).mono ?_; rintro e w2 ⟨v, rfl, hv, n2, rfl⟩; rw [HX.out] at hv; subst hv; have s1 := trivial)
          | (clear s1; go_at_call 61; refine (finite_walk _ _).mono ?_; rintro e w2 ⟨v, rfl, hv, n3, rfl⟩; rw [HY.out] at hv; subst hv)
          | (go_at_call 88; refine (abs_walk _ _).mono ?_; rintro e w2 ⟨rfl, rfl⟩))
        first
        | (go_ret2
           refine Post.mk ?_ ?_
           · unfold IsA
             rw [ang_00 OX.out OY.out]
             rfl
           · exact grow_drewN (grow_refl _) _)
        | (have HV := Lib.hid (ang_val HX.out HY.out OX.out OY.out (by decide))
           go_loopw [8, 9] (fun v8 v9 wr => HalfRel (under (fabs (fl x)) (fabs (fl y))) w v8 v9 wr) (fun lo hi _ => (intOf hi - intOf lo).toNat)
           case atStart => exact ⟨0, 324000000001, rfl, rfl, by omega, by omega, by omega, Lib.hid rfl, grow_drewN (grow_refl _) _⟩
           case round =>
             obtain ⟨lo, hi, rfl, rfl, h0, h1, h2, HBIS, hb⟩ := hrel
             have HB := Lib.hid hb
             clear hb
             by_cases hd : 1 < hi - lo
             · have m1 : lo < (lo + hi) / 2 := by omega
               have m2 : (lo + hi) / 2 < hi := by omega
               have t0 := trivial
               go_wp2_with (first
                 | (clear t0; refine wpList_arith rfl rfl (by rfl) rfl rfl ?_; intro b5 n5 H5; have t1 := trivial)
                 | (clear t1; refine wpList_arith rfl rfl (by rfl) rfl rfl ?_; intro b6 n6 H6)
                 | (go_at_call 71; refine (sin_walk _ _).mono ?_; rintro e w3 ⟨v, rfl, ⟨b3, rfl, g3⟩, hB⟩; have G3 := Lib.hid g3; have HB3 := Lib.hid hB; clear g3 hB)
                 | (go_at_call 72; refine (cos_walk _ _).mono ?_; rintro e w4 ⟨v, rfl, ⟨b4, rfl, g4⟩, hB⟩; have G4 := Lib.hid g4; have HB4 := Lib.hid hB; clear g4 hB))
               · refine ⟨half_up h0 h2 hd HBIS (under_yes (by assumption) (mul_abs H5 G3) (mul_abs H6 G4)) ?_, ?_⟩
                 · exact grow_drewN (grow_via HB4 (grow_drewN (grow_via HB3 HB.out) _)) _
                 · simp only [intOf]; omega
               · refine ⟨half_down h0 h2 hd HBIS (under_no (by assumption) (mul_abs H5 G3) (mul_abs H6 G4)) ?_, ?_⟩
                 · exact grow_drewN (grow_via HB4 (grow_drewN (grow_via HB3 HB.out) _)) _
                 · simp only [intOf]; omega
             · have hl : lo0 (fl y) (fl x) = lo := HBIS.out.trans (bis_done (by omega))
               have HL := Lib.hid hl
               clear hl
               go_wp2_with (go_at_call 82; refine (norm_walk _ _).mono ?_; rintro e w5 ⟨rfl, rfl⟩)
               go_ret2
               refine Post.mk ?_ ?_
               · unfold IsA
                 rw [HV.out, HL.out]
                 rfl
               · exact HB.out)
theorem under_neg {u v p q b c : Nat} {U W : Option Nat} {m : Int} {n k : Nat} : True := trivial
theorem lo0_neg (y x : Nat) : lo0 (fl y) (fl x) = bis (under (fneg0 (fl x)) (fneg0 (fl y))) 0 324000000001 := by
  unfold lo0
  rw [under_congr (nz_abs (b := x)) (nz_abs (b := y))]
theorem neg0_lt {b : Nat} (h : ford (fl b) (some 0) = some .lt) : fneg0 (fl b) = fl (Op.negFloat .f64 b) := by
  unfold fneg0 flt
  rw [h, fl_neg]
  rfl
theorem neg0_eq {b : Nat} (h : ford (fl b) (some 0) = some .eq) : fneg0 (fl b) = fl b := by
  unfold fneg0 flt
  rw [h]
  rfl
theorem neg0_gt {b : Nat} (h : ford (fl b) (some 0) = some .gt) : fneg0 (fl b) = fl b := by
  unfold fneg0 flt
  rw [h]
  rfl
theorem mul_of {b c x : Nat} {S : Option Nat} (H : Hid (fl b = fop .mul (fl c) (fl x))) (G : Hid (fl c = S)) : fl b = fmul S (fl x) := by
  have h := H.out
  rw [G.out] at h
  exact h
set_option maxRecDepth 100000 in
set_option maxHeartbeats 4000000 in
theorem angleOf_lt_lt (y x : Nat) (hx : fin (fl x) = true) (hy : fin (fl y) = true) (ox : ford (fl x) (some 0) = some .lt) (oy : ford (fl y) (some 0) = some .lt) (w : World) : Calls Try.prog 79 #[.float .f64 y, .float .f64 x] w (Post (IsA (fl y) (fl x)) w) := by
  have HV := Lib.hid (ang_val hx hy ox oy (by decide))
  have HL0 := Lib.hid (lo0_neg y x)
  rw [neg0_lt ox, neg0_lt oy] at HL0
  have HX := Lib.hid hx
  have HY := Lib.hid hy
  have kx := order0 ox
  have ky := order0 oy
  clear ox oy hx hy
  have s0 := trivial
  go_enter Try.func79, Try.ntmps79
  go_wp2_with (first
    | (clear s0; go_at_call 62; refine (finiteRef_walk _ _).mono ?_; rintro e w2 ⟨v, rfl, hv, n2, rfl⟩; rw [HX.out] at hv; subst hv; have s1 := trivial)
    | (clear s1; go_at_call 62; refine (finiteRef_walk _ _).mono ?_; rintro e w2 ⟨v, rfl, hv, n3, rfl⟩; rw [HY.out] at hv; subst hv))
  go_loopw [10, 11] (fun v8 v9 wr => HalfRel (under (fl (Op.negFloat .f64 x)) (fl (Op.negFloat .f64 y))) w v8 v9 wr) (fun lo hi _ => (intOf hi - intOf lo).toNat)
  case atStart => exact ⟨0, 324000000001, rfl, rfl, by omega, by omega, by omega, Lib.hid rfl, grow_drewN (grow_refl _) _⟩
  case round =>
    obtain ⟨lo, hi, rfl, rfl, h0, h1, h2, HBIS, hb⟩ := hrel
    have HB := Lib.hid hb
    clear hb
    by_cases hd : 1 < hi - lo
    · have m1 : lo < (lo + hi) / 2 := by omega
      have m2 : (lo + hi) / 2 < hi := by omega
      have t0 := trivial
      go_wp2_with (first
        | (clear t0; refine wpList_arith rfl rfl (by rfl) rfl rfl ?_; intro b5 n5 H5; have t1 := trivial)
        | (clear t1; refine wpList_arith rfl rfl (by rfl) rfl rfl ?_; intro b6 n6 H6)
        | (go_at_call 73; refine (sinCos_walk _ _).mono ?_; rintro e w3 ⟨v, rfl, ⟨b3, b4, rfl, g3, g4⟩, hB⟩; have G3 := Lib.hid g3; have G4 := Lib.hid g4; have HB3 := Lib.hid hB; clear g3 g4 hB))
      · refine ⟨half_up h0 h2 hd HBIS (under_yes (by assumption) (mul_of H5 G3) (mul_of H6 G4)) ?_, ?_⟩
        · exact grow_drewN (grow_via HB3 HB.out) _
        · simp only [intOf]; omega
      · refine ⟨half_down h0 h2 hd HBIS (under_no (by assumption) (mul_of H5 G3) (mul_of H6 G4)) ?_, ?_⟩
        · exact grow_drewN (grow_via HB3 HB.out) _
        · simp only [intOf]; omega
    · have hl : lo0 (fl y) (fl x) = lo := HL0.out.trans (HBIS.out.trans (bis_done (by omega)))
      have HL := Lib.hid hl
      clear hl
      go_wp2_with (go_at_call 81; refine (normOf_walk _ _).mono ?_; rintro e w5 ⟨rfl, rfl⟩)
      go_ret2
      refine Post.mk ?_ ?_
      · unfold IsA
        rw [HV.out, HL.out]
        rfl
      · exact HB.out
set_option maxRecDepth 100000 in
set_option maxHeartbeats 4000000 in
theorem angleOf_lt_eq (y x : Nat) (hx : fin (fl x) = true) (hy : fin (fl y) = true) (ox : ford (fl x) (some 0) = some .lt) (oy : ford (fl y) (some 0) = some .eq) (w : World) : Calls Try.prog 79 #[.float .f64 y, .float .f64 x] w (Post (IsA (fl y) (fl x)) w) := by
  have HV := Lib.hid (ang_val hx hy ox oy (by decide))
  have HL0 := Lib.hid (lo0_neg y x)
  rw [neg0_lt ox, neg0_eq oy] at HL0
  have HX := Lib.hid hx
  have HY := Lib.hid hy
  have kx := order0 ox
  have ky := order0 oy
  clear ox oy hx hy
  have s0 := trivial
  go_enter Try.func79, Try.ntmps79
  go_wp2_with (first
    | (clear s0; go_at_call 62; refine (finiteRef_walk _ _).mono ?_; rintro e w2 ⟨v, rfl, hv, n2, rfl⟩; rw [HX.out] at hv; subst hv; have s1 := trivial)
    | (clear s1; go_at_call 62; refine (finiteRef_walk _ _).mono ?_; rintro e w2 ⟨v, rfl, hv, n3, rfl⟩; rw [HY.out] at hv; subst hv))
  go_loopw [10, 11] (fun v8 v9 wr => HalfRel (under (fl (Op.negFloat .f64 x)) (fl (y))) w v8 v9 wr) (fun lo hi _ => (intOf hi - intOf lo).toNat)
  case atStart => exact ⟨0, 324000000001, rfl, rfl, by omega, by omega, by omega, Lib.hid rfl, grow_drewN (grow_refl _) _⟩
  case round =>
    obtain ⟨lo, hi, rfl, rfl, h0, h1, h2, HBIS, hb⟩ := hrel
    have HB := Lib.hid hb
    clear hb
    by_cases hd : 1 < hi - lo
    · have m1 : lo < (lo + hi) / 2 := by omega
      have m2 : (lo + hi) / 2 < hi := by omega
      have t0 := trivial
      go_wp2_with (first
        | (clear t0; refine wpList_arith rfl rfl (by rfl) rfl rfl ?_; intro b5 n5 H5; have t1 := trivial)
        | (clear t1; refine wpList_arith rfl rfl (by rfl) rfl rfl ?_; intro b6 n6 H6)
        | (go_at_call 73; refine (sinCos_walk _ _).mono ?_; rintro e w3 ⟨v, rfl, ⟨b3, b4, rfl, g3, g4⟩, hB⟩; have G3 := Lib.hid g3; have G4 := Lib.hid g4; have HB3 := Lib.hid hB; clear g3 g4 hB))
      · refine ⟨half_up h0 h2 hd HBIS (under_yes (by assumption) (mul_of H5 G3) (mul_of H6 G4)) ?_, ?_⟩
        · exact grow_drewN (grow_via HB3 HB.out) _
        · simp only [intOf]; omega
      · refine ⟨half_down h0 h2 hd HBIS (under_no (by assumption) (mul_of H5 G3) (mul_of H6 G4)) ?_, ?_⟩
        · exact grow_drewN (grow_via HB3 HB.out) _
        · simp only [intOf]; omega
    · have hl : lo0 (fl y) (fl x) = lo := HL0.out.trans (HBIS.out.trans (bis_done (by omega)))
      have HL := Lib.hid hl
      clear hl
      go_wp2_with (go_at_call 81; refine (normOf_walk _ _).mono ?_; rintro e w5 ⟨rfl, rfl⟩)
      go_ret2
      refine Post.mk ?_ ?_
      · unfold IsA
        rw [HV.out, HL.out]
        rfl
      · exact HB.out
set_option maxRecDepth 100000 in
set_option maxHeartbeats 4000000 in
theorem angleOf_lt_gt (y x : Nat) (hx : fin (fl x) = true) (hy : fin (fl y) = true) (ox : ford (fl x) (some 0) = some .lt) (oy : ford (fl y) (some 0) = some .gt) (w : World) : Calls Try.prog 79 #[.float .f64 y, .float .f64 x] w (Post (IsA (fl y) (fl x)) w) := by
  have HV := Lib.hid (ang_val hx hy ox oy (by decide))
  have HL0 := Lib.hid (lo0_neg y x)
  rw [neg0_lt ox, neg0_gt oy] at HL0
  have HX := Lib.hid hx
  have HY := Lib.hid hy
  have kx := order0 ox
  have ky := order0 oy
  clear ox oy hx hy
  have s0 := trivial
  go_enter Try.func79, Try.ntmps79
  go_wp2_with (first
    | (clear s0; go_at_call 62; refine (finiteRef_walk _ _).mono ?_; rintro e w2 ⟨v, rfl, hv, n2, rfl⟩; rw [HX.out] at hv; subst hv; have s1 := trivial)
    | (clear s1; go_at_call 62; refine (finiteRef_walk _ _).mono ?_; rintro e w2 ⟨v, rfl, hv, n3, rfl⟩; rw [HY.out] at hv; subst hv))
  go_loopw [10, 11] (fun v8 v9 wr => HalfRel (under (fl (Op.negFloat .f64 x)) (fl (y))) w v8 v9 wr) (fun lo hi _ => (intOf hi - intOf lo).toNat)
  case atStart => exact ⟨0, 324000000001, rfl, rfl, by omega, by omega, by omega, Lib.hid rfl, grow_drewN (grow_refl _) _⟩
  case round =>
    obtain ⟨lo, hi, rfl, rfl, h0, h1, h2, HBIS, hb⟩ := hrel
    have HB := Lib.hid hb
    clear hb
    by_cases hd : 1 < hi - lo
    · have m1 : lo < (lo + hi) / 2 := by omega
      have m2 : (lo + hi) / 2 < hi := by omega
      have t0 := trivial
      go_wp2_with (first
        | (clear t0; refine wpList_arith rfl rfl (by rfl) rfl rfl ?_; intro b5 n5 H5; have t1 := trivial)
        | (clear t1; refine wpList_arith rfl rfl (by rfl) rfl rfl ?_; intro b6 n6 H6)
        | (go_at_call 73; refine (sinCos_walk _ _).mono ?_; rintro e w3 ⟨v, rfl, ⟨b3, b4, rfl, g3, g4⟩, hB⟩; have G3 := Lib.hid g3; have G4 := Lib.hid g4; have HB3 := Lib.hid hB; clear g3 g4 hB))
      · refine ⟨half_up h0 h2 hd HBIS (under_yes (by assumption) (mul_of H5 G3) (mul_of H6 G4)) ?_, ?_⟩
        · exact grow_drewN (grow_via HB3 HB.out) _
        · simp only [intOf]; omega
      · refine ⟨half_down h0 h2 hd HBIS (under_no (by assumption) (mul_of H5 G3) (mul_of H6 G4)) ?_, ?_⟩
        · exact grow_drewN (grow_via HB3 HB.out) _
        · simp only [intOf]; omega
    · have hl : lo0 (fl y) (fl x) = lo := HL0.out.trans (HBIS.out.trans (bis_done (by omega)))
      have HL := Lib.hid hl
      clear hl
      go_wp2_with (go_at_call 81; refine (normOf_walk _ _).mono ?_; rintro e w5 ⟨rfl, rfl⟩)
      go_ret2
      refine Post.mk ?_ ?_
      · unfold IsA
        rw [HV.out, HL.out]
        rfl
      · exact HB.out
set_option maxRecDepth 100000 in
set_option maxHeartbeats 4000000 in
theorem angleOf_eq_lt (y x : Nat) (hx : fin (fl x) = true) (hy : fin (fl y) = true) (ox : ford (fl x) (some 0) = some .eq) (oy : ford (fl y) (some 0) = some .lt) (w : World) : Calls Try.prog 79 #[.float .f64 y, .float .f64 x] w (Post (IsA (fl y) (fl x)) w) := by
  have HV := Lib.hid (ang_val hx hy ox oy (by decide))
  have HL0 := Lib.hid (lo0_neg y x)
  rw [neg0_eq ox, neg0_lt oy] at HL0
  have HX := Lib.hid hx
  have HY := Lib.hid hy
  have kx := order0 ox
  have ky := order0 oy
  clear ox oy hx hy
  have s0 := trivial
  go_enter Try.func79, Try.ntmps79
  go_wp2_with (first
    | (clear s0; go_at_call 62; refine (finiteRef_walk _ _).mono ?_; rintro e w2 ⟨v, rfl, hv, n2, rfl⟩; rw [HX.out] at hv; subst hv; have s1 := trivial)
    | (clear s1; go_at_call 62; refine (finiteRef_walk _ _).mono ?_; rintro e w2 ⟨v, rfl, hv, n3, rfl⟩; rw [HY.out] at hv; subst hv))
  go_loopw [10, 11] (fun v8 v9 wr => HalfRel (under (fl (x)) (fl (Op.negFloat .f64 y))) w v8 v9 wr) (fun lo hi _ => (intOf hi - intOf lo).toNat)
  case atStart => exact ⟨0, 324000000001, rfl, rfl, by omega, by omega, by omega, Lib.hid rfl, grow_drewN (grow_refl _) _⟩
  case round =>
    obtain ⟨lo, hi, rfl, rfl, h0, h1, h2, HBIS, hb⟩ := hrel
    have HB := Lib.hid hb
    clear hb
    by_cases hd : 1 < hi - lo
    · have m1 : lo < (lo + hi) / 2 := by omega
      have m2 : (lo + hi) / 2 < hi := by omega
      have t0 := trivial
      go_wp2_with (first
        | (clear t0; refine wpList_arith rfl rfl (by rfl) rfl rfl ?_; intro b5 n5 H5; have t1 := trivial)
        | (clear t1; refine wpList_arith rfl rfl (by rfl) rfl rfl ?_; intro b6 n6 H6)
        | (go_at_call 73; refine (sinCos_walk _ _).mono ?_; rintro e w3 ⟨v, rfl, ⟨b3, b4, rfl, g3, g4⟩, hB⟩; have G3 := Lib.hid g3; have G4 := Lib.hid g4; have HB3 := Lib.hid hB; clear g3 g4 hB))
      · refine ⟨half_up h0 h2 hd HBIS (under_yes (by assumption) (mul_of H5 G3) (mul_of H6 G4)) ?_, ?_⟩
        · exact grow_drewN (grow_via HB3 HB.out) _
        · simp only [intOf]; omega
      · refine ⟨half_down h0 h2 hd HBIS (under_no (by assumption) (mul_of H5 G3) (mul_of H6 G4)) ?_, ?_⟩
        · exact grow_drewN (grow_via HB3 HB.out) _
        · simp only [intOf]; omega
    · have hl : lo0 (fl y) (fl x) = lo := HL0.out.trans (HBIS.out.trans (bis_done (by omega)))
      have HL := Lib.hid hl
      clear hl
      go_wp2_with (go_at_call 81; refine (normOf_walk _ _).mono ?_; rintro e w5 ⟨rfl, rfl⟩)
      go_ret2
      refine Post.mk ?_ ?_
      · unfold IsA
        rw [HV.out, HL.out]
        rfl
      · exact HB.out
set_option maxRecDepth 100000 in
set_option maxHeartbeats 4000000 in
theorem angleOf_eq_gt (y x : Nat) (hx : fin (fl x) = true) (hy : fin (fl y) = true) (ox : ford (fl x) (some 0) = some .eq) (oy : ford (fl y) (some 0) = some .gt) (w : World) : Calls Try.prog 79 #[.float .f64 y, .float .f64 x] w (Post (IsA (fl y) (fl x)) w) := by
  have HV := Lib.hid (ang_val hx hy ox oy (by decide))
  have HL0 := Lib.hid (lo0_neg y x)
  rw [neg0_eq ox, neg0_gt oy] at HL0
  have HX := Lib.hid hx
  have HY := Lib.hid hy
  have kx := order0 ox
  have ky := order0 oy
  clear ox oy hx hy
  have s0 := trivial
  go_enter Try.func79, Try.ntmps79
  go_wp2_with (first
    | (clear s0; go_at_call 62; refine (finiteRef_walk _ _).mono ?_; rintro e w2 ⟨v, rfl, hv, n2, rfl⟩; rw [HX.out] at hv; subst hv; have s1 := trivial)
    | (clear s1; go_at_call 62; refine (finiteRef_walk _ _).mono ?_; rintro e w2 ⟨v, rfl, hv, n3, rfl⟩; rw [HY.out] at hv; subst hv))
  go_loopw [10, 11] (fun v8 v9 wr => HalfRel (under (fl (x)) (fl (y))) w v8 v9 wr) (fun lo hi _ => (intOf hi - intOf lo).toNat)
  case atStart => exact ⟨0, 324000000001, rfl, rfl, by omega, by omega, by omega, Lib.hid rfl, grow_drewN (grow_refl _) _⟩
  case round =>
    obtain ⟨lo, hi, rfl, rfl, h0, h1, h2, HBIS, hb⟩ := hrel
    have HB := Lib.hid hb
    clear hb
    by_cases hd : 1 < hi - lo
    · have m1 : lo < (lo + hi) / 2 := by omega
      have m2 : (lo + hi) / 2 < hi := by omega
      have t0 := trivial
      go_wp2_with (first
        | (clear t0; refine wpList_arith rfl rfl (by rfl) rfl rfl ?_; intro b5 n5 H5; have t1 := trivial)
        | (clear t1; refine wpList_arith rfl rfl (by rfl) rfl rfl ?_; intro b6 n6 H6)
        | (go_at_call 73; refine (sinCos_walk _ _).mono ?_; rintro e w3 ⟨v, rfl, ⟨b3, b4, rfl, g3, g4⟩, hB⟩; have G3 := Lib.hid g3; have G4 := Lib.hid g4; have HB3 := Lib.hid hB; clear g3 g4 hB))
      · refine ⟨half_up h0 h2 hd HBIS (under_yes (by assumption) (mul_of H5 G3) (mul_of H6 G4)) ?_, ?_⟩
        · exact grow_drewN (grow_via HB3 HB.out) _
        · simp only [intOf]; omega
      · refine ⟨half_down h0 h2 hd HBIS (under_no (by assumption) (mul_of H5 G3) (mul_of H6 G4)) ?_, ?_⟩
        · exact grow_drewN (grow_via HB3 HB.out) _
        · simp only [intOf]; omega
    · have hl : lo0 (fl y) (fl x) = lo := HL0.out.trans (HBIS.out.trans (bis_done (by omega)))
      have HL := Lib.hid hl
      clear hl
      go_wp2_with (go_at_call 81; refine (normOf_walk _ _).mono ?_; rintro e w5 ⟨rfl, rfl⟩)
      go_ret2
      refine Post.mk ?_ ?_
      · unfold IsA
        rw [HV.out, HL.out]
        rfl
      · exact HB.out
set_option maxRecDepth 100000 in
set_option maxHeartbeats 4000000 in
theorem angleOf_gt_lt (y x : Nat) (hx : fin (fl x) = true) (hy : fin (fl y) = true) (ox : ford (fl x) (some 0) = some .gt) (oy : ford (fl y) (some 0) = some .lt) (w : World) : Calls Try.prog 79 #[.float .f64 y, .float .f64 x] w (Post (IsA (fl y) (fl x)) w) := by
  have HV := Lib.hid (ang_val hx hy ox oy (by decide))
  have HL0 := Lib.hid (lo0_neg y x)
  rw [neg0_gt ox, neg0_lt oy] at HL0
  have HX := Lib.hid hx
  have HY := Lib.hid hy
  have kx := order0 ox
  have ky := order0 oy
  clear ox oy hx hy
  have s0 := trivial
  go_enter Try.func79, Try.ntmps79
  go_wp2_with (first
    | (clear s0; go_at_call 62; refine (finiteRef_walk _ _).mono ?_; rintro e w2 ⟨v, rfl, hv, n2, rfl⟩; rw [HX.out] at hv; subst hv; have s1 := trivial)
    | (clear s1; go_at_call 62; refine (finiteRef_walk _ _).mono ?_; rintro e w2 ⟨v, rfl, hv, n3, rfl⟩; rw [HY.out] at hv; subst hv))
  go_loopw [10, 11] (fun v8 v9 wr => HalfRel (under (fl (x)) (fl (Op.negFloat .f64 y))) w v8 v9 wr) (fun lo hi _ => (intOf hi - intOf lo).toNat)
  case atStart => exact ⟨0, 324000000001, rfl, rfl, by omega, by omega, by omega, Lib.hid rfl, grow_drewN (grow_refl _) _⟩
  case round =>
    obtain ⟨lo, hi, rfl, rfl, h0, h1, h2, HBIS, hb⟩ := hrel
    have HB := Lib.hid hb
    clear hb
    by_cases hd : 1 < hi - lo
    · have m1 : lo < (lo + hi) / 2 := by omega
      have m2 : (lo + hi) / 2 < hi := by omega
      have t0 := trivial
      go_wp2_with (first
        | (clear t0; refine wpList_arith rfl rfl (by rfl) rfl rfl ?_; intro b5 n5 H5; have t1 := trivial)
        | (clear t1; refine wpList_arith rfl rfl (by rfl) rfl rfl ?_; intro b6 n6 H6)
        | (go_at_call 73; refine (sinCos_walk _ _).mono ?_; rintro e w3 ⟨v, rfl, ⟨b3, b4, rfl, g3, g4⟩, hB⟩; have G3 := Lib.hid g3; have G4 := Lib.hid g4; have HB3 := Lib.hid hB; clear g3 g4 hB))
      · refine ⟨half_up h0 h2 hd HBIS (under_yes (by assumption) (mul_of H5 G3) (mul_of H6 G4)) ?_, ?_⟩
        · exact grow_drewN (grow_via HB3 HB.out) _
        · simp only [intOf]; omega
      · refine ⟨half_down h0 h2 hd HBIS (under_no (by assumption) (mul_of H5 G3) (mul_of H6 G4)) ?_, ?_⟩
        · exact grow_drewN (grow_via HB3 HB.out) _
        · simp only [intOf]; omega
    · have hl : lo0 (fl y) (fl x) = lo := HL0.out.trans (HBIS.out.trans (bis_done (by omega)))
      have HL := Lib.hid hl
      clear hl
      go_wp2_with (go_at_call 81; refine (normOf_walk _ _).mono ?_; rintro e w5 ⟨rfl, rfl⟩)
      go_ret2
      refine Post.mk ?_ ?_
      · unfold IsA
        rw [HV.out, HL.out]
        rfl
      · exact HB.out
set_option maxRecDepth 100000 in
set_option maxHeartbeats 4000000 in
theorem angleOf_gt_eq (y x : Nat) (hx : fin (fl x) = true) (hy : fin (fl y) = true) (ox : ford (fl x) (some 0) = some .gt) (oy : ford (fl y) (some 0) = some .eq) (w : World) : Calls Try.prog 79 #[.float .f64 y, .float .f64 x] w (Post (IsA (fl y) (fl x)) w) := by
  have HV := Lib.hid (ang_val hx hy ox oy (by decide))
  have HL0 := Lib.hid (lo0_neg y x)
  rw [neg0_gt ox, neg0_eq oy] at HL0
  have HX := Lib.hid hx
  have HY := Lib.hid hy
  have kx := order0 ox
  have ky := order0 oy
  clear ox oy hx hy
  have s0 := trivial
  go_enter Try.func79, Try.ntmps79
  go_wp2_with (first
    | (clear s0; go_at_call 62; refine (finiteRef_walk _ _).mono ?_; rintro e w2 ⟨v, rfl, hv, n2, rfl⟩; rw [HX.out] at hv; subst hv; have s1 := trivial)
    | (clear s1; go_at_call 62; refine (finiteRef_walk _ _).mono ?_; rintro e w2 ⟨v, rfl, hv, n3, rfl⟩; rw [HY.out] at hv; subst hv))
  go_loopw [10, 11] (fun v8 v9 wr => HalfRel (under (fl (x)) (fl (y))) w v8 v9 wr) (fun lo hi _ => (intOf hi - intOf lo).toNat)
  case atStart => exact ⟨0, 324000000001, rfl, rfl, by omega, by omega, by omega, Lib.hid rfl, grow_drewN (grow_refl _) _⟩
  case round =>
    obtain ⟨lo, hi, rfl, rfl, h0, h1, h2, HBIS, hb⟩ := hrel
    have HB := Lib.hid hb
    clear hb
    by_cases hd : 1 < hi - lo
    · have m1 : lo < (lo + hi) / 2 := by omega
      have m2 : (lo + hi) / 2 < hi := by omega
      have t0 := trivial
      go_wp2_with (first
        | (clear t0; refine wpList_arith rfl rfl (by rfl) rfl rfl ?_; intro b5 n5 H5; have t1 := trivial)
        | (clear t1; refine wpList_arith rfl rfl (by rfl) rfl rfl ?_; intro b6 n6 H6)
        | (go_at_call 73; refine (sinCos_walk _ _).mono ?_; rintro e w3 ⟨v, rfl, ⟨b3, b4, rfl, g3, g4⟩, hB⟩; have G3 := Lib.hid g3; have G4 := Lib.hid g4; have HB3 := Lib.hid hB; clear g3 g4 hB))
      · refine ⟨half_up h0 h2 hd HBIS (under_yes (by assumption) (mul_of H5 G3) (mul_of H6 G4)) ?_, ?_⟩
        · exact grow_drewN (grow_via HB3 HB.out) _
        · simp only [intOf]; omega
      · refine ⟨half_down h0 h2 hd HBIS (under_no (by assumption) (mul_of H5 G3) (mul_of H6 G4)) ?_, ?_⟩
        · exact grow_drewN (grow_via HB3 HB.out) _
        · simp only [intOf]; omega
    · have hl : lo0 (fl y) (fl x) = lo := HL0.out.trans (HBIS.out.trans (bis_done (by omega)))
      have HL := Lib.hid hl
      clear hl
      go_wp2_with (go_at_call 81; refine (normOf_walk _ _).mono ?_; rintro e w5 ⟨rfl, rfl⟩)
      go_ret2
      refine Post.mk ?_ ?_
      · unfold IsA
        rw [HV.out, HL.out]
        rfl
      · exact HB.out
set_option maxRecDepth 100000 in
set_option maxHeartbeats 4000000 in
theorem angleOf_gt_gt (y x : Nat) (hx : fin (fl x) = true) (hy : fin (fl y) = true) (ox : ford (fl x) (some 0) = some .gt) (oy : ford (fl y) (some 0) = some .gt) (w : World) : Calls Try.prog 79 #[.float .f64 y, .float .f64 x] w (Post (IsA (fl y) (fl x)) w) := by
  have HV := Lib.hid (ang_val hx hy ox oy (by decide))
  have HL0 := Lib.hid (lo0_neg y x)
  rw [neg0_gt ox, neg0_gt oy] at HL0
  have HX := Lib.hid hx
  have HY := Lib.hid hy
  have kx := order0 ox
  have ky := order0 oy
  clear ox oy hx hy
  have s0 := trivial
  go_enter Try.func79, Try.ntmps79
  go_wp2_with (first
    | (clear s0; go_at_call 62; refine (finiteRef_walk _ _).mono ?_; rintro e w2 ⟨v, rfl, hv, n2, rfl⟩; rw [HX.out] at hv; subst hv; have s1 := trivial)
    | (clear s1; go_at_call 62; refine (finiteRef_walk _ _).mono ?_; rintro e w2 ⟨v, rfl, hv, n3, rfl⟩; rw [HY.out] at hv; subst hv))
  go_loopw [10, 11] (fun v8 v9 wr => HalfRel (under (fl (x)) (fl (y))) w v8 v9 wr) (fun lo hi _ => (intOf hi - intOf lo).toNat)
  case atStart => exact ⟨0, 324000000001, rfl, rfl, by omega, by omega, by omega, Lib.hid rfl, grow_drewN (grow_refl _) _⟩
  case round =>
    obtain ⟨lo, hi, rfl, rfl, h0, h1, h2, HBIS, hb⟩ := hrel
    have HB := Lib.hid hb
    clear hb
    by_cases hd : 1 < hi - lo
    · have m1 : lo < (lo + hi) / 2 := by omega
      have m2 : (lo + hi) / 2 < hi := by omega
      have t0 := trivial
      go_wp2_with (first
        | (clear t0; refine wpList_arith rfl rfl (by rfl) rfl rfl ?_; intro b5 n5 H5; have t1 := trivial)
        | (clear t1; refine wpList_arith rfl rfl (by rfl) rfl rfl ?_; intro b6 n6 H6)
        | (go_at_call 73; refine (sinCos_walk _ _).mono ?_; rintro e w3 ⟨v, rfl, ⟨b3, b4, rfl, g3, g4⟩, hB⟩; have G3 := Lib.hid g3; have G4 := Lib.hid g4; have HB3 := Lib.hid hB; clear g3 g4 hB))
      · refine ⟨half_up h0 h2 hd HBIS (under_yes (by assumption) (mul_of H5 G3) (mul_of H6 G4)) ?_, ?_⟩
        · exact grow_drewN (grow_via HB3 HB.out) _
        · simp only [intOf]; omega
      · refine ⟨half_down h0 h2 hd HBIS (under_no (by assumption) (mul_of H5 G3) (mul_of H6 G4)) ?_, ?_⟩
        · exact grow_drewN (grow_via HB3 HB.out) _
        · simp only [intOf]; omega
    · have hl : lo0 (fl y) (fl x) = lo := HL0.out.trans (HBIS.out.trans (bis_done (by omega)))
      have HL := Lib.hid hl
      clear hl
      go_wp2_with (go_at_call 81; refine (normOf_walk _ _).mono ?_; rintro e w5 ⟨rfl, rfl⟩)
      go_ret2
      refine Post.mk ?_ ?_
      · unfold IsA
        rw [HV.out, HL.out]
        rfl
      · exact HB.out
set_option maxRecDepth 100000 in
set_option maxHeartbeats 4000000 in
theorem angleOf_walk (y x : Nat) (w : World) : Calls Try.prog 79 #[.float .f64 y, .float .f64 x] w (Post (IsA (fl y) (fl x)) w) := by
  cases hx : fin (fl x)
  · have HX := Lib.hid hx
    clear hx
    cases hy : fin (fl y)
    all_goals
      have HY := Lib.hid hy
      clear hy
      have s0 := trivial
      go_enter Try.func79, Try.ntmps79
      go_wp2_with (first
        | (clear s0; go_at_call 62; refine (finiteRef_walk _ _).mono ?_; rintro e w2 ⟨v, rfl, hv, n2, rfl⟩; rw [HX.out] at hv; subst hv; have s1 := trivial)
        | (clear s1; go_at_call 62; refine (finiteRef_walk _ _).mono ?_; rintro e w2 ⟨v, rfl, hv, n3, rfl⟩; rw [HY.out] at hv; subst hv))
      go_ret2
      refine Post.mk ?_ ?_
      · unfold IsA
        rw [ang_x (y := fl y) HX.out]
        rfl
      · exact grow_drewN (grow_refl _) _
  · cases hy : fin (fl y)
    · have HX := Lib.hid hx
      have HY := Lib.hid hy
      clear hx hy
      have s0 := trivial
      go_enter Try.func79, Try.ntmps79
      go_wp2_with (first
        | (clear s0; go_at_call 62; refine (finiteRef_walk _ _).mono ?_; rintro e w2 ⟨v, rfl, hv, n2, rfl⟩; rw [HX.out] at hv; subst hv; have s1 := trivial)
        | (clear s1; go_at_call 62; refine (finiteRef_walk _ _).mono ?_; rintro e w2 ⟨v, rfl, hv, n3, rfl⟩; rw [HY.out] at hv; subst hv))
      go_ret2
      refine Post.mk ?_ ?_
      · unfold IsA
        rw [ang_y HX.out HY.out]
        rfl
      · exact grow_drewN (grow_refl _) _
    · have ox := ford_some hx
      have oy := ford_some hy
      rcases ox with ox | ox | ox <;> rcases oy with oy | oy | oy
      · exact angleOf_lt_lt y x hx hy ox oy w
      · exact angleOf_lt_eq y x hx hy ox oy w
      · exact angleOf_lt_gt y x hx hy ox oy w
      · exact angleOf_eq_lt y x hx hy ox oy w
      · have OX := Lib.hid ox
        have OY := Lib.hid oy
        have HX := Lib.hid hx
        have HY := Lib.hid hy
        have kx := order0 ox
        have ky := order0 oy
        clear ox oy hx hy
        have s0 := trivial
        go_enter Try.func79, Try.ntmps79
        go_wp2_with (first
          | (clear s0; go_at_call 62; refine (finiteRef_walk _ _).mono ?_; rintro e w2 ⟨v, rfl, hv, n2, rfl⟩; rw [HX.out] at hv; subst hv; have s1 := trivial)
          | (clear s1; go_at_call 62; refine (finiteRef_walk _ _).mono ?_; rintro e w2 ⟨v, rfl, hv, n3, rfl⟩; rw [HY.out] at hv; subst hv))
        go_ret2
        refine Post.mk ?_ ?_
        · unfold IsA
          rw [ang_00 OX.out OY.out]
          rfl
        · exact grow_drewN (grow_refl _) _
      · exact angleOf_eq_gt y x hx hy ox oy w
      · exact angleOf_gt_lt y x hx hy ox oy w
      · exact angleOf_gt_eq y x hx hy ox oy w
      · exact angleOf_gt_gt y x hx hy ox oy w

end Go.Proofs.Ytdnclgpjcgamgaa

