/- Rows of whole numbers as complex numbers: the program's. -/
import Derived.Test.YtaakbajhbmbhcaaDoorWv2
import Derived.Test.YtaakbajhbmbhcaaDoorSx4
import Derived.Test.YtaakbajhbmbhcaaDoorGur
import Derived.Test.YtaakbajhbmbhcaaDoorWf5
import Derived.Test.YtaakbajhbmbhcaaDoorSx7
set_option linter.unusedSimpArgs false
set_option linter.unusedVariables false
namespace Go.Proofs.YtaakbajhbmbhcaaDoor
open Go.RowKit Go.Fl Go.Grow Go.Tr

def rowL (x : Nat → Int) (n : Nat) : List (Nat × Nat) := (List.range n).map fun i => (floatOfInt .f64 (x i), 0)
theorem rowL_len (x : Nat → Int) (n : Nat) : (rowL x n).length = n := by simp [rowL]
theorem rowL_next (x : Nat → Int) (n : Nat) : rowL x (n + 1) = rowL x n ++ [(floatOfInt .f64 (x n), 0)] := by simp [rowL, List.range_succ]
def NumIRel (w : World) (x : Nat → Int) (n : Nat) (v3 v8 : Value) (wr : World) : Prop :=
  ∃ k : Nat, k ≤ n ∧ v8 = .int .i64 k ∧ wr.ownsRow w.heap.size 36 1 v3 (rowL x k).length (cvL (rowL x k)) ∧ Below w.heap.size w wr
set_option maxRecDepth 100000 in
set_option maxHeartbeats 8000000 in
theorem nums_walk (r : Option Addr) (n cap : Nat) (x : Nat → Int) (w : World) (hn : n ≤ 1000) (hr : IntsAt w r n x) :
    Calls Tryd.prog 48 #[.slice r n cap] w (CxPost w (rowL x n)) := by
  obtain ⟨i0, hi, hz0, hz1, hz2⟩ := info_parts info_cx
  have HI := Lib.hid hi
  have HZ0 := Lib.hid hz0
  have HZ1 := Lib.hid hz1
  have HZ2 := Lib.hid hz2
  have HR := Lib.hid hr
  clear hr hi hz0 hz1 hz2
  go_enter Tryd.func48, Tryd.ntmps48
  go_wp2
  go_loopw [3, 8] (fun v3 v8 wr => NumIRel w x n v3 v8 wr) (fun _ i _ => n - (intOf i).toNat)
  case atStart => exact ⟨0, Nat.zero_le _, rfl, World.ownsRow_nil _ _ _ _, Below.refl _ _⟩
  case round =>
    obtain ⟨k, hk, rfl, hown, hg⟩ := hrel
    have O := Lib.hid hown
    have G := Lib.hid hg
    clear hown hg
    have hz := G.out.size
    by_cases hlt : k < n
    · obtain ⟨b1, o1, rfl, hc⟩ := HR.out.resolve_left (by omega)
      have e0 := hc k hlt
      have hb1 : b1 < w.heap.size := lt_of_cell e0
      rw [← G.out.cell (p := ⟨b1, _, none⟩) hb1] at e0
      clear hc
      have hb1' : b1 < wr.heap.size := Nat.lt_of_lt_of_le hb1 hz
      have hi0 : (0 : Int) ≤ (k : Int) := by omega
      have hi1 : (k : Int) < (n : Int) := by omega
      have ltk := rowL_len x k
      have C3 := Lib.hid (show (rowL x k).length + 1 ≤ maxLen by unfold maxLen; omega)
      have C4 := Lib.hid (show ((rowL x k).length + 1) * 16 ≤ 140737488355328 by omega)
      have C5 := Lib.hid (fun (b : Nat) => show w.heap.size ≤ (wr.alloc (.cells #[Value.complex .f64 b 0] 36)).heap.size by simp; omega)
      clear ltk
      go_wp2_with (at_builtin; refine wpList_append_own _ rfl _ _ 30 rfl w.heap.size 36 i0 (.complex .f64 0 0) 1 16 Tryd.underlying30 HI.out HZ0.out HZ1.out HZ2.out rfl (by decide) _ _ _ rfl (O.out.alloc _) ⟨wr.heap.size, 0, none⟩ 1 1 [.complex .f64 (floatOfInt .f64 (x k)) 0] rfl rfl (one_new _ _ _) (one_cx _ _) C3.out C4.out (C5.out _) ?_)
      intro v' w1 hown' hg' _
      have HO2 := Lib.hid hown'
      have HG2 := Lib.hid hg'
      clear hown' hg'
      go_wp2
      go_roundw
      case rel =>
        refine ⟨k + 1, by omega, by go_num, ?_, below_grown (G.out.alloc hz _) (by simp; omega) HG2.out (fun k hk => (O.out.lt k hk).1)⟩
        rw [rowL_next, cvL_append, List.length_append]
        exact HO2.out
      case measure => simp [intOf]; omega
    · obtain rfl : k = n := by omega
      obtain ⟨r', c', hv, hx⟩ := cx_of_owns O.out
      subst hv
      go_wp2
      go_ret
      exact ⟨r', c', rfl, hx, G.out⟩
end Go.Proofs.YtaakbajhbmbhcaaDoor
/- ShiftGuess: the program's guess. -/
set_option linter.unusedSimpArgs false
set_option linter.unusedVariables false
namespace Go.Proofs.YtaakbajhbmbhcaaDoor
open Go.RowKit Go.Fl Go.Grow Go.Tr

def XC (x : Nat → Int) (i : Nat) : C2 := ⟨Tr.ofI (x i), some 0⟩
theorem cin_rows {w : World} {r : Option Addr} {x : Nat → Int} {n : Nat} (h : CxAt w r (rowL x n)) : CIn w r n (XC x) := by
  rcases h with h | ⟨b, o, rfl, hc⟩
  · exact .inl (by have := congrArg List.length h; rw [rowL_len] at this; simpa using this)
  · refine .inr ⟨b, o, rfl, fun k hk => ⟨_, _, hc k (by rw [rowL_len]; exact hk), ?_, ?_⟩⟩
    · simp [rowL, XC, Tr.ofI]
    · simp [rowL, XC, fl_zero]
def FastOwn (Y : Nat → C2) (n : Nat) (w : World) (e : Ending) (w' : World) : Prop :=
  ∃ g c, e = .returned (.tuple #[.slice (some ⟨g, 0, none⟩) n c, .nilIface]) ∧ w.heap.size ≤ g ∧ CRow w' g n Y ∧ Below w.heap.size w w'
set_option maxRecDepth 100000 in
set_option maxHeartbeats 8000000 in
theorem fast_own (a : Nat → Addr) (r : Option Addr) (m n cap : Nat) (back : Bool) (X : Nat → C2) (w : World) (hs : Sen a [2, 5] w) (hr : CIn w r n X) (hn : n ≤ 256) (hn0 : 0 < n) (hm : 2 ^ m = n) (h2 : isP2 n = true) :
    Calls Tryd.prog 13 #[.slice r n cap, .bool back] w (FastOwn (fstZ n m back X) n w) := by
  have SZ := Lib.hid (show Calls Tryd.prog 31 #[.int .i64 n] w fun e w' => e = .returned .nilIface ∧ w = w' by
    have h := size_walk a n w hs (by omega)
    rwa [show sizeE n = 0 by unfold sizeE; rw [if_neg (by omega), if_neg (by omega)], errV_zero] at h)
  have TW := Lib.hid (show Calls Tryd.prog 32 #[.int .i64 n] w fun e w' => e = .returned (.bool true) ∧ w = w' by
    have h := two_walk n w hn
    rwa [h2] at h)
  have HW := Lib.hid (halves_walk back m n hm hn r cap X w hr)
  clear hs hr h2 hm
  go_enter Tryd.func13, Tryd.ntmps13
  cases back with
  | true =>
    go_wp2_with (first
      | (go_at_call 31; (with_reducible refine SZ.out.mono ?_); rintro e w1 ⟨rfl, rfl⟩)
      | (go_at_call 32; (with_reducible refine TW.out.mono ?_); rintro e w2 ⟨rfl, rfl⟩)
      | (go_at_call 33; (with_reducible refine HW.out.mono ?_); rintro e w3 ⟨g, c, rfl, hg, hr3, hb3⟩; have HG := Lib.hid hg; have R3 := Lib.hid hr3; have B3 := Lib.hid hb3; clear hg hr3 hb3)
      | (go_at_call 34; refine (share_walk g n c _ _ hn R3.out).mono ?_; rintro e w4 ⟨rfl, hr4, hbut⟩; have R4 := Lib.hid hr4; have B4 := Lib.hid hbut; clear hr4 hbut))
    go_ret2
    exact ⟨g, c, rfl, HG.out, R4.out, B4.out.below B3.out HG.out⟩
  | false =>
    go_wp2_with (first
      | (go_at_call 31; (with_reducible refine SZ.out.mono ?_); rintro e w1 ⟨rfl, rfl⟩)
      | (go_at_call 32; (with_reducible refine TW.out.mono ?_); rintro e w2 ⟨rfl, rfl⟩)
      | (go_at_call 33; (with_reducible refine HW.out.mono ?_); rintro e w3 ⟨g, c, rfl, hg, hr3, hb3⟩; have HG := Lib.hid hg; have R3 := Lib.hid hr3; have B3 := Lib.hid hb3; clear hg hr3 hb3))
    go_ret2
    exact ⟨g, c, rfl, HG.out, R3.out, B3.out⟩
/-- The product by which rows go together. -/
def QC (X Y : Nat → C2) (k : Nat) : C2 := cmul ⟨(X k).re, fneg (X k).im⟩ (Y k)
/-- The first of the greatest. -/
def bestU (D : Nat → Option Nat) : Nat → Nat
  | 0 => 0
  | i + 1 => if flt (D (bestU D i)) (D i) then i else bestU D i
theorem bestU_le (D : Nat → Option Nat) : ∀ i, bestU D i ≤ i - 1
  | 0 => Nat.le_refl 0
  | i + 1 => by
    have := bestU_le D i
    unfold bestU
    split <;> omega
def GRel1 (X Y : Nat → C2) (n g g2 : Nat) (w : World) (v41 : Value) (wr : World) : Prop :=
  ∃ k : Nat, k ≤ n ∧ v41 = .int .i64 k ∧ CRow wr g n (fun i => if i < k then QC X Y i else X i) ∧ CRow wr g2 n Y ∧ Below w.heap.size w wr
def GRel2 (D : Nat → Option Nat) (n : Nat) (w6 : World) (v14 v72 : Value) (wr : World) : Prop :=
  ∃ k : Nat, k ≤ n ∧ v72 = .int .i64 k ∧ v14 = .int .i64 (bestU D k) ∧ Below w6.heap.size w6 wr
theorem order_swap (a b : Ieee.Datum) : (a.order b == some .gt) = (b.order a == some .lt) := by
  cases a with
  | nan s f => cases b <;> rfl
  | infinity s => cases b with
    | nan => rfl
    | infinity t => cases s <;> cases t <;> rfl
    | number t n j => cases s <;> rfl
  | number s m i => cases b with
    | nan => rfl
    | infinity t => cases t <;> rfl
    | number t n j =>
      show (some (compare _ _) == some .gt) = (some (compare _ _) == some .lt)
      rw [Int.min_comm j i]
      generalize Ieee.signed s m (i - min i j).toNat = x
      generalize Ieee.signed t n (j - min i j).toNat = y
      rcases Int.lt_trichotomy x y with h | h | h
      · rw [Int.compare_eq_lt.2 h, Int.compare_eq_gt.2 h]; rfl
      · subst h; rw [Int.compare_eq_eq.2 rfl]; rfl
      · rw [Int.compare_eq_gt.2 h, Int.compare_eq_lt.2 h]; rfl
/-- A test 'a > b'. -/
theorem gt_flt {a b : Nat} {X Y : Option Nat} (ha : fl a = X) (hb : fl b = Y) : (FloatKind.f64.format.order a b == some Ordering.gt) = flt Y X := by
  have e : (FloatKind.f64.format.order a b == some Ordering.gt) = (Ieee.double.order b a == some Ordering.lt) := order_swap _ _
  rw [e, order_fl, hb, ha]
  rfl
end Go.Proofs.YtaakbajhbmbhcaaDoor
/- ShiftGuess: the program's guess, of rows that are right. -/
set_option linter.unusedSimpArgs false
set_option linter.unusedVariables false
namespace Go.Proofs.YtaakbajhbmbhcaaDoor
open Go.RowKit Go.Fl Go.Grow Go.Tr

def guessZ (m n : Nat) (x y : Nat → Int) : Nat := bestU (fun j => (fstZ n m true (QC (fastZ false m (XC x)) (fastZ false m (XC y))) j).re) n
theorem bestU_next (D : Nat → Option Nat) (k : Nat) : bestU D (k + 1) = if flt (D (bestU D k)) (D k) then k else bestU D k := rfl
set_option maxRecDepth 100000 in
set_option maxHeartbeats 16000000 in
theorem guess_yes (a : Nat → Addr) (r1 r2 : Option Addr) (m n cap1 cap2 : Nat) (x y : Nat → Int) (w : World) (hs : Sen a [2, 5] w) (h1 : IntsAt w r1 n x) (h2 : IntsAt w r2 n y) (hE : rowsE n n x y = 0) (hm : 2 ^ m = n) (hp : isP2 n = true) :
    Calls Tryd.prog 29 #[.slice r1 n cap1, .slice r2 n cap2] w fun e w' => e = .returned (.tuple #[.int .i64 (guessZ m n x y), .nilIface]) ∧ Below w.heap.size w w' := by
  obtain ⟨_, hn, hn0⟩ := rowsE_yes hE
  have RW := Lib.hid (show Calls Tryd.prog 42 #[.slice r1 n cap1, .slice r2 n cap2] w fun e w' => e = .returned .nilIface ∧ Below w.heap.size w w' by
    have h := rows_walk a r1 r2 n n cap1 cap2 x y w (by omega) (by omega) hs h1 h2
    rwa [hE, errV_zero] at h)
  have TW := Lib.hid (fun X => show Calls Tryd.prog 32 #[.int .i64 n] X fun e w' => e = .returned (.bool true) ∧ X = w' by
    have h := two_walk n X hn
    rwa [hp] at h)
  have NX := Lib.hid (fun X (hX : Below w.heap.size w X) => show Calls Tryd.prog 48 #[.slice r1 n cap1] X fun e w' => ∃ r c, e = .returned (.slice r n c) ∧ CIn w' r n (XC x) ∧ Below X.heap.size X w' by
    have h := nums_walk r1 n cap1 x X (by omega) (h1.below hX)
    exact h.mono fun e w' ⟨r', c', he, hx, hb⟩ => ⟨r', c', by rw [he, rowL_len], cin_rows hx, hb⟩)
  have NY := Lib.hid (fun X (hX : Below w.heap.size w X) => show Calls Tryd.prog 48 #[.slice r2 n cap2] X fun e w' => ∃ r c, e = .returned (.slice r n c) ∧ CIn w' r n (XC y) ∧ Below X.heap.size X w' by
    have h := nums_walk r2 n cap2 y X (by omega) (h2.below hX)
    exact h.mono fun e w' ⟨r', c', he, hx, hb⟩ => ⟨r', c', by rw [he, rowL_len], cin_rows hx, hb⟩)
  obtain ⟨FX, hFX⟩ : ∃ FX, fastZ false m (XC x) = FX := ⟨_, rfl⟩
  obtain ⟨FY, hFY⟩ : ∃ FY, fastZ false m (XC y) = FY := ⟨_, rfl⟩
  obtain ⟨C, hC⟩ : ∃ C, fstZ n m true (QC FX FY) = C := ⟨_, rfl⟩
  have WX := Lib.hid (fun X c r' (hX : Below w.heap.size w X) (hi : CIn X r' n (XC x)) => show Calls Tryd.prog 13 #[.slice r' n c, .bool false] X (FastOwn FX n X) from hFX ▸ fast_own a r' m n c false (XC x) X (hs.below hX) hi (by omega) hn0 hm hp)
  have WY := Lib.hid (fun X c r' (hX : Below w.heap.size w X) (hi : CIn X r' n (XC y)) => show Calls Tryd.prog 13 #[.slice r' n c, .bool false] X (FastOwn FY n X) from hFY ▸ fast_own a r' m n c false (XC y) X (hs.below hX) hi (by omega) hn0 hm hp)
  have WQ := Lib.hid (fun X c r' (hX : Below w.heap.size w X) (hi : CIn X r' n (QC FX FY)) => show Calls Tryd.prog 13 #[.slice r' n c, .bool true] X (FastOwn C n X) from hC ▸ fast_own a r' m n c true (QC FX FY) X (hs.below hX) hi (by omega) hn0 hm hp)
  unfold FastOwn at WX WY WQ
  unfold guessZ
  rw [hFX, hFY, hC]
  clear hs h1 h2 hE hp hm hFX hFY hC
  go_enter Tryd.func29, Tryd.ntmps29
  go_wp2_with (first
    | (go_at_call 42; (with_reducible refine RW.out.mono ?_); rintro e w1 ⟨rfl, hb⟩; have G := Lib.hid hb; clear hb)
    | (go_at_call 32; (with_reducible refine (TW.out _).mono ?_); rintro e w2 ⟨rfl, rfl⟩)
    | (go_at_call 48; (with_reducible refine (NX.out _ G.out).mono ?_); rintro e w3 ⟨rx, cx, rfl, hi, hb⟩; have IX := Lib.hid hi; have GN := Lib.hid (grow_trans G.out hb); clear G hb hi; have G := GN; clear GN)
    | (go_at_call 13; (with_reducible refine (WX.out _ _ _ G.out IX.out).mono ?_); rintro e w4 ⟨g, c4, rfl, hg, hr, hb⟩; have RX := Lib.hid hr; have HG := Lib.hid (Nat.le_trans G.out.size hg); have GN := Lib.hid (grow_trans G.out hb); clear G hb hr hg IX; have G := GN; clear GN)
    | (go_at_call 48; (with_reducible refine (NY.out _ G.out).mono ?_); rintro e w5 ⟨ry, cy, rfl, hi, hb⟩; have IY := Lib.hid hi; have RX5 := Lib.hid (RX.out.below hb); have GN := Lib.hid (grow_trans G.out hb); clear G hb hi RX; have G := GN; clear GN)
    | (go_at_call 13; (with_reducible refine (WY.out _ _ _ G.out IY.out).mono ?_); rintro e w6 ⟨g2, c6, rfl, hg, hr, hb⟩; have RY := Lib.hid hr; have NE := Lib.hid (show g ≠ g2 by have := RX5.out.lt; omega); have RX := Lib.hid (RX5.out.below hb); have GN := Lib.hid (grow_trans G.out hb); clear G hb hr hg IY RX5; have G := GN; clear GN))
  have hg0 := HG.out
  go_loopw [41] (fun v41 wr => GRel1 FX FY n g g2 w v41 wr) (fun i _ => n - (intOf i).toNat)
  case atStart => exact ⟨0, Nat.zero_le _, rfl, RX.out.at fun k hk => by simp, RY.out, G.out⟩
  case round =>
    obtain ⟨k, hk, rfl, hrx, hry, hb⟩ := hrel
    clear RX RY G
    have RX := Lib.hid hrx
    have RY := Lib.hid hry
    have G := Lib.hid hb
    clear hrx hry hb
    by_cases hlt : k < n
    · obtain ⟨xa, xb, c1, x1, x2⟩ := RX.out.cell k hlt
      obtain ⟨ya, yb, c2, y1, y2⟩ := RY.out.cell k hlt
      rw [if_neg (by omega)] at x1 x2
      have X1 := Lib.hid x1
      have X2 := Lib.hid x2
      have Y1 := Lib.hid y1
      have Y2 := Lib.hid y2
      clear x1 x2 y1 y2
      have l1 := RX.out.lt
      have l2 := RY.out.lt
      have hi0 : (0 : Int) ≤ (k : Int) := by omega
      have hi1 : (k : Int) < (n : Int) := by omega
      go_wp2
      refine Rel.wp_region_rel_tail SpecC 19 (by kernel_rfl) (lexTailB_of_fast (by kernel_rfl) (by kernel_rfl) (by kernel_rfl)) ?_
      simp only [List.append_eq, List.cons_append, List.nil_append, List.take_succ_cons, List.take_zero, List.drop_succ_cons, List.drop_zero]
      repeat (first
        | (refine rel_real (by rfl) (by rfl) (by rfl) ?_; simp only [Act.put, List.setIfInBounds_toArray, List.set_cons_zero, List.set_cons_succ])
        | (refine rel_imag (by rfl) (by rfl) (by rfl) ?_; simp only [Act.put, List.setIfInBounds_toArray, List.set_cons_zero, List.set_cons_succ])
        | (refine rel_complex (by rfl) (by rfl) (by rfl) (by rfl) ?_; simp only [Act.put, List.setIfInBounds_toArray, List.set_cons_zero, List.set_cons_succ])
        | (refine rel_call (f := 35) (args := #[.complex .f64 _ _, .complex .f64 _ _]) (by rfl) rfl (callAt_func rfl Tryd.func35 (by kernel_rfl) (by kernel_rfl) rfl) (keepsD_over (fun v h => h) fun x => times_walk _ _ _ _ _) ?_; rintro _ ⟨ta, tb, rfl, ht1, ht2⟩; have T1 := Lib.hid ht1; have T2 := Lib.hid ht2; clear ht1 ht2; simp only [Act.put, List.setIfInBounds_toArray, List.set_cons_zero, List.set_cons_succ])
        | (refine rel_plain (by rfl) rfl ?_; intro K hK; go_big_quiet_op; go_big_quiet_on)
        | (refine rel_skip (by rfl) ?_; simp only [Act.put, List.setIfInBounds_toArray, List.set_cons_zero, List.set_cons_succ]))
      refine Rel.wpRel_nil ?_
      intro w9 hB9 hG9
      clear hG9 c1 c2 l1 l2
      have RX9 := Lib.hid (RX.out.below hB9)
      have RY9 := Lib.hid (RY.out.below hB9)
      have G9 := Lib.hid (grow_trans G.out hB9)
      obtain ⟨za, zb, c1, _⟩ := RX9.out.cell k hlt
      have f1 := RX9.out.frozen k
      have l1 := RX9.out.lt
      clear hB9
      have key1 := Lib.hid (show fl ta = (QC FX FY k).re by
        rw [T1.out]; unfold QC; rw [fl_neg, X1.out, X2.out, Y1.out, Y2.out])
      have key2 := Lib.hid (show fl tb = (QC FX FY k).im by
        rw [T2.out]; unfold QC; rw [fl_neg, X1.out, X2.out, Y1.out, Y2.out])
      clear T1 T2 X1 X2 Y1 Y2
      go_wp2
      go_roundw
      case rel =>
        exact ⟨k + 1, by omega, by go_num, (RX9.out.set hlt (QC FX FY k) key1.out key2.out).at fun i hi => by
          unfold updC
          by_cases e : i = k
          · subst e; simp
          · by_cases h : i < k
            · simp [e, h, Nat.lt_succ_of_lt h]
            · simp [e, h, show ¬ i < k + 1 by omega], RY9.out.but ((But.refl g _).setCell _ _) (fun e => NE.out e.symm), grow_setCell G9.out (by omega) _⟩
      case measure => simp [intOf]; omega
    · obtain rfl : k = n := by omega
      have RQ := Lib.hid (RX.out.at (Y := QC FX FY) fun i hi => by rw [if_pos hi])
      clear RX RY
      go_wp2_with (first
        | (go_at_call 13; (with_reducible refine (WQ.out _ _ _ G.out RQ.out.in).mono ?_); rintro e w7 ⟨g3, c7, rfl, hg, hr, hb⟩; have RC := Lib.hid hr; have GN := Lib.hid (grow_trans G.out hb); clear G hb hr hg RQ; have G := GN; clear GN))
      go_loopw [14, 72] (fun v14 v72 wr => GRel2 (fun j => (C j).re) k w7 v14 v72 wr) (fun _ i _ => k - (intOf i).toNat)
      case atStart => exact ⟨0, Nat.zero_le _, rfl, rfl, Below.refl _ _⟩
      case round =>
        obtain ⟨j, hj, rfl, rfl, hb⟩ := hrel
        by_cases hjl : j < k
        · have bl : bestU (fun j => (C j).re) j < k := by have := bestU_le (fun j => (C j).re) j; omega
          have BN := Lib.hid (bestU_next (fun j => (C j).re) j)
          generalize bestU (fun j => (C j).re) j = q at bl BN
          obtain ⟨ja, jb, c1, x1, x2⟩ := (RC.out.below hb).cell j hjl
          obtain ⟨qa, qb, c2, y1, y2⟩ := (RC.out.below hb).cell q bl
          have l1 := (RC.out.below hb).lt
          have B := Lib.hid hb
          clear hb x2 y2
          have hi0 : (0 : Int) ≤ (j : Int) := by omega
          have hi1 : (j : Int) < (k : Int) := by omega
          have hq0 : (0 : Int) ≤ (q : Int) := by omega
          have hq1 : (q : Int) < (k : Int) := by omega
          have o0 := gt_flt x1 y1
          clear x1 y1
          (try simp only at BN)
          cases hc : flt (C q).re (C j).re
          all_goals
            rw [hc] at o0 BN
            clear hc
            go_wp2
            refine Rel.wp_region_rel SpecC (by kernel_rfl) (lexB_of_fast (by kernel_rfl) (by kernel_rfl)) ?_
            repeat (first
              | (refine rel_real (by rfl) (by rfl) (by rfl) ?_; simp only [Act.put, List.setIfInBounds_toArray, List.set_cons_zero, List.set_cons_succ])
              | (refine rel_plain (by rfl) rfl ?_; intro K hK; go_big_quiet_op; (try simp only [o0]); go_big_quiet_on)
              | (refine rel_skip (by rfl) ?_; simp only [Act.put, List.setIfInBounds_toArray, List.set_cons_zero, List.set_cons_succ]))
            refine Rel.wpRel_nil ?_
            intro w9 hB9 hG9
            have B9 := Lib.hid (grow_trans B.out hB9)
            clear hG9 hB9 c1 c2 l1 o0
            go_wp2
            go_roundw
            case rel => exact ⟨j + 1, by omega, by go_num, by rw [BN.out]; rfl, B9.out⟩
            case measure => simp [intOf]; omega
        · obtain rfl : j = k := by omega
          have GB := Lib.hid (grow_trans G.out hb)
          go_wp2
          go_ret2
          exact ⟨rfl, GB.out⟩
end Go.Proofs.YtaakbajhbmbhcaaDoor
