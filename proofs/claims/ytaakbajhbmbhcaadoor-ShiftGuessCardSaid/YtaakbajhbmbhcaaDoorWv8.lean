/- ShiftWaves: the law's looks. -/
import Derived.Test.YtaakbajhbmbhcaaDoorWv6
import Derived.Test.YtaakbajhbmbhcaaDoorSx8
set_option linter.unusedSimpArgs false
set_option linter.unusedVariables false
namespace Go.Proofs.YtaakbajhbmbhcaaDoor
open Go.RowKit Go.Fl Go.Grow Go.Tr

theorem CxAt.in {w : World} {r : Option Addr} {l : List (Nat × Nat)} {n : Nat} (h : CxAt w r l) (hn : l.length = n) : CIn w r n (fun k => cb (l.getD k (0, 0))) := by
  rcases h with h | ⟨b, o, rfl, hc⟩
  · exact .inl (by rw [← hn, h]; rfl)
  · refine .inr ⟨b, o, rfl, fun k hk => ⟨_, _, hc k (by omega), ?_, ?_⟩⟩ <;> simp [hn, hk, cb]
theorem CRow.in {w : World} {g n : Nat} {X : Nat → C2} (h : CRow w g n X) : CIn w (some ⟨g, 0, none⟩) n X := .inr ⟨g, 0, rfl, fun k hk => by rw [Nat.zero_add]; exact h.cell k hk⟩
theorem sameBits_true (a b : Nat) (h : fl a = fl b) (w : World) : Calls Tryd.prog 43 #[.float .f64 a, .float .f64 b] w fun e w' => e = .returned (.bool true) ∧ ∃ n, w' = w.drewN n :=
  (sameBits_walk a b h w).mono fun e w' ⟨v, he, hv, n, hn⟩ => ⟨by rw [he, hv], n, hn⟩
set_option maxRecDepth 100000 in
set_option maxHeartbeats 8000000 in
theorem samePairs_walk (r1 r2 : Option Addr) (n c1 c2 : Nat) (X : Nat → C2) (L : List (Nat × Nat)) (w : World) (hn : n ≤ 1000) (hL : L.length = n) (h1 : CIn w r1 n X) (h2 : PrAt w r2 L) (hX : ∀ k (h : k < L.length), cb L[k] = X k) :
    Calls Tryd.prog 26 #[.slice r1 n c1, .slice r2 n c2] w fun e w' => e = .returned (.bool true) ∧ Below w.heap.size w w' := by
  have H1 := Lib.hid h1
  have H2 := Lib.hid h2
  have HX := Lib.hid hX
  have HL := Lib.hid hL
  clear h1 h2 hX hL
  go_enter Tryd.func26, Tryd.ntmps26
  go_wp2
  go_loopw [5] (fun v5 wr => ∃ k q : Nat, k ≤ n ∧ v5 = .int .i64 k ∧ wr = w.drewN q) (fun i _ => n - (intOf i).toNat)
  case atStart => exact ⟨0, 0, Nat.zero_le _, rfl, rfl⟩
  case round =>
    obtain ⟨k, q, hk, rfl, rfl⟩ := hrel
    by_cases hlt : k < n
    · obtain ⟨b1, o1, rfl, hc1⟩ := H1.out.resolve_left (by omega)
      obtain ⟨b2, o2, rfl, hc2⟩ := H2.out.resolve_left (by intro h; have := HL.out; rw [h] at this; simp at this; omega)
      have hkL : k < L.length := by rw [HL.out]; exact hlt
      obtain ⟨p, p', e1, e2, e3⟩ := hc1 k hlt
      obtain ⟨e4, e5⟩ := hc2 k hkL
      have E1 := Lib.hid (show fl p = fl L[k].1 by rw [e2, ← HX.out k hkL]; rfl)
      have E2 := Lib.hid (show fl p' = fl L[k].2 by rw [e3, ← HX.out k hkL]; rfl)
      clear hc1 hc2 e2 e3
      generalize L[k] = x at *
      obtain ⟨x1, x2⟩ := x
      simp only at e4 e5
      have S1 := Lib.hid (fun W => sameBits_true p x1 E1.out W)
      have S2 := Lib.hid (fun W => sameBits_true p' x2 E2.out W)
      have hi0 : (0 : Int) ≤ (k : Int) := by omega
      have hi1 : (k : Int) < (n : Int) := by omega
      go_wp2
      go_quiet ((go_at_call 43; exact quiet_more (S1.out _)))
      go_wp2
      go_quiet ((go_at_call 43; exact quiet_more (S2.out _)))
      go_wp2
      go_roundw
      case rel => exact ⟨k + 1, _, by omega, by go_num, rfl⟩
      case measure => simp [intOf]; omega
    · obtain rfl : k = n := by omega
      go_wp2
      go_ret
      exact ⟨rfl, grow_drewN (grow_refl _) _⟩
def X34 (k : Nat) : C2 := if k = 0 then ⟨some 4613937818241073152, some 0⟩ else ⟨some 4616189618054758400, some 0⟩
theorem seven : (wavZ X34 2 false 0).re = some 4619567317775286272 := by decide +kernel
theorem fl34 : fl 4613937818241073152 = some 4613937818241073152 ∧ fl 4616189618054758400 = some 4616189618054758400 := by decide +kernel
theorem ord7 : FloatKind.f64.format.order 4619567317775286272 4619567317775286272 = some .eq := by decide +kernel
set_option maxRecDepth 100000 in
set_option maxHeartbeats 8000000 in
theorem waved_walk (a : Nat → Addr) (w : World) (hs : Sen a [2, 5] w) :
    Calls Tryd.prog 9 #[] w fun e w' => e = .returned (.bool true) ∧ Below w.heap.size w w' := by
  have WV := Lib.hid (show Calls Tryd.prog 15 #[.slice (some ⟨w.heap.size, 0, none⟩) 2 2, .bool false] (w.alloc (.cells #[.complex .f64 4613937818241073152 0, .complex .f64 4616189618054758400 0] 36)) fun e w' => ∃ g c, e = .returned (.tuple #[.slice (some ⟨g, 0, none⟩) 2 2, .nilIface]) ∧ w'.cell? ⟨g, 0, none⟩ = some (.complex .f64 4619567317775286272 c) ∧ Below w.heap.size w w' from by
    have K := Known.new w #[.complex .f64 4613937818241073152 0, .complex .f64 4616189618054758400 0] 36
    have hb := grow_alloc (grow_refl w) (.cells #[.complex .f64 4613937818241073152 0, .complex .f64 4616189618054758400 0] 36)
    refine (waves_yes a (some ⟨w.heap.size, 0, none⟩) 2 2 false X34 _ (hs.below hb) (.inr ⟨_, 0, rfl, fun k hk => ?_⟩) (by omega) (by omega)).mono fun e w' ⟨g, he, hr, hbl⟩ => ?_
    · rw [Nat.zero_add, K.cell k]
      have : k = 0 ∨ k = 1 := by omega
      rcases this with rfl | rfl
      · exact ⟨_, _, rfl, fl34.1, fl_zero⟩
      · exact ⟨_, _, rfl, fl34.2, fl_zero⟩
    · obtain ⟨p, q, h1, h2, _⟩ := hr.cell 0 (by omega)
      rw [seven] at h2
      rw [fl_some h2] at h1
      exact ⟨g, q, he, h1, grow_trans hb hbl⟩)
  clear hs
  have o7 := ord7
  go_enter Tryd.func9, Tryd.ntmps9
  go_wp2_with (go_at_call 15; (with_reducible refine WV.out.mono ?_); rintro e w1 ⟨g, c, rfl, c0, hb⟩; have HB := Lib.hid hb; clear hb)
  go_ret
  exact ⟨rfl, HB.out⟩
end Go.Proofs.YtaakbajhbmbhcaaDoor
/- ShiftWaves: the law's walk. -/
set_option linter.unusedSimpArgs false
set_option linter.unusedVariables false
namespace Go.Proofs.YtaakbajhbmbhcaaDoor
open Go.RowKit Go.Fl Go.Grow Go.Tr

set_option maxRecDepth 100000 in
set_option maxHeartbeats 8000000 in
theorem waves_skip (a : Nat → Addr) (r : Option Addr) (n cap : Nat) (back : Bool) (w : World) (hs : Sen a [2, 5] w) (hn : n ≤ 9223372036854775807) (h : (40 < n ∧ n ≤ 256) ∨ 300 < n) :
    Calls Tryd.prog 6 #[.slice r n cap, .bool back] w fun e w' => e = .returned (.bool true) ∧ Below w.heap.size w w' := by
  have WD := Lib.hid (waved_walk a w hs)
  clear hs
  go_enter Tryd.func6, Tryd.ntmps6
  go_wp2_with (go_at_call 9; (with_reducible refine WD.out.mono ?_); rintro e w1 ⟨rfl, hb⟩; have HB := Lib.hid hb; clear hb)
  all_goals
    go_ret
    exact ⟨rfl, HB.out⟩
set_option maxRecDepth 100000 in
set_option maxHeartbeats 8000000 in
theorem waves_err (a : Nat → Addr) (r : Option Addr) (l : List (Nat × Nat)) (n cap : Nat) (back : Bool) (w : World) (hs : Sen a allK w) (hh : Hand w) (hne : ∀ j ∈ allK, ∀ k ∈ allK, j ≠ k → a j ≠ a k) (hl : l.length = n) (hr : PrAt w r l) (h1 : n ≤ 40 ∨ 256 < n) (h2 : n ≤ 300) (hE : sizeE n ≠ 0) :
    Calls Tryd.prog 6 #[.slice r n cap, .bool back] w fun e w' => e = .returned (.bool true) ∧ Below w.heap.size w w' := by
  have hs2 : Sen a [2, 5] w := hs.sub (by decide)
  have WD := Lib.hid (waved_walk a w hs2)
  have NW := Lib.hid (fun X (hX : Below w.heap.size w X) => show Calls Tryd.prog 14 #[.slice r n cap] X fun e w' => ∃ r' c', e = .returned (.slice r' n c') ∧ Below X.heap.size X w' by
    have h := numbers_walk r l cap X (by omega) (hr.below hX)
    rw [hl] at h
    exact h.mono fun e w' ⟨r', c', he, _, hb⟩ => ⟨r', c', by rw [he, hl], hb⟩)
  have hE10 : sizeE n ≤ 10 := by unfold sizeE; split <;> (try split) <;> omega
  have WX := Lib.hid (fun X c r' (hX : Below w.heap.size w X) => waves_no a r' n c back X (hs2.below hX) (by omega) hE)
  have LX := Lib.hid (fun X => lengthError_walk n X (by omega))
  have CD := Lib.hid (fun X (hX : Below w.heap.size w X) => coded_same a (sizeE n) hE10 X (hs.below hX) (hh.below hX) hne)
  obtain ⟨u, hu⟩ := errV_pos2 a hE
  rw [hu] at WX CD
  clear hu hs hh hne hr hs2
  generalize sizeE n = E at *
  have hE0 : 0 < E := by omega
  clear hE
  go_enter Tryd.func6, Tryd.ntmps6
  go_wp2_with (first
    | (go_at_call 9; (with_reducible refine WD.out.mono ?_); rintro e w1 ⟨rfl, hb⟩; have HB := Lib.hid hb; clear hb)
    | (go_at_call 14; (with_reducible refine (NW.out _ HB.out).mono ?_); rintro e w2 ⟨r', c', rfl, hb⟩; have HB2 := Lib.hid (grow_trans HB.out hb); clear hb)
    | (go_at_call 15; (with_reducible refine (WX.out _ _ _ HB2.out).mono ?_); rintro e w3 ⟨rfl, rfl⟩)
    | (go_at_call 25; (with_reducible refine (LX.out _).mono ?_); rintro e w4 ⟨rfl, rfl⟩)
    | (go_at_call 18; (with_reducible refine (CD.out _ HB2.out).mono ?_); rintro e w5 ⟨rfl, hb⟩; have HB5 := Lib.hid (grow_trans HB2.out hb); clear hb))
  all_goals
    go_ret
    exact ⟨rfl, HB5.out⟩
set_option maxRecDepth 100000 in
set_option maxHeartbeats 8000000 in
theorem waves_main (a : Nat → Addr) (r : Option Addr) (l : List (Nat × Nat)) (n cap : Nat) (back : Bool) (w : World) (hs : Sen a [2, 5] w) (hl : l.length = n) (hr : PrAt w r l) (h1 : n ≤ 40) (h0 : 0 < n) :
    Calls Tryd.prog 6 #[.slice r n cap, .bool back] w fun e w' => e = .returned (.bool true) ∧ Below w.heap.size w w' := by
  have WD := Lib.hid (waved_walk a w hs)
  have NW := Lib.hid (fun X (hX : Below w.heap.size w X) => show Calls Tryd.prog 14 #[.slice r n cap] X fun e w' => ∃ r' c', e = .returned (.slice r' n c') ∧ CIn w' r' n (fun k => cb (l.getD k (0, 0))) ∧ Below X.heap.size X w' by
    have h := numbers_walk r l cap X (by omega) (hr.below hX)
    rw [hl] at h
    exact h.mono fun e w' ⟨r', c', he, hx, hb⟩ => ⟨r', c', by rw [he, hl], hx.in hl, hb⟩)
  have hE : sizeE n = 0 := by unfold sizeE; rw [if_neg (by omega), if_neg (by omega)]
  have VW := Lib.hid (fun X (hX : Below w.heap.size w X) => wavesOf_walk r l n cap back X hl (by omega) h0 (hr.below hX))
  have LX := Lib.hid (fun X => show Calls Tryd.prog 25 #[.int .i64 n] X fun e w' => e = .returned (.int .i64 0) ∧ X = w' by
    have h := lengthError_walk n X (by omega)
    rwa [hE] at h)
  obtain ⟨Z, hZ⟩ : ∃ Z, (fun k => cb (l.getD k (0, 0))) = Z := ⟨_, rfl⟩
  rw [hZ] at NW VW
  have WX := Lib.hid (fun X c r' (hX : Below w.heap.size w X) (hi : CIn X r' n Z) => waves_yes a r' n c back Z X (hs.below hX) hi (by omega) h0)
  unfold WavesYes at WX
  unfold PrPost at VW
  clear hs hr hZ hE
  have SP := Lib.hid (fun X g c r2 c2 (L : List (Nat × Nat)) (hg : CRow X g n (wavZ Z n back)) (hp : PrAt X r2 L) (hm : L.map cb = (List.range n).map (wavZ Z n back)) => show Calls Tryd.prog 26 #[.slice (some ⟨g, 0, none⟩) n c, .slice r2 L.length c2] X fun e w' => e = .returned (.bool true) ∧ Below X.heap.size X w' by
    have hL : L.length = n := by have := congrArg List.length hm; simpa using this
    have h := samePairs_walk (some ⟨g, 0, none⟩) r2 n c c2 (wavZ Z n back) L X (by omega) hL hg.in hp fun k hk => by
      have h2 : (L.map cb)[k]? = ((List.range n).map (wavZ Z n back))[k]? := by rw [hm]
      rw [List.getElem?_map, List.getElem?_map, List.getElem?_range (by omega), List.getElem?_eq_getElem hk] at h2
      simpa using h2
    rwa [← hL] at h ⊢)
  go_enter Tryd.func6, Tryd.ntmps6
  go_wp2_with (first
    | (go_at_call 9; (with_reducible refine WD.out.mono ?_); rintro e w1 ⟨rfl, hb⟩; have HB := Lib.hid hb; clear hb)
    | (go_at_call 14; (with_reducible refine (NW.out _ HB.out).mono ?_); rintro e w2 ⟨r', c', rfl, hi, hb⟩; have I2 := Lib.hid hi; have HB2 := Lib.hid (grow_trans HB.out hb); clear hb hi)
    | (go_at_call 15; (with_reducible refine (WX.out _ _ _ HB2.out I2.out).mono ?_); rintro e w3 ⟨g, rfl, hr3, hb⟩; have R3 := Lib.hid hr3; have HB3 := Lib.hid (grow_trans HB2.out hb); clear hb hr3)
    | (go_at_call 25; (with_reducible refine (LX.out _).mono ?_); rintro e w4 ⟨rfl, rfl⟩)
    | (go_at_call 27; (with_reducible refine (VW.out _ HB3.out).mono ?_); rintro e w5 ⟨r5, c5, L, rfl, hp, hm, hb⟩; have P5 := Lib.hid hp; have M5 := Lib.hid hm; have R5 := Lib.hid (R3.out.below hb); have HB5 := Lib.hid (grow_trans HB3.out hb); clear hb hp hm)
    | (go_at_call 26; (with_reducible refine (SP.out _ _ _ _ _ _ R5.out P5.out M5.out).mono ?_); rintro e w6 ⟨rfl, hb⟩; have HB6 := Lib.hid (grow_trans HB5.out hb); clear hb))
  go_ret
  exact ⟨rfl, HB6.out⟩
theorem waves_walk (a : Nat → Addr) (r : Option Addr) (l : List (Nat × Nat)) (n cap : Nat) (back : Bool) (w : World) (hs : Sen a allK w) (hh : Hand w) (hne : ∀ j ∈ allK, ∀ k ∈ allK, j ≠ k → a j ≠ a k) (hl : l.length = n) (hr : PrAt w r l) (hn : n ≤ 9223372036854775807) :
    Calls Tryd.prog 6 #[.slice r n cap, .bool back] w fun e w' => e = .returned (.bool true) ∧ Below w.heap.size w w' := by
  have hs2 : Sen a [2, 5] w := hs.sub (by decide)
  by_cases h : (40 < n ∧ n ≤ 256) ∨ 300 < n
  · exact waves_skip a r n cap back w hs2 hn h
  · by_cases hE : sizeE n = 0
    · have h0 : 0 < n ∧ n ≤ 256 := by
        unfold sizeE at hE
        split at hE
        · cases hE
        · split at hE
          · cases hE
          · omega
      exact waves_main a r l n cap back w hs2 hl hr (by omega) h0.1
    · exact waves_err a r l n cap back w hs hh hne hl hr (by omega) (by omega) hE
end Go.Proofs.YtaakbajhbmbhcaaDoor
