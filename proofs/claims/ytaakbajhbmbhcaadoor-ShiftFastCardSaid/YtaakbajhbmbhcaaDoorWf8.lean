/- ShiftFast: the law's walk. -/
import Derived.Test.YtaakbajhbmbhcaaDoorWf7
set_option linter.unusedSimpArgs false
set_option linter.unusedVariables false
namespace Go.Proofs.YtaakbajhbmbhcaaDoor
open Go.RowKit Go.Fl Go.Grow Go.Tr

theorem two_small {n : Nat} (h : sizeE n = 0) : 0 < n ∧ n ≤ 256 := by
  unfold sizeE at h
  split at h
  · cases h
  · split at h
    · cases h
    · omega
set_option maxRecDepth 100000 in
set_option maxHeartbeats 8000000 in
theorem fast_err (a : Nat → Addr) (r : Option Addr) (l : List (Nat × Nat)) (n cap : Nat) (back : Bool) (w : World) (hs : Sen a allK w) (hh : Hand w) (hne : ∀ j ∈ allK, ∀ k ∈ allK, j ≠ k → a j ≠ a k) (hl : l.length = n) (hr : PrAt w r l) (h2 : n ≤ 300) (hE : fastE n ≠ 0) :
    Calls Tryd.prog 7 #[.slice r n cap, .bool back] w fun e w' => e = .returned (.bool true) ∧ Below w.heap.size w w' := by
  have hs2 : Sen a [2, 5] w := hs.sub (by decide)
  have WD := Lib.hid (waved_walk a w hs2)
  have NW := Lib.hid (fun X (hX : Below w.heap.size w X) => show Calls Tryd.prog 14 #[.slice r n cap] X fun e w' => ∃ r' c', e = .returned (.slice r' n c') ∧ Below X.heap.size X w' by
    have h := numbers_walk r l cap X (by omega) (hr.below hX)
    rw [hl] at h
    exact h.mono fun e w' ⟨r', c', he, _, hb⟩ => ⟨r', c', by rw [he, hl], hb⟩)
  have hE10 : fastE n ≤ 10 := by
    have h5 : sizeE n ≤ 5 := by unfold sizeE; split <;> (try split) <;> omega
    unfold fastE
    split <;> (try split) <;> omega
  have WX := Lib.hid (fun X c r' (hX : Below w.heap.size w X) => fast_no a r' n c back X (hs2.below hX) (by omega) hE)
  have LX := Lib.hid (fun X => lengthError_walk n X (by omega))
  have CD := Lib.hid (fun X (hX : Below w.heap.size w X) => coded_same a (fastE n) hE10 X (hs.below hX) (hh.below hX) hne)
  have TX := Lib.hid (fun X => isTwo_any 10 n X (show n < 1024 by omega) (by omega))
  obtain ⟨u, hu⟩ := errV_pos2 a hE
  rw [hu] at WX CD
  clear hu hs hh hne hr hs2
  by_cases h0 : sizeE n = 0
  · have h5 : fastE n = 5 := by
      unfold fastE at hE ⊢
      rw [if_pos h0] at hE ⊢
      split at hE
      · exact absurd rfl hE
      · rename_i h; rw [if_neg h]
    have hT : halvF 10 n = false := by
      rw [halvF_p2 n (by have := two_small h0; omega)]
      cases h : isP2 n with
      | true => exact absurd (by unfold fastE; rw [if_pos h0, h]; rfl) hE
      | false => rfl
    rw [h0] at LX
    rw [hT] at TX
    rw [h5] at CD
    have CD2 := Lib.hid (fun X (hX : Below w.heap.size w X) => show Calls Tryd.prog 18 #[.iface 138 (.pointer (some u)), .int .i64 5] X fun e w' => e = .returned (.bool true) ∧ Below X.heap.size X w' from CD.out X hX)
    have LX2 := Lib.hid (fun X => show Calls Tryd.prog 25 #[.int .i64 n] X fun e w' => e = .returned (.int .i64 0) ∧ X = w' from LX.out X)
    clear CD LX hE hE10 h0 h5 hT
    go_enter Tryd.func7, Tryd.ntmps7
    go_wp2_with (first
      | (go_at_call 9; (with_reducible refine WD.out.mono ?_); rintro e w1 ⟨rfl, hb⟩; have HB := Lib.hid hb; clear hb)
      | (go_at_call 14; (with_reducible refine (NW.out _ HB.out).mono ?_); rintro e w2 ⟨r', c', rfl, hb⟩; have HB2 := Lib.hid (grow_trans HB.out hb); clear hb)
      | (go_at_call 13; (with_reducible refine (WX.out _ _ _ HB2.out).mono ?_); rintro e w3 ⟨rfl, hb⟩; have HB3 := Lib.hid (grow_trans HB2.out hb); clear hb)
      | (go_at_call 25; (with_reducible refine (LX2.out _).mono ?_); rintro e w4 ⟨rfl, rfl⟩)
      | (go_at_call 10; (with_reducible refine (TX.out _).mono ?_); rintro e w5 ⟨rfl, rfl⟩)
      | (go_at_call 18; (with_reducible refine (CD2.out _ HB3.out).mono ?_); rintro e w6 ⟨rfl, hb⟩; have HB6 := Lib.hid (grow_trans HB3.out hb); clear hb))
    all_goals
      go_ret
      exact ⟨rfl, HB6.out⟩
  · have h5 : fastE n = sizeE n := by unfold fastE; rw [if_neg h0]
    rw [h5] at CD hE10
    clear h5 hE
    generalize halvF 10 n = t at TX
    generalize sizeE n = E at CD LX hE10 h0
    have hE0 : 0 < E := by omega
    have d1 : ((E : Int) == 0) = false := by simp; omega
    clear h0
    go_enter Tryd.func7, Tryd.ntmps7
    go_wp2_with (first
      | (go_at_call 9; (with_reducible refine WD.out.mono ?_); rintro e w1 ⟨rfl, hb⟩; have HB := Lib.hid hb; clear hb)
      | (go_at_call 14; (with_reducible refine (NW.out _ HB.out).mono ?_); rintro e w2 ⟨r', c', rfl, hb⟩; have HB2 := Lib.hid (grow_trans HB.out hb); clear hb)
      | (go_at_call 13; (with_reducible refine (WX.out _ _ _ HB2.out).mono ?_); rintro e w3 ⟨rfl, hb⟩; have HB3 := Lib.hid (grow_trans HB2.out hb); clear hb)
      | (go_at_call 25; (with_reducible refine (LX.out _).mono ?_); rintro e w4 ⟨rfl, rfl⟩)
      | (go_at_call 10; (with_reducible refine (TX.out _).mono ?_); rintro e w5 ⟨rfl, rfl⟩)
      | (go_at_call 18; (with_reducible refine (CD.out _ HB3.out).mono ?_); rintro e w6 ⟨rfl, hb⟩; have HB6 := Lib.hid (grow_trans HB3.out hb); clear hb))
    all_goals
      go_ret
      exact ⟨rfl, HB6.out⟩
set_option maxRecDepth 100000 in
set_option maxHeartbeats 8000000 in
theorem fast_main (a : Nat → Addr) (r : Option Addr) (l : List (Nat × Nat)) (m n cap : Nat) (back : Bool) (w : World) (hs : Sen a [2, 5] w) (hl : l.length = n) (hr : PrAt w r l) (h1 : n ≤ 256) (h0 : 0 < n) (hm : 2 ^ m = n) (h2 : isP2 n = true) :
    Calls Tryd.prog 7 #[.slice r n cap, .bool back] w fun e w' => e = .returned (.bool true) ∧ Below w.heap.size w w' := by
  have WD := Lib.hid (waved_walk a w hs)
  have NW := Lib.hid (fun X (hX : Below w.heap.size w X) => show Calls Tryd.prog 14 #[.slice r n cap] X fun e w' => ∃ r' c', e = .returned (.slice r' n c') ∧ CIn w' r' n (fun k => cb (l.getD k (0, 0))) ∧ Below X.heap.size X w' by
    have h := numbers_walk r l cap X (by omega) (hr.below hX)
    rw [hl] at h
    exact h.mono fun e w' ⟨r', c', he, hx, hb⟩ => ⟨r', c', by rw [he, hl], hx.in hl, hb⟩)
  have hE : sizeE n = 0 := by unfold sizeE; rw [if_neg (by omega), if_neg (by omega)]
  have VW := Lib.hid (fun X (hX : Below w.heap.size w X) => fastOf_walk r m n cap back _ X ((hr.below hX).in hl) h1 h0 hm)
  have LX := Lib.hid (fun X => show Calls Tryd.prog 25 #[.int .i64 n] X fun e w' => e = .returned (.int .i64 0) ∧ X = w' by
    have h := lengthError_walk n X (by omega)
    rwa [hE] at h)
  have TX := Lib.hid (fun X => show Calls Tryd.prog 10 #[.int .i64 n] X fun e w' => e = .returned (.bool true) ∧ X = w' by
    have h := isTwo_any 10 n X (show n < 1024 by omega) (by omega)
    rwa [halvF_p2 n (by omega), h2] at h)
  obtain ⟨Z, hZ⟩ : ∃ Z, (fun k => cb (l.getD k (0, 0))) = Z := ⟨_, rfl⟩
  rw [hZ] at NW VW
  have WX := Lib.hid (fun X c r' (hX : Below w.heap.size w X) (hi : CIn X r' n Z) => fast_yes a r' m n c back Z X (hs.below hX) hi h1 h0 hm h2)
  unfold FastYes at WX
  unfold PrPost at VW
  clear hs hr hZ hE hm h2
  have SP := Lib.hid (fun X g c r2 c2 (L : List (Nat × Nat)) (hg : CRow X g n (fstZ n m back Z)) (hp : PrAt X r2 L) (hm : L.map cb = (List.range n).map (fstZ n m back Z)) => show Calls Tryd.prog 26 #[.slice (some ⟨g, 0, none⟩) n c, .slice r2 L.length c2] X fun e w' => e = .returned (.bool true) ∧ Below X.heap.size X w' by
    have hL : L.length = n := by have := congrArg List.length hm; simpa using this
    have h := samePairs_walk (some ⟨g, 0, none⟩) r2 n c c2 (fstZ n m back Z) L X (by omega) hL hg.in hp fun k hk => by
      have h2 : (L.map cb)[k]? = ((List.range n).map (fstZ n m back Z))[k]? := by rw [hm]
      rw [List.getElem?_map, List.getElem?_map, List.getElem?_range (by omega), List.getElem?_eq_getElem hk] at h2
      simpa using h2
    rwa [← hL] at h ⊢)
  go_enter Tryd.func7, Tryd.ntmps7
  go_wp2_with (first
    | (go_at_call 9; (with_reducible refine WD.out.mono ?_); rintro e w1 ⟨rfl, hb⟩; have HB := Lib.hid hb; clear hb)
    | (go_at_call 14; (with_reducible refine (NW.out _ HB.out).mono ?_); rintro e w2 ⟨r', c', rfl, hi, hb⟩; have I2 := Lib.hid hi; have HB2 := Lib.hid (grow_trans HB.out hb); clear hb hi)
    | (go_at_call 13; (with_reducible refine (WX.out _ _ _ HB2.out I2.out).mono ?_); rintro e w3 ⟨g, c3, rfl, hr3, hb⟩; have R3 := Lib.hid hr3; have HB3 := Lib.hid (grow_trans HB2.out hb); clear hb hr3)
    | (go_at_call 25; (with_reducible refine (LX.out _).mono ?_); rintro e w4 ⟨rfl, rfl⟩)
    | (go_at_call 10; (with_reducible refine (TX.out _).mono ?_); rintro e w8 ⟨rfl, rfl⟩)
    | (go_at_call 28; (with_reducible refine (VW.out _ HB3.out).mono ?_); rintro e w5 ⟨r5, c5, L, rfl, hp, hm, hb⟩; have P5 := Lib.hid hp; have M5 := Lib.hid hm; have R5 := Lib.hid (R3.out.below hb); have HB5 := Lib.hid (grow_trans HB3.out hb); clear hb hp hm)
    | (go_at_call 26; (with_reducible refine (SP.out _ _ _ _ _ _ R5.out P5.out M5.out).mono ?_); rintro e w6 ⟨rfl, hb⟩; have HB6 := Lib.hid (grow_trans HB5.out hb); clear hb))
  go_ret
  exact ⟨rfl, HB6.out⟩
theorem fast_walk (a : Nat → Addr) (r : Option Addr) (l : List (Nat × Nat)) (n cap : Nat) (back : Bool) (w : World) (hs : Sen a allK w) (hh : Hand w) (hne : ∀ j ∈ allK, ∀ k ∈ allK, j ≠ k → a j ≠ a k) (hl : l.length = n) (hr : PrAt w r l) (hn : n ≤ 9223372036854775807) :
    Calls Tryd.prog 7 #[.slice r n cap, .bool back] w fun e w' => e = .returned (.bool true) ∧ Below w.heap.size w w' := by
  have hs2 : Sen a [2, 5] w := hs.sub (by decide)
  by_cases h : 300 < n
  · exact fast_skip a r n cap back w hs2 hn h
  · by_cases hE : fastE n = 0
    · have h2 : isP2 n = true := by
        unfold fastE at hE
        split at hE
        · cases h : isP2 n with
          | true => rfl
          | false => rw [h] at hE; cases hE
        · rename_i h; exact absurd hE h
      obtain ⟨m, hm, h3, h4⟩ := isP2_pow h2
      exact fast_main a r l m n cap back w hs2 hl hr h3 h4 hm h2
    · exact fast_err a r l n cap back w hs hh hne hl hr (by omega) hE
end Go.Proofs.YtaakbajhbmbhcaaDoor
