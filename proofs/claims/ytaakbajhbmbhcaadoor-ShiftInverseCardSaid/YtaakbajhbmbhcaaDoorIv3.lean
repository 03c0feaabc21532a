/- ShiftInverse: the walk of the law. -/
import Derived.Test.YtaakbajhbmbhcaaDoorIv2
import Derived.Test.YtaakbajhbmbhcaaDoorIvr
set_option linter.unusedSimpArgs false
set_option linter.unusedVariables false
namespace Go.Proofs.YtaakbajhbmbhcaaDoor
open Go.RowKit Go.Fl Go.Grow Go.Tr

set_option maxRecDepth 100000 in
set_option maxHeartbeats 8000000 in
theorem inverse_long (a : Nat → Addr) (r : Option Addr) (n cap : Nat) (w : World) (hs : Sen a [2, 5] w) (hn : n ≤ 9223372036854775807) (h : 64 < n) :
    Calls Tryd.prog 3 #[.slice r n cap] w fun e w' => e = .returned (.bool true) ∧ Below w.heap.size w w' := by
  have WD := Lib.hid (waved_walk a w hs)
  have TX := Lib.hid (fun X => isTwo_some n hn X)
  clear hs
  go_enter Tryd.func3, Tryd.ntmps3
  go_wp2_with (first
    | (go_at_call 9; (with_reducible refine WD.out.mono ?_); rintro e w1 ⟨rfl, hb⟩; have HB := Lib.hid hb; clear hb)
    | (go_at_call 10; (with_reducible refine (TX.out _).mono ?_); rintro e w5 ⟨⟨b0, rfl⟩, rfl⟩))
  all_goals
    go_ret
    exact ⟨rfl, HB.out⟩
set_option maxRecDepth 100000 in
set_option maxHeartbeats 8000000 in
theorem inverse_odd (a : Nat → Addr) (r : Option Addr) (n cap : Nat) (w : World) (hs : Sen a [2, 5] w) (hn : n ≤ 64) (h : isP2 n = false) :
    Calls Tryd.prog 3 #[.slice r n cap] w fun e w' => e = .returned (.bool true) ∧ Below w.heap.size w w' := by
  have WD := Lib.hid (waved_walk a w hs)
  have TX := Lib.hid (fun X => show Calls Tryd.prog 10 #[.int .i64 n] X fun e w' => e = .returned (.bool false) ∧ X = w' by
    have k := isTwo_any 10 n X (show n < 1024 by omega) (by omega)
    rwa [halvF_p2 n (by omega), h] at k)
  clear hs
  go_enter Tryd.func3, Tryd.ntmps3
  go_wp2_with (first
    | (go_at_call 9; (with_reducible refine WD.out.mono ?_); rintro e w1 ⟨rfl, hb⟩; have HB := Lib.hid hb; clear hb)
    | (go_at_call 10; (with_reducible refine (TX.out _).mono ?_); rintro e w5 ⟨rfl, rfl⟩))
  all_goals
    go_ret
    exact ⟨rfl, HB.out⟩
theorem PrAt.get {w : World} {b o k : Nat} {l : List (Nat × Nat)} (h : PrAt w (some ⟨b, o, none⟩) l) (hk : k < l.length) : w.cell? ⟨b, o + k * 2, none⟩ = some (.float .f64 l[k].1) ∧ w.cell? ⟨b, o + k * 2 + 1, none⟩ = some (.float .f64 l[k].2) := by
  obtain ⟨b', o', e, hc⟩ := h.resolve_left (by intro h; rw [h] at hk; exact absurd hk (by simp))
  cases e
  exact hc k hk
theorem lt_cell5 {w : World} {p : Addr} {v : Value} (h : w.cell? p = some v) : p.block < w.heap.size := by
  rcases Nat.lt_or_ge p.block w.heap.size with h1 | h1
  · exact h1
  · unfold World.cell? at h
    rw [Array.getElem?_eq_none h1] at h
    simp at h
def SpecSz : FuncId → Array Value → Value → Prop
  | 12, ⟨[.float .f64 a]⟩, v => IsF (Fe.absF (fl a)) v
  | _, _, _ => False

set_option maxRecDepth 100000 in
set_option maxHeartbeats 16000000 in
theorem inverse_main (a : Nat → Addr) (r : Option Addr) (l : List (Nat × Nat)) (p n cap : Nat) (w : World) (hs : Sen a [2, 5] w) (hl : l.length = n) (hr : PrAt w r l) (h1 : n ≤ 64) (h0 : 0 < n) (hm : 2 ^ p = n) (h2 : isP2 n = true) :
    Calls Tryd.prog 3 #[.slice r n cap] w fun e w' => e = .returned (.bool true) ∧ Below w.heap.size w w' := by
  have WD := Lib.hid (waved_walk a w hs)
  have NW := Lib.hid (fun X (hX : Below w.heap.size w X) => show Calls Tryd.prog 14 #[.slice r n cap] X fun e w' => ∃ r' c', e = .returned (.slice r' n c') ∧ CIn w' r' n (fun k => cb (l.getD k (0, 0))) ∧ Below X.heap.size X w' by
    have h := numbers_walk r l cap X (by omega) (hr.below hX)
    rw [hl] at h
    exact h.mono fun e w' ⟨r', c', he, hx, hb⟩ => ⟨r', c', by rw [he, hl], hx.in hl, hb⟩)
  have TX := Lib.hid (fun X => show Calls Tryd.prog 10 #[.int .i64 n] X fun e w' => e = .returned (.bool true) ∧ X = w' by
    have h := isTwo_any 10 n X (show n < 1024 by omega) (by omega)
    rwa [halvF_p2 n (by omega), h2] at h)
  have HX := Lib.hid (fun k (hk : k < l.length) => show (fun k => cb (l.getD k (0, 0))) k = cb l[k] by
    show cb (l.getD k (0, 0)) = _
    rw [List.getD_eq_getElem?_getD, List.getElem?_eq_getElem hk]; rfl)
  obtain ⟨Z, hZ⟩ : ∃ Z, (fun k => cb (l.getD k (0, 0))) = Z := ⟨_, rfl⟩
  rw [hZ] at NW HX
  have WF := Lib.hid (fun X c r' (hX : Below w.heap.size w X) (hi : CIn X r' n Z) => show Calls Tryd.prog 13 #[.slice r' n c, .bool false] X (FastYes (fastZ false p Z) n X) from fast_yes a r' p n c false Z X (hs.below hX) hi (by omega) h0 hm h2)
  have WB := Lib.hid (fun X c r' (hX : Below w.heap.size w X) (hi : CIn X r' n (fastZ false p Z)) => fast_yes a r' p n c true (fastZ false p Z) X (hs.below hX) hi (by omega) h0 hm h2)
  have WW := Lib.hid (fun X c r' (hX : Below w.heap.size w X) (hi : CIn X r' n Z) => waves_yes a r' n c false Z X (hs.below hX) hi (by omega) h0)
  have TS := Lib.hid (fun (hmild : ∀ j, j < n → Fe.mildF (Z j).re = true ∧ Fe.mildF (Z j).im = true) k (hk : k < n) => inverse_tests (X := Z) hm h1 hmild hk)
  have HR := Lib.hid hr
  have HN := Lib.hid hl
  unfold FastYes at WF WB
  unfold WavesYes at WW
  clear hs hr hZ h2 hm hl
  go_enter Tryd.func3, Tryd.ntmps3
  go_wp2_with (first
    | (go_at_call 9; (with_reducible refine WD.out.mono ?_); rintro e w0 ⟨rfl, hb⟩; have HB := Lib.hid hb; clear hb)
    | (go_at_call 10; (with_reducible refine (TX.out _).mono ?_); rintro e w5 ⟨rfl, rfl⟩))
  go_loopw [5, 6] (fun v5 v6 wr => MaxRel Z n w0 v5 v6 wr) (fun _ v6 _ => n - (intOf v6).toNat)
  case atStart => exact ⟨0, 0, Nat.zero_le _, rfl, rfl, fl_zero, fun j hj => absurd hj (by omega), Below.refl _ _⟩
  case round =>
    obtain ⟨k, mw, hk, rfl, rfl, hmw, hmild, hg⟩ := hrel
    have HM := Lib.hid hmw
    have HD := Lib.hid hmild
    have G := Lib.hid hg
    clear hmw hmild hg
    by_cases hlt : k < n
    · have hlk : k < l.length := by rw [HN.out]; exact hlt
      obtain ⟨b1, o1, rfl, hc⟩ := HR.out.resolve_left (by intro h; rw [h] at hlk; exact absurd hlk (by simp))
      clear hc
      obtain ⟨e0, e1⟩ := PrAt.get (HR.out.below (grow_trans HB.out G.out)) hlk
      have hb1 : b1 < wr.heap.size := lt_cell5 e0
      have hi0 : (0 : Int) ≤ (k : Int) := by omega
      have hi1 : (k : Int) < (n : Int) := by omega
      have HXK := HX.out k hlk
      generalize l[k] = y at e0 e1 HXK
      obtain ⟨ya, yb⟩ := y
      have HA := Lib.hid (show (Z k).re = fl ya by rw [HXK]; rfl)
      have HC := Lib.hid (show (Z k).im = fl yb by rw [HXK]; rfl)
      clear HXK
      simp only at e0 e1
      have s0 := trivial
      cases hc1 : flt (fl mw) (Fe.absF (fl ya))
      · have C1 := Lib.hid hc1
        clear hc1
        cases hc2 : flt (fl mw) (Fe.absF (fl yb))
        · have C2 := Lib.hid hc2
          clear hc2
          go_wp2_with (first
            | (clear s0; go_at_call 11; refine (mild_walk _ _).mono ?_; rintro e w1 ⟨v, rfl, ⟨r1, rfl, m1⟩, hB⟩; have M1 := Lib.hid m1; clear m1; replace e0 := (hB.cell (p := ⟨b1, _, none⟩) hb1).trans e0; replace e1 := (hB.cell (p := ⟨b1, _, none⟩) hb1).trans e1; replace hb1 := Nat.lt_of_lt_of_le hb1 hB.size; have GN := Lib.hid (grow_trans G.out hB); clear G hB; have G := GN; clear GN; have s1 := trivial)
            | (clear s1; go_at_call 11; refine (mild_walk _ _).mono ?_; rintro e w1 ⟨v, rfl, ⟨r2, rfl, m2⟩, hB⟩; have M2 := Lib.hid m2; clear m2; replace e0 := (hB.cell (p := ⟨b1, _, none⟩) hb1).trans e0; replace e1 := (hB.cell (p := ⟨b1, _, none⟩) hb1).trans e1; replace hb1 := Nat.lt_of_lt_of_le hb1 hB.size; have GN := Lib.hid (grow_trans G.out hB); clear G hB; have G := GN; clear GN; have s2 := trivial)
            | (clear s2; go_at_call 12; refine (msize_walk _ _).mono ?_; rintro e w1 ⟨v, rfl, ⟨s1, rfl, hs1⟩, hB⟩; have o1 : (FloatKind.f64.format.order s1 mw == some Ordering.gt) = false := (gt_flt hs1 rfl).trans C1.out; clear hs1; replace e0 := (hB.cell (p := ⟨b1, _, none⟩) hb1).trans e0; replace e1 := (hB.cell (p := ⟨b1, _, none⟩) hb1).trans e1; replace hb1 := Nat.lt_of_lt_of_le hb1 hB.size; have GN := Lib.hid (grow_trans G.out hB); clear G hB; have G := GN; clear GN; have s3 := trivial)
            | (clear s3; go_at_call 12; refine (msize_walk _ _).mono ?_; rintro e w1 ⟨v, rfl, ⟨s2, rfl, hs2⟩, hB⟩; have o2 : (FloatKind.f64.format.order s2 mw == some Ordering.gt) = false := (gt_flt hs2 rfl).trans C2.out; clear hs2; replace e0 := (hB.cell (p := ⟨b1, _, none⟩) hb1).trans e0; replace e1 := (hB.cell (p := ⟨b1, _, none⟩) hb1).trans e1; replace hb1 := Nat.lt_of_lt_of_le hb1 hB.size; have GN := Lib.hid (grow_trans G.out hB); clear G hB; have G := GN; clear GN; have s4 := trivial))
          all_goals first
            | (go_ret; exact ⟨rfl, grow_trans HB.out G.out⟩)
            | (go_roundw
               case rel =>
                 refine ⟨k + 1, _, by omega, by go_num, rfl, most_next HM.out HA.out.symm HC.out.symm (m1 := mw) (by rw [C1.out]; rfl) (m2 := mw) (by rw [C2.out]; rfl), ?_, G.out⟩
                 intro j hj
                 rcases Nat.lt_succ_iff_lt_or_eq.1 hj with h | h
                 · exact HD.out j h
                 · rw [h, HA.out, HC.out]
                   exact ⟨M1.out (by simp_all), M2.out (by simp_all)⟩
               case measure => simp [intOf]; omega)
        · have C2 := Lib.hid hc2
          clear hc2
          go_wp2_with (first
            | (clear s0; go_at_call 11; refine (mild_walk _ _).mono ?_; rintro e w1 ⟨v, rfl, ⟨r1, rfl, m1⟩, hB⟩; have M1 := Lib.hid m1; clear m1; replace e0 := (hB.cell (p := ⟨b1, _, none⟩) hb1).trans e0; replace e1 := (hB.cell (p := ⟨b1, _, none⟩) hb1).trans e1; replace hb1 := Nat.lt_of_lt_of_le hb1 hB.size; have GN := Lib.hid (grow_trans G.out hB); clear G hB; have G := GN; clear GN; have s1 := trivial)
            | (clear s1; go_at_call 11; refine (mild_walk _ _).mono ?_; rintro e w1 ⟨v, rfl, ⟨r2, rfl, m2⟩, hB⟩; have M2 := Lib.hid m2; clear m2; replace e0 := (hB.cell (p := ⟨b1, _, none⟩) hb1).trans e0; replace e1 := (hB.cell (p := ⟨b1, _, none⟩) hb1).trans e1; replace hb1 := Nat.lt_of_lt_of_le hb1 hB.size; have GN := Lib.hid (grow_trans G.out hB); clear G hB; have G := GN; clear GN; have s2 := trivial)
            | (clear s2; go_at_call 12; refine (msize_walk _ _).mono ?_; rintro e w1 ⟨v, rfl, ⟨s1, rfl, hs1⟩, hB⟩; have o1 : (FloatKind.f64.format.order s1 mw == some Ordering.gt) = false := (gt_flt hs1 rfl).trans C1.out; clear hs1; replace e0 := (hB.cell (p := ⟨b1, _, none⟩) hb1).trans e0; replace e1 := (hB.cell (p := ⟨b1, _, none⟩) hb1).trans e1; replace hb1 := Nat.lt_of_lt_of_le hb1 hB.size; have GN := Lib.hid (grow_trans G.out hB); clear G hB; have G := GN; clear GN; have s3 := trivial)
            | (clear s3; go_at_call 12; refine (msize_walk _ _).mono ?_; rintro e w1 ⟨v, rfl, ⟨s2, rfl, hs2⟩, hB⟩; have o2 : (FloatKind.f64.format.order s2 mw == some Ordering.gt) = true := (gt_flt hs2 rfl).trans C2.out; clear hs2; replace e0 := (hB.cell (p := ⟨b1, _, none⟩) hb1).trans e0; replace e1 := (hB.cell (p := ⟨b1, _, none⟩) hb1).trans e1; replace hb1 := Nat.lt_of_lt_of_le hb1 hB.size; have GN := Lib.hid (grow_trans G.out hB); clear G hB; have G := GN; clear GN; have s4 := trivial)
            | (clear s4; go_at_call 12; refine (msize_walk _ _).mono ?_; rintro e w1 ⟨v, rfl, ⟨t2, rfl, ht2⟩, hB⟩; have T2 := Lib.hid ht2; clear ht2; replace e0 := (hB.cell (p := ⟨b1, _, none⟩) hb1).trans e0; replace e1 := (hB.cell (p := ⟨b1, _, none⟩) hb1).trans e1; replace hb1 := Nat.lt_of_lt_of_le hb1 hB.size; have GN := Lib.hid (grow_trans G.out hB); clear G hB; have G := GN; clear GN; have s5 := trivial))
          all_goals first
            | (go_ret; exact ⟨rfl, grow_trans HB.out G.out⟩)
            | (go_roundw
               case rel =>
                 refine ⟨k + 1, _, by omega, by go_num, rfl, most_next HM.out HA.out.symm HC.out.symm (m1 := mw) (by rw [C1.out]; rfl) (by rw [C2.out]; exact T2.out), ?_, G.out⟩
                 intro j hj
                 rcases Nat.lt_succ_iff_lt_or_eq.1 hj with h | h
                 · exact HD.out j h
                 · rw [h, HA.out, HC.out]
                   exact ⟨M1.out (by simp_all), M2.out (by simp_all)⟩
               case measure => simp [intOf]; omega)
      · have C1 := Lib.hid hc1
        clear hc1
        cases hc2 : flt (Fe.absF (fl ya)) (Fe.absF (fl yb))
        · have C2 := Lib.hid hc2
          clear hc2
          go_wp2_with (first
            | (clear s0; go_at_call 11; refine (mild_walk _ _).mono ?_; rintro e w1 ⟨v, rfl, ⟨r1, rfl, m1⟩, hB⟩; have M1 := Lib.hid m1; clear m1; replace e0 := (hB.cell (p := ⟨b1, _, none⟩) hb1).trans e0; replace e1 := (hB.cell (p := ⟨b1, _, none⟩) hb1).trans e1; replace hb1 := Nat.lt_of_lt_of_le hb1 hB.size; have GN := Lib.hid (grow_trans G.out hB); clear G hB; have G := GN; clear GN; have s1 := trivial)
            | (clear s1; go_at_call 11; refine (mild_walk _ _).mono ?_; rintro e w1 ⟨v, rfl, ⟨r2, rfl, m2⟩, hB⟩; have M2 := Lib.hid m2; clear m2; replace e0 := (hB.cell (p := ⟨b1, _, none⟩) hb1).trans e0; replace e1 := (hB.cell (p := ⟨b1, _, none⟩) hb1).trans e1; replace hb1 := Nat.lt_of_lt_of_le hb1 hB.size; have GN := Lib.hid (grow_trans G.out hB); clear G hB; have G := GN; clear GN; have s2 := trivial)
            | (clear s2; go_at_call 12; refine (msize_walk _ _).mono ?_; rintro e w1 ⟨v, rfl, ⟨s1, rfl, hs1⟩, hB⟩; have o1 : (FloatKind.f64.format.order s1 mw == some Ordering.gt) = true := (gt_flt hs1 rfl).trans C1.out; clear hs1; replace e0 := (hB.cell (p := ⟨b1, _, none⟩) hb1).trans e0; replace e1 := (hB.cell (p := ⟨b1, _, none⟩) hb1).trans e1; replace hb1 := Nat.lt_of_lt_of_le hb1 hB.size; have GN := Lib.hid (grow_trans G.out hB); clear G hB; have G := GN; clear GN; have s3 := trivial)
            | (clear s3; go_at_call 12; refine (msize_walk _ _).mono ?_; rintro e w1 ⟨v, rfl, ⟨t1, rfl, ht1⟩, hB⟩; have T1 := Lib.hid ht1; clear ht1; replace e0 := (hB.cell (p := ⟨b1, _, none⟩) hb1).trans e0; replace e1 := (hB.cell (p := ⟨b1, _, none⟩) hb1).trans e1; replace hb1 := Nat.lt_of_lt_of_le hb1 hB.size; have GN := Lib.hid (grow_trans G.out hB); clear G hB; have G := GN; clear GN; have s4 := trivial)
            | (clear s4; go_at_call 12; refine (msize_walk _ _).mono ?_; rintro e w1 ⟨v, rfl, ⟨s2, rfl, hs2⟩, hB⟩; have o2 : (FloatKind.f64.format.order s2 t1 == some Ordering.gt) = false := (gt_flt hs2 rfl).trans ((congrArg (fun m => flt m (Fe.absF (fl yb))) T1.out).trans C2.out); clear hs2; replace e0 := (hB.cell (p := ⟨b1, _, none⟩) hb1).trans e0; replace e1 := (hB.cell (p := ⟨b1, _, none⟩) hb1).trans e1; replace hb1 := Nat.lt_of_lt_of_le hb1 hB.size; have GN := Lib.hid (grow_trans G.out hB); clear G hB; have G := GN; clear GN; have s5 := trivial))
          all_goals first
            | (go_ret; exact ⟨rfl, grow_trans HB.out G.out⟩)
            | (go_roundw
               case rel =>
                 refine ⟨k + 1, _, by omega, by go_num, rfl, most_next HM.out HA.out.symm HC.out.symm (by rw [C1.out]; exact T1.out) (m2 := t1) (by rw [(show flt (fl t1) (Fe.absF (fl yb)) = false by rw [T1.out]; exact C2.out)]; rfl), ?_, G.out⟩
                 intro j hj
                 rcases Nat.lt_succ_iff_lt_or_eq.1 hj with h | h
                 · exact HD.out j h
                 · rw [h, HA.out, HC.out]
                   exact ⟨M1.out (by simp_all), M2.out (by simp_all)⟩
               case measure => simp [intOf]; omega)
        · have C2 := Lib.hid hc2
          clear hc2
          go_wp2_with (first
            | (clear s0; go_at_call 11; refine (mild_walk _ _).mono ?_; rintro e w1 ⟨v, rfl, ⟨r1, rfl, m1⟩, hB⟩; have M1 := Lib.hid m1; clear m1; replace e0 := (hB.cell (p := ⟨b1, _, none⟩) hb1).trans e0; replace e1 := (hB.cell (p := ⟨b1, _, none⟩) hb1).trans e1; replace hb1 := Nat.lt_of_lt_of_le hb1 hB.size; have GN := Lib.hid (grow_trans G.out hB); clear G hB; have G := GN; clear GN; have s1 := trivial)
            | (clear s1; go_at_call 11; refine (mild_walk _ _).mono ?_; rintro e w1 ⟨v, rfl, ⟨r2, rfl, m2⟩, hB⟩; have M2 := Lib.hid m2; clear m2; replace e0 := (hB.cell (p := ⟨b1, _, none⟩) hb1).trans e0; replace e1 := (hB.cell (p := ⟨b1, _, none⟩) hb1).trans e1; replace hb1 := Nat.lt_of_lt_of_le hb1 hB.size; have GN := Lib.hid (grow_trans G.out hB); clear G hB; have G := GN; clear GN; have s2 := trivial)
            | (clear s2; go_at_call 12; refine (msize_walk _ _).mono ?_; rintro e w1 ⟨v, rfl, ⟨s1, rfl, hs1⟩, hB⟩; have o1 : (FloatKind.f64.format.order s1 mw == some Ordering.gt) = true := (gt_flt hs1 rfl).trans C1.out; clear hs1; replace e0 := (hB.cell (p := ⟨b1, _, none⟩) hb1).trans e0; replace e1 := (hB.cell (p := ⟨b1, _, none⟩) hb1).trans e1; replace hb1 := Nat.lt_of_lt_of_le hb1 hB.size; have GN := Lib.hid (grow_trans G.out hB); clear G hB; have G := GN; clear GN; have s3 := trivial)
            | (clear s3; go_at_call 12; refine (msize_walk _ _).mono ?_; rintro e w1 ⟨v, rfl, ⟨t1, rfl, ht1⟩, hB⟩; have T1 := Lib.hid ht1; clear ht1; replace e0 := (hB.cell (p := ⟨b1, _, none⟩) hb1).trans e0; replace e1 := (hB.cell (p := ⟨b1, _, none⟩) hb1).trans e1; replace hb1 := Nat.lt_of_lt_of_le hb1 hB.size; have GN := Lib.hid (grow_trans G.out hB); clear G hB; have G := GN; clear GN; have s4 := trivial)
            | (clear s4; go_at_call 12; refine (msize_walk _ _).mono ?_; rintro e w1 ⟨v, rfl, ⟨s2, rfl, hs2⟩, hB⟩; have o2 : (FloatKind.f64.format.order s2 t1 == some Ordering.gt) = true := (gt_flt hs2 rfl).trans ((congrArg (fun m => flt m (Fe.absF (fl yb))) T1.out).trans C2.out); clear hs2; replace e0 := (hB.cell (p := ⟨b1, _, none⟩) hb1).trans e0; replace e1 := (hB.cell (p := ⟨b1, _, none⟩) hb1).trans e1; replace hb1 := Nat.lt_of_lt_of_le hb1 hB.size; have GN := Lib.hid (grow_trans G.out hB); clear G hB; have G := GN; clear GN; have s5 := trivial)
            | (clear s5; go_at_call 12; refine (msize_walk _ _).mono ?_; rintro e w1 ⟨v, rfl, ⟨t2, rfl, ht2⟩, hB⟩; have T2 := Lib.hid ht2; clear ht2; replace e0 := (hB.cell (p := ⟨b1, _, none⟩) hb1).trans e0; replace e1 := (hB.cell (p := ⟨b1, _, none⟩) hb1).trans e1; replace hb1 := Nat.lt_of_lt_of_le hb1 hB.size; have GN := Lib.hid (grow_trans G.out hB); clear G hB; have G := GN; clear GN; have s6 := trivial))
          all_goals first
            | (go_ret; exact ⟨rfl, grow_trans HB.out G.out⟩)
            | (go_roundw
               case rel =>
                 refine ⟨k + 1, _, by omega, by go_num, rfl, most_next HM.out HA.out.symm HC.out.symm (by rw [C1.out]; exact T1.out) (by rw [(show flt (fl t1) (Fe.absF (fl yb)) = true by rw [T1.out]; exact C2.out)]; exact T2.out), ?_, G.out⟩
                 intro j hj
                 rcases Nat.lt_succ_iff_lt_or_eq.1 hj with h | h
                 · exact HD.out j h
                 · rw [h, HA.out, HC.out]
                   exact ⟨M1.out (by simp_all), M2.out (by simp_all)⟩
               case measure => simp [intOf]; omega)
    · obtain rfl : n = k := by omega
      have G1 := Lib.hid (grow_trans HB.out G.out)
      have T0 := Lib.hid (TS.out HD.out)
      clear HD G HB
      go_wp2_with (first
        | (go_at_call 14; (with_reducible refine (NW.out _ G1.out).mono ?_); rintro e w2 ⟨r', c', rfl, hi, hb⟩; have I2 := Lib.hid hi; have GN := Lib.hid (grow_trans G1.out hb); (try replace RF := Lib.hid (RF.out.below hb)); (try replace RB := Lib.hid (RB.out.below hb)); clear G1 hb hi; have G1 := GN; clear GN)
        | (go_at_call 13; (with_reducible refine (WF.out _ _ _ G1.out I2.out).mono ?_); rintro e w3 ⟨g, c3, rfl, hr3, hb⟩; have RF := Lib.hid hr3; have GN := Lib.hid (grow_trans G1.out hb); clear G1 hb hr3 I2; have G1 := GN; clear GN)
        | (go_at_call 13; (with_reducible refine (WB.out _ _ _ G1.out RF.out.in).mono ?_); rintro e w4 ⟨g2, c4, rfl, hr4, hb⟩; have RB := Lib.hid hr4; replace RF := Lib.hid (RF.out.below hb); have GN := Lib.hid (grow_trans G1.out hb); clear G1 hb hr4; have G1 := GN; clear GN)
        | (go_at_call 15; (with_reducible refine (WW.out _ _ _ G1.out I2.out).mono ?_); rintro e w6 ⟨g3, rfl, hr6, hb⟩; have RS := Lib.hid hr6; replace RF := Lib.hid (RF.out.below hb); replace RB := Lib.hid (RB.out.below hb); have GN := Lib.hid (grow_trans G1.out hb); clear G1 hb hr6 I2; have G1 := GN; clear GN; have a0 := trivial)
        | (clear a0; refine wpList_arith rfl rfl (by rfl) rfl rfl ?_; intro nb q1 H1; have NB := Lib.hid (H1.out.trans (congrArg (fun t => fmul _ t) HM.out)); clear H1; have a1 := trivial)
        | (clear a1; refine wpList_arith rfl rfl (by rfl) rfl rfl ?_; intro fa q2 H2; have FA := H2; clear H2; have a2 := trivial)
        | (clear a2; refine wpList_arith rfl rfl (by rfl) rfl rfl ?_; intro fb q3 H3; have FB := Lib.hid (H3.out.trans ((congrArg (fun t => fmul t _) FA.out).trans (congrArg (fun t => fmul _ t) HM.out))); clear H3 FA))
      refine Grow.seal_wp ?_
      intro W hW
      have GW := Lib.hid (show Below w6.heap.size w6 W by rw [hW.out]; (repeat (with_reducible first | exact Grow.grow_refl _ | refine Grow.grow_drewN ?_ _ | refine Grow.grow_alloc ?_ _)))
      clear hW
      replace RF := Lib.hid (RF.out.below GW.out)
      replace RB := Lib.hid (RB.out.below GW.out)
      replace RS := Lib.hid (RS.out.below GW.out)
      have G2 := Lib.hid (grow_trans G1.out GW.out)
      clear G1 GW
      go_loopw [16] (fun v wr => ∃ k : Nat, k ≤ n ∧ v = .int .i64 k ∧ Below W.heap.size W wr) (fun v _ => n - (intOf v).toNat)
      case atStart => exact ⟨0, Nat.zero_le _, rfl, Below.refl _ _⟩
      case round =>
        obtain ⟨k, hk, rfl, hg⟩ := hrel
        have G := Lib.hid hg
        clear hg
        by_cases hlt : k < n
        · have hlk : k < l.length := by rw [HN.out]; exact hlt
          obtain ⟨b1, o1, rfl, hc⟩ := HR.out.resolve_left (by intro h; rw [h] at hlk; exact absurd hlk (by simp))
          clear hc
          have hi0 : (0 : Int) ≤ (k : Int) := by omega
          have hi1 : (k : Int) < (n : Int) := by omega
          obtain ⟨t1, t2⟩ := T0.out k hlt
          obtain ⟨t1, t1'⟩ := t1
          obtain ⟨t2, t2'⟩ := t2
          have HXK := HX.out k hlk
          obtain ⟨e0, e1⟩ := PrAt.get (HR.out.below (grow_trans G2.out G.out)) hlk
          generalize l[k] = y at e0 e1 HXK
          obtain ⟨ya, yb⟩ := y
          rw [HXK] at t1 t1'
          clear HXK
          simp only at e0 e1
          obtain ⟨bu, bv, cB, hbu, hbv⟩ := (RB.out.below G.out).cell k hlt
          obtain ⟨xu, xv, cX, hxu, hxv⟩ := (RF.out.below G.out).cell k hlt
          obtain ⟨su, sv, cS, hsu, hsv⟩ := (RS.out.below G.out).cell k hlt
          have hlB := lt_cell5 cB
          have hlX := lt_cell5 cX
          have hlS := lt_cell5 cS
          have hl0 := lt_cell5 e0
          simp only at hlB hlX hlS hl0
          rw [← hbu] at t1
          rw [← hbv] at t1'
          rw [← hsu, ← hxu] at t2
          rw [← hsv, ← hxv] at t2'
          have Q1 := Lib.hid t1
          have Q2 := Lib.hid t1'
          clear t1 t1' t2 t2' hbu hbv hxu hxv hsu hsv
          go_wp2
          refine Rel.wp_region_rel SpecSz (by kernel_rfl) (lexB_of_fast (by kernel_rfl) (by kernel_rfl)) ?_
          repeat (first
            | (refine rel_arith (by rfl) rfl (by rfl) rfl rfl ?_; intro d1 H1; simp only [Act.put, List.setIfInBounds_toArray, List.set_cons_zero, List.set_cons_succ])
            | (refine rel_call (f := 12) (args := #[.float .f64 _]) (by rfl) rfl (callAt_func rfl Tryd.func12 (by kernel_rfl) (by kernel_rfl) rfl) (keeps_over (fun v h => h) fun x => msize_walk _ _) ?_; rintro _ ⟨s, rfl, hs⟩; have o : (FloatKind.f64.format.order s nb == some Ordering.gt) = false := (by first | exact (gt_flt (hs.trans (congrArg Fe.absF H1.out)) NB.out).trans Q1.out | exact (gt_flt (hs.trans (congrArg Fe.absF H1.out)) NB.out).trans Q2.out); clear hs H1; simp only [Act.put, List.setIfInBounds_toArray, List.set_cons_zero, List.set_cons_succ])
            | (refine rel_real (by rfl) (by rfl) (by rfl) ?_; simp only [Act.put, List.setIfInBounds_toArray, List.set_cons_zero, List.set_cons_succ])
            | (refine rel_imag (by rfl) (by rfl) (by rfl) ?_; simp only [Act.put, List.setIfInBounds_toArray, List.set_cons_zero, List.set_cons_succ])
            | (refine rel_plain (by rfl) rfl ?_; intro K hK; go_big_quiet_op; (try simp only [o]); go_big_quiet_on)
            | (refine rel_skip (by rfl) ?_; simp only [Act.put, List.setIfInBounds_toArray, List.set_cons_zero, List.set_cons_succ]))
          refine Rel.wpRel_nil ?_
          intro w9 hB9 hG9
          clear hG9 cB cX cS e0 e1 hlB hlX hlS hl0
          have G9 := Lib.hid (grow_trans G.out hB9)
          clear hB9 G
          have G := G9
          clear G9
          obtain ⟨bu', bv', cB, hbu, hbv⟩ := (RB.out.below G.out).cell k hlt
          obtain ⟨xu', xv', cX, hxu, hxv⟩ := (RF.out.below G.out).cell k hlt
          obtain ⟨su', sv', cS, hsu, hsv⟩ := (RS.out.below G.out).cell k hlt
          obtain ⟨t2, t2'⟩ := (T0.out k hlt).2
          rw [← hsu, ← hxu] at t2
          rw [← hsv, ← hxv] at t2'
          have Q3 := Lib.hid t2
          have Q4 := Lib.hid t2'
          have hlX := lt_cell5 cX
          have hlS := lt_cell5 cS
          simp only at hlX hlS
          clear t2 t2' hbu hbv hxu hxv hsu hsv cB
          go_wp2
          refine Rel.wp_region_rel SpecSz (by kernel_rfl) (lexB_of_fast (by kernel_rfl) (by kernel_rfl)) ?_
          repeat (first
            | (refine rel_arith (by rfl) rfl (by rfl) rfl rfl ?_; intro d1 H1; simp only [Act.put, List.setIfInBounds_toArray, List.set_cons_zero, List.set_cons_succ])
            | (refine rel_call (f := 12) (args := #[.float .f64 _]) (by rfl) rfl (callAt_func rfl Tryd.func12 (by kernel_rfl) (by kernel_rfl) rfl) (keeps_over (fun v h => h) fun x => msize_walk _ _) ?_; rintro _ ⟨s, rfl, hs⟩; have o : (FloatKind.f64.format.order s fb == some Ordering.gt) = false := (by first | exact (gt_flt (hs.trans (congrArg Fe.absF H1.out)) FB.out).trans Q3.out | exact (gt_flt (hs.trans (congrArg Fe.absF H1.out)) FB.out).trans Q4.out); clear hs H1; simp only [Act.put, List.setIfInBounds_toArray, List.set_cons_zero, List.set_cons_succ])
            | (refine rel_real (by rfl) (by rfl) (by rfl) ?_; simp only [Act.put, List.setIfInBounds_toArray, List.set_cons_zero, List.set_cons_succ])
            | (refine rel_imag (by rfl) (by rfl) (by rfl) ?_; simp only [Act.put, List.setIfInBounds_toArray, List.set_cons_zero, List.set_cons_succ])
            | (refine rel_plain (by rfl) rfl ?_; intro K hK; go_big_quiet_op; (try simp only [o]); go_big_quiet_on)
            | (refine rel_skip (by rfl) ?_; simp only [Act.put, List.setIfInBounds_toArray, List.set_cons_zero, List.set_cons_succ]))
          refine Rel.wpRel_nil ?_
          intro w8 hB8 hG8
          clear hG8 cX cS hlX hlS
          have G8 := Lib.hid (grow_trans G.out hB8)
          clear hB8 G
          go_wp2
          go_roundw
          case rel => exact ⟨k + 1, by omega, by go_num, G8.out⟩
          case measure => simp [intOf]; omega
        · obtain rfl : n = k := by omega
          go_wp2
          go_ret
          exact ⟨rfl, grow_trans G2.out G.out⟩

end Go.Proofs.YtaakbajhbmbhcaaDoor
