/- The program's tracks: the height at an instant. -/
import Derived.Test.YtlfpfeidaohjmaaDoorEb9
set_option linter.unusedSimpArgs false
set_option linter.unusedVariables false
namespace Go.Proofs.YtlfpfeidaohjmaaDoor
open Go.RowKit Go.Grow Go.Fl Go.Bg

def APost (a : Nat → Addr) (A : Int × Nat) (w : World) (e : Ending) (w' : World) : Prop := e = .returned (.tuple #[.int .i64 A.1, errV a A.2]) ∧ Below w.heap.size w w'
set_option maxRecDepth 100000 in
set_option maxHeartbeats 8000000 in
theorem at_bad (a : Nat → Addr) (F S : Int) (r : Option Addr) (L : List Int) (c : Nat) (x : Int) (w : World) (hs : Sen a [2, 3, 5] w) (hl : L.length ≤ 9223372036854775807) (hr : InAt w r L) (k : Nat) (hk : trE F S L = k) (h0 : k ≠ 0) :
    Calls Tryd.prog 63 #[trk F S r L.length c, .int .i64 x] w (APost a (0, k) w) := by
  have VW := Lib.hid (fun X (hX : Below w.heap.size w X) => valid_walk a F S r L c X (hs.below hX) hl (hr.below hX))
  rw [hk] at VW
  have hu := errV_pos a h0
  unfold VPost at VW
  unfold APost
  simp only
  rw [hu] at VW ⊢
  unfold trk at VW ⊢
  have g : Hid (Below w.heap.size w w) := Lib.hid (grow_refl w)
  clear hs hr hu h0 hk
  go_enter Tryd.func63, Tryd.ntmps63
  go_wp2_with (go_at_call 65; (with_reducible refine (VW.out _ (grow_alloc g.out _)).mono ?_); rintro e w1 ⟨rfl, hb⟩; have G := Lib.hid (grow_trans (grow_alloc g.out _) hb); clear hb)
  go_ret2
  exact ⟨rfl, G.out⟩
/-- A right track's Valid, and its last instant. -/
theorem valid_ok (a : Nat → Addr) (F S : Int) (r : Option Addr) (L : List Int) (c : Nat) (w : World) (hs : Sen a [2, 3, 5] w) (hl : L.length ≤ 9223372036854775807) (hr : InAt w r L) (h0 : trE F S L = 0) :
    Calls Tryd.prog 65 #[.agg #[.int .i64 F, .int .i64 S, .slice r L.length c]] w fun e w' => e = .returned .nilIface ∧ Below w.heap.size w w' := by
  have h := valid_walk a F S r L c w hs hl hr
  rw [h0] at h
  exact h
theorem fit_prod {F S : Int} {L : List Int} (h : Fit F S L) : 0 ≤ ((L.length : Int) - 1) * S ∧ ((L.length : Int) - 1) * S ≤ 600000000000000000 ∧ S ≤ 600000000000000000 := by
  obtain ⟨two, most, f1, f2, s1, l1, _⟩ := h
  unfold lastT at l1
  have p0 : 0 ≤ ((L.length : Int) - 1) * S := Int.mul_nonneg (by omega) (by omega)
  have h := (step_le s1 (show 1 ≤ L.length - 1 by omega)).1
  rw [show (((L.length - 1 : Nat)) : Int) = (L.length : Int) - 1 by omega] at h
  have e : ((1 : Nat) : Int) * S = S := by simp
  rw [e] at h
  exact ⟨p0, by omega, by omega⟩
set_option maxRecDepth 100000 in
set_option maxHeartbeats 8000000 in
theorem at_out (a : Nat → Addr) (F S : Int) (r : Option Addr) (L : List Int) (c : Nat) (x : Int) (w : World) (hs : Sen a [2, 3, 5] w) (hl : L.length ≤ 9223372036854775807) (hr : InAt w r L) (h0 : trE F S L = 0) (hx : x < F ∨ lastT F S L.length < x) :
    Calls Tryd.prog 63 #[trk F S r L.length c, .int .i64 x] w (APost a (0, 3) w) := by
  have FT := fit_of h0
  obtain ⟨p0, p1, p2⟩ := fit_prod FT
  obtain ⟨two, most, f1, f2, s1, l1, hh⟩ := FT
  have VW := Lib.hid (fun X (hX : Below w.heap.size w X) => valid_ok a F S r L c X (hs.below hX) hl (hr.below hX) h0)
  have LW := Lib.hid (fun w1 => last_walk F S r L.length c w1 (by omega) (by omega) f1 f2 p0 p1)
  generalize lastT F S L.length = l at LW hx l1
  unfold trk at LW
  have c3 := (hs 3 (by decide)).1
  simp only [gOf] at c3
  have hlt3 := lt_of_cellS c3
  have hne3 : ¬ (w.heap.size = 5) := by simp only at hlt3; omega
  have hu := errV_pos a (show 3 ≠ 0 by decide)
  unfold APost trk
  simp only
  rw [hu]
  have C3 := Lib.hid c3
  have g : Hid (Below w.heap.size w w) := Lib.hid (grow_refl w)
  clear hs hr hu h0 c3 hh
  by_cases hx1 : x < F
  · have d1 : decide (x < F) = true := decide_eq_true hx1
    go_enter Tryd.func63, Tryd.ntmps63
    go_wp2_with (go_at_call 65; (with_reducible refine (VW.out _ (grow_alloc g.out _)).mono ?_); rintro e w1 ⟨rfl, hb⟩; have G := Lib.hid (grow_trans (grow_alloc g.out _) hb); have K9 := Lib.hid ((Known.new w #[.int .i64 F, .int .i64 S, .slice r L.length c] 111).below hb); have k0 := K9.out.cell 0; have d3 := (G.out.cell (p := ⟨5, 0, none⟩) hlt3).trans C3.out; have dl3 := lt_of_cellS d3; clear hb)
    go_quiet (fail)
    go_wp2
    go_ret2
    exact ⟨rfl, grow_drewN G.out _⟩
  · have hx2 : l < x := hx.resolve_left hx1
    have d1 : decide (x < F) = false := decide_eq_false hx1
    have d2 : decide (l < x) = true := decide_eq_true hx2
    go_enter Tryd.func63, Tryd.ntmps63
    go_wp2_with (first
      | (go_at_call 65; (with_reducible refine (VW.out _ (grow_alloc g.out _)).mono ?_); rintro e w1 ⟨rfl, hb⟩; have G := Lib.hid (grow_trans (grow_alloc g.out _) hb); have K9 := Lib.hid ((Known.new w #[.int .i64 F, .int .i64 S, .slice r L.length c] 111).below hb); have k0 := K9.out.cell 0; have k1 := K9.out.cell 1; have k2 := K9.out.cell 2; clear hb)
      | (go_at_call 107; (with_reducible refine (LW.out _).mono ?_); rintro e w2 ⟨rfl, hb⟩; replace G := Lib.hid (grow_trans G.out hb); have d3 := (G.out.cell (p := ⟨5, 0, none⟩) hlt3).trans C3.out; have dl3 := lt_of_cellS d3; clear hb))
    go_quiet (fail)
    go_wp2
    go_ret2
    exact ⟨rfl, grow_drewN G.out _⟩
end Go.Proofs.YtlfpfeidaohjmaaDoor
