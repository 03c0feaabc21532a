/- The program's windows where the track or the level is wrong. -/
import Derived.Test.YtlfpfeidaohjmaaDoorEc6
set_option linter.unusedSimpArgs false
set_option linter.unusedVariables false
namespace Go.Proofs.YtlfpfeidaohjmaaDoor
open Go.RowKit Go.Grow Go.Fl

def WbPost (a : Nat → Addr) (k : Nat) (w : World) (e : Ending) (w' : World) : Prop := e = .returned (.tuple #[.slice none 0 0, errV a k]) ∧ Below w.heap.size w w'
/-- The law's error of a track and a level. -/
def winE (F S : Int) (L : List Int) (n : Int) : Nat := if trE F S L ≠ 0 then trE F S L else if bigH n then 5 else 0
set_option maxRecDepth 100000 in
set_option maxHeartbeats 8000000 in
theorem windows_bad (a : Nat → Addr) (F S : Int) (r : Option Addr) (c : Nat) (L : List Int) (n : Int) (w : World) (hs : Sen a [2, 3, 5] w) (hl : L.length ≤ 9223372036854775807) (hr : InAt w r L) (h0 : winE F S L n ≠ 0) :
    Calls Tryd.prog 66 #[.agg #[.int .i64 F, .int .i64 S, .slice r L.length c], .int .i64 n] w (WbPost a (winE F S L n) w) := by
  have VW := Lib.hid (fun X (hX : Below w.heap.size w X) => valid_walk a F S r L c X (hs.below hX) hl (hr.below hX))
  have LV := Lib.hid (fun X (hX : Below w.heap.size w X) => level_walk a n X (hs.below hX))
  unfold VPost trk at VW
  unfold WbPost
  have g : Hid (Below w.heap.size w w) := Lib.hid (grow_refl w)
  by_cases h1 : trE F S L = 0
  · have h2 : bigH n = true := by
      unfold winE at h0
      rw [if_neg (by simpa using h1)] at h0
      by_cases h : bigH n = true
      · exact h
      · simp [h] at h0
    have hW : winE F S L n = 5 := by unfold winE; rw [if_neg (by simpa using h1), if_pos h2]
    rw [hW]
    rw [h1] at VW
    rw [h2, if_pos rfl] at LV
    rw [errV_zero] at VW
    rw [errV_pos a (by decide)] at LV ⊢
    clear hs hr h1 h2 h0 hW
    go_enter Tryd.func66, Tryd.ntmps66
    go_wp2_with (first
      | (go_at_call 65; (with_reducible refine (VW.out _ (grow_alloc g.out _)).mono ?_); rintro e w1 ⟨rfl, hb9⟩; have KK := Lib.hid ((Known.new w #[.int .i64 F, .int .i64 S, .slice r L.length c] 111).below hb9); have GG := Lib.hid (grow_trans (grow_alloc g.out _) hb9); clear hb9)
      | (go_at_call 95; (with_reducible refine (LV.out _ GG.out).mono ?_); rintro e w2 ⟨rfl, hb9⟩; replace GG := Lib.hid (grow_trans GG.out hb9); clear hb9))
    go_ret2
    exact ⟨rfl, GG.out⟩
  · have hW : winE F S L n = trE F S L := by unfold winE; rw [if_pos h1]
    rw [hW]
    rw [errV_pos a h1] at VW ⊢
    generalize trE F S L = k at VW ⊢
    clear hs hr h1 h0 hW LV
    go_enter Tryd.func66, Tryd.ntmps66
    go_wp2_with (go_at_call 65; (with_reducible refine (VW.out _ (grow_alloc g.out _)).mono ?_); rintro e w1 ⟨rfl, hb9⟩; have GG := Lib.hid (grow_trans (grow_alloc g.out _) hb9); clear hb9)
    go_ret2
    exact ⟨rfl, GG.out⟩
end Go.Proofs.YtlfpfeidaohjmaaDoor
