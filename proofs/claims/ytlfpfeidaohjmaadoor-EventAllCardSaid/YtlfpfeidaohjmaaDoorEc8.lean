/- EventWindows: the law's walk where the track is none or too long, and where the track or the level is wrong. -/
import Derived.Test.YtlfpfeidaohjmaaDoorEc7
import Derived.Test.YtlfpfeidaohjmaaDoorEb14
import Derived.Test.YtlfpfeidaohjmaaDoorEo2
import Derived.Test.YtlfpfeidaohjmaaDoorCs
set_option linter.unusedSimpArgs false
set_option linter.unusedVariables false
namespace Go.Proofs.YtlfpfeidaohjmaaDoor
open Go.RowKit Go.Grow Go.Fl

set_option maxRecDepth 100000 in
set_option maxHeartbeats 8000000 in
theorem win_nil (a : Nat → Addr) (n : Int) (v : Value) (w : World) (hs : Sen a [2, 3, 5] w) :
    Calls Tryd.prog 13 #[.pointer none, .int .i64 n, v] w fun e w' => e = .returned (.bool true) ∧ Below w.heap.size w w' := by
  have TK := Lib.hid (tracked_walk a w hs)
  have LG := Lib.hid (fun X => large_walk n X)
  clear hs
  go_enter Tryd.func13, Tryd.ntmps13
  go_wp2_with (first
    | (go_at_call 56; (with_reducible refine TK.out.mono ?_); rintro e w1 ⟨rfl, hb⟩; have G := Lib.hid hb; clear hb)
    | (go_at_call 61; (with_reducible refine (LG.out _).mono ?_); rintro e w2 ⟨rfl, rfl⟩))
  go_ret
  exact ⟨rfl, G.out⟩
set_option maxRecDepth 100000 in
set_option maxHeartbeats 8000000 in
theorem win_long (a : Nat → Addr) (b o : Nat) (F S : Int) (r : Option Addr) (c : Nat) (L : List Int) (n : Int) (r3 : Option Addr) (n3 c3 : Nat) (w : World) (hs : Sen a [2, 3, 5] w) (h : TrAt w b o F S r c L) (hl : (300 < L.length ∧ L.length ≤ 4000) ∨ 100 < n3) :
    Calls Tryd.prog 13 #[.pointer (some ⟨b, o, none⟩), .int .i64 n, .slice r3 n3 c3] w fun e w' => e = .returned (.bool true) ∧ Below w.heap.size w w' := by
  have TK := Lib.hid (tracked_walk a w hs)
  have LG := Lib.hid (fun X => large_walk n X)
  have T := Lib.hid h
  by_cases q1 : 300 < L.length ∧ L.length ≤ 4000
  · have n1 : (300 : Int) < L.length := by omega
    have n2 : (L.length : Int) ≤ 4000 := by omega
    have e1 : decide ((300 : Int) < L.length) = true := decide_eq_true n1
    have e2 : decide ((L.length : Int) ≤ 4000) = true := decide_eq_true n2
    clear hs h
    go_enter Tryd.func13, Tryd.ntmps13
    go_wp2_with (first
      | (go_at_call 56; (with_reducible refine TK.out.mono ?_); rintro e w1 ⟨rfl, hb⟩; have G := Lib.hid hb; have d2 := (T.out.below hb).c2; have lb := (T.out.below hb).lt; clear hb)
      | (go_at_call 61; (with_reducible refine (LG.out _).mono ?_); rintro e w2 ⟨rfl, rfl⟩))
    go_ret
    exact ⟨rfl, G.out⟩
  · have q2 : 100 < n3 := by omega
    have n3' : (100 : Int) < n3 := by omega
    have e3 : decide ((100 : Int) < n3) = true := decide_eq_true n3'
    clear hs h
    by_cases n1 : (300 : Int) < L.length
    · have n2 : ¬ (L.length : Int) ≤ 4000 := by omega
      have e1 : decide ((300 : Int) < L.length) = true := decide_eq_true n1
      have e2 : decide ((L.length : Int) ≤ 4000) = false := decide_eq_false n2
      go_enter Tryd.func13, Tryd.ntmps13
      go_wp2_with (first
        | (go_at_call 56; (with_reducible refine TK.out.mono ?_); rintro e w1 ⟨rfl, hb⟩; have G := Lib.hid hb; have d2 := (T.out.below hb).c2; have lb := (T.out.below hb).lt; clear hb)
        | (go_at_call 61; (with_reducible refine (LG.out _).mono ?_); rintro e w2 ⟨rfl, rfl⟩))
      go_ret
      exact ⟨rfl, G.out⟩
    · have e1 : decide ((300 : Int) < L.length) = false := decide_eq_false n1
      go_enter Tryd.func13, Tryd.ntmps13
      go_wp2_with (first
        | (go_at_call 56; (with_reducible refine TK.out.mono ?_); rintro e w1 ⟨rfl, hb⟩; have G := Lib.hid hb; have d2 := (T.out.below hb).c2; have lb := (T.out.below hb).lt; clear hb)
        | (go_at_call 61; (with_reducible refine (LG.out _).mono ?_); rintro e w2 ⟨rfl, rfl⟩))
      go_ret
      exact ⟨rfl, G.out⟩
theorem winE_le (F S : Int) (L : List Int) (n : Int) : winE F S L n ≤ 5 := by
  have h : trE F S L ≤ 5 := by
    unfold trE
    split
    · omega
    · split
      · split <;> omega
      · omega
  unfold winE
  split
  · exact h
  · split <;> omega
set_option maxRecDepth 100000 in
set_option maxHeartbeats 16000000 in
theorem win_bad (a : Nat → Addr) (b o : Nat) (F S : Int) (r : Option Addr) (c : Nat) (L : List Int) (n : Int) (r3 : Option Addr) (n3 c3 : Nat) (w : World) (hs : Sen a allK w) (hh : Hand w) (hne : ∀ j ∈ allK, ∀ k ∈ allK, j ≠ k → a j ≠ a k) (h : TrAt w b o F S r c L) (hnil : r = none → c = 0) (hl : L.length * 8 ≤ 140737488355328) (hl1 : ¬ (300 < L.length ∧ L.length ≤ 4000)) (hl2 : n3 ≤ 100) (hW : winE F S L n ≠ 0) :
    Calls Tryd.prog 13 #[.pointer (some ⟨b, o, none⟩), .int .i64 n, .slice r3 n3 c3] w fun e w' => e = .returned (.bool true) ∧ Below w.heap.size w w' := by
  have hs3 : Sen a [2, 3, 5] w := hs.sub (by decide)
  have TK := Lib.hid (tracked_walk a w hs3)
  have LG := Lib.hid (fun X => large_walk n X)
  have CP := Lib.hid (fun X (hX : Below w.heap.size w X) => track_walk b o F S r c L X hl (h.below hX) hnil)
  have WW := Lib.hid (fun X r1 c1 (hX : Below w.heap.size w X) (hi : InAt X r1 L) => windows_bad a F S r1 c1 L n X (hs3.below hX) (by omega) hi hW)
  have TE := Lib.hid (fun X (hX : Below w.heap.size w X) => trackError_walk b o F S r c L X (by omega) (h.below hX))
  have T := Lib.hid h
  unfold WbPost at WW
  have n3' : ¬ (100 : Int) < n3 := by omega
  have e3 : decide ((100 : Int) < n3) = false := decide_eq_false n3'
  have C1 := Lib.hid (fun (X : World) (hX : Below w.heap.size w X) => coded_same a (winE F S L n) (by have := winE_le F S L n; omega) X (hs.below hX) (hh.below hX) hne)
  obtain ⟨V, hV⟩ : ∃ V, errV a (winE F S L n) = V := ⟨_, rfl⟩
  rw [hV] at WW C1
  by_cases h1 : trE F S L = 0
  · have h2 : bigH n = true := by
      unfold winE at hW
      rw [if_neg (by simpa using h1)] at hW
      by_cases h : bigH n = true
      · exact h
      · simp [h] at hW
    have hE : winE F S L n = 5 := by unfold winE; rw [if_neg (by simpa using h1), if_pos h2]
    rw [hE, show ((5 : Nat) : Int) = 5 from rfl] at C1
    rw [h1] at TE
    rw [h2] at LG
    clear hs hh hne hs3 h hnil hW hV hE h1 h2
    by_cases n1 : (300 : Int) < L.length
    · have n2 : ¬ (L.length : Int) ≤ 4000 := by omega
      have e1 : decide ((300 : Int) < L.length) = true := decide_eq_true n1
      have e2 : decide ((L.length : Int) ≤ 4000) = false := decide_eq_false n2
      go_enter Tryd.func13, Tryd.ntmps13
      go_wp2_with (first
        | (go_at_call 56; (with_reducible refine TK.out.mono ?_); rintro e w1 ⟨rfl, hb⟩; have G := Lib.hid hb; have d2 := (T.out.below hb).c2; have lb := (T.out.below hb).lt; clear hb)
        | (go_at_call 61; (with_reducible refine (LG.out _).mono ?_); rintro e w2 ⟨rfl, rfl⟩)
        | (go_at_call 57; (with_reducible refine (CP.out _ G.out).mono ?_); rintro e w3 ⟨r1, k1, rfl, hi, hb⟩; have IN := Lib.hid hi; replace G := Lib.hid (grow_trans G.out hb); clear hb hi)
        | (go_at_call 66; (with_reducible refine (WW.out _ _ _ G.out IN.out).mono ?_); rintro e w4 ⟨rfl, hb⟩; replace G := Lib.hid (grow_trans G.out hb); clear hb IN)
        | (go_at_call 60; (with_reducible refine (TE.out _ G.out).mono ?_); rintro e w5 ⟨rfl, hb⟩; replace G := Lib.hid (grow_trans G.out hb); clear hb)
        | (go_at_call 33; (with_reducible refine (C1.out _ G.out).mono ?_); rintro e w6 ⟨rfl, hb⟩; replace G := Lib.hid (grow_trans G.out hb); clear hb))
      go_ret
      exact ⟨by first | rfl | simp, G.out⟩
    · have e1 : decide ((300 : Int) < L.length) = false := decide_eq_false n1
      go_enter Tryd.func13, Tryd.ntmps13
      go_wp2_with (first
        | (go_at_call 56; (with_reducible refine TK.out.mono ?_); rintro e w1 ⟨rfl, hb⟩; have G := Lib.hid hb; have d2 := (T.out.below hb).c2; have lb := (T.out.below hb).lt; clear hb)
        | (go_at_call 61; (with_reducible refine (LG.out _).mono ?_); rintro e w2 ⟨rfl, rfl⟩)
        | (go_at_call 57; (with_reducible refine (CP.out _ G.out).mono ?_); rintro e w3 ⟨r1, k1, rfl, hi, hb⟩; have IN := Lib.hid hi; replace G := Lib.hid (grow_trans G.out hb); clear hb hi)
        | (go_at_call 66; (with_reducible refine (WW.out _ _ _ G.out IN.out).mono ?_); rintro e w4 ⟨rfl, hb⟩; replace G := Lib.hid (grow_trans G.out hb); clear hb IN)
        | (go_at_call 60; (with_reducible refine (TE.out _ G.out).mono ?_); rintro e w5 ⟨rfl, hb⟩; replace G := Lib.hid (grow_trans G.out hb); clear hb)
        | (go_at_call 33; (with_reducible refine (C1.out _ G.out).mono ?_); rintro e w6 ⟨rfl, hb⟩; replace G := Lib.hid (grow_trans G.out hb); clear hb))
      go_ret
      exact ⟨by first | rfl | simp, G.out⟩
  · have hE : winE F S L n = trE F S L := by unfold winE; rw [if_pos h1]
    rw [hE] at C1
    have k0 : 0 < trE F S L := by omega
    generalize trE F S L = k at TE C1 k0
    generalize bigH n = bg at LG
    have k1 : ¬ ((k : Int) = 0) := by omega
    have k2 : (0 : Int) < k := by omega
    clear hs hh hne hs3 h hnil hW hV hE h1
    by_cases n1 : (300 : Int) < L.length
    · have n2 : ¬ (L.length : Int) ≤ 4000 := by omega
      have e1 : decide ((300 : Int) < L.length) = true := decide_eq_true n1
      have e2 : decide ((L.length : Int) ≤ 4000) = false := decide_eq_false n2
      go_enter Tryd.func13, Tryd.ntmps13
      go_wp2_with (first
        | (go_at_call 56; (with_reducible refine TK.out.mono ?_); rintro e w1 ⟨rfl, hb⟩; have G := Lib.hid hb; have d2 := (T.out.below hb).c2; have lb := (T.out.below hb).lt; clear hb)
        | (go_at_call 61; (with_reducible refine (LG.out _).mono ?_); rintro e w2 ⟨rfl, rfl⟩)
        | (go_at_call 57; (with_reducible refine (CP.out _ G.out).mono ?_); rintro e w3 ⟨r1, k1, rfl, hi, hb⟩; have IN := Lib.hid hi; replace G := Lib.hid (grow_trans G.out hb); clear hb hi)
        | (go_at_call 66; (with_reducible refine (WW.out _ _ _ G.out IN.out).mono ?_); rintro e w4 ⟨rfl, hb⟩; replace G := Lib.hid (grow_trans G.out hb); clear hb IN)
        | (go_at_call 60; (with_reducible refine (TE.out _ G.out).mono ?_); rintro e w5 ⟨rfl, hb⟩; replace G := Lib.hid (grow_trans G.out hb); clear hb)
        | (go_at_call 33; (with_reducible refine (C1.out _ G.out).mono ?_); rintro e w6 ⟨rfl, hb⟩; replace G := Lib.hid (grow_trans G.out hb); clear hb))
      go_ret
      exact ⟨by first | rfl | simp, G.out⟩
    · have e1 : decide ((300 : Int) < L.length) = false := decide_eq_false n1
      go_enter Tryd.func13, Tryd.ntmps13
      go_wp2_with (first
        | (go_at_call 56; (with_reducible refine TK.out.mono ?_); rintro e w1 ⟨rfl, hb⟩; have G := Lib.hid hb; have d2 := (T.out.below hb).c2; have lb := (T.out.below hb).lt; clear hb)
        | (go_at_call 61; (with_reducible refine (LG.out _).mono ?_); rintro e w2 ⟨rfl, rfl⟩)
        | (go_at_call 57; (with_reducible refine (CP.out _ G.out).mono ?_); rintro e w3 ⟨r1, k1, rfl, hi, hb⟩; have IN := Lib.hid hi; replace G := Lib.hid (grow_trans G.out hb); clear hb hi)
        | (go_at_call 66; (with_reducible refine (WW.out _ _ _ G.out IN.out).mono ?_); rintro e w4 ⟨rfl, hb⟩; replace G := Lib.hid (grow_trans G.out hb); clear hb IN)
        | (go_at_call 60; (with_reducible refine (TE.out _ G.out).mono ?_); rintro e w5 ⟨rfl, hb⟩; replace G := Lib.hid (grow_trans G.out hb); clear hb)
        | (go_at_call 33; (with_reducible refine (C1.out _ G.out).mono ?_); rintro e w6 ⟨rfl, hb⟩; replace G := Lib.hid (grow_trans G.out hb); clear hb))
      go_ret
      exact ⟨by first | rfl | simp, G.out⟩
end Go.Proofs.YtlfpfeidaohjmaaDoor
