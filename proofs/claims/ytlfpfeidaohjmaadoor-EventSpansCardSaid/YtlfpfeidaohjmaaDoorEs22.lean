/- EventSpans: the law's walk where lists are wrong. -/
import Derived.Test.YtlfpfeidaohjmaaDoorEs21
import Derived.Test.YtlfpfeidaohjmaaDoorCs
set_option linter.unusedSimpArgs false
set_option linter.unusedVariables false
namespace Go.Proofs.YtlfpfeidaohjmaaDoor
open Go.RowKit Go.Grow

theorem nat_zero (k : Nat) (h : k = 0) : (Value.int .i64 (k : Int)) = .int .i64 0 := by subst h; rfl
theorem long_any (a : Nat → Addr) (l : List (Int × Int)) (w : World) (hs : Sen a [2, 5] w) (hl : l.length ≤ 9223372036854775807) : ∃ n : Int, ∀ (X : World) (r : Option Addr) (c : Nat), Below w.heap.size w X → SpAt X r l →
    Calls Tryd.prog 51 #[.slice r l.length c] X fun e w' => e = .returned (.tuple #[.int .i64 n, errV a (spE l [])]) ∧ Below X.heap.size X w' := by
  by_cases h0 : spE l [] = 0
  · refine ⟨lenUp l l.length, fun X r c hX hr => ?_⟩
    have h1 : lsE [⟨r, l, c⟩] = 0 := by rw [lsE_one, h0]
    have h2 : l.length ≤ 4000 ∧ fineB l = true := by
      unfold spE at h0
      split at h0
      · cases h0
      · split at h0
        · rename_i h3 h4
          rw [Bool.and_eq_true] at h4
          exact ⟨by omega, h4.1⟩
        · cases h0
    rw [h0, errV_zero]
    exact long_yes a r l c X (hs.below hX) h2.1 hr h2.2
  · refine ⟨0, fun X r c hX hr => ?_⟩
    have h1 : lsE [⟨r, l, c⟩] = spE l [] := lsE_one _ _ _
    have h := long_no a r l c X (hs.below hX) hl hr (by rw [h1]; exact h0)
    rw [h1] at h
    exact h
set_option maxRecDepth 100000 in
set_option maxHeartbeats 16000000 in
theorem law_bad1 (a : Nat → Addr) (r1 r2 : Option Addr) (l1 l2 : List (Int × Int)) (c1 c2 : Nat) (w : World) (hs : Sen a allK w) (hh : Hand w) (hne : ∀ j ∈ allK, ∀ k ∈ allK, j ≠ k → a j ≠ a k) (h1 : SpAt w r1 l1) (h2 : SpAt w r2 l2) (hl1 : l1.length * 16 ≤ 140737488355328) (hl2 : l2.length * 16 ≤ 140737488355328) (q1 : l1.length ≤ 60) (q2 : l2.length ≤ 60) (hE : spE l1 l2 ≠ 0) :
    Calls Tryd.prog 10 #[.slice r1 l1.length c1, .slice r2 l2.length c2] w fun e w' => e = .returned (.bool true) ∧ Below w.heap.size w w' := by
  have dg1 : decide ((60 : Int) < (l1.length : Int)) = false := decide_eq_false (by omega)
  have dl1 : decide ((l1.length : Int) ≤ 4000) = true := decide_eq_true (by omega)
  have ng1 : decide (60 < l1.length) = false := decide_eq_false (by omega)
  have nl1 : decide (l1.length ≤ 4000) = true := decide_eq_true (by omega)
  have dg2 : decide ((60 : Int) < (l2.length : Int)) = false := decide_eq_false (by omega)
  have dl2 : decide ((l2.length : Int) ≤ 4000) = true := decide_eq_true (by omega)
  have ng2 : decide (60 < l2.length) = false := decide_eq_false (by omega)
  have nl2 : decide (l2.length ≤ 4000) = true := decide_eq_true (by omega)
  have hs2 : Sen a [2, 5] w := hs.sub (by decide)
  have EC := Lib.hid (fun (X : World) (hX : Below w.heap.size w X) => show Calls Tryd.prog 47 #[.slice (some ⟨X.heap.size, 0, none⟩) 1 1, .slice (some ⟨X.heap.size + 1, 0, none⟩) 1 1] ((X.alloc (.cells #[.int .i64 0, .int .i64 2] 96)).alloc (.cells #[.int .i64 2, .int .i64 3] 96)) (OnePost w) from const_walk a X w hX hs2)
  have HS1 := Lib.hid (fun X (hX : Below w.heap.size w X) => spans_walk r1 l1 c1 X hl1 (h1.below hX))
  have HS2 := Lib.hid (fun X (hX : Below w.heap.size w X) => spans_walk r2 l2 c2 X hl2 (h2.below hX))
  obtain ⟨k, hk⟩ : ∃ k, spE l1 l2 = k := ⟨_, rfl⟩
  obtain ⟨k2, hk2⟩ : ∃ k, spE l1 [] = k := ⟨_, rfl⟩
  have hk5 : k ≤ 5 := by rw [← hk]; exact spE_le _ _
  have hk25 : k2 ≤ 5 := by rw [← hk2]; exact spE_le _ _
  rw [hk] at hE
  obtain ⟨n, hn⟩ := long_any a l1 w hs2 (by omega)
  rw [hk2] at hn
  have LO := Lib.hid hn
  have BO := Lib.hid (fun (X : World) r1' r2' c1' c2' (hX : Below w.heap.size w X) (s1 : SpAt X r1' l1) (s2 : SpAt X r2' l2) => both_no a r1' r2' l1 l2 c1' c2' X (hs2.below hX) s1 s2 (by omega) (by omega) k (by rw [lsE_eq, hk]) hE)
  have EO := Lib.hid (fun (X : World) r1' r2' c1' c2' (hX : Below w.heap.size w X) (s1 : SpAt X r1' l1) (s2 : SpAt X r2' l2) => either_no a r1' r2' l1 l2 c1' c2' X (hs2.below hX) s1 s2 (by omega) (by omega) k (by rw [lsE_eq, hk]) hE)
  have UO := Lib.hid (fun (X : World) r1' r2' c1' c2' (hX : Below w.heap.size w X) (s1 : SpAt X r1' l1) (s2 : SpAt X r2' l2) => but_no a r1' r2' l1 l2 c1' c2' X (hs2.below hX) s1 s2 (by omega) (by omega) k (by rw [lsE_eq, hk]) hE)
  have SE1 := Lib.hid (fun (X : World) (hX : Below w.heap.size w X) => spansError_walk r1 r2 l1 l2 c1 c2 X (by omega) (by omega) (h1.below hX) (h2.below hX))
  have SE2 := Lib.hid (fun (X : World) (hX : Below w.heap.size w X) => show Calls Tryd.prog 52 #[.slice r1 l1.length c1, .slice none 0 0] X fun e w' => e = .returned (.int .i64 (spE l1 [] : Nat)) ∧ Below X.heap.size X w' from spansError_walk r1 none l1 [] c1 0 X (by omega) (by simp) (h1.below hX) (.inl rfl))
  rw [hk] at SE1
  rw [hk2] at SE2
  have C1 := Lib.hid (fun (X : World) (hX : Below w.heap.size w X) => coded_same a k (by omega) X (hs.below hX) (hh.below hX) hne)
  have C2 := Lib.hid (fun (X : World) (hX : Below w.heap.size w X) => coded_same a k2 (by omega) X (hs.below hX) (hh.below hX) hne)
  have hu := errV_pos a hE
  obtain ⟨V, hV⟩ : ∃ V, errV a k = V := ⟨_, rfl⟩
  rw [hu] at BO EO UO C1
  have dk0 : decide (0 < k) = true := decide_eq_true (by omega)
  have dk1 : decide ((0 : Int) < (k : Int)) = true := decide_eq_true (by omega)
  have g : Hid (Below w.heap.size w w) := Lib.hid (grow_refl w)
  clear hs hh hne hs2 h1 h2 hV hu hk hk2 hn q1 q2 hE hl1 hl2 hk5 hk25
  rcases errV_or a k2 with hv2 | ⟨u, hv2⟩
  all_goals
    rw [hv2] at LO C2
    clear hv2
    go_enter Tryd.func10, Tryd.ntmps10
    go_wp2_with (first
      | (go_at_call 47; (with_reducible refine (EC.out _ g.out).mono ?_); rintro e w1 ⟨rc, cc, rfl, hc, hb⟩; obtain ⟨bc, oc, rfl, hcc⟩ := hc.resolve_left (by simp); have hd3 := (hcc 0 (by decide)).2; replace g := Lib.hid hb; clear hb hc hcc)
      | (go_at_call 49; (with_reducible refine (HS1.out _ g.out).mono ?_); rintro e wX ⟨ra, ca, rfl, hsp, hb⟩; have SA := Lib.hid hsp; replace g := Lib.hid (grow_trans g.out hb); clear hb hsp)
      | (go_at_call 49; (with_reducible refine (HS2.out _ g.out).mono ?_); rintro e wY ⟨rb, cb, rfl, hsp, hb⟩; have SB := Lib.hid hsp; replace SA := Lib.hid (SA.out.below hb); replace g := Lib.hid (grow_trans g.out hb); clear hb hsp)
      | (go_at_call 48; (with_reducible refine (BO.out _ _ _ _ _ g.out SA.out SB.out).mono ?_); rintro e wZ ⟨rfl, hb⟩; replace g := Lib.hid (grow_trans g.out hb); clear hb SA SB)
      | (go_at_call 47; (with_reducible refine (EO.out _ _ _ _ _ g.out SA.out SB.out).mono ?_); rintro e wZ ⟨rfl, hb⟩; replace g := Lib.hid (grow_trans g.out hb); clear hb SA SB)
      | (go_at_call 50; (with_reducible refine (UO.out _ _ _ _ _ g.out SA.out SB.out).mono ?_); rintro e wZ ⟨rfl, hb⟩; replace g := Lib.hid (grow_trans g.out hb); clear hb SA SB)
      | (go_at_call 51; (with_reducible refine (LO.out _ _ _ g.out SA.out).mono ?_); rintro e wL ⟨rfl, hb⟩; replace g := Lib.hid (grow_trans g.out hb); clear hb SA)
      | (go_at_call 52; (with_reducible refine (SE1.out _ g.out).mono ?_); rintro e wE ⟨rfl, hb⟩; replace g := Lib.hid (grow_trans g.out hb); clear hb)
      | (go_at_call 52; (with_reducible refine (SE2.out _ g.out).mono ?_); rintro e wE ⟨rfl, hb⟩; replace g := Lib.hid (grow_trans g.out hb); clear hb)
      | (go_at_call 33; (with_reducible refine (C1.out _ g.out).mono ?_); rintro e wC ⟨rfl, hb⟩; replace g := Lib.hid (grow_trans g.out hb); clear hb)
      | (go_at_call 33; (with_reducible refine (C2.out _ g.out).mono ?_); rintro e wC ⟨rfl, hb⟩; replace g := Lib.hid (grow_trans g.out hb); clear hb))
    go_ret
    exact ⟨rfl, g.out⟩
set_option maxRecDepth 100000 in
set_option maxHeartbeats 16000000 in
theorem law_bad2 (a : Nat → Addr) (r1 r2 : Option Addr) (l1 l2 : List (Int × Int)) (c1 c2 : Nat) (w : World) (hs : Sen a allK w) (hh : Hand w) (hne : ∀ j ∈ allK, ∀ k ∈ allK, j ≠ k → a j ≠ a k) (h1 : SpAt w r1 l1) (h2 : SpAt w r2 l2) (hl1 : l1.length * 16 ≤ 140737488355328) (hl2 : l2.length * 16 ≤ 140737488355328) (q1 : l1.length ≤ 60) (q2 : 4000 < l2.length) (hE : spE l1 l2 ≠ 0) :
    Calls Tryd.prog 10 #[.slice r1 l1.length c1, .slice r2 l2.length c2] w fun e w' => e = .returned (.bool true) ∧ Below w.heap.size w w' := by
  have dg1 : decide ((60 : Int) < (l1.length : Int)) = false := decide_eq_false (by omega)
  have dl1 : decide ((l1.length : Int) ≤ 4000) = true := decide_eq_true (by omega)
  have ng1 : decide (60 < l1.length) = false := decide_eq_false (by omega)
  have nl1 : decide (l1.length ≤ 4000) = true := decide_eq_true (by omega)
  have dg2 : decide ((60 : Int) < (l2.length : Int)) = true := decide_eq_true (by omega)
  have dl2 : decide ((l2.length : Int) ≤ 4000) = false := decide_eq_false (by omega)
  have ng2 : decide (60 < l2.length) = true := decide_eq_true (by omega)
  have nl2 : decide (l2.length ≤ 4000) = false := decide_eq_false (by omega)
  have hs2 : Sen a [2, 5] w := hs.sub (by decide)
  have EC := Lib.hid (fun (X : World) (hX : Below w.heap.size w X) => show Calls Tryd.prog 47 #[.slice (some ⟨X.heap.size, 0, none⟩) 1 1, .slice (some ⟨X.heap.size + 1, 0, none⟩) 1 1] ((X.alloc (.cells #[.int .i64 0, .int .i64 2] 96)).alloc (.cells #[.int .i64 2, .int .i64 3] 96)) (OnePost w) from const_walk a X w hX hs2)
  have HS1 := Lib.hid (fun X (hX : Below w.heap.size w X) => spans_walk r1 l1 c1 X hl1 (h1.below hX))
  have HS2 := Lib.hid (fun X (hX : Below w.heap.size w X) => spans_walk r2 l2 c2 X hl2 (h2.below hX))
  obtain ⟨k, hk⟩ : ∃ k, spE l1 l2 = k := ⟨_, rfl⟩
  obtain ⟨k2, hk2⟩ : ∃ k, spE l1 [] = k := ⟨_, rfl⟩
  have hk5 : k ≤ 5 := by rw [← hk]; exact spE_le _ _
  have hk25 : k2 ≤ 5 := by rw [← hk2]; exact spE_le _ _
  rw [hk] at hE
  obtain ⟨n, hn⟩ := long_any a l1 w hs2 (by omega)
  rw [hk2] at hn
  have LO := Lib.hid hn
  have BO := Lib.hid (fun (X : World) r1' r2' c1' c2' (hX : Below w.heap.size w X) (s1 : SpAt X r1' l1) (s2 : SpAt X r2' l2) => both_no a r1' r2' l1 l2 c1' c2' X (hs2.below hX) s1 s2 (by omega) (by omega) k (by rw [lsE_eq, hk]) hE)
  have EO := Lib.hid (fun (X : World) r1' r2' c1' c2' (hX : Below w.heap.size w X) (s1 : SpAt X r1' l1) (s2 : SpAt X r2' l2) => either_no a r1' r2' l1 l2 c1' c2' X (hs2.below hX) s1 s2 (by omega) (by omega) k (by rw [lsE_eq, hk]) hE)
  have UO := Lib.hid (fun (X : World) r1' r2' c1' c2' (hX : Below w.heap.size w X) (s1 : SpAt X r1' l1) (s2 : SpAt X r2' l2) => but_no a r1' r2' l1 l2 c1' c2' X (hs2.below hX) s1 s2 (by omega) (by omega) k (by rw [lsE_eq, hk]) hE)
  have SE1 := Lib.hid (fun (X : World) (hX : Below w.heap.size w X) => spansError_walk r1 r2 l1 l2 c1 c2 X (by omega) (by omega) (h1.below hX) (h2.below hX))
  have SE2 := Lib.hid (fun (X : World) (hX : Below w.heap.size w X) => show Calls Tryd.prog 52 #[.slice r1 l1.length c1, .slice none 0 0] X fun e w' => e = .returned (.int .i64 (spE l1 [] : Nat)) ∧ Below X.heap.size X w' from spansError_walk r1 none l1 [] c1 0 X (by omega) (by simp) (h1.below hX) (.inl rfl))
  rw [hk] at SE1
  rw [hk2] at SE2
  have C1 := Lib.hid (fun (X : World) (hX : Below w.heap.size w X) => coded_same a k (by omega) X (hs.below hX) (hh.below hX) hne)
  have C2 := Lib.hid (fun (X : World) (hX : Below w.heap.size w X) => coded_same a k2 (by omega) X (hs.below hX) (hh.below hX) hne)
  have hu := errV_pos a hE
  obtain ⟨V, hV⟩ : ∃ V, errV a k = V := ⟨_, rfl⟩
  rw [hu] at BO EO UO C1
  have dk0 : decide (0 < k) = true := decide_eq_true (by omega)
  have dk1 : decide ((0 : Int) < (k : Int)) = true := decide_eq_true (by omega)
  have g : Hid (Below w.heap.size w w) := Lib.hid (grow_refl w)
  clear hs hh hne hs2 h1 h2 hV hu hk hk2 hn q1 q2 hE hl1 hl2 hk5 hk25
  rcases errV_or a k2 with hv2 | ⟨u, hv2⟩
  all_goals
    rw [hv2] at LO C2
    clear hv2
    go_enter Tryd.func10, Tryd.ntmps10
    go_wp2_with (first
      | (go_at_call 47; (with_reducible refine (EC.out _ g.out).mono ?_); rintro e w1 ⟨rc, cc, rfl, hc, hb⟩; obtain ⟨bc, oc, rfl, hcc⟩ := hc.resolve_left (by simp); have hd3 := (hcc 0 (by decide)).2; replace g := Lib.hid hb; clear hb hc hcc)
      | (go_at_call 49; (with_reducible refine (HS1.out _ g.out).mono ?_); rintro e wX ⟨ra, ca, rfl, hsp, hb⟩; have SA := Lib.hid hsp; replace g := Lib.hid (grow_trans g.out hb); clear hb hsp)
      | (go_at_call 49; (with_reducible refine (HS2.out _ g.out).mono ?_); rintro e wY ⟨rb, cb, rfl, hsp, hb⟩; have SB := Lib.hid hsp; replace SA := Lib.hid (SA.out.below hb); replace g := Lib.hid (grow_trans g.out hb); clear hb hsp)
      | (go_at_call 48; (with_reducible refine (BO.out _ _ _ _ _ g.out SA.out SB.out).mono ?_); rintro e wZ ⟨rfl, hb⟩; replace g := Lib.hid (grow_trans g.out hb); clear hb SA SB)
      | (go_at_call 47; (with_reducible refine (EO.out _ _ _ _ _ g.out SA.out SB.out).mono ?_); rintro e wZ ⟨rfl, hb⟩; replace g := Lib.hid (grow_trans g.out hb); clear hb SA SB)
      | (go_at_call 50; (with_reducible refine (UO.out _ _ _ _ _ g.out SA.out SB.out).mono ?_); rintro e wZ ⟨rfl, hb⟩; replace g := Lib.hid (grow_trans g.out hb); clear hb SA SB)
      | (go_at_call 51; (with_reducible refine (LO.out _ _ _ g.out SA.out).mono ?_); rintro e wL ⟨rfl, hb⟩; replace g := Lib.hid (grow_trans g.out hb); clear hb SA)
      | (go_at_call 52; (with_reducible refine (SE1.out _ g.out).mono ?_); rintro e wE ⟨rfl, hb⟩; replace g := Lib.hid (grow_trans g.out hb); clear hb)
      | (go_at_call 52; (with_reducible refine (SE2.out _ g.out).mono ?_); rintro e wE ⟨rfl, hb⟩; replace g := Lib.hid (grow_trans g.out hb); clear hb)
      | (go_at_call 33; (with_reducible refine (C1.out _ g.out).mono ?_); rintro e wC ⟨rfl, hb⟩; replace g := Lib.hid (grow_trans g.out hb); clear hb)
      | (go_at_call 33; (with_reducible refine (C2.out _ g.out).mono ?_); rintro e wC ⟨rfl, hb⟩; replace g := Lib.hid (grow_trans g.out hb); clear hb))
    go_ret
    exact ⟨rfl, g.out⟩
set_option maxRecDepth 100000 in
set_option maxHeartbeats 16000000 in
theorem law_bad3 (a : Nat → Addr) (r1 r2 : Option Addr) (l1 l2 : List (Int × Int)) (c1 c2 : Nat) (w : World) (hs : Sen a allK w) (hh : Hand w) (hne : ∀ j ∈ allK, ∀ k ∈ allK, j ≠ k → a j ≠ a k) (h1 : SpAt w r1 l1) (h2 : SpAt w r2 l2) (hl1 : l1.length * 16 ≤ 140737488355328) (hl2 : l2.length * 16 ≤ 140737488355328) (q1 : 4000 < l1.length) (q2 : l2.length ≤ 60) (hE : spE l1 l2 ≠ 0) :
    Calls Tryd.prog 10 #[.slice r1 l1.length c1, .slice r2 l2.length c2] w fun e w' => e = .returned (.bool true) ∧ Below w.heap.size w w' := by
  have dg1 : decide ((60 : Int) < (l1.length : Int)) = true := decide_eq_true (by omega)
  have dl1 : decide ((l1.length : Int) ≤ 4000) = false := decide_eq_false (by omega)
  have ng1 : decide (60 < l1.length) = true := decide_eq_true (by omega)
  have nl1 : decide (l1.length ≤ 4000) = false := decide_eq_false (by omega)
  have dg2 : decide ((60 : Int) < (l2.length : Int)) = false := decide_eq_false (by omega)
  have dl2 : decide ((l2.length : Int) ≤ 4000) = true := decide_eq_true (by omega)
  have ng2 : decide (60 < l2.length) = false := decide_eq_false (by omega)
  have nl2 : decide (l2.length ≤ 4000) = true := decide_eq_true (by omega)
  have hs2 : Sen a [2, 5] w := hs.sub (by decide)
  have EC := Lib.hid (fun (X : World) (hX : Below w.heap.size w X) => show Calls Tryd.prog 47 #[.slice (some ⟨X.heap.size, 0, none⟩) 1 1, .slice (some ⟨X.heap.size + 1, 0, none⟩) 1 1] ((X.alloc (.cells #[.int .i64 0, .int .i64 2] 96)).alloc (.cells #[.int .i64 2, .int .i64 3] 96)) (OnePost w) from const_walk a X w hX hs2)
  have HS1 := Lib.hid (fun X (hX : Below w.heap.size w X) => spans_walk r1 l1 c1 X hl1 (h1.below hX))
  have HS2 := Lib.hid (fun X (hX : Below w.heap.size w X) => spans_walk r2 l2 c2 X hl2 (h2.below hX))
  obtain ⟨k, hk⟩ : ∃ k, spE l1 l2 = k := ⟨_, rfl⟩
  obtain ⟨k2, hk2⟩ : ∃ k, spE l1 [] = k := ⟨_, rfl⟩
  have hk5 : k ≤ 5 := by rw [← hk]; exact spE_le _ _
  have hk25 : k2 ≤ 5 := by rw [← hk2]; exact spE_le _ _
  rw [hk] at hE
  obtain ⟨n, hn⟩ := long_any a l1 w hs2 (by omega)
  rw [hk2] at hn
  have LO := Lib.hid hn
  have BO := Lib.hid (fun (X : World) r1' r2' c1' c2' (hX : Below w.heap.size w X) (s1 : SpAt X r1' l1) (s2 : SpAt X r2' l2) => both_no a r1' r2' l1 l2 c1' c2' X (hs2.below hX) s1 s2 (by omega) (by omega) k (by rw [lsE_eq, hk]) hE)
  have EO := Lib.hid (fun (X : World) r1' r2' c1' c2' (hX : Below w.heap.size w X) (s1 : SpAt X r1' l1) (s2 : SpAt X r2' l2) => either_no a r1' r2' l1 l2 c1' c2' X (hs2.below hX) s1 s2 (by omega) (by omega) k (by rw [lsE_eq, hk]) hE)
  have UO := Lib.hid (fun (X : World) r1' r2' c1' c2' (hX : Below w.heap.size w X) (s1 : SpAt X r1' l1) (s2 : SpAt X r2' l2) => but_no a r1' r2' l1 l2 c1' c2' X (hs2.below hX) s1 s2 (by omega) (by omega) k (by rw [lsE_eq, hk]) hE)
  have SE1 := Lib.hid (fun (X : World) (hX : Below w.heap.size w X) => spansError_walk r1 r2 l1 l2 c1 c2 X (by omega) (by omega) (h1.below hX) (h2.below hX))
  have SE2 := Lib.hid (fun (X : World) (hX : Below w.heap.size w X) => show Calls Tryd.prog 52 #[.slice r1 l1.length c1, .slice none 0 0] X fun e w' => e = .returned (.int .i64 (spE l1 [] : Nat)) ∧ Below X.heap.size X w' from spansError_walk r1 none l1 [] c1 0 X (by omega) (by simp) (h1.below hX) (.inl rfl))
  rw [hk] at SE1
  rw [hk2] at SE2
  have C1 := Lib.hid (fun (X : World) (hX : Below w.heap.size w X) => coded_same a k (by omega) X (hs.below hX) (hh.below hX) hne)
  have C2 := Lib.hid (fun (X : World) (hX : Below w.heap.size w X) => coded_same a k2 (by omega) X (hs.below hX) (hh.below hX) hne)
  have hu := errV_pos a hE
  obtain ⟨V, hV⟩ : ∃ V, errV a k = V := ⟨_, rfl⟩
  rw [hu] at BO EO UO C1
  have dk0 : decide (0 < k) = true := decide_eq_true (by omega)
  have dk1 : decide ((0 : Int) < (k : Int)) = true := decide_eq_true (by omega)
  have g : Hid (Below w.heap.size w w) := Lib.hid (grow_refl w)
  clear hs hh hne hs2 h1 h2 hV hu hk hk2 hn q1 q2 hE hl1 hl2 hk5 hk25
  rcases errV_or a k2 with hv2 | ⟨u, hv2⟩
  all_goals
    rw [hv2] at LO C2
    clear hv2
    go_enter Tryd.func10, Tryd.ntmps10
    go_wp2_with (first
      | (go_at_call 47; (with_reducible refine (EC.out _ g.out).mono ?_); rintro e w1 ⟨rc, cc, rfl, hc, hb⟩; obtain ⟨bc, oc, rfl, hcc⟩ := hc.resolve_left (by simp); have hd3 := (hcc 0 (by decide)).2; replace g := Lib.hid hb; clear hb hc hcc)
      | (go_at_call 49; (with_reducible refine (HS1.out _ g.out).mono ?_); rintro e wX ⟨ra, ca, rfl, hsp, hb⟩; have SA := Lib.hid hsp; replace g := Lib.hid (grow_trans g.out hb); clear hb hsp)
      | (go_at_call 49; (with_reducible refine (HS2.out _ g.out).mono ?_); rintro e wY ⟨rb, cb, rfl, hsp, hb⟩; have SB := Lib.hid hsp; replace SA := Lib.hid (SA.out.below hb); replace g := Lib.hid (grow_trans g.out hb); clear hb hsp)
      | (go_at_call 48; (with_reducible refine (BO.out _ _ _ _ _ g.out SA.out SB.out).mono ?_); rintro e wZ ⟨rfl, hb⟩; replace g := Lib.hid (grow_trans g.out hb); clear hb SA SB)
      | (go_at_call 47; (with_reducible refine (EO.out _ _ _ _ _ g.out SA.out SB.out).mono ?_); rintro e wZ ⟨rfl, hb⟩; replace g := Lib.hid (grow_trans g.out hb); clear hb SA SB)
      | (go_at_call 50; (with_reducible refine (UO.out _ _ _ _ _ g.out SA.out SB.out).mono ?_); rintro e wZ ⟨rfl, hb⟩; replace g := Lib.hid (grow_trans g.out hb); clear hb SA SB)
      | (go_at_call 51; (with_reducible refine (LO.out _ _ _ g.out SA.out).mono ?_); rintro e wL ⟨rfl, hb⟩; replace g := Lib.hid (grow_trans g.out hb); clear hb SA)
      | (go_at_call 52; (with_reducible refine (SE1.out _ g.out).mono ?_); rintro e wE ⟨rfl, hb⟩; replace g := Lib.hid (grow_trans g.out hb); clear hb)
      | (go_at_call 52; (with_reducible refine (SE2.out _ g.out).mono ?_); rintro e wE ⟨rfl, hb⟩; replace g := Lib.hid (grow_trans g.out hb); clear hb)
      | (go_at_call 33; (with_reducible refine (C1.out _ g.out).mono ?_); rintro e wC ⟨rfl, hb⟩; replace g := Lib.hid (grow_trans g.out hb); clear hb)
      | (go_at_call 33; (with_reducible refine (C2.out _ g.out).mono ?_); rintro e wC ⟨rfl, hb⟩; replace g := Lib.hid (grow_trans g.out hb); clear hb))
    go_ret
    exact ⟨rfl, g.out⟩
set_option maxRecDepth 100000 in
set_option maxHeartbeats 16000000 in
theorem law_bad4 (a : Nat → Addr) (r1 r2 : Option Addr) (l1 l2 : List (Int × Int)) (c1 c2 : Nat) (w : World) (hs : Sen a allK w) (hh : Hand w) (hne : ∀ j ∈ allK, ∀ k ∈ allK, j ≠ k → a j ≠ a k) (h1 : SpAt w r1 l1) (h2 : SpAt w r2 l2) (hl1 : l1.length * 16 ≤ 140737488355328) (hl2 : l2.length * 16 ≤ 140737488355328) (q1 : 4000 < l1.length) (q2 : 4000 < l2.length) (hE : spE l1 l2 ≠ 0) :
    Calls Tryd.prog 10 #[.slice r1 l1.length c1, .slice r2 l2.length c2] w fun e w' => e = .returned (.bool true) ∧ Below w.heap.size w w' := by
  have dg1 : decide ((60 : Int) < (l1.length : Int)) = true := decide_eq_true (by omega)
  have dl1 : decide ((l1.length : Int) ≤ 4000) = false := decide_eq_false (by omega)
  have ng1 : decide (60 < l1.length) = true := decide_eq_true (by omega)
  have nl1 : decide (l1.length ≤ 4000) = false := decide_eq_false (by omega)
  have dg2 : decide ((60 : Int) < (l2.length : Int)) = true := decide_eq_true (by omega)
  have dl2 : decide ((l2.length : Int) ≤ 4000) = false := decide_eq_false (by omega)
  have ng2 : decide (60 < l2.length) = true := decide_eq_true (by omega)
  have nl2 : decide (l2.length ≤ 4000) = false := decide_eq_false (by omega)
  have hs2 : Sen a [2, 5] w := hs.sub (by decide)
  have EC := Lib.hid (fun (X : World) (hX : Below w.heap.size w X) => show Calls Tryd.prog 47 #[.slice (some ⟨X.heap.size, 0, none⟩) 1 1, .slice (some ⟨X.heap.size + 1, 0, none⟩) 1 1] ((X.alloc (.cells #[.int .i64 0, .int .i64 2] 96)).alloc (.cells #[.int .i64 2, .int .i64 3] 96)) (OnePost w) from const_walk a X w hX hs2)
  have HS1 := Lib.hid (fun X (hX : Below w.heap.size w X) => spans_walk r1 l1 c1 X hl1 (h1.below hX))
  have HS2 := Lib.hid (fun X (hX : Below w.heap.size w X) => spans_walk r2 l2 c2 X hl2 (h2.below hX))
  obtain ⟨k, hk⟩ : ∃ k, spE l1 l2 = k := ⟨_, rfl⟩
  obtain ⟨k2, hk2⟩ : ∃ k, spE l1 [] = k := ⟨_, rfl⟩
  have hk5 : k ≤ 5 := by rw [← hk]; exact spE_le _ _
  have hk25 : k2 ≤ 5 := by rw [← hk2]; exact spE_le _ _
  rw [hk] at hE
  obtain ⟨n, hn⟩ := long_any a l1 w hs2 (by omega)
  rw [hk2] at hn
  have LO := Lib.hid hn
  have BO := Lib.hid (fun (X : World) r1' r2' c1' c2' (hX : Below w.heap.size w X) (s1 : SpAt X r1' l1) (s2 : SpAt X r2' l2) => both_no a r1' r2' l1 l2 c1' c2' X (hs2.below hX) s1 s2 (by omega) (by omega) k (by rw [lsE_eq, hk]) hE)
  have EO := Lib.hid (fun (X : World) r1' r2' c1' c2' (hX : Below w.heap.size w X) (s1 : SpAt X r1' l1) (s2 : SpAt X r2' l2) => either_no a r1' r2' l1 l2 c1' c2' X (hs2.below hX) s1 s2 (by omega) (by omega) k (by rw [lsE_eq, hk]) hE)
  have UO := Lib.hid (fun (X : World) r1' r2' c1' c2' (hX : Below w.heap.size w X) (s1 : SpAt X r1' l1) (s2 : SpAt X r2' l2) => but_no a r1' r2' l1 l2 c1' c2' X (hs2.below hX) s1 s2 (by omega) (by omega) k (by rw [lsE_eq, hk]) hE)
  have SE1 := Lib.hid (fun (X : World) (hX : Below w.heap.size w X) => spansError_walk r1 r2 l1 l2 c1 c2 X (by omega) (by omega) (h1.below hX) (h2.below hX))
  have SE2 := Lib.hid (fun (X : World) (hX : Below w.heap.size w X) => show Calls Tryd.prog 52 #[.slice r1 l1.length c1, .slice none 0 0] X fun e w' => e = .returned (.int .i64 (spE l1 [] : Nat)) ∧ Below X.heap.size X w' from spansError_walk r1 none l1 [] c1 0 X (by omega) (by simp) (h1.below hX) (.inl rfl))
  rw [hk] at SE1
  rw [hk2] at SE2
  have C1 := Lib.hid (fun (X : World) (hX : Below w.heap.size w X) => coded_same a k (by omega) X (hs.below hX) (hh.below hX) hne)
  have C2 := Lib.hid (fun (X : World) (hX : Below w.heap.size w X) => coded_same a k2 (by omega) X (hs.below hX) (hh.below hX) hne)
  have hu := errV_pos a hE
  obtain ⟨V, hV⟩ : ∃ V, errV a k = V := ⟨_, rfl⟩
  rw [hu] at BO EO UO C1
  have dk0 : decide (0 < k) = true := decide_eq_true (by omega)
  have dk1 : decide ((0 : Int) < (k : Int)) = true := decide_eq_true (by omega)
  have g : Hid (Below w.heap.size w w) := Lib.hid (grow_refl w)
  clear hs hh hne hs2 h1 h2 hV hu hk hk2 hn q1 q2 hE hl1 hl2 hk5 hk25
  rcases errV_or a k2 with hv2 | ⟨u, hv2⟩
  all_goals
    rw [hv2] at LO C2
    clear hv2
    go_enter Tryd.func10, Tryd.ntmps10
    go_wp2_with (first
      | (go_at_call 47; (with_reducible refine (EC.out _ g.out).mono ?_); rintro e w1 ⟨rc, cc, rfl, hc, hb⟩; obtain ⟨bc, oc, rfl, hcc⟩ := hc.resolve_left (by simp); have hd3 := (hcc 0 (by decide)).2; replace g := Lib.hid hb; clear hb hc hcc)
      | (go_at_call 49; (with_reducible refine (HS1.out _ g.out).mono ?_); rintro e wX ⟨ra, ca, rfl, hsp, hb⟩; have SA := Lib.hid hsp; replace g := Lib.hid (grow_trans g.out hb); clear hb hsp)
      | (go_at_call 49; (with_reducible refine (HS2.out _ g.out).mono ?_); rintro e wY ⟨rb, cb, rfl, hsp, hb⟩; have SB := Lib.hid hsp; replace SA := Lib.hid (SA.out.below hb); replace g := Lib.hid (grow_trans g.out hb); clear hb hsp)
      | (go_at_call 48; (with_reducible refine (BO.out _ _ _ _ _ g.out SA.out SB.out).mono ?_); rintro e wZ ⟨rfl, hb⟩; replace g := Lib.hid (grow_trans g.out hb); clear hb SA SB)
      | (go_at_call 47; (with_reducible refine (EO.out _ _ _ _ _ g.out SA.out SB.out).mono ?_); rintro e wZ ⟨rfl, hb⟩; replace g := Lib.hid (grow_trans g.out hb); clear hb SA SB)
      | (go_at_call 50; (with_reducible refine (UO.out _ _ _ _ _ g.out SA.out SB.out).mono ?_); rintro e wZ ⟨rfl, hb⟩; replace g := Lib.hid (grow_trans g.out hb); clear hb SA SB)
      | (go_at_call 51; (with_reducible refine (LO.out _ _ _ g.out SA.out).mono ?_); rintro e wL ⟨rfl, hb⟩; replace g := Lib.hid (grow_trans g.out hb); clear hb SA)
      | (go_at_call 52; (with_reducible refine (SE1.out _ g.out).mono ?_); rintro e wE ⟨rfl, hb⟩; replace g := Lib.hid (grow_trans g.out hb); clear hb)
      | (go_at_call 52; (with_reducible refine (SE2.out _ g.out).mono ?_); rintro e wE ⟨rfl, hb⟩; replace g := Lib.hid (grow_trans g.out hb); clear hb)
      | (go_at_call 33; (with_reducible refine (C1.out _ g.out).mono ?_); rintro e wC ⟨rfl, hb⟩; replace g := Lib.hid (grow_trans g.out hb); clear hb)
      | (go_at_call 33; (with_reducible refine (C2.out _ g.out).mono ?_); rintro e wC ⟨rfl, hb⟩; replace g := Lib.hid (grow_trans g.out hb); clear hb))
    go_ret
    exact ⟨rfl, g.out⟩
end Go.Proofs.YtlfpfeidaohjmaaDoor
