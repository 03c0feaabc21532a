/- EventAll: the law's walk. -/
import Derived.Test.YtlfpfeidaohjmaaDoorEa8
import Derived.Test.YtlfpfeidaohjmaaDoorEa4
import Derived.Test.YtlfpfeidaohjmaaDoorEb14
import Derived.Test.YtlfpfeidaohjmaaDoorEo2
import Derived.Test.YtlfpfeidaohjmaaDoorCs
import Derived.Test.YtlfpfeidaohjmaaDoorEc8
set_option linter.unusedSimpArgs false
set_option linter.unusedVariables false
namespace Go.Proofs.YtlfpfeidaohjmaaDoor
open Go.RowKit Go.Grow Go.Fl

set_option maxRecDepth 100000 in
set_option maxHeartbeats 16000000 in
theorem all_nil (a : Nat → Addr) (n x : Int) (w : World) (hs : Sen a [2, 3, 5] w) :
    Calls Tryd.prog 11 #[.pointer none, .int .i64 n, .int .i64 x] w fun e w' => e = .returned (.bool true) ∧ Below w.heap.size w w' := by
  have TK := Lib.hid (tracked_walk a w hs)
  clear hs
  go_enter Tryd.func11, Tryd.ntmps11
  go_wp2_with (go_at_call 56; (with_reducible refine TK.out.mono ?_); rintro e w1 ⟨rfl, hb⟩; have G := Lib.hid hb; clear hb)
  go_ret
  exact ⟨rfl, G.out⟩
set_option maxRecDepth 100000 in
set_option maxHeartbeats 16000000 in
theorem all_long (a : Nat → Addr) (b o : Nat) (F S : Int) (r : Option Addr) (c : Nat) (L : List Int) (n x : Int) (w : World) (hs : Sen a [2, 3, 5] w) (h : TrAt w b o F S r c L) (q1 : 300 < L.length ∧ L.length ≤ 4000) :
    Calls Tryd.prog 11 #[.pointer (some ⟨b, o, none⟩), .int .i64 n, .int .i64 x] w fun e w' => e = .returned (.bool true) ∧ Below w.heap.size w w' := by
  have TK := Lib.hid (tracked_walk a w hs)
  have T := Lib.hid h
  have n1 : (300 : Int) < L.length := by omega
  have n2 : (L.length : Int) ≤ 4000 := by omega
  have e1 : decide ((300 : Int) < L.length) = true := decide_eq_true n1
  have e2 : decide ((L.length : Int) ≤ 4000) = true := decide_eq_true n2
  clear hs h
  go_enter Tryd.func11, Tryd.ntmps11
  go_wp2_with (go_at_call 56; (with_reducible refine TK.out.mono ?_); rintro e w1 ⟨rfl, hb⟩; have G := Lib.hid hb; have d2 := (T.out.below hb).c2; have lb := (T.out.below hb).lt; clear hb)
  go_ret
  exact ⟨rfl, G.out⟩
set_option maxRecDepth 100000 in
set_option maxHeartbeats 16000000 in
theorem all_bad (a : Nat → Addr) (b o : Nat) (F S : Int) (r : Option Addr) (c : Nat) (L : List Int) (n x : Int) (w : World) (hs : Sen a allK w) (hh : Hand w) (hne : ∀ j ∈ allK, ∀ k ∈ allK, j ≠ k → a j ≠ a k) (h : TrAt w b o F S r c L) (hnil : r = none → c = 0) (hl : L.length * 8 ≤ 140737488355328) (hl1 : ¬ (300 < L.length ∧ L.length ≤ 4000)) (hW : winE F S L n ≠ 0) :
    Calls Tryd.prog 11 #[.pointer (some ⟨b, o, none⟩), .int .i64 n, .int .i64 x] w fun e w' => e = .returned (.bool true) ∧ Below w.heap.size w w' := by
  have hs3 : Sen a [2, 3, 5] w := hs.sub (by decide)
  have TK := Lib.hid (tracked_walk a w hs3)
  have LG := Lib.hid (fun X => large_walk n X)
  have CP := Lib.hid (fun X (hX : Below w.heap.size w X) => track_walk b o F S r c L X hl (h.below hX) hnil)
  have EW := Lib.hid (fun X r1 c1 (hX : Below w.heap.size w X) (hi : InAt X r1 L) => events_bad a F S r1 c1 L n X (hs3.below hX) (by omega) hi hW)
  have FW := Lib.hid (fun X r1 c1 (hX : Below w.heap.size w X) (hi : InAt X r1 L) => first_bad a F S r1 c1 L n x X (hs3.below hX) (by omega) hi hW)
  have TE := Lib.hid (fun X (hX : Below w.heap.size w X) => trackError_walk b o F S r c L X (by omega) (h.below hX))
  have T := Lib.hid h
  unfold WbPost at EW
  unfold FstPost zeroE at FW
  have C1 := Lib.hid (fun (X : World) (hX : Below w.heap.size w X) => coded_same a (winE F S L n) (by have := winE_le F S L n; omega) X (hs.below hX) (hh.below hX) hne)
  obtain ⟨V, hV⟩ : ∃ V, errV a (winE F S L n) = V := ⟨_, rfl⟩
  rw [hV] at EW FW C1
  by_cases h1 : trE F S L = 0
  · have h2 : bigH n = true := by
      unfold winE at hW
      rw [if_neg (by simpa using h1)] at hW
      by_cases h : bigH n = true
      · exact h
      · simp [h] at hW
    have hE : winE F S L n = 5 := by unfold winE; rw [if_neg (by simpa using h1), if_pos h2]
    rw [hE, show ((5 : Nat) : Int) = 5 from rfl] at C1
    rw [h1] at TE
    rw [h2] at LG
    clear hs hh hne hs3 h hnil hW hV hE h1 h2
    by_cases n1 : (300 : Int) < L.length
    · have n2 : ¬ (L.length : Int) ≤ 4000 := by omega
      have e1 : decide ((300 : Int) < L.length) = true := decide_eq_true n1
      have e2 : decide ((L.length : Int) ≤ 4000) = false := decide_eq_false n2
      go_enter Tryd.func11, Tryd.ntmps11
      go_wp2_with (first
        | (go_at_call 56; (with_reducible refine TK.out.mono ?_); rintro e w1 ⟨rfl, hb⟩; have G := Lib.hid hb; have d2 := (T.out.below hb).c2; have lb := (T.out.below hb).lt; clear hb)
        | (go_at_call 57; (with_reducible refine (CP.out _ G.out).mono ?_); rintro e w3 ⟨r1, k1, rfl, hi, hb⟩; have IN := Lib.hid hi; replace G := Lib.hid (grow_trans G.out hb); clear hb hi)
        | (go_at_call 58; (with_reducible refine (EW.out _ _ _ G.out IN.out).mono ?_); rintro e w4 ⟨rfl, hb⟩; replace G := Lib.hid (grow_trans G.out hb); clear hb IN)
        | (go_at_call 59; (with_reducible refine (FW.out _ _ _ G.out IN.out).mono ?_); rintro e w5 ⟨rfl, hb⟩; replace G := Lib.hid (grow_trans G.out hb); clear hb IN)
        | (go_at_call 60; (with_reducible refine (TE.out _ (grow_alloc G.out _)).mono ?_); rintro e w6 ⟨rfl, hb⟩; have KF := Lib.hid ((Known.new w5 #[.int .i64 0, .int .i64 0, .int .i64 0] 115).below hb); replace G := Lib.hid (grow_trans (grow_alloc G.out _) hb); clear hb)
        | (go_at_call 61; (with_reducible refine (LG.out _).mono ?_); rintro e w7 ⟨rfl, rfl⟩)
        | (go_at_call 33; (with_reducible refine (C1.out _ G.out).mono ?_); rintro e w8 ⟨rfl, hb⟩; replace G := Lib.hid (grow_trans G.out hb); replace KF := Lib.hid (KF.out.below hb); clear hb; (try clear k0 k1 k2 kl); have k0 := KF.out.cell 0; have k1 := KF.out.cell 1; have k2 := KF.out.cell 2; have kl := KF.out.lt))
      go_ret
      exact ⟨by first | rfl | simp | trace_state, G.out⟩
    · have e1 : decide ((300 : Int) < L.length) = false := decide_eq_false n1
      go_enter Tryd.func11, Tryd.ntmps11
      go_wp2_with (first
        | (go_at_call 56; (with_reducible refine TK.out.mono ?_); rintro e w1 ⟨rfl, hb⟩; have G := Lib.hid hb; have d2 := (T.out.below hb).c2; have lb := (T.out.below hb).lt; clear hb)
        | (go_at_call 57; (with_reducible refine (CP.out _ G.out).mono ?_); rintro e w3 ⟨r1, k1, rfl, hi, hb⟩; have IN := Lib.hid hi; replace G := Lib.hid (grow_trans G.out hb); clear hb hi)
        | (go_at_call 58; (with_reducible refine (EW.out _ _ _ G.out IN.out).mono ?_); rintro e w4 ⟨rfl, hb⟩; replace G := Lib.hid (grow_trans G.out hb); clear hb IN)
        | (go_at_call 59; (with_reducible refine (FW.out _ _ _ G.out IN.out).mono ?_); rintro e w5 ⟨rfl, hb⟩; replace G := Lib.hid (grow_trans G.out hb); clear hb IN)
        | (go_at_call 60; (with_reducible refine (TE.out _ (grow_alloc G.out _)).mono ?_); rintro e w6 ⟨rfl, hb⟩; have KF := Lib.hid ((Known.new w5 #[.int .i64 0, .int .i64 0, .int .i64 0] 115).below hb); replace G := Lib.hid (grow_trans (grow_alloc G.out _) hb); clear hb)
        | (go_at_call 61; (with_reducible refine (LG.out _).mono ?_); rintro e w7 ⟨rfl, rfl⟩)
        | (go_at_call 33; (with_reducible refine (C1.out _ G.out).mono ?_); rintro e w8 ⟨rfl, hb⟩; replace G := Lib.hid (grow_trans G.out hb); replace KF := Lib.hid (KF.out.below hb); clear hb; (try clear k0 k1 k2 kl); have k0 := KF.out.cell 0; have k1 := KF.out.cell 1; have k2 := KF.out.cell 2; have kl := KF.out.lt))
      go_ret
      exact ⟨by first | rfl | simp | trace_state, G.out⟩
  · have hE : winE F S L n = trE F S L := by unfold winE; rw [if_pos h1]
    rw [hE] at C1
    have k0' : 0 < trE F S L := by omega
    generalize trE F S L = k at TE C1 k0'
    generalize bigH n = bg at LG
    have k1' : ¬ ((k : Int) = 0) := by omega
    have k2' : (0 : Int) < k := by omega
    clear hs hh hne hs3 h hnil hW hV hE h1
    by_cases n1 : (300 : Int) < L.length
    · have n2 : ¬ (L.length : Int) ≤ 4000 := by omega
      have e1 : decide ((300 : Int) < L.length) = true := decide_eq_true n1
      have e2 : decide ((L.length : Int) ≤ 4000) = false := decide_eq_false n2
      go_enter Tryd.func11, Tryd.ntmps11
      go_wp2_with (first
        | (go_at_call 56; (with_reducible refine TK.out.mono ?_); rintro e w1 ⟨rfl, hb⟩; have G := Lib.hid hb; have d2 := (T.out.below hb).c2; have lb := (T.out.below hb).lt; clear hb)
        | (go_at_call 57; (with_reducible refine (CP.out _ G.out).mono ?_); rintro e w3 ⟨r1, k1, rfl, hi, hb⟩; have IN := Lib.hid hi; replace G := Lib.hid (grow_trans G.out hb); clear hb hi)
        | (go_at_call 58; (with_reducible refine (EW.out _ _ _ G.out IN.out).mono ?_); rintro e w4 ⟨rfl, hb⟩; replace G := Lib.hid (grow_trans G.out hb); clear hb IN)
        | (go_at_call 59; (with_reducible refine (FW.out _ _ _ G.out IN.out).mono ?_); rintro e w5 ⟨rfl, hb⟩; replace G := Lib.hid (grow_trans G.out hb); clear hb IN)
        | (go_at_call 60; (with_reducible refine (TE.out _ (grow_alloc G.out _)).mono ?_); rintro e w6 ⟨rfl, hb⟩; have KF := Lib.hid ((Known.new w5 #[.int .i64 0, .int .i64 0, .int .i64 0] 115).below hb); replace G := Lib.hid (grow_trans (grow_alloc G.out _) hb); clear hb)
        | (go_at_call 61; (with_reducible refine (LG.out _).mono ?_); rintro e w7 ⟨rfl, rfl⟩)
        | (go_at_call 33; (with_reducible refine (C1.out _ G.out).mono ?_); rintro e w8 ⟨rfl, hb⟩; replace G := Lib.hid (grow_trans G.out hb); replace KF := Lib.hid (KF.out.below hb); clear hb; (try clear k0 k1 k2 kl); have k0 := KF.out.cell 0; have k1 := KF.out.cell 1; have k2 := KF.out.cell 2; have kl := KF.out.lt))
      go_ret
      exact ⟨by first | rfl | simp | trace_state, G.out⟩
    · have e1 : decide ((300 : Int) < L.length) = false := decide_eq_false n1
      go_enter Tryd.func11, Tryd.ntmps11
      go_wp2_with (first
        | (go_at_call 56; (with_reducible refine TK.out.mono ?_); rintro e w1 ⟨rfl, hb⟩; have G := Lib.hid hb; have d2 := (T.out.below hb).c2; have lb := (T.out.below hb).lt; clear hb)
        | (go_at_call 57; (with_reducible refine (CP.out _ G.out).mono ?_); rintro e w3 ⟨r1, k1, rfl, hi, hb⟩; have IN := Lib.hid hi; replace G := Lib.hid (grow_trans G.out hb); clear hb hi)
        | (go_at_call 58; (with_reducible refine (EW.out _ _ _ G.out IN.out).mono ?_); rintro e w4 ⟨rfl, hb⟩; replace G := Lib.hid (grow_trans G.out hb); clear hb IN)
        | (go_at_call 59; (with_reducible refine (FW.out _ _ _ G.out IN.out).mono ?_); rintro e w5 ⟨rfl, hb⟩; replace G := Lib.hid (grow_trans G.out hb); clear hb IN)
        | (go_at_call 60; (with_reducible refine (TE.out _ (grow_alloc G.out _)).mono ?_); rintro e w6 ⟨rfl, hb⟩; have KF := Lib.hid ((Known.new w5 #[.int .i64 0, .int .i64 0, .int .i64 0] 115).below hb); replace G := Lib.hid (grow_trans (grow_alloc G.out _) hb); clear hb)
        | (go_at_call 61; (with_reducible refine (LG.out _).mono ?_); rintro e w7 ⟨rfl, rfl⟩)
        | (go_at_call 33; (with_reducible refine (C1.out _ G.out).mono ?_); rintro e w8 ⟨rfl, hb⟩; replace G := Lib.hid (grow_trans G.out hb); replace KF := Lib.hid (KF.out.below hb); clear hb; (try clear k0 k1 k2 kl); have k0 := KF.out.cell 0; have k1 := KF.out.cell 1; have k2 := KF.out.cell 2; have kl := KF.out.lt))
      go_ret
      exact ⟨by first | rfl | simp | trace_state, G.out⟩
end Go.Proofs.YtlfpfeidaohjmaaDoor
/- EventAll: the law's walk at a right track and level, and whatever comes in. -/
set_option linter.unusedSimpArgs false
set_option linter.unusedVariables false
namespace Go.Proofs.YtlfpfeidaohjmaaDoor
open Go.RowKit Go.Grow Go.Fl

theorem firstI_succ (x : Int) (l : List Ev) (k : Nat) (h : k < l.length) : firstI x (l.take (k + 1)) = if 0 ≤ firstI x (l.take k) then firstI x (l.take k) else if isFirst x l[k] then (k : Int) else -1 := by
  rw [List.take_succ_eq_append_getElem h]
  unfold firstI
  rw [List.findIdx?_append]
  cases hf : (l.take k).findIdx? (isFirst x) with
  | some i => simp
  | none =>
    simp only [Option.or, List.findIdx?_singleton]
    by_cases h2 : isFirst x l[k] = true
    · rw [h2]; simp; omega
    · have h3 : isFirst x l[k] = false := by simpa using h2
      rw [h3]; simp
theorem EvRow.cells {w : World} {v : Value} {l : List Ev} (h : EvRow w v l) {k : Nat} (hk : k < l.length) : ∃ g cap, v = .slice (some ⟨g, 0, none⟩) l.length cap ∧ g < w.heap.size ∧ w.cell? ⟨g, k * 3, none⟩ = some (.int .i64 l[k].k) ∧ w.cell? ⟨g, k * 3 + 1, none⟩ = some (.int .i64 l[k].at') ∧ w.cell? ⟨g, k * 3 + 2, none⟩ = some (.int .i64 l[k].ix) := by
  obtain ⟨g, cap, h1, h2, h3, h4, h5⟩ := h.resolve_left (by rintro ⟨_, h⟩; rw [h] at hk; exact absurd hk (by simp))
  obtain ⟨e0, e1, e2⟩ := evL_get l k hk
  exact ⟨g, cap, h1, h4, h5 _ _ e0, h5 _ _ e1, h5 _ _ e2⟩
theorem EvRow.shape {w : World} {v : Value} {l : List Ev} (h : EvRow w v l) : ∃ r cap, v = .slice r l.length cap := by
  rcases h with ⟨rfl, rfl⟩ | ⟨g, cap, rfl, _⟩
  · exact ⟨none, 0, rfl⟩
  · exact ⟨_, _, rfl⟩
set_option maxRecDepth 100000 in
set_option maxHeartbeats 32000000 in
theorem all_good (a : Nat → Addr) (b o : Nat) (F S : Int) (r : Option Addr) (c : Nat) (L : List Int) (n x : Int) (w : World) (hs : Sen a allK w) (hh : Hand w) (hne : ∀ j ∈ allK, ∀ k ∈ allK, j ≠ k → a j ≠ a k) (h : TrAt w b o F S r c L) (hnil : r = none → c = 0) (hl1 : L.length ≤ 300) (hW : winE F S L n = 0) :
    Calls Tryd.prog 11 #[.pointer (some ⟨b, o, none⟩), .int .i64 n, .int .i64 x] w fun e w' => e = .returned (.bool true) ∧ Below w.heap.size w w' := by
  have hE : trE F S L = 0 ∧ bigH n = false := by
    unfold winE at hW
    by_cases h1 : trE F S L = 0
    · rw [if_neg (by simpa using h1)] at hW
      refine ⟨h1, ?_⟩
      cases hb : bigH n
      · rfl
      · rw [hb] at hW; simp at hW
    · rw [if_pos h1] at hW; exact absurd hW h1
  obtain ⟨h0, hb⟩ := hE
  have FT := fit_of h0
  obtain ⟨T, rfl⟩ : ∃ T : Nat, S = (T : Int) := ⟨S.toNat, by have := FT.s; omega⟩
  have FTH := Lib.hid FT
  have hn1 : -1099511627776 ≤ n ∧ n ≤ 1099511627776 := by
    unfold bigH at hb
    simp at hb
    omega
  have hs3 : Sen a [2, 3, 5] w := hs.sub (by decide)
  have TK := Lib.hid (tracked_walk a w hs3)
  have LG := Lib.hid (fun X => large_walk n X)
  rw [hb] at LG
  have CP := Lib.hid (fun X (hX : Below w.heap.size w X) => track_walk b o F T r c L X (by omega) (h.below hX) hnil)
  have EW := Lib.hid (fun X r1 c1 (hX : Below w.heap.size w X) (hi : InAt X r1 L) => events_walk a F T r1 c1 L n X (hs3.below hX) (by omega) hi h0 hb)
  have FW := Lib.hid (fun X r1 c1 (hX : Below w.heap.size w X) (hi : InAt X r1 L) => first_walk a F T r1 c1 L n x X (hs3.below hX) (by omega) hi h0 hb)
  have TE := Lib.hid (fun X (hX : Below w.heap.size w X) => show Calls Tryd.prog 60 #[.pointer (some ⟨b, o, none⟩)] X fun e w' => e = .returned (.int .i64 0) ∧ Below X.heap.size X w' from by
    have h := trackError_walk b o F T r c L X (by omega) (h.below hX)
    rw [h0] at h
    exact h)
  have OW := Lib.hid (fun X (hX : Below w.heap.size w X) => eventsOf_walk b o F T r c L n X FTH.out (h.below hX) hn1.1 hn1.2)
  have C1 := Lib.hid (fun (X : World) (hX : Below w.heap.size w X) => show Calls Tryd.prog 33 #[.nilIface, .int .i64 0] X fun e w' => e = .returned (.bool true) ∧ Below X.heap.size X w' from coded_same a 0 (by omega) X (hs.below hX) (hh.below hX) hne)
  unfold EvsPost at EW
  unfold FstPost at FW
  rw [errV_zero] at FW
  unfold AllPost at OW
  have HT := Lib.hid h
  have n1 : ¬ (300 : Int) < L.length := by omega
  have e1 : decide ((300 : Int) < L.length) = false := decide_eq_false n1
  have hlen : (allE F T n L).length ≤ 100000 := by
    have := foundE_len F T n L
    unfold allE
    rw [sortE_length]
    omega
  generalize allE F T n L = l at EW FW OW hlen
  have FE := Lib.hid (show firstE x l = if 0 ≤ firstI x l then (l.getD (firstI x l).toNat zeroE, true) else (zeroE, false) from rfl)
  obtain ⟨FV, hfe⟩ : ∃ FV, firstE x l = FV := ⟨_, rfl⟩
  obtain ⟨⟨fk, fa, fx⟩, fb⟩ := FV
  rw [hfe] at FW FE
  simp only at FW
  have FI := Lib.hid (firstI_lt x l)
  have FS := Lib.hid (firstI_succ x l)
  clear hs hh hne h hnil hW h0 hb hs3 hfe
  go_enter Tryd.func11, Tryd.ntmps11
  go_wp2_with (first
    | (go_at_call 56; (with_reducible refine TK.out.mono ?_); rintro e w1 ⟨rfl, hb⟩; have G := Lib.hid hb; have d2 := (HT.out.below hb).c2; have lb := (HT.out.below hb).lt; clear hb)
    | (go_at_call 57; (with_reducible refine (CP.out _ G.out).mono ?_); rintro e w3 ⟨r1, k1, rfl, hi, hb⟩; have IN := Lib.hid hi; replace G := Lib.hid (grow_trans G.out hb); (try replace ER := Lib.hid (ER.out.below hb)); clear hb hi)
    | (go_at_call 58; (with_reducible refine (EW.out _ _ _ G.out IN.out).mono ?_); rintro e w4 ⟨v4, rfl, ho, hb⟩; have ER := Lib.hid (EvRow.of_owns ho); obtain ⟨rE, cE, rfl⟩ := ER.out.shape; replace G := Lib.hid (grow_trans G.out hb); clear hb IN ho d2 lb)
    | (go_at_call 59; (with_reducible refine (FW.out _ _ _ G.out IN.out).mono ?_); rintro e w5 ⟨rfl, hb⟩; replace ER := Lib.hid (ER.out.below hb); replace G := Lib.hid (grow_trans G.out hb); clear hb IN)
    | (go_at_call 60; (with_reducible refine (TE.out _ (grow_alloc G.out _)).mono ?_); rintro e w6 ⟨rfl, hb⟩; have KF := Lib.hid ((Known.new w5 #[.int .i64 fk, .int .i64 fa, .int .i64 fx] 115).below hb); replace ER := Lib.hid ((ER.out.below (grow_alloc (grow_refl _) _)).below hb); replace G := Lib.hid (grow_trans (grow_alloc G.out _) hb); clear hb)
    | (go_at_call 61; (with_reducible refine (LG.out _).mono ?_); rintro e w7 ⟨rfl, rfl⟩)
    | (go_at_call 33; (with_reducible refine (C1.out _ G.out).mono ?_); rintro e w8 ⟨rfl, hb⟩; replace ER := Lib.hid (ER.out.below hb); replace G := Lib.hid (grow_trans G.out hb); replace KF := Lib.hid (KF.out.below hb); clear hb)
    | (go_at_call 62; (with_reducible refine (OW.out _ G.out).mono ?_); rintro e w9 ⟨v9, rfl, ho, hb⟩; have RR := Lib.hid (EvRow.of_owns ho); obtain ⟨rR, cR, rfl⟩ := RR.out.shape; replace ER := Lib.hid (ER.out.below hb); replace G := Lib.hid (grow_trans G.out hb); replace KF := Lib.hid (KF.out.below hb); clear hb ho))
  obtain ⟨B5, hB5⟩ : ∃ B5, w5.heap.size = B5 := ⟨_, rfl⟩
  rw [hB5] at KF ⊢
  clear hB5
  go_loopw [18, 19] (fun v18 v19 wr => ∃ i : Nat, i ≤ l.length ∧ v19 = .int .i64 i ∧ v18 = .int .i64 (firstI x (l.take i)) ∧ Below w9.heap.size w9 wr) (fun _ v _ => l.length - (intOf v).toNat)
  case atStart => exact ⟨0, Nat.zero_le _, rfl, rfl, Below.refl _ _⟩
  case round =>
    obtain ⟨i, hi, rfl, rfl, hg⟩ := hrel
    have G1 := Lib.hid hg
    clear hg
    have GG := Lib.hid (grow_trans G.out G1.out)
    by_cases hlt : i < l.length
    · obtain ⟨gE, cE', hvE, hgE, p0, p1, p2⟩ := (ER.out.below G1.out).cells hlt
      obtain ⟨rfl, rfl⟩ : rE = some ⟨gE, 0, none⟩ ∧ cE = cE' := by simpa using hvE
      obtain ⟨gR, cR', hvR, hgR, q0, q1, q2⟩ := (RR.out.below G1.out).cells hlt
      obtain ⟨rfl, rfl⟩ : rR = some ⟨gR, 0, none⟩ ∧ cR = cR' := by simpa using hvR
      have hi0 : (0 : Int) ≤ (i : Int) := by omega
      have hi1 : (i : Int) < (l.length : Int) := by omega
      have FK := Lib.hid (FS.out i hlt)
      clear hvE hvR
      generalize l[i] = y at p0 p1 p2 q0 q1 q2 FK
      obtain ⟨yk, ya, yx⟩ := y
      simp only at p0 p1 p2 q0 q1 q2
      unfold isFirst at FK
      simp only at FK
      have FL := firstI_lt x (l.take i)
      generalize firstI x (l.take i) = fi at FK FL ⊢
      obtain ⟨fl1, fl2⟩ := FL
      by_cases hf : 0 ≤ fi
      · have d1 : decide (fi < 0) = false := decide_eq_false (by omega)
        go_wp2
        go_quiet (fail)
        go_wp2
        go_roundw
        case rel =>
          refine ⟨i + 1, by omega, by go_num, ?_, grow_drewN G1.out _⟩
          rw [FK.out, if_pos hf]
        case measure => simp [intOf]; omega
      · by_cases hy : yk ≤ 2
        · by_cases hx : x ≤ ya
          · have d1 : decide (fi < 0) = true := decide_eq_true (by omega)
            have d2 : decide (yk ≤ 2) = true := decide_eq_true (by omega)
            have d3 : decide (x ≤ ya) = true := decide_eq_true (by omega)
            go_wp2
            go_quiet (fail)
            go_wp2
            go_roundw
            case rel =>
              refine ⟨i + 1, by omega, by go_num, ?_, grow_drewN G1.out _⟩
              rw [FK.out, if_neg (by omega), d2, d3, Bool.true_and, if_pos rfl]
            case measure => simp [intOf]; omega
          · obtain rfl : fi = -1 := by omega
            have d2 : decide (yk ≤ 2) = true := decide_eq_true (by omega)
            have d3 : decide (x ≤ ya) = false := decide_eq_false (by omega)
            go_wp2
            go_quiet (fail)
            go_wp2
            go_roundw
            case rel =>
              refine ⟨i + 1, by omega, by go_num, ?_, grow_drewN G1.out _⟩
              rw [FK.out, if_neg (by omega), d2, d3, Bool.and_false, if_neg (by simp)]
            case measure => simp [intOf]; omega
        · obtain rfl : fi = -1 := by omega
          have d2 : decide (yk ≤ 2) = false := decide_eq_false (by omega)
          go_wp2
          go_quiet (fail)
          go_wp2
          go_roundw
          case rel =>
            refine ⟨i + 1, by omega, by go_num, ?_, grow_drewN G1.out _⟩
            rw [FK.out, if_neg (by omega), d2, Bool.false_and, if_neg (by simp)]
          case measure => simp [intOf]; omega
    · obtain rfl : i = l.length := by omega
      have KX := Lib.hid (KF.out.below G1.out)
      have k0 := KX.out.cell 0
      have k1 := KX.out.cell 1
      have k2 := KX.out.cell 2
      have kl := KX.out.lt
      rw [List.take_length]
      obtain ⟨fi, hfi⟩ : ∃ fi, firstI x l = fi := ⟨_, rfl⟩
      rw [hfi] at FE FI ⊢
      clear hfi
      obtain ⟨fl1, fl2⟩ := FI.out
      by_cases hf : 0 ≤ fi
      · have hz : ¬ fi < 0 := by omega
        obtain ⟨k, rfl⟩ : ∃ k : Nat, fi = (k : Int) := ⟨fi.toNat, by omega⟩
        have hk : k < l.length := by omega
        have hi0 : (0 : Int) ≤ (k : Int) := by omega
        have hi1 : (k : Int) < (l.length : Int) := by omega
        obtain ⟨gE, cE', hvE, hgE, p0, p1, p2⟩ := (ER.out.below G1.out).cells hk
        obtain ⟨rfl, rfl⟩ : rE = some ⟨gE, 0, none⟩ ∧ cE = cE' := by simpa using hvE
        have FE2 := FE.out
        rw [if_pos hf, Int.toNat_natCast, show l.getD k zeroE = l[k] by simp [hk]] at FE2
        clear hvE
        generalize l[k] = y at p0 p1 p2 FE2
        obtain ⟨yk, ya, yx⟩ := y
        simp only [Prod.mk.injEq, Ev.mk.injEq] at FE2 p0 p1 p2
        obtain ⟨⟨rfl, rfl, rfl⟩, rfl⟩ := FE2
        go_wp2
        go_quiet (fail)
        go_wp2
        go_ret
        exact ⟨by first | rfl | simp, grow_trans GG.out (grow_drewN (grow_refl _) _)⟩
      · have hz : fi < 0 := by omega
        have FE2 := FE.out
        rw [if_neg hf] at FE2
        unfold zeroE at FE2
        simp only [Prod.mk.injEq, Ev.mk.injEq] at FE2
        obtain ⟨⟨rfl, rfl, rfl⟩, rfl⟩ := FE2
        go_wp2
        go_ret
        exact ⟨by first | rfl | simp, GG.out⟩
set_option maxHeartbeats 4000000 in
/-- Whatever comes in. -/
theorem all_walk (a : Nat → Addr) (q : Option Addr) (n x : Int) (w : World) (hs : Sen a allK w) (hh : Hand w) (hne : ∀ j ∈ allK, ∀ k ∈ allK, j ≠ k → a j ≠ a k) (hq : TrkArg2 w q) :
    Calls Tryd.prog 11 #[.pointer q, .int .i64 n, .int .i64 x] w fun e w' => e = .returned (.bool true) ∧ Below w.heap.size w w' := by
  rcases hq with rfl | ⟨b, o, F, S, r, c, L, rfl, hT, hl, hn⟩
  · exact all_nil a n x w (hs.sub (by decide))
  · by_cases q1 : 300 < L.length ∧ L.length ≤ 4000
    · exact all_long a b o F S r c L n x w (hs.sub (by decide)) hT q1
    · by_cases hW : winE F S L n = 0
      · refine all_good a b o F S r c L n x w hs hh hne hT hn ?_ hW
        have h0 : trE F S L = 0 := by
          unfold winE at hW
          by_cases h : trE F S L = 0
          · exact h
          · rw [if_pos h] at hW; exact hW
        have := (fit_of h0).most
        omega
      · exact all_bad a b o F S r c L n x w hs hh hne hT hn hl q1 hW
end Go.Proofs.YtlfpfeidaohjmaaDoor
