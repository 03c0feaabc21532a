/- Spans that are joined: the three that join; what is in the result. -/
import Derived.Test.YtlfpfeidaohjmaaDoorEs18a
import Derived.Test.YtlfpfeidaohjmaaDoorEs18b
import Derived.Test.YtlfpfeidaohjmaaDoorEs18c
import Derived.Test.YtlfpfeidaohjmaaDoorEs12
set_option linter.unusedSimpArgs false
set_option linter.unusedVariables false
namespace Go.Proofs.YtlfpfeidaohjmaaDoor
open Go.RowKit Go.Grow

theorem join_facts (op : Bool → Bool → Bool) (h00 : op false false = false) (l1 l2 : List (Int × Int)) : Rise (joinL op l1 l2) ∧ (∀ z, inSp (joinL op l1 l2) z = op (inSp l1 z) (inSp l2 z)) ∧ (joinL op l1 l2).length ≤ l1.length * 2 + l2.length * 2 := by
  unfold joinL
  obtain ⟨hT, hM⟩ := at_spec (endsOf l1 ++ endsOf l2)
  have hL : (Lib.compact (srt (endsOf l1 ++ endsOf l2))).length ≤ l1.length * 2 + l2.length * 2 := by
    refine Nat.le_trans (compact_len _) ?_
    have e : (srt (endsOf l1 ++ endsOf l2)).length = (endsOf l1 ++ endsOf l2).length := by simp [srt]
    rw [e, List.length_append, endsOf_length, endsOf_length]
    exact Nat.le_refl _
  have hm : ∀ l, (∀ z ∈ endsOf l, z ∈ Lib.compact (srt (endsOf l1 ++ endsOf l2))) → ∀ s ∈ l, s.1 ∈ Lib.compact (srt (endsOf l1 ++ endsOf l2)) ∧ s.2 ∈ Lib.compact (srt (endsOf l1 ++ endsOf l2)) := fun l h s hs =>
    ⟨h _ (by unfold endsOf; rw [List.mem_flatMap]; exact ⟨s, hs, by simp⟩), h _ (by unfold endsOf; rw [List.mem_flatMap]; exact ⟨s, hs, by simp⟩)⟩
  have m1 := hm l1 fun z hz => hM z (List.mem_append_left _ hz)
  have m2 := hm l2 fun z hz => hM z (List.mem_append_right _ hz)
  refine ⟨?_, fun z => joined_in op h00 hT m1 m2 z, Nat.le_trans (joinUp_le _ _ _) (Nat.le_trans (Nat.sub_le _ _) hL)⟩
  by_cases h0 : 0 < (Lib.compact (srt (endsOf l1 ++ endsOf l2))).length
  · exact rise_of_P (join_spec _ _ hT _ (show _ - 1 < _ from Nat.sub_lt h0 (by decide))).1
  · have e : (Lib.compact (srt (endsOf l1 ++ endsOf l2))).length - 1 = 0 := by omega
    rw [e]
    exact fun k hk => absurd hk (by simp [joinUp])
set_option maxRecDepth 100000 in
set_option maxHeartbeats 8000000 in
theorem both_no (a : Nat → Addr) (r1 r2 : Option Addr) (l1 l2 : List (Int × Int)) (c1 c2 : Nat) (w : World) (hs : Sen a [2, 5] w) (h1 : SpAt w r1 l1) (h2 : SpAt w r2 l2) (hl1 : l1.length ≤ 9223372036854775807) (hl2 : l2.length ≤ 9223372036854775807) (k : Nat) (hk : lsE [⟨r1, l1, c1⟩, ⟨r2, l2, c2⟩] = k) (hE : k ≠ 0) :
    Calls Tryd.prog 48 #[.slice r1 l1.length c1, .slice r2 l2.length c2] w fun e w' => e = .returned (.tuple #[.slice none 0 0, errV a k]) ∧ Below w.heap.size w w' := by
  subst hk
  have J := Lib.hid (joined_no a (.func (.func 91) #[] #[]) r1 r2 l1 l2 c1 c2 w hs h1 h2 hl1 hl2 hE)
  have hu := errV_pos a hE
  rw [hu] at J ⊢
  clear hs h1 h2 hu hE
  go_enter Tryd.func48, Tryd.ntmps48
  go_wp2_with (go_at_call 89; (with_reducible refine J.out.mono ?_); rintro e w1 ⟨rfl, hb⟩; have HB := Lib.hid hb; clear hb)
  go_ret2
  exact ⟨rfl, HB.out⟩
set_option maxRecDepth 100000 in
set_option maxHeartbeats 8000000 in
theorem both_yes (a : Nat → Addr) (r1 r2 : Option Addr) (l1 l2 : List (Int × Int)) (c1 c2 : Nat) (w : World) (hs : Sen a [2, 5] w) (h1 : SpAt w r1 l1) (h2 : SpAt w r2 l2) (hE : lsE [⟨r1, l1, c1⟩, ⟨r2, l2, c2⟩] = 0) :
    Calls Tryd.prog 48 #[.slice r1 l1.length c1, .slice r2 l2.length c2] w (JPost (fun x y => x && y) l1 l2 w) := by
  have J := Lib.hid (joined_yesa a r1 r2 l1 l2 c1 c2 w hs h1 h2 hE)
  generalize (fun x y => x && y) = op at J ⊢
  clear hs h1 h2 hE
  go_enter Tryd.func48, Tryd.ntmps48
  go_wp2_with (go_at_call 89; (with_reducible refine J.out.mono ?_); rintro e w1 ⟨r, c, rfl, hx, hb⟩; have HX := Lib.hid hx; have HB := Lib.hid hb; clear hb hx)
  go_ret2
  exact ⟨r, c, rfl, HX.out, HB.out⟩
set_option maxRecDepth 100000 in
set_option maxHeartbeats 8000000 in
theorem either_no (a : Nat → Addr) (r1 r2 : Option Addr) (l1 l2 : List (Int × Int)) (c1 c2 : Nat) (w : World) (hs : Sen a [2, 5] w) (h1 : SpAt w r1 l1) (h2 : SpAt w r2 l2) (hl1 : l1.length ≤ 9223372036854775807) (hl2 : l2.length ≤ 9223372036854775807) (k : Nat) (hk : lsE [⟨r1, l1, c1⟩, ⟨r2, l2, c2⟩] = k) (hE : k ≠ 0) :
    Calls Tryd.prog 47 #[.slice r1 l1.length c1, .slice r2 l2.length c2] w fun e w' => e = .returned (.tuple #[.slice none 0 0, errV a k]) ∧ Below w.heap.size w w' := by
  subst hk
  have J := Lib.hid (joined_no a (.func (.func 90) #[] #[]) r1 r2 l1 l2 c1 c2 w hs h1 h2 hl1 hl2 hE)
  have hu := errV_pos a hE
  rw [hu] at J ⊢
  clear hs h1 h2 hu hE
  go_enter Tryd.func47, Tryd.ntmps47
  go_wp2_with (go_at_call 89; (with_reducible refine J.out.mono ?_); rintro e w1 ⟨rfl, hb⟩; have HB := Lib.hid hb; clear hb)
  go_ret2
  exact ⟨rfl, HB.out⟩
set_option maxRecDepth 100000 in
set_option maxHeartbeats 8000000 in
theorem either_yes (a : Nat → Addr) (r1 r2 : Option Addr) (l1 l2 : List (Int × Int)) (c1 c2 : Nat) (w : World) (hs : Sen a [2, 5] w) (h1 : SpAt w r1 l1) (h2 : SpAt w r2 l2) (hE : lsE [⟨r1, l1, c1⟩, ⟨r2, l2, c2⟩] = 0) :
    Calls Tryd.prog 47 #[.slice r1 l1.length c1, .slice r2 l2.length c2] w (JPost (fun x y => x || y) l1 l2 w) := by
  have J := Lib.hid (joined_yesb a r1 r2 l1 l2 c1 c2 w hs h1 h2 hE)
  generalize (fun x y => x || y) = op at J ⊢
  clear hs h1 h2 hE
  go_enter Tryd.func47, Tryd.ntmps47
  go_wp2_with (go_at_call 89; (with_reducible refine J.out.mono ?_); rintro e w1 ⟨r, c, rfl, hx, hb⟩; have HX := Lib.hid hx; have HB := Lib.hid hb; clear hb hx)
  go_ret2
  exact ⟨r, c, rfl, HX.out, HB.out⟩
set_option maxRecDepth 100000 in
set_option maxHeartbeats 8000000 in
theorem but_no (a : Nat → Addr) (r1 r2 : Option Addr) (l1 l2 : List (Int × Int)) (c1 c2 : Nat) (w : World) (hs : Sen a [2, 5] w) (h1 : SpAt w r1 l1) (h2 : SpAt w r2 l2) (hl1 : l1.length ≤ 9223372036854775807) (hl2 : l2.length ≤ 9223372036854775807) (k : Nat) (hk : lsE [⟨r1, l1, c1⟩, ⟨r2, l2, c2⟩] = k) (hE : k ≠ 0) :
    Calls Tryd.prog 50 #[.slice r1 l1.length c1, .slice r2 l2.length c2] w fun e w' => e = .returned (.tuple #[.slice none 0 0, errV a k]) ∧ Below w.heap.size w w' := by
  subst hk
  have J := Lib.hid (joined_no a (.func (.func 92) #[] #[]) r1 r2 l1 l2 c1 c2 w hs h1 h2 hl1 hl2 hE)
  have hu := errV_pos a hE
  rw [hu] at J ⊢
  clear hs h1 h2 hu hE
  go_enter Tryd.func50, Tryd.ntmps50
  go_wp2_with (go_at_call 89; (with_reducible refine J.out.mono ?_); rintro e w1 ⟨rfl, hb⟩; have HB := Lib.hid hb; clear hb)
  go_ret2
  exact ⟨rfl, HB.out⟩
set_option maxRecDepth 100000 in
set_option maxHeartbeats 8000000 in
theorem but_yes (a : Nat → Addr) (r1 r2 : Option Addr) (l1 l2 : List (Int × Int)) (c1 c2 : Nat) (w : World) (hs : Sen a [2, 5] w) (h1 : SpAt w r1 l1) (h2 : SpAt w r2 l2) (hE : lsE [⟨r1, l1, c1⟩, ⟨r2, l2, c2⟩] = 0) :
    Calls Tryd.prog 50 #[.slice r1 l1.length c1, .slice r2 l2.length c2] w (JPost (fun x y => x && !y) l1 l2 w) := by
  have J := Lib.hid (joined_yesc a r1 r2 l1 l2 c1 c2 w hs h1 h2 hE)
  generalize (fun x y => x && !y) = op at J ⊢
  clear hs h1 h2 hE
  go_enter Tryd.func50, Tryd.ntmps50
  go_wp2_with (go_at_call 89; (with_reducible refine J.out.mono ?_); rintro e w1 ⟨r, c, rfl, hx, hb⟩; have HX := Lib.hid hx; have HB := Lib.hid hb; clear hb hx)
  go_ret2
  exact ⟨r, c, rfl, HX.out, HB.out⟩
theorem lsE_eq (r1 r2 : Option Addr) (l1 l2 : List (Int × Int)) (c1 c2 : Nat) : lsE [⟨r1, l1, c1⟩, ⟨r2, l2, c2⟩] = spE l1 l2 := by
  unfold lsE spE longB rowsB
  simp only [List.any_cons, List.any_nil, List.all_cons, List.all_nil, Bool.or_false, Bool.and_true, Bool.or_eq_true, decide_eq_true_eq]
theorem lsE_one (r : Option Addr) (l : List (Int × Int)) (c : Nat) : lsE [⟨r, l, c⟩] = spE l [] := by
  unfold lsE spE longB rowsB
  have e : fineB [] = true := rfl
  simp only [List.any_cons, List.any_nil, List.all_cons, List.all_nil, Bool.or_false, Bool.and_true, decide_eq_true_eq, List.length_nil, e]
  simp
theorem spE_le (a b : List (Int × Int)) : spE a b ≤ 5 := by
  unfold spE
  split
  · omega
  · split <;> omega
theorem in_of_owns {w : World} {base n : Nat} {v : Value} {l : List Int} {e : TypeId} (h : w.ownsRow base e 1 v n (ivL l)) : ∃ r cap, v = .slice r l.length cap ∧ InAt w r l := by
  have hlen : n = l.length := by have := h.1; simp only [ivL, List.length_map] at this; omega
  subst hlen
  obtain ⟨hl, ⟨hv, hn⟩ | ⟨g, cap, cur, hv, hg⟩⟩ := h
  · exact ⟨none, 0, by rw [hv, hn], .inl (List.length_eq_zero_iff.1 hn)⟩
  · subst hv
    have hc := owns_cellsS (w := w) (base := base) (e := e) (size := 1) (g := g) (n := l.length) (cap := cap) (xs := ivL l) ⟨hl, .inr ⟨g, cap, cur, rfl, hg⟩⟩
    refine ⟨some ⟨g, 0, none⟩, cap, rfl, .inr ⟨g, 0, rfl, fun k hk => ?_⟩⟩
    rw [Nat.zero_add]
    exact hc k _ (by simp [ivL, hk])
theorem join_const : joinL (fun x y => x || y) [(0, 2)] [(2, 3)] = [(0, 3)] := by
  have e : srt (endsOf [(0, 2)] ++ endsOf [(2, 3)]) = [0, 2, 2, 3] := by
    show List.mergeSort [0, 2, 2, 3] _ = _
    exact List.mergeSort_of_pairwise (by decide)
  unfold joinL
  rw [e]
  decide
end Go.Proofs.YtlfpfeidaohjmaaDoor
