/- EventHeights: the law's walk. -/
import Derived.Test.YtlfpfeidaohjmaaDoorEb14
import Derived.Test.YtlfpfeidaohjmaaDoorTo
import Derived.Test.YtlfpfeidaohjmaaDoorCs
set_option linter.unusedSimpArgs false
set_option linter.unusedVariables false
namespace Go.Proofs.YtlfpfeidaohjmaaDoor
open Go.RowKit Go.Grow Go.Fl

theorem trE_le (F S : Int) (L : List Int) : trE F S L ≤ 5 := by
  unfold trE
  split
  · omega
  · split
    · split <;> omega
    · omega
theorem hAt_le (F S : Int) (L : List Int) (x : Int) : (hAt F S L x).2 ≤ 5 := by
  unfold hAt
  split
  · exact trE_le F S L
  · split
    · show 3 ≤ 5; omega
    · show 0 ≤ 5; omega
set_option maxRecDepth 100000 in
set_option maxHeartbeats 8000000 in
theorem heights_nil (a : Nat → Addr) (x : Int) (w : World) (hs : Sen a [2, 3, 5] w) :
    Calls Tryd.prog 12 #[.pointer none, .int .i64 x] w fun e w' => e = .returned (.bool true) ∧ Below w.heap.size w w' := by
  have TK := Lib.hid (tracked_walk a w hs)
  clear hs
  go_enter Tryd.func12, Tryd.ntmps12
  go_wp2_with (go_at_call 56; (with_reducible refine TK.out.mono ?_); rintro e w1 ⟨rfl, hb⟩; have G := Lib.hid hb; clear hb)
  go_ret
  exact ⟨rfl, G.out⟩
set_option maxRecDepth 100000 in
set_option maxHeartbeats 8000000 in
theorem heights_long (a : Nat → Addr) (b o : Nat) (F S : Int) (r : Option Addr) (c : Nat) (L : List Int) (x : Int) (w : World) (hs : Sen a [2, 3, 5] w) (h : TrAt w b o F S r c L) (hl : 4002 < L.length) :
    Calls Tryd.prog 12 #[.pointer (some ⟨b, o, none⟩), .int .i64 x] w fun e w' => e = .returned (.bool true) ∧ Below w.heap.size w w' := by
  have TK := Lib.hid (tracked_walk a w hs)
  have T := Lib.hid h
  have hl2 : (4002 : Int) < L.length := by omega
  have hl3 : decide ((4002 : Int) < L.length) = true := decide_eq_true hl2
  clear hs h
  go_enter Tryd.func12, Tryd.ntmps12
  go_wp2_with (go_at_call 56; (with_reducible refine TK.out.mono ?_); rintro e w1 ⟨rfl, hb⟩; have G := Lib.hid hb; have d2 := (T.out.below hb).c2; have lb := (T.out.below hb).lt; clear hb)
  go_ret
  exact ⟨rfl, G.out⟩
set_option maxRecDepth 100000 in
set_option maxHeartbeats 16000000 in
theorem heights_main (a : Nat → Addr) (b o : Nat) (F S : Int) (r : Option Addr) (c : Nat) (L : List Int) (x : Int) (w : World) (hs : Sen a allK w) (hh : Hand w) (hne : ∀ j ∈ allK, ∀ k ∈ allK, j ≠ k → a j ≠ a k) (h : TrAt w b o F S r c L) (hnil : r = none → c = 0) (hl : L.length ≤ 4002) :
    Calls Tryd.prog 12 #[.pointer (some ⟨b, o, none⟩), .int .i64 x] w fun e w' => e = .returned (.bool true) ∧ Below w.heap.size w w' := by
  have hs3 : Sen a [2, 3, 5] w := hs.sub (by decide)
  have TK := Lib.hid (tracked_walk a w hs3)
  have CP := Lib.hid (fun X (hX : Below w.heap.size w X) => track_walk b o F S r c L X hl (h.below hX) hnil)
  have AW := Lib.hid (fun X r1 c1 (hX : Below w.heap.size w X) (hi : InAt X r1 L) => at_walk a F S r1 L c1 x X (hs3.below hX) (by omega) hi)
  have VW := Lib.hid (fun X r1 c1 (hX : Below w.heap.size w X) (hi : InAt X r1 L) => valid_walk a F S r1 L c1 X (hs3.below hX) (by omega) hi)
  have HW := Lib.hid (fun X (hX : Below w.heap.size w X) => heightAt_walk b o F S r c L x X (by omega) (h.below hX))
  have TE := Lib.hid (fun X (hX : Below w.heap.size w X) => trackError_walk b o F S r c L X (by omega) (h.below hX))
  have T := Lib.hid h
  have hle := hAt_le F S L x
  have hte := trE_le F S L
  unfold HPost at HW
  unfold APost trk at AW
  unfold VPost trk at VW
  generalize hAt F S L x = A at AW HW hle
  generalize trE F S L = k at VW TE hte
  obtain ⟨y, e⟩ := A
  simp only at AW HW hle
  have C1 := Lib.hid (fun (X : World) (hX : Below w.heap.size w X) => coded_same a e (by omega) X (hs.below hX) (hh.below hX) hne)
  have C2 := Lib.hid (fun (X : World) (hX : Below w.heap.size w X) => coded_same a k (by omega) X (hs.below hX) (hh.below hX) hne)
  have hl2 : ¬ (4002 : Int) < L.length := by omega
  have hl3 : decide ((4002 : Int) < L.length) = false := decide_eq_false hl2
  clear hs hh hne hs3 h hnil hle hte
  rcases errV_or a e with h1 | ⟨u1, h1⟩ <;> rcases errV_or a k with h2 | ⟨u2, h2⟩
  all_goals
    rw [h1] at AW C1
    rw [h2] at VW C2
    clear h1 h2
    go_enter Tryd.func12, Tryd.ntmps12
    go_wp2_with (first
      | (go_at_call 56; (with_reducible refine TK.out.mono ?_); rintro e w1 ⟨rfl, hb⟩; have g := Lib.hid hb; have d2 := (T.out.below hb).c2; have lb := (T.out.below hb).lt; clear hb)
      | (go_at_call 57; (with_reducible refine (CP.out _ g.out).mono ?_); rintro e w2 ⟨r1, k1, rfl, hi, hb⟩; have IN := Lib.hid hi; replace g := Lib.hid (grow_trans g.out hb); clear hb hi)
      | (go_at_call 63; (with_reducible refine (AW.out _ _ _ g.out IN.out).mono ?_); rintro e w3 ⟨rfl, hb⟩; replace g := Lib.hid (grow_trans g.out hb); clear hb IN)
      | (go_at_call 65; (with_reducible refine (VW.out _ _ _ g.out IN.out).mono ?_); rintro e w4 ⟨rfl, hb⟩; replace g := Lib.hid (grow_trans g.out hb); clear hb IN)
      | (go_at_call 64; (with_reducible refine (HW.out _ g.out).mono ?_); rintro e w5 ⟨rfl, hb⟩; replace g := Lib.hid (grow_trans g.out hb); clear hb)
      | (go_at_call 60; (with_reducible refine (TE.out _ g.out).mono ?_); rintro e w6 ⟨rfl, hb⟩; replace g := Lib.hid (grow_trans g.out hb); clear hb)
      | (go_at_call 33; (with_reducible refine (C1.out _ g.out).mono ?_); rintro e w7 ⟨rfl, hb⟩; replace g := Lib.hid (grow_trans g.out hb); clear hb)
      | (go_at_call 33; (with_reducible refine (C2.out _ g.out).mono ?_); rintro e w8 ⟨rfl, hb⟩; replace g := Lib.hid (grow_trans g.out hb); clear hb))
    go_ret
    exact ⟨by simp, g.out⟩
/-- Whatever the track. -/
theorem heights_walk (a : Nat → Addr) (q : Option Addr) (x : Int) (w : World) (hs : Sen a allK w) (hh : Hand w) (hne : ∀ j ∈ allK, ∀ k ∈ allK, j ≠ k → a j ≠ a k) (hq : TrkArg w q) :
    Calls Tryd.prog 12 #[.pointer q, .int .i64 x] w fun e w' => e = .returned (.bool true) ∧ Below w.heap.size w w' := by
  rcases hq with rfl | ⟨b, o, F, S, r, c, L, rfl, hT, _, hn⟩
  · exact heights_nil a x w (hs.sub (by decide))
  · by_cases hl : 4002 < L.length
    · exact heights_long a b o F S r c L x w (hs.sub (by decide)) hT hl
    · exact heights_main a b o F S r c L x w hs hh hne hT hn (by omega)
end Go.Proofs.YtlfpfeidaohjmaaDoor
