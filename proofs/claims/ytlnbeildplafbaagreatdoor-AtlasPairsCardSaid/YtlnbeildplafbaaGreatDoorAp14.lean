/- Pairs of stars: the law, whole. -/
import Derived.Test.YtlnbeildplafbaaGreatDoorAp12
set_option linter.unusedSimpArgs false
set_option linter.unusedVariables false
namespace Go.Proofs.YtlnbeildplafbaaGreatDoor
open Go.RowKit Go.Grow Go.Atl Go.Maps

theorem hadUp_no {e : En} {es : List En} : ∀ k, hadUp e es k = false → e.name.size ≤ 40 ∧ ∀ i, i < k → (en es i).name ≠ e.name
  | 0, h => by
    unfold hadUp at h
    simp only [Bool.or_eq_false_iff, decide_eq_false_iff_not] at h
    exact ⟨by omega, fun i hi => absurd hi (by omega)⟩
  | k + 1, h => by
    unfold hadUp at h
    simp only [Bool.or_eq_false_iff, decide_eq_false_iff_not] at h
    obtain ⟨h1, h2⟩ := hadUp_no k h.1
    refine ⟨h1, fun i hi => ?_⟩
    by_cases q : i = k
    · subst q; exact h.2
    · exact h2 i (by omega)
theorem en_left {l : List En} {e : En} {i : Nat} (h : i < l.length) : en (l ++ [e]) i = en l i := by
  rw [en_get h, en_get (by simp; omega), List.getElem_append_left h]
theorem en_last {l : List En} {e : En} : en (l ++ [e]) l.length = e := by
  rw [en_get (by simp)]
  simp
theorem addUp_apart (l : List En) : ∀ k, (∀ i j, i < (addUp l k).length → j < (addUp l k).length → (en (addUp l k) i).name = (en (addUp l k) j).name → i = j) ∧ ∀ i, i < (addUp l k).length → (en (addUp l k) i).name.size ≤ 40
  | 0 => ⟨fun i j hi => absurd hi (by simp [addUp]), fun i hi => absurd hi (by simp [addUp])⟩
  | k + 1 => by
    obtain ⟨h1, h2⟩ := addUp_apart l k
    rw [addUp]
    generalize addUp l k = es at *
    generalize en l k = e at *
    unfold addL
    split
    · rename_i hz
      have hh : hadUp e es es.length = false := by
        unfold addE at hz
        split at hz
        · omega
        · rename_i hq; simpa using hq
      obtain ⟨hs, hn⟩ := hadUp_no _ hh
      refine ⟨fun i j hi hj => ?_, fun i hi => ?_⟩
      · simp only [List.length_append, List.length_singleton] at hi hj
        by_cases ci : i < es.length <;> by_cases cj : j < es.length
        · rw [en_left ci, en_left cj]; exact h1 i j ci cj
        · obtain rfl : j = es.length := by omega
          rw [en_left ci, en_last]
          exact fun q => absurd q (hn i ci)
        · obtain rfl : i = es.length := by omega
          rw [en_left cj, en_last]
          exact fun q => absurd q.symm (hn j cj)
        · intro _; omega
      · simp only [List.length_append, List.length_singleton] at hi
        by_cases ci : i < es.length
        · rw [en_left ci]; exact h2 i ci
        · obtain rfl : i = es.length := by omega
          rw [en_last]; exact hs
    · exact ⟨h1, h2⟩
theorem pairs_walk (a : Nat → Addr) (r1 r2 : Option Addr) (l1 l2 : List En) (cap1 cap2 : Nat) (lev num den : Int) (w : World) (hs : Sen a allK w) (hh : Hand w) (hne : ∀ j ∈ allK, ∀ k ∈ allK, j ≠ k → a j ≠ a k)
    (hl1 : l1.length ≤ 9223372036854775807) (hl2 : l2.length ≤ 9223372036854775807) (hr1 : EnsAt w r1 l1) (hr2 : EnsAt w r2 l2) (hn1 : ∀ k, k < l1.length → (en l1 k).name.size ≤ maxLen) (hn2 : ∀ k, k < l2.length → (en l2 k).name.size ≤ maxLen) (hnum : I64 num) (hden : I64 den) :
    Calls Tryz.prog 4 #[.slice r1 l1.length cap1, .slice r2 l2.length cap2, .int .i64 lev, .int .i64 num, .int .i64 den] w fun e w' => e = .returned (.bool true) ∧ Below w.heap.size w w' := by
  cases h1 : fewB l1 <;> cases h2 : fewB l2
  · exact pairs_outa a r1 r2 l1 l2 cap1 cap2 lev num den w hs hh hne hl1 hl2 hr1 hr2 hn1 hn2 h1 h2
  · exact pairs_outb a r1 r2 l1 l2 cap1 cap2 lev num den w hs hh hne hl1 hl2 hr1 hr2 hn1 hn2 h1 h2
  · exact pairs_outc a r1 r2 l1 l2 cap1 cap2 lev num den w hs hh hne hl1 hl2 hr1 hr2 hn1 hn2 h1 h2
  · by_cases h3 : 40 < l1.length
    · exact pairs_outd a r1 r2 l1 l2 cap1 cap2 lev num den w hs hh hne hl1 hl2 hr1 hr2 hn1 hn2 h1 h2 h3
    · by_cases h4 : 40 < l2.length
      · exact pairs_oute a r1 r2 l1 l2 cap1 cap2 lev num den w hs hh hne hl1 hl2 hr1 hr2 hn1 hn2 h1 h2 h3 h4
      · by_cases hlv : lev < 0 ∨ 12 < lev
        · exact pairs_level a r1 r2 l1 l2 cap1 cap2 lev num den w hs hh hne hl1 hl2 hr1 hr2 hn1 hn2 h1 h2 (by omega) (by omega) hlv
        · obtain ⟨L, rfl⟩ : ∃ L : Nat, lev = (L : Nat) := ⟨lev.toNat, by omega⟩
          cases hc : badCone num den
          · exact pairs_good a r1 r2 l1 l2 cap1 cap2 L num den w hs hh hne hl1 hl2 hr1 hr2 hn1 hn2 h1 h2 (by omega) (by omega) (by omega) hnum hden hc (addUp_apart l1 _).1 (fun k hk => Nat.le_trans ((addUp_apart l2 _).2 k hk) (by decide))
          · exact pairs_cone a r1 r2 l1 l2 cap1 cap2 L num den w hs hh hne hl1 hl2 hr1 hr2 hn1 hn2 h1 h2 (by omega) (by omega) (by omega) hnum hden hc
end Go.Proofs.YtlnbeildplafbaaGreatDoor
