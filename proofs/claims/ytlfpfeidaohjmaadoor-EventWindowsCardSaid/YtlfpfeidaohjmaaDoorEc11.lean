/- EventWindows: the law's walk, whatever comes in; what comes in, opened with its size. -/
import Derived.Test.YtlfpfeidaohjmaaDoorEc9
import Derived.SizedLaws
set_option linter.unusedSimpArgs false
set_option linter.unusedVariables false
namespace Go.Proofs.YtlfpfeidaohjmaaDoor
open Go.ChangeShapes Go.WideShapes Go.RowKit Go.Grow Go.Deep

theorem bytesInt : Tryd.prog.bytesOf 3 = 8 := by kernel_rfl
theorem open_intL2 {H : Type} {enc : TypeId × Value → H} {w : World} {base : Nat} {spare : Nat → Bool} {held : Bool} {fuel : Nat} {cs : List Value} {x : DataW H × List MemPlace}
    (h : DataW.trod enc Tryd.prog w base spare held fuel 82 cs = some x) : ∃ r cap L, cs = [.slice r (L : List Int).length cap] ∧ InAt w r L ∧ (L.length = 0 ∨ ∃ elems sp, x.1 = .slice elems sp ∧ elems.length = L.length) ∧ (r = none → cap = 0) := by
  obtain ⟨r, cap, L, hcs, hi, _, hn⟩ := open_intL h
  refine ⟨r, cap, L, hcs, hi, ?_, hn⟩
  rcases open_slice Tryd.underlying82 h with ⟨h2, _⟩ | ⟨a0, len, cap', m, nn, D, Pl, h2, _, hlc, hcm, hmm, hx, _⟩
  · rw [hcs] at h2
    simp at h2
    left; rw [h2.2.1]; rfl
  · rw [hcs] at h2
    simp at h2
    right
    have := congrArg Prod.fst hx
    exact ⟨_, _, this, by simp [h2]⟩
/-- A pointer to a track, or none, with its row's size. -/
def TrkArg2 (w : World) (q : Option Addr) : Prop := q = none ∨ ∃ b o F S r c L, q = some ⟨b, o, none⟩ ∧ TrAt w b o F S r c L ∧ L.length * 8 ≤ 140737488355328 ∧ (r = none → c = 0)
theorem open_trk2 {H : Type} {enc : TypeId × Value → H} {w : World} {base : Nat} {spare : Nat → Bool} {held : Bool} {fuel : Nat} {q : Option Addr} {x : DataW H × List MemPlace}
    (h : DataW.trod enc Tryd.prog w base spare held fuel 106 (Value.pointer q).cells.toList = some x) (hw : (x.1.weights Tryd.prog 106).all (· ≤ reachBytes) = true) : TrkArg2 w q := by
  rcases open_ptr_fields3 Tryd.underlying106 Tryd.underlying108 (by kernel_rfl) (by kernel_rfl) h with ⟨hcs, _⟩ | ⟨b, o, n, v0, v1, v2, y0, y1, y2, hcs, _, hx, c0, c1, c2, t0, t1, t2⟩
  · left; simpa [Value.cells] using hcs
  · right
    obtain ⟨n0, e0, _⟩ := DataW.trod_int Tryd.underlying3 t0
    obtain ⟨n1, e1, _⟩ := DataW.trod_int Tryd.underlying3 t1
    obtain ⟨r, cap, L, e2, hi, hn, hz⟩ := open_intL2 t2
    simp at e0 e1 e2
    rw [e0] at c0
    rw [e1] at c1
    rw [e2] at c2
    refine ⟨b, o, n0, n1, r, cap, L, by simpa [Value.cells] using hcs, ⟨c0, c1, c2, hi⟩, ?_, hz⟩
    rcases hn with h0 | ⟨elems, sp, he, hl⟩
    · omega
    · have h1 : x.1 = .ptr (.agg [y0.1, y1.1, y2.1]) := by rw [hx]
      rw [h1, he] at hw
      have h2 := List.all_eq_true.1 hw ((elems.length + sp.length) * Tryd.prog.bytesOf 3) (by
        simp [DataW.weights, DataW.weightsEach, Tryd.underlying106, Tryd.underlying108, Tryd.underlying82])
      rw [bytesInt] at h2
      simp at h2
      unfold reachBytes at h2
      omega
set_option maxHeartbeats 4000000 in
/-- Whatever comes in. -/
theorem win_walk (a : Nat → Addr) (q : Option Addr) (n : Int) (r3 : Option Addr) (Z : List Int) (c3 : Nat) (w : World) (hs : Sen a allK w) (hh : Hand w) (hne : ∀ j ∈ allK, ∀ k ∈ allK, j ≠ k → a j ≠ a k) (hq : TrkArg2 w q) (h3 : InAt w r3 Z) (hn3 : r3 = none → c3 = 0) :
    Calls Tryd.prog 13 #[.pointer q, .int .i64 n, .slice r3 Z.length c3] w fun e w' => e = .returned (.bool true) ∧ Below w.heap.size w w' := by
  rcases hq with rfl | ⟨b, o, F, S, r, c, L, rfl, hT, hl, hn⟩
  · exact win_nil a n _ w (hs.sub (by decide))
  · by_cases q1 : (300 < L.length ∧ L.length ≤ 4000) ∨ 100 < Z.length
    · exact win_long a b o F S r c L n r3 Z.length c3 w (hs.sub (by decide)) hT q1
    · by_cases hW : winE F S L n = 0
      · refine win_good a b o F S r c L n r3 Z c3 w hs hT hn ?_ h3 hn3 (by omega) hW
        have h0 : trE F S L = 0 := by
          unfold winE at hW
          by_cases h : trE F S L = 0
          · exact h
          · rw [if_pos h] at hW; exact hW
        have := (fit_of h0).most
        omega
      · exact win_bad a b o F S r c L n r3 Z.length c3 w hs hh hne hT hn hl (by omega) (by omega) hW
end Go.Proofs.YtlfpfeidaohjmaaDoor
