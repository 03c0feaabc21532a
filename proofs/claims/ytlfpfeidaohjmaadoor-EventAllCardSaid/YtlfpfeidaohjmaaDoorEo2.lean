/- A track behind a pointer that came in, opened. -/
import Derived.Test.YtlfpfeidaohjmaaDoorEb5
import Derived.Test.YtlfpfeidaohjmaaDoorChecked
import Derived.ProofKit
import Derived.OpenShut
import Derived.Deep.Slices
import Derived.Deep.Fields
import Derived.Deep.Fields23
import Derived.SizedLaws
set_option linter.unusedSimpArgs false
set_option linter.unusedVariables false
namespace Go.Proofs.YtlfpfeidaohjmaaDoor
open Go.ChangeShapes Go.WideShapes Go.RowKit Go.Grow Go.Deep

theorem cellsInt : Tryd.prog.cellsOf 3 = 1 := by kernel_rfl
theorem open_intL {H : Type} {enc : TypeId × Value → H} {w : World} {base : Nat} {spare : Nat → Bool} {held : Bool} {fuel : Nat} {cs : List Value} {x : DataW H × List MemPlace}
    (h : DataW.trod enc Tryd.prog w base spare held fuel 82 cs = some x) : ∃ r cap L, cs = [.slice r (L : List Int).length cap] ∧ InAt w r L ∧ L.length ≤ 9223372036854775807 ∧ (r = none → cap = 0) := by
  rcases open_slice Tryd.underlying82 h with ⟨hcs, _⟩ | ⟨a0, len, cap, m, nn, D, Pl, hcs, _, hlc, hcm, hmm, _, hi⟩
  · exact ⟨none, 0, [], hcs, .inl rfl, by simp, fun _ => rfl⟩
  · have hle : len ≤ 9223372036854775807 := by unfold maxLen at hcm; omega
    by_cases hz : len = 0
    · subst hz
      exact ⟨some a0, cap, [], hcs, .inl rfl, by simp, fun h => by cases h⟩
    · have hm : len ≤ m := by rw [hmm]; split <;> omega
      have key : ∀ k, k < len → ∃ n, w.cell? (a0.add k) = some (.int .i64 n) := fun k hk => by
        obtain ⟨cs', hc, ht'⟩ := hi k (by omega)
        rw [cellsInt, Nat.mul_one] at hc
        obtain ⟨_, hcl, hat⟩ := World.cells?_some hc
        match cs', hcl with
        | [c], _ =>
          obtain ⟨n, e, _⟩ := DataW.trod_int Tryd.underlying3 ht'
          have h0 := hat 0 (by decide)
          simp at e
          refine ⟨n, ?_⟩
          rw [show (a0.add k).add 0 = a0.add k from rfl] at h0
          rw [h0, e]
          rfl
      obtain ⟨b0, o0, sp⟩ := a0
      have hsp : sp = none := by
        obtain ⟨n, hn⟩ := key 0 (by omega)
        simpa [Addr.add] using World.cell?_spot hn
      subst hsp
      have add : ∀ k, (⟨b0, o0, none⟩ : Addr).add k = ⟨b0, o0 + k, none⟩ := fun k => by
        unfold Addr.add
        split <;> simp_all
      have hall : ∀ k, ∃ n, k < len → w.cell? ⟨b0, o0 + k, none⟩ = some (.int .i64 n) := fun k => by
        by_cases hk : k < len
        · obtain ⟨n, hn⟩ := key k hk
          exact ⟨n, fun _ => by rw [← add]; exact hn⟩
        · exact ⟨0, fun h => absurd h hk⟩
      refine ⟨some ⟨b0, o0, none⟩, cap, (List.range len).map fun k => Classical.choose (hall k), by simpa using hcs, .inr ⟨b0, o0, rfl, fun k hk => ?_⟩, by simpa using hle, fun h => by cases h⟩
      simp only [List.getElem_map, List.getElem_range]
      exact Classical.choose_spec (hall k) (by simpa using hk)
/-- A pointer to a track, or none. -/
def TrkArg (w : World) (q : Option Addr) : Prop := q = none ∨ ∃ b o F S r c L, q = some ⟨b, o, none⟩ ∧ TrAt w b o F S r c L ∧ L.length ≤ 9223372036854775807 ∧ (r = none → c = 0)
theorem open_trk {H : Type} {enc : TypeId × Value → H} {w : World} {base : Nat} {spare : Nat → Bool} {held : Bool} {fuel : Nat} {q : Option Addr} {x : DataW H × List MemPlace}
    (h : DataW.trod enc Tryd.prog w base spare held fuel 106 (Value.pointer q).cells.toList = some x) : TrkArg w q := by
  rcases open_ptr_fields3 Tryd.underlying106 Tryd.underlying108 (by kernel_rfl) (by kernel_rfl) h with ⟨hcs, _⟩ | ⟨b, o, n, v0, v1, v2, y0, y1, y2, hcs, _, _, c0, c1, c2, t0, t1, t2⟩
  · left; simpa [Value.cells] using hcs
  · right
    obtain ⟨n0, e0, _⟩ := DataW.trod_int Tryd.underlying3 t0
    obtain ⟨n1, e1, _⟩ := DataW.trod_int Tryd.underlying3 t1
    obtain ⟨r, cap, L, e2, hi, hn, hz⟩ := open_intL t2
    simp at e0 e1 e2
    rw [e0] at c0
    rw [e1] at c1
    rw [e2] at c2
    exact ⟨b, o, n0, n1, r, cap, L, by simpa [Value.cells] using hcs, ⟨c0, c1, c2, hi⟩, hn, hz⟩
end Go.Proofs.YtlfpfeidaohjmaaDoor
/- A track that comes in, opened with its size. -/
set_option linter.unusedSimpArgs false
set_option linter.unusedVariables false
namespace Go.Proofs.YtlfpfeidaohjmaaDoor
open Go.ChangeShapes Go.WideShapes Go.RowKit Go.Grow Go.Deep

theorem bytesInt : Tryd.prog.bytesOf 3 = 8 := by kernel_rfl
theorem open_intL2 {H : Type} {enc : TypeId × Value → H} {w : World} {base : Nat} {spare : Nat → Bool} {held : Bool} {fuel : Nat} {cs : List Value} {x : DataW H × List MemPlace}
    (h : DataW.trod enc Tryd.prog w base spare held fuel 82 cs = some x) : ∃ r cap L, cs = [.slice r (L : List Int).length cap] ∧ InAt w r L ∧ (L.length = 0 ∨ ∃ elems sp, x.1 = .slice elems sp ∧ elems.length = L.length) ∧ (r = none → cap = 0) := by
  obtain ⟨r, cap, L, hcs, hi, _, hn⟩ := open_intL h
  refine ⟨r, cap, L, hcs, hi, ?_, hn⟩
  rcases open_slice Tryd.underlying82 h with ⟨h2, _⟩ | ⟨a0, len, cap', m, nn, D, Pl, h2, _, hlc, hcm, hmm, hx, _⟩
  · rw [hcs] at h2
    simp at h2
    left; rw [h2.2.1]; rfl
  · rw [hcs] at h2
    simp at h2
    right
    have := congrArg Prod.fst hx
    exact ⟨_, _, this, by simp [h2]⟩
/-- A pointer to a track, or none, with its row's size. -/
def TrkArg2 (w : World) (q : Option Addr) : Prop := q = none ∨ ∃ b o F S r c L, q = some ⟨b, o, none⟩ ∧ TrAt w b o F S r c L ∧ L.length * 8 ≤ 140737488355328 ∧ (r = none → c = 0)
theorem open_trk2 {H : Type} {enc : TypeId × Value → H} {w : World} {base : Nat} {spare : Nat → Bool} {held : Bool} {fuel : Nat} {q : Option Addr} {x : DataW H × List MemPlace}
    (h : DataW.trod enc Tryd.prog w base spare held fuel 106 (Value.pointer q).cells.toList = some x) (hw : (x.1.weights Tryd.prog 106).all (· ≤ reachBytes) = true) : TrkArg2 w q := by
  rcases open_ptr_fields3 Tryd.underlying106 Tryd.underlying108 (by kernel_rfl) (by kernel_rfl) h with ⟨hcs, _⟩ | ⟨b, o, n, v0, v1, v2, y0, y1, y2, hcs, _, hx, c0, c1, c2, t0, t1, t2⟩
  · left; simpa [Value.cells] using hcs
  · right
    obtain ⟨n0, e0, _⟩ := DataW.trod_int Tryd.underlying3 t0
    obtain ⟨n1, e1, _⟩ := DataW.trod_int Tryd.underlying3 t1
    obtain ⟨r, cap, L, e2, hi, hn, hz⟩ := open_intL2 t2
    simp at e0 e1 e2
    rw [e0] at c0
    rw [e1] at c1
    rw [e2] at c2
    refine ⟨b, o, n0, n1, r, cap, L, by simpa [Value.cells] using hcs, ⟨c0, c1, c2, hi⟩, ?_, hz⟩
    rcases hn with h0 | ⟨elems, sp, he, hl⟩
    · omega
    · have h1 : x.1 = .ptr (.agg [y0.1, y1.1, y2.1]) := by rw [hx]
      rw [h1, he] at hw
      have h2 := List.all_eq_true.1 hw ((elems.length + sp.length) * Tryd.prog.bytesOf 3) (by
        simp [DataW.weights, DataW.weightsEach, Tryd.underlying106, Tryd.underlying108, Tryd.underlying82])
      rw [bytesInt] at h2
      simp at h2
      unfold reachBytes at h2
      omega
end Go.Proofs.YtlfpfeidaohjmaaDoor
