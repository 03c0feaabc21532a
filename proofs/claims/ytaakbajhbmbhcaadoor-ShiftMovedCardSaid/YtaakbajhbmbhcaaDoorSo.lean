/- A picture behind a pointer that came in, opened. -/
import Derived.Test.YtaakbajhbmbhcaaDoorSy2
import Derived.Test.YtaakbajhbmbhcaaDoorChecked
import Derived.ProofKit
import Derived.OpenShut
import Derived.Deep.Slices
import Derived.Deep.Fields
import Derived.Deep.Fields23
set_option linter.unusedSimpArgs false
set_option linter.unusedVariables false
namespace Go.Proofs.YtaakbajhbmbhcaaDoor
open Go.ChangeShapes Go.WideShapes Go.RowKit Go.Grow Go.Deep

theorem cellsInt : Tryd.prog.cellsOf 3 = 1 := by kernel_rfl
theorem open_intsAt {H : Type} {enc : TypeId × Value → H} {w : World} {base : Nat} {spare : Nat → Bool} {held : Bool} {fuel : Nat} {cs : List Value} {x : DataW H × List MemPlace}
    (h : DataW.trod enc Tryd.prog w base spare held fuel 39 cs = some x) : ∃ r n cap z, cs = [.slice r n cap] ∧ IntsAt w r n z ∧ n ≤ 9223372036854775807 := by
  rcases open_slice Tryd.underlying39 h with ⟨hcs, _⟩ | ⟨a0, len, cap, m, nn, D, Pl, hcs, _, hlc, hcm, hmm, _, hi⟩
  · exact ⟨none, 0, 0, fun _ => 0, hcs, .inl rfl, by omega⟩
  · have hle : len ≤ 9223372036854775807 := by unfold maxLen at hcm; omega
    by_cases hz : len = 0
    · exact ⟨_, _, _, fun _ => 0, hcs, .inl hz, hle⟩
    · have hm : len ≤ m := by rw [hmm]; split <;> omega
      have key : ∀ k, k < len → ∃ n, w.cell? (a0.add k) = some (.int .i64 n) := fun k hk => by
        obtain ⟨cs', hc, ht'⟩ := hi k (by omega)
        rw [cellsInt, Nat.mul_one] at hc
        obtain ⟨_, hcl, hat⟩ := World.cells?_some hc
        match cs', hcl with
        | [c], _ =>
          obtain ⟨n, e, _⟩ := DataW.trod_int Tryd.underlying3 ht'
          have h0 := hat 0 (by decide)
          simp at e
          refine ⟨n, ?_⟩
          rw [show (a0.add k).add 0 = a0.add k from rfl] at h0
          rw [h0, e]
          rfl
      obtain ⟨b0, o0, sp⟩ := a0
      have hsp : sp = none := by
        obtain ⟨n, hn⟩ := key 0 (by omega)
        simpa [Addr.add] using World.cell?_spot hn
      subst hsp
      have add : ∀ k, (⟨b0, o0, none⟩ : Addr).add k = ⟨b0, o0 + k, none⟩ := fun k => by
        unfold Addr.add
        split <;> simp_all
      have hall : ∀ k, ∃ n, k < len → w.cell? ⟨b0, o0 + k, none⟩ = some (.int .i64 n) := fun k => by
        by_cases hk : k < len
        · obtain ⟨n, hn⟩ := key k hk
          exact ⟨n, fun _ => by rw [← add]; exact hn⟩
        · exact ⟨0, fun h => absurd h hk⟩
      exact ⟨_, _, _, fun k => Classical.choose (hall k), hcs, .inr ⟨b0, o0, rfl, fun k hk => Classical.choose_spec (hall k) hk⟩, hle⟩
theorem open_pic {H : Type} {enc : TypeId × Value → H} {w : World} {base : Nat} {spare : Nat → Bool} {held : Bool} {fuel : Nat} {q : Option Addr} {x : DataW H × List MemPlace}
    (h : DataW.trod enc Tryd.prog w base spare held fuel 38 (Value.pointer q).cells.toList = some x) : q = none ∨ ∃ b o p, q = some ⟨b, o, none⟩ ∧ PicPtr w b o p := by
  rcases open_ptr_fields3 Tryd.underlying38 Tryd.underlying41 (by kernel_rfl) (by kernel_rfl) h with ⟨hcs, _⟩ | ⟨b, o, n, v0, v1, v2, y0, y1, y2, hcs, _, _, c0, c1, c2, t0, t1, t2⟩
  · left; simpa [Value.cells] using hcs
  · right
    obtain ⟨n0, e0, _⟩ := DataW.trod_int Tryd.underlying3 t0
    obtain ⟨n1, e1, _⟩ := DataW.trod_int Tryd.underlying3 t1
    obtain ⟨r, n, cap, z, e2, hi, hn⟩ := open_intsAt t2
    simp at e0 e1 e2
    rw [e0] at c0
    rw [e1] at c1
    rw [e2] at c2
    exact ⟨b, o, ⟨n0, n1, r, n, cap, z⟩, by simpa [Value.cells] using hcs, c0, c1, c2, hi, hn⟩
end Go.Proofs.YtaakbajhbmbhcaaDoor
