/- A list of pairs that came in, opened. -/
import Derived.Test.YtaakbajhbmbhcaaDoorWv2
import Derived.Test.YtaakbajhbmbhcaaDoorChecked
import Derived.ProofKit
import Derived.OpenShut
import Derived.Deep.Slices
import Derived.Deep.Fields
set_option linter.unusedSimpArgs false
set_option linter.unusedVariables false
namespace Go.Proofs.YtaakbajhbmbhcaaDoor
open Go.ChangeShapes Go.WideShapes Go.RowKit Go.Grow Go.Deep Go.Fl

theorem cellsPr : Tryd.prog.cellsOf 28 = 2 := by kernel_rfl
theorem cellsFl : Tryd.prog.cellsOf 25 = 1 := by kernel_rfl
theorem trod_fl {H : Type} {enc : TypeId × Value → H} {P : Program} {w : World} {base : Nat} {spare : Nat → Bool} {held : Bool} {fuel : Nat} {t : TypeId} {cs : List Value} {x : DataW H × List MemPlace} {k : FloatKind}
    (ht : P.underlying t = some (.float k)) (h : DataW.trod enc P w base spare held fuel t cs = some x) : ∃ n, cs = [.float k n] := by
  cases fuel with
  | zero => simp [DataW.trod] at h
  | succ n =>
    unfold DataW.trod at h
    rw [ht] at h
    split at h <;> simp_all
set_option maxRecDepth 100000 in
theorem open_pr1 {H : Type} {enc : TypeId × Value → H} {W : World} {nn k : Nat} {a0 : Addr} {cs' : List Value} {x : DataW H × List MemPlace}
    (hc : W.cells? 0 (a0.add (k * 2)) 2 = some cs') (ht : DataW.trod enc Tryd.prog W 0 (fun _ => true) true nn 28 cs' = some x) :
    ∃ r : Nat × Nat, W.cell? (a0.add (k * 2)) = some (.float .f64 r.1) ∧ W.cell? ((a0.add (k * 2)).add 1) = some (.float .f64 r.2) := by
  obtain ⟨_, hcl, hat⟩ := World.cells?_some hc
  obtain ⟨xs, n1, _, _, _, hxl, hf⟩ := DataW.trod_struct Tryd.underlying28 ht
  match cs', hcl with
  | [c0, c1], _ =>
    match xs, hxl with
    | [y0, y1], _ =>
      have f0 := hf 0 _ rfl
      have f1 := hf 1 _ rfl
      obtain ⟨a, e0⟩ := trod_fl Tryd.underlying25 (x := y0) f0
      obtain ⟨b, e1⟩ := trod_fl Tryd.underlying25 (x := y1) f1
      simp [cellsFl] at e0 e1
      refine ⟨(a, b), ?_, ?_⟩
      · have := hat 0 (by decide)
        rw [show (a0.add (k * 2)).add 0 = a0.add (k * 2) from rfl] at this
        rw [this, e0]; rfl
      · rw [hat 1 (by decide), e1]; rfl
theorem addNp (b o k : Nat) : (⟨b, o, none⟩ : Addr).add k = ⟨b, o + k, none⟩ := by
  unfold Addr.add
  split <;> simp_all
theorem open_pairs {H : Type} {enc : TypeId × Value → H} {W : World} {fuel : Nat} {s : Option Addr} {len cap : Nat} {x : DataW H × List MemPlace}
    (hf : DataW.trod enc Tryd.prog W 0 (fun _ => true) true fuel 22 (Value.slice s len cap).cells.toList = some x) :
    ∃ l : List (Nat × Nat), l.length = len ∧ PrAt W s l ∧ len ≤ 9223372036854775807 := by
  rcases open_slice Tryd.underlying22 hf with ⟨hcs, _⟩ | ⟨a0, len', cap', m, nn, D, Pl, hcs, _, hlc, hcm, hmm, _, hi⟩
  · have hcs' : (Value.slice s len cap) = .slice none 0 0 := by simpa [Value.cells] using hcs
    cases hcs'
    exact ⟨[], rfl, .inl rfl, by omega⟩
  · have hcs' : (Value.slice s len cap) = .slice (some a0) len' cap' := by simpa [Value.cells] using hcs
    cases hcs'
    have hcap : len ≤ 9223372036854775807 := by unfold maxLen at hcm; omega
    have hm : len ≤ m := by rw [hmm]; split <;> omega
    have key : ∀ k, k < len → ∃ r : Nat × Nat, W.cell? (a0.add (k * 2)) = some (.float .f64 r.1) ∧ W.cell? ((a0.add (k * 2)).add 1) = some (.float .f64 r.2) := fun k hk => by
      obtain ⟨cs', hc, ht'⟩ := hi k (by omega)
      rw [cellsPr] at hc
      exact open_pr1 hc ht'
    by_cases hz : len = 0
    · subst hz
      exact ⟨[], rfl, .inl rfl, hcap⟩
    · obtain ⟨b0, o0, sp⟩ := a0
      have hsp : sp = none := by
        obtain ⟨r, h, _⟩ := key 0 (by omega)
        rw [Nat.zero_mul] at h
        simpa [Addr.add] using World.cell?_spot h
      subst hsp
      simp only [addNp] at key
      have hall : ∀ k, ∃ r : Nat × Nat, k < len → W.cell? ⟨b0, o0 + k * 2, none⟩ = some (.float .f64 r.1) ∧ W.cell? ⟨b0, o0 + k * 2 + 1, none⟩ = some (.float .f64 r.2) := fun k => by
        by_cases hk : k < len
        · obtain ⟨r, h⟩ := key k hk
          exact ⟨r, fun _ => h⟩
        · exact ⟨(0, 0), fun h => absurd h hk⟩
      refine ⟨(List.range len).map fun k => Classical.choose (hall k), by simp, .inr ⟨b0, o0, rfl, fun k hk => ?_⟩, hcap⟩
      simp only [List.getElem_map, List.getElem_range]
      exact Classical.choose_spec (hall k) (by simpa using hk)
end Go.Proofs.YtaakbajhbmbhcaaDoor
