/- Lists of entries that came in, opened. -/
import Derived.Test.YtlnbeildplafbaaGreatDoorAc10
import Derived.Test.YtlnbeildplafbaaGreatDoorChecked
import Derived.ProofKit
import Derived.OpenShut
import Derived.Deep.Slices
import Derived.Deep.Fields
import Derived.SizedLaws
set_option linter.unusedSimpArgs false
set_option linter.unusedVariables false
namespace Go.Proofs.YtlnbeildplafbaaGreatDoor
open Go.ChangeShapes Go.WideShapes Go.RowKit Go.Grow Go.Deep Go.Atl

theorem cellsInA : Tryz.prog.cellsOf 3 = 1 := by kernel_rfl
theorem cellsStA : Tryz.prog.cellsOf 9 = 1 := by kernel_rfl
theorem cellsCe : Tryz.prog.cellsOf 28 = 3 := by kernel_rfl
theorem cellsEn : Tryz.prog.cellsOf 60 = 5 := by kernel_rfl
theorem addNsA (b o k : Nat) : (⟨b, o, none⟩ : Addr).add k = ⟨b, o + k, none⟩ := by
  unfold Addr.add
  split <;> simp_all
def EnCells (W : World) (a : Addr) (e : En) : Prop := W.cell? a = some (.string e.name) ∧ W.cell? (a.add 1) = some (.int .i64 e.at'.x) ∧ W.cell? (a.add 2) = some (.int .i64 e.at'.y) ∧ W.cell? (a.add 3) = some (.int .i64 e.at'.z) ∧ W.cell? (a.add 4) = some (.int .i64 e.light) ∧ e.name.size ≤ maxLen
set_option maxRecDepth 100000 in
theorem open_en1 {H : Type} {enc : TypeId × Value → H} {W : World} {base : Nat} {spare : Nat → Bool} {held : Bool} {nn k : Nat} {a0 : Addr} {cs' : List Value} {x : DataW H × List MemPlace}
    (hc : W.cells? base (a0.add (k * 5)) 5 = some cs') (ht : DataW.trod enc Tryz.prog W base spare held nn 60 cs' = some x) :
    ∃ e : En, EnCells W (a0.add (k * 5)) e := by
  obtain ⟨_, hcl, hat⟩ := World.cells?_some hc
  obtain ⟨xs, n1, _, _, _, hxl, hf⟩ := DataW.trod_struct Tryz.underlying60 ht
  match cs', hcl with
  | [c0, c1, c2, c3, c4], _ =>
    match xs, hxl with
    | [y0, y1, y2], _ =>
      have f0 := hf 0 _ rfl
      have f1 := hf 1 _ rfl
      have f2 := hf 2 _ rfl
      obtain ⟨s, e0, _, hs⟩ := DataW.trod_string Tryz.underlying9 (x := y0) f0
      obtain ⟨zs, n2, _, _, _, hzl, hg⟩ := DataW.trod_struct Tryz.underlying28 (x := y1) f1
      obtain ⟨l, e4, _⟩ := DataW.trod_int Tryz.underlying3 (x := y2) f2
      match zs, hzl with
      | [z0, z1, z2], _ =>
        have g0 := hg 0 _ rfl
        have g1 := hg 1 _ rfl
        have g2 := hg 2 _ rfl
        obtain ⟨a, e1, _⟩ := DataW.trod_int Tryz.underlying3 (x := z0) g0
        obtain ⟨b, e2, _⟩ := DataW.trod_int Tryz.underlying3 (x := z1) g1
        obtain ⟨c, e3, _⟩ := DataW.trod_int Tryz.underlying3 (x := z2) g2
        simp [cellsInA, cellsStA, cellsCe] at e0 e1 e2 e3 e4
        refine ⟨⟨s, ⟨a, b, c⟩, l⟩, ?_, ?_, ?_, ?_, ?_, hs⟩
        · have := hat 0 (by decide)
          rw [show (a0.add (k * 5)).add 0 = a0.add (k * 5) from rfl] at this
          rw [this, e0]; rfl
        · rw [hat 1 (by decide), e1]; rfl
        · rw [hat 2 (by decide), e2]; rfl
        · rw [hat 3 (by decide), e3]; rfl
        · rw [hat 4 (by decide), e4]; rfl
theorem open_ens {H : Type} {enc : TypeId × Value → H} {W : World} {fuel : Nat} {s : Option Addr} {len cap : Nat} {x : DataW H × List MemPlace}
    (hf : DataW.trod enc Tryz.prog W 0 (fun _ => true) true fuel 45 (Value.slice s len cap).cells.toList = some x) :
    ∃ l : List En, l.length = len ∧ EnsAt W s l ∧ len ≤ 9223372036854775807 ∧ ∀ k, k < l.length → (en l k).name.size ≤ maxLen := by
  rcases open_slice Tryz.underlying45 hf with ⟨hcs, _⟩ | ⟨a0, len', cap', m, nn, D, Pl, hcs, _, hlc, hcm, hmm, hx, hi⟩
  · have hcs' : (Value.slice s len cap) = .slice none 0 0 := by simpa [Value.cells] using hcs
    cases hcs'
    exact ⟨[], rfl, .inl rfl, by omega, fun k hk => absurd hk (by simp)⟩
  · have hcs' : (Value.slice s len cap) = .slice (some a0) len' cap' := by simpa [Value.cells] using hcs
    cases hcs'
    have hle : len ≤ 9223372036854775807 := by unfold maxLen at hcm; omega
    have hm : len ≤ m := by rw [hmm]; split <;> omega
    have key : ∀ k, k < len → ∃ e : En, EnCells W (a0.add (k * 5)) e := fun k hk => by
      obtain ⟨cs', hc, ht'⟩ := hi k (by omega)
      rw [cellsEn] at hc
      exact open_en1 hc ht'
    by_cases hz : len = 0
    · subst hz
      exact ⟨[], rfl, .inl rfl, hle, fun k hk => absurd hk (by simp)⟩
    · obtain ⟨b0, o0, sp⟩ := a0
      have hsp : sp = none := by
        obtain ⟨e, h, _⟩ := key 0 (by omega)
        rw [Nat.zero_mul] at h
        simpa [Addr.add] using World.cell?_spot h
      subst hsp
      have hall : ∀ k, ∃ e : En, k < len → EnAt W b0 (o0 + k * 5) e ∧ e.name.size ≤ maxLen := fun k => by
        by_cases hk : k < len
        · obtain ⟨e, h0, h1, h2, h3, h4, h5⟩ := key k hk
          simp only [addNsA] at h0 h1 h2 h3 h4
          exact ⟨e, fun _ => ⟨⟨h0, h1, h2, h3, h4⟩, h5⟩⟩
        · exact ⟨de, fun h => absurd h hk⟩
      have hget : ∀ k, k < len → en ((List.range len).map fun k => Classical.choose (hall k)) k = Classical.choose (hall k) := fun k hk => by
        rw [en_get (by simpa using hk)]
        simp only [List.getElem_map, List.getElem_range]
      refine ⟨(List.range len).map fun k => Classical.choose (hall k), by simp, .inr ⟨b0, o0, rfl, fun k hk => ?_⟩, hle, fun k hk => ?_⟩
      · have hk' : k < len := by simpa using hk
        rw [hget k hk']
        exact (Classical.choose_spec (hall k) hk').1
      · have hk' : k < len := by simpa using hk
        rw [hget k hk']
        exact (Classical.choose_spec (hall k) hk').2
end Go.Proofs.YtlnbeildplafbaaGreatDoor
