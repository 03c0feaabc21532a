/- Lists of spans that came in, opened. -/
import Derived.Test.YtdnclgpjcgamgaaDoorSp
import Derived.Test.YtdnclgpjcgamgaaDoorChecked
import Derived.ProofKit
import Derived.OpenShut
import Derived.Deep.Slices
import Derived.Deep.Fields
import Derived.SizedLaws
set_option linter.unusedSimpArgs false
set_option linter.unusedVariables false
namespace Go.Proofs.YtdnclgpjcgamgaaDoor
open Go.ChangeShapes Go.WideShapes Go.RowKit Go.Grow Go.Deep

theorem cellsSp : Tryd.prog.cellsOf 40 = 2 := by kernel_rfl
theorem bytesSp : Tryd.prog.bytesOf 40 = 16 := by kernel_rfl
theorem cellsIn : Tryd.prog.cellsOf 3 = 1 := by kernel_rfl
set_option maxRecDepth 100000 in
theorem open_sp1 {H : Type} {enc : TypeId × Value → H} {W : World} {nn k : Nat} {a0 : Addr} {cs' : List Value} {x : DataW H × List MemPlace}
    (hc : W.cells? 0 (a0.add (k * 2)) 2 = some cs') (ht : DataW.trod enc Tryd.prog W 0 (fun _ => true) true nn 40 cs' = some x) :
    ∃ r : Int × Int, W.cell? (a0.add (k * 2)) = some (.int .i64 r.1) ∧ W.cell? ((a0.add (k * 2)).add 1) = some (.int .i64 r.2) := by
  obtain ⟨_, hcl, hat⟩ := World.cells?_some hc
  obtain ⟨xs, n1, _, _, _, hxl, hf⟩ := DataW.trod_struct Tryd.underlying40 ht
  match cs', hcl with
  | [c0, c1], _ =>
    match xs, hxl with
    | [y0, y1], _ =>
      have f0 := hf 0 _ rfl
      have f1 := hf 1 _ rfl
      obtain ⟨a, e0, _⟩ := DataW.trod_int Tryd.underlying3 (x := y0) f0
      obtain ⟨b, e1, _⟩ := DataW.trod_int Tryd.underlying3 (x := y1) f1
      simp [cellsIn] at e0 e1
      refine ⟨(a, b), ?_, ?_⟩
      · have := hat 0 (by decide)
        rw [show (a0.add (k * 2)).add 0 = a0.add (k * 2) from rfl] at this
        rw [this, e0]; rfl
      · rw [hat 1 (by decide), e1]; rfl
theorem addNs (b o k : Nat) : (⟨b, o, none⟩ : Addr).add k = ⟨b, o + k, none⟩ := by
  unfold Addr.add
  split <;> simp_all
theorem open_spans {H : Type} {enc : TypeId × Value → H} {W : World} {fuel : Nat} {s : Option Addr} {len cap : Nat} {d : DataW H} {p : List MemPlace}
    (hf : DataW.trod enc Tryd.prog W 0 (fun _ => true) true fuel 34 (Value.slice s len cap).cells.toList = some (d, p)) :
    ∃ l : List (Int × Int), l.length = len ∧ SpAt W s l ∧ (len = 0 ∨ ∃ elems spare, d = .slice elems spare ∧ elems.length = len) := by
  rcases open_slice Tryd.underlying34 hf with ⟨hcs, _⟩ | ⟨a0, len', cap', m, nn, D, Pl, hcs, _, hlc, hcm, hmm, hx, hi⟩
  · have hcs' : (Value.slice s len cap) = .slice none 0 0 := by simpa [Value.cells] using hcs
    cases hcs'
    exact ⟨[], rfl, .inl rfl, .inl rfl⟩
  · have hcs' : (Value.slice s len cap) = .slice (some a0) len' cap' := by simpa [Value.cells] using hcs
    cases hcs'
    have hd : ∃ elems spare, d = .slice elems spare ∧ elems.length = len := by
      have := congrArg Prod.fst hx
      exact ⟨_, _, this, by simp⟩
    have hm : len ≤ m := by rw [hmm]; split <;> omega
    have key : ∀ k, k < len → ∃ r : Int × Int, W.cell? (a0.add (k * 2)) = some (.int .i64 r.1) ∧ W.cell? ((a0.add (k * 2)).add 1) = some (.int .i64 r.2) := fun k hk => by
      obtain ⟨cs', hc, ht'⟩ := hi k (by omega)
      rw [cellsSp] at hc
      exact open_sp1 hc ht'
    by_cases hz : len = 0
    · subst hz
      exact ⟨[], rfl, .inl rfl, .inl rfl⟩
    · obtain ⟨b0, o0, sp⟩ := a0
      have hsp : sp = none := by
        obtain ⟨r, h, _⟩ := key 0 (by omega)
        rw [Nat.zero_mul] at h
        simpa [Addr.add] using World.cell?_spot h
      subst hsp
      simp only [addNs] at key
      have hall : ∀ k, ∃ r : Int × Int, k < len → W.cell? ⟨b0, o0 + k * 2, none⟩ = some (.int .i64 r.1) ∧ W.cell? ⟨b0, o0 + k * 2 + 1, none⟩ = some (.int .i64 r.2) := fun k => by
        by_cases hk : k < len
        · obtain ⟨r, h⟩ := key k hk
          exact ⟨r, fun _ => h⟩
        · exact ⟨(0, 0), fun h => absurd h hk⟩
      refine ⟨(List.range len).map fun k => Classical.choose (hall k), by simp, .inr ⟨b0, o0, rfl, fun k hk => ?_⟩, .inr hd⟩
      simp only [List.getElem_map, List.getElem_range]
      exact Classical.choose_spec (hall k) (by simpa using hk)
theorem spans_size {H : Type} {ts : List TypeId} {ds : List (DataW H)} {j len : Nat} {d : DataW H} (h : (DataW.weightsEach Tryd.prog ts ds).all (· ≤ reachBytes) = true) (ht : ts[j]? = some 34) (hd : ds[j]? = some d)
    (hl : len = 0 ∨ ∃ elems spare, d = .slice elems spare ∧ elems.length = len) : len * 16 ≤ 140737488355328 := by
  rcases hl with h0 | ⟨elems, spare, rfl, hl⟩
  · omega
  · have := sized_slice h ht hd Tryd.underlying34
    rw [bytesSp] at this
    unfold reachBytes at this
    omega
end Go.Proofs.YtdnclgpjcgamgaaDoor
