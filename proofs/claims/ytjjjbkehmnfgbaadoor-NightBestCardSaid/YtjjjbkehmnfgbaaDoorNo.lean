/- Lists of jobs and of slots that came in, opened. -/
import Derived.Test.YtjjjbkehmnfgbaaDoorNj6
import Derived.Test.YtjjjbkehmnfgbaaDoorChecked
import Derived.ProofKit
import Derived.OpenShut
import Derived.Deep.Slices
import Derived.Deep.Fields
import Derived.SizedLaws
set_option linter.unusedSimpArgs false
set_option linter.unusedVariables false
namespace Go.Proofs.YtjjjbkehmnfgbaaDoor
open Go.ChangeShapes Go.WideShapes Go.RowKit Go.Grow Go.Deep Go.Night

theorem cellsSp : Tryd.prog.cellsOf 112 = 2 := by kernel_rfl
theorem cellsIn : Tryd.prog.cellsOf 3 = 1 := by kernel_rfl
theorem cellsSt : Tryd.prog.cellsOf 9 = 1 := by kernel_rfl
theorem cellsSps : Tryd.prog.cellsOf 78 = 1 := by kernel_rfl
theorem cellsJb : Tryd.prog.cellsOf 97 = 4 := by kernel_rfl
theorem cellsSl : Tryd.prog.cellsOf 38 = 2 := by kernel_rfl
theorem addNs (b o k : Nat) : (⟨b, o, none⟩ : Addr).add k = ⟨b, o + k, none⟩ := by
  unfold Addr.add
  split <;> simp_all
set_option maxRecDepth 100000 in
theorem open_sp1 {H : Type} {enc : TypeId × Value → H} {W : World} {base : Nat} {spare : Nat → Bool} {held : Bool} {nn k : Nat} {a0 : Addr} {cs' : List Value} {x : DataW H × List MemPlace}
    (hc : W.cells? base (a0.add (k * 2)) 2 = some cs') (ht : DataW.trod enc Tryd.prog W base spare held nn 112 cs' = some x) :
    ∃ r : Int × Int, W.cell? (a0.add (k * 2)) = some (.int .i64 r.1) ∧ W.cell? ((a0.add (k * 2)).add 1) = some (.int .i64 r.2) := by
  obtain ⟨_, hcl, hat⟩ := World.cells?_some hc
  obtain ⟨xs, n1, _, _, _, hxl, hf⟩ := DataW.trod_struct Tryd.underlying112 ht
  match cs', hcl with
  | [c0, c1], _ =>
    match xs, hxl with
    | [y0, y1], _ =>
      have f0 := hf 0 _ rfl
      have f1 := hf 1 _ rfl
      obtain ⟨a, e0, _⟩ := DataW.trod_int Tryd.underlying3 (x := y0) f0
      obtain ⟨b, e1, _⟩ := DataW.trod_int Tryd.underlying3 (x := y1) f1
      simp [cellsIn] at e0 e1
      refine ⟨(a, b), ?_, ?_⟩
      · have := hat 0 (by decide)
        rw [show (a0.add (k * 2)).add 0 = a0.add (k * 2) from rfl] at this
        rw [this, e0]; rfl
      · rw [hat 1 (by decide), e1]; rfl
theorem open_spL {H : Type} {enc : TypeId × Value → H} {W : World} {base : Nat} {spare : Nat → Bool} {held : Bool} {fuel : Nat} {cs : List Value} {x : DataW H × List MemPlace}
    (h : DataW.trod enc Tryd.prog W base spare held fuel 78 cs = some x) : ∃ r cap l, cs = [.slice r (l : List (Int × Int)).length cap] ∧ SpAt W r l := by
  rcases open_slice Tryd.underlying78 h with ⟨hcs, _⟩ | ⟨a0, len, cap, m, nn, D, Pl, hcs, _, hlc, hcm, hmm, _, hi⟩
  · exact ⟨none, 0, [], hcs, .inl rfl⟩
  · by_cases hz : len = 0
    · subst hz
      exact ⟨some a0, cap, [], hcs, .inl rfl⟩
    · have hm : len ≤ m := by rw [hmm]; split <;> omega
      have key : ∀ k, k < len → ∃ r : Int × Int, W.cell? (a0.add (k * 2)) = some (.int .i64 r.1) ∧ W.cell? ((a0.add (k * 2)).add 1) = some (.int .i64 r.2) := fun k hk => by
        obtain ⟨cs', hc, ht'⟩ := hi k (by omega)
        rw [cellsSp] at hc
        exact open_sp1 hc ht'
      obtain ⟨b0, o0, sp⟩ := a0
      have hsp : sp = none := by
        obtain ⟨r, h, _⟩ := key 0 (by omega)
        rw [Nat.zero_mul] at h
        simpa [Addr.add] using World.cell?_spot h
      subst hsp
      simp only [addNs] at key
      have hall : ∀ k, ∃ r : Int × Int, k < len → W.cell? ⟨b0, o0 + k * 2, none⟩ = some (.int .i64 r.1) ∧ W.cell? ⟨b0, o0 + k * 2 + 1, none⟩ = some (.int .i64 r.2) := fun k => by
        by_cases hk : k < len
        · obtain ⟨r, h⟩ := key k hk
          exact ⟨r, fun _ => h⟩
        · exact ⟨(0, 0), fun h => absurd h hk⟩
      refine ⟨some ⟨b0, o0, none⟩, cap, (List.range len).map fun k => Classical.choose (hall k), by simpa using hcs, .inr ⟨b0, o0, rfl, fun k hk => ?_⟩⟩
      simp only [List.getElem_map, List.getElem_range]
      exact Classical.choose_spec (hall k) (by simpa using hk)
def JobCells (W : World) (a : Addr) (j : Jb) : Prop := ∃ r cap, W.cell? a = some (.string j.name) ∧ W.cell? (a.add 1) = some (.slice r j.win.length cap) ∧ W.cell? (a.add 2) = some (.int .i64 j.long) ∧ W.cell? (a.add 3) = some (.int .i64 j.worth) ∧ SpAt W r j.win
set_option maxRecDepth 100000 in
theorem open_job1 {H : Type} {enc : TypeId × Value → H} {W : World} {base : Nat} {spare : Nat → Bool} {held : Bool} {nn k : Nat} {a0 : Addr} {cs' : List Value} {x : DataW H × List MemPlace}
    (hc : W.cells? base (a0.add (k * 4)) 4 = some cs') (ht : DataW.trod enc Tryd.prog W base spare held nn 97 cs' = some x) :
    ∃ j : Jb, JobCells W (a0.add (k * 4)) j := by
  obtain ⟨_, hcl, hat⟩ := World.cells?_some hc
  obtain ⟨xs, n1, _, _, _, hxl, hf⟩ := DataW.trod_struct Tryd.underlying97 ht
  match cs', hcl with
  | [c0, c1, c2, c3], _ =>
    match xs, hxl with
    | [y0, y1, y2, y3], _ =>
      have f0 := hf 0 _ rfl
      have f1 := hf 1 _ rfl
      have f2 := hf 2 _ rfl
      have f3 := hf 3 _ rfl
      obtain ⟨s, e0, _⟩ := DataW.trod_string Tryd.underlying9 (x := y0) f0
      obtain ⟨r, cap, l, e1, hl⟩ := open_spL (x := y1) f1
      obtain ⟨a, e2, _⟩ := DataW.trod_int Tryd.underlying3 (x := y2) f2
      obtain ⟨b, e3, _⟩ := DataW.trod_int Tryd.underlying3 (x := y3) f3
      simp [cellsIn, cellsSt, cellsSps] at e0 e1 e2 e3
      refine ⟨⟨s, l, a, b⟩, r, cap, ?_, ?_, ?_, ?_, hl⟩
      · have := hat 0 (by decide)
        rw [show (a0.add (k * 4)).add 0 = a0.add (k * 4) from rfl] at this
        rw [this, e0]; rfl
      · rw [hat 1 (by decide), e1]; rfl
      · rw [hat 2 (by decide), e2]; rfl
      · rw [hat 3 (by decide), e3]; rfl
theorem open_jobs {H : Type} {enc : TypeId × Value → H} {W : World} {fuel : Nat} {s : Option Addr} {len cap : Nat} {x : DataW H × List MemPlace}
    (hf : DataW.trod enc Tryd.prog W 0 (fun _ => true) true fuel 22 (Value.slice s len cap).cells.toList = some x) :
    ∃ l : List Jb, l.length = len ∧ JobsAt W s l ∧ len ≤ 9223372036854775807 := by
  rcases open_slice Tryd.underlying22 hf with ⟨hcs, _⟩ | ⟨a0, len', cap', m, nn, D, Pl, hcs, _, hlc, hcm, hmm, hx, hi⟩
  · have hcs' : (Value.slice s len cap) = .slice none 0 0 := by simpa [Value.cells] using hcs
    cases hcs'
    exact ⟨[], rfl, .inl rfl, by omega⟩
  · have hcs' : (Value.slice s len cap) = .slice (some a0) len' cap' := by simpa [Value.cells] using hcs
    cases hcs'
    have hle : len ≤ 9223372036854775807 := by unfold maxLen at hcm; omega
    have hm : len ≤ m := by rw [hmm]; split <;> omega
    have key : ∀ k, k < len → ∃ j : Jb, JobCells W (a0.add (k * 4)) j := fun k hk => by
      obtain ⟨cs', hc, ht'⟩ := hi k (by omega)
      rw [cellsJb] at hc
      exact open_job1 hc ht'
    by_cases hz : len = 0
    · subst hz
      exact ⟨[], rfl, .inl rfl, hle⟩
    · obtain ⟨b0, o0, sp⟩ := a0
      have hsp : sp = none := by
        obtain ⟨j, r, c, h, _⟩ := key 0 (by omega)
        rw [Nat.zero_mul] at h
        simpa [Addr.add] using World.cell?_spot h
      subst hsp
      have hall : ∀ k, ∃ j : Jb, k < len → JobAt W b0 (o0 + k * 4) j := fun k => by
        by_cases hk : k < len
        · obtain ⟨j, r, c, h0, h1, h2, h3, h4⟩ := key k hk
          simp only [addNs] at h0 h1 h2 h3
          exact ⟨j, fun _ => ⟨r, c, h0, h1, h2, h3, h4⟩⟩
        · exact ⟨dj, fun h => absurd h hk⟩
      refine ⟨(List.range len).map fun k => Classical.choose (hall k), by simp, .inr ⟨b0, o0, rfl, fun k hk => ?_⟩, hle⟩
      have hk' : k < len := by simpa using hk
      rw [at_get hk]
      simp only [List.getElem_map, List.getElem_range]
      exact Classical.choose_spec (hall k) hk'
set_option maxRecDepth 100000 in
theorem open_sl1 {H : Type} {enc : TypeId × Value → H} {W : World} {base : Nat} {spare : Nat → Bool} {held : Bool} {nn k : Nat} {a0 : Addr} {cs' : List Value} {x : DataW H × List MemPlace}
    (hc : W.cells? base (a0.add (k * 2)) 2 = some cs') (ht : DataW.trod enc Tryd.prog W base spare held nn 38 cs' = some x) :
    ∃ r : Sl, W.cell? (a0.add (k * 2)) = some (.string r.name) ∧ W.cell? ((a0.add (k * 2)).add 1) = some (.int .i64 r.frm) ∧ r.name.size ≤ maxLen := by
  obtain ⟨_, hcl, hat⟩ := World.cells?_some hc
  obtain ⟨xs, n1, _, _, _, hxl, hf⟩ := DataW.trod_struct Tryd.underlying38 ht
  match cs', hcl with
  | [c0, c1], _ =>
    match xs, hxl with
    | [y0, y1], _ =>
      have f0 := hf 0 _ rfl
      have f1 := hf 1 _ rfl
      obtain ⟨a, e0, _, hsz⟩ := DataW.trod_string Tryd.underlying9 (x := y0) f0
      obtain ⟨b, e1, _⟩ := DataW.trod_int Tryd.underlying3 (x := y1) f1
      simp [cellsIn, cellsSt] at e0 e1
      refine ⟨⟨a, b⟩, ?_, ?_, hsz⟩
      · have := hat 0 (by decide)
        rw [show (a0.add (k * 2)).add 0 = a0.add (k * 2) from rfl] at this
        rw [this, e0]; rfl
      · rw [hat 1 (by decide), e1]; rfl
theorem open_slots {H : Type} {enc : TypeId × Value → H} {W : World} {fuel : Nat} {s : Option Addr} {len cap : Nat} {x : DataW H × List MemPlace}
    (hf : DataW.trod enc Tryd.prog W 0 (fun _ => true) true fuel 35 (Value.slice s len cap).cells.toList = some x) :
    ∃ p : List Sl, p.length = len ∧ SlotsAt W s p ∧ len ≤ 9223372036854775807 ∧ ∀ k, k < p.length → (sl p k).name.size ≤ maxLen := by
  rcases open_slice Tryd.underlying35 hf with ⟨hcs, _⟩ | ⟨a0, len', cap', m, nn, D, Pl, hcs, _, hlc, hcm, hmm, hx, hi⟩
  · have hcs' : (Value.slice s len cap) = .slice none 0 0 := by simpa [Value.cells] using hcs
    cases hcs'
    exact ⟨[], rfl, .inl rfl, by omega, fun k hk => absurd hk (by simp)⟩
  · have hcs' : (Value.slice s len cap) = .slice (some a0) len' cap' := by simpa [Value.cells] using hcs
    cases hcs'
    have hle : len ≤ 9223372036854775807 := by unfold maxLen at hcm; omega
    have hm : len ≤ m := by rw [hmm]; split <;> omega
    have key : ∀ k, k < len → ∃ r : Sl, W.cell? (a0.add (k * 2)) = some (.string r.name) ∧ W.cell? ((a0.add (k * 2)).add 1) = some (.int .i64 r.frm) ∧ r.name.size ≤ maxLen := fun k hk => by
      obtain ⟨cs', hc, ht'⟩ := hi k (by omega)
      rw [cellsSl] at hc
      exact open_sl1 hc ht'
    by_cases hz : len = 0
    · subst hz
      exact ⟨[], rfl, .inl rfl, hle, fun k hk => absurd hk (by simp)⟩
    · obtain ⟨b0, o0, sp⟩ := a0
      have hsp : sp = none := by
        obtain ⟨r, h, _⟩ := key 0 (by omega)
        rw [Nat.zero_mul] at h
        simpa [Addr.add] using World.cell?_spot h
      subst hsp
      simp only [addNs] at key
      have hall : ∀ k, ∃ r : Sl, k < len → W.cell? ⟨b0, o0 + k * 2, none⟩ = some (.string r.name) ∧ W.cell? ⟨b0, o0 + k * 2 + 1, none⟩ = some (.int .i64 r.frm) ∧ r.name.size ≤ maxLen := fun k => by
        by_cases hk : k < len
        · obtain ⟨r, h⟩ := key k hk
          exact ⟨r, fun _ => h⟩
        · exact ⟨ds, fun h => absurd h hk⟩
      have hsl : ∀ k, k < len → sl ((List.range len).map fun k => Classical.choose (hall k)) k = Classical.choose (hall k) := fun k hk => by unfold sl; simp [hk]
      refine ⟨(List.range len).map fun k => Classical.choose (hall k), by simp, .inr ⟨b0, o0, rfl, fun k hk => ?_⟩, hle, fun k hk => ?_⟩
      · have hk' : k < len := by simpa using hk
        rw [hsl k hk']
        have := Classical.choose_spec (hall k) hk'
        exact ⟨this.1, this.2.1⟩
      · have hk' : k < len := by simpa using hk
        rw [hsl k hk']
        exact (Classical.choose_spec (hall k) hk').2.2
end Go.Proofs.YtjjjbkehmnfgbaaDoor
