/- A list of bodies that came in, opened. -/
import Derived.Test.YtlfpfeidaohjmaaDoorBw7
import Derived.ProofKit
import Derived.OpenShut
import Derived.Deep.Slices
namespace Go.Proofs.YtlfpfeidaohjmaaDoor
open Go.ChangeShapes Go.WideShapes Go.ChangeAt Go.RowKit Go.Grow Go.Deep Go.Bo

theorem cellsBody : Tryd.prog.cellsOf 39 = 7 := by kernel_rfl
theorem cellsCell : Tryd.prog.cellsOf 33 = 3 := by kernel_rfl
theorem cellsInt : Tryd.prog.cellsOf 3 = 1 := by kernel_rfl
set_option maxRecDepth 100000 in
theorem open_cell {H : Type} {enc : TypeId × Value → H} {W : World} {nn : Nat} {c0 c1 c2 : Value} {cs : List Value} {x : DataW H × List MemPlace}
    (ht : DataW.trod enc Tryd.prog W 0 (fun _ => true) true nn 33 cs = some x) (hcs : cs = [c0, c1, c2]) : ∃ c : C3, c0 = .int .i64 c.x ∧ c1 = .int .i64 c.y ∧ c2 = .int .i64 c.z := by
  subst hcs
  obtain ⟨xs, n1, _, _, _, hxl, hf⟩ := DataW.trod_struct Tryd.underlying33 ht
  match xs, hxl with
  | [y0, y1, y2], _ =>
    have f0 := hf 0 _ rfl
    have f1 := hf 1 _ rfl
    have f2 := hf 2 _ rfl
    obtain ⟨a0, e0, _, _⟩ := DataW.trod_int Tryd.underlying3 (x := y0) f0
    obtain ⟨a1, e1, _, _⟩ := DataW.trod_int Tryd.underlying3 (x := y1) f1
    obtain ⟨a2, e2, _, _⟩ := DataW.trod_int Tryd.underlying3 (x := y2) f2
    simp [cellsInt] at e0 e1 e2
    exact ⟨⟨a0, a1, a2⟩, e0, e1, e2⟩
set_option maxRecDepth 100000 in
theorem open_body {H : Type} {enc : TypeId × Value → H} {W : World} {nn k : Nat} {a0 : Addr} {cs' : List Value} {x : DataW H × List MemPlace}
    (hc : W.cells? 0 (a0.add (k * 7)) 7 = some cs') (ht : DataW.trod enc Tryd.prog W 0 (fun _ => true) true nn 39 cs' = some x) :
    ∃ d : Bd, W.cell? (a0.add (k * 7)) = some (.int .i64 d.p.x) ∧ W.cell? ((a0.add (k * 7)).add 1) = some (.int .i64 d.p.y) ∧ W.cell? ((a0.add (k * 7)).add 2) = some (.int .i64 d.p.z) ∧
      W.cell? ((a0.add (k * 7)).add 3) = some (.int .i64 d.v.x) ∧ W.cell? ((a0.add (k * 7)).add 4) = some (.int .i64 d.v.y) ∧ W.cell? ((a0.add (k * 7)).add 5) = some (.int .i64 d.v.z) ∧ W.cell? ((a0.add (k * 7)).add 6) = some (.int .i64 d.m) := by
  obtain ⟨_, hcl, hat⟩ := World.cells?_some hc
  obtain ⟨xs, n1, _, _, _, hxl, hf⟩ := DataW.trod_struct Tryd.underlying39 ht
  match cs', hcl with
  | [c0, c1, c2, c3, c4, c5, c6], _ =>
    match xs, hxl with
    | [y0, y1, y2], _ =>
      have f0 := hf 0 _ rfl
      have f1 := hf 1 _ rfl
      have f2 := hf 2 _ rfl
      obtain ⟨p, e0, e1, e2⟩ := open_cell (c0 := c0) (c1 := c1) (c2 := c2) (x := y0) f0 (by simp [cellsCell])
      obtain ⟨v, e3, e4, e5⟩ := open_cell (c0 := c3) (c1 := c4) (c2 := c5) (x := y1) f1 (by simp [cellsCell])
      obtain ⟨m, e6, _, _⟩ := DataW.trod_int Tryd.underlying3 (x := y2) f2
      simp [cellsInt] at e6
      subst e0 e1 e2 e3 e4 e5 e6
      exact ⟨⟨p, v, m⟩, hat 0 (by decide), hat 1 (by decide), hat 2 (by decide), hat 3 (by decide), hat 4 (by decide), hat 5 (by decide), hat 6 (by decide)⟩
theorem addNo (b o k : Nat) : (⟨b, o, none⟩ : Addr).add k = ⟨b, o + k, none⟩ := by
  unfold Addr.add
  split <;> simp_all
/-- A list of bodies, opened. -/
theorem open_bods {H : Type} {enc : TypeId × Value → H} {W : World} {fuel : Nat} {s : Option Addr} {len cap : Nat} {x : DataW H × List MemPlace}
    (hf : DataW.trod enc Tryd.prog W 0 (fun _ => true) true fuel 22 (Value.slice s len cap).cells.toList = some x) :
    ∃ B : Nat → Bd, BodsAt W s len B ∧ len ≤ 9223372036854775807 := by
  rcases open_slice Tryd.underlying22 hf with ⟨hcs, _⟩ | ⟨a0, len', cap', m, nn, D, Pl, hcs, _, hlc, hcm, hmm, _, hi⟩
  · have hcs' : (Value.slice s len cap) = .slice none 0 0 := by simpa [Value.cells] using hcs
    cases hcs'
    exact ⟨fun _ => ⟨C3.zero, C3.zero, 0⟩, .inl rfl, by omega⟩
  · have hcs' : (Value.slice s len cap) = .slice (some a0) len' cap' := by simpa [Value.cells] using hcs
    cases hcs'
    have hle : len ≤ 9223372036854775807 := by unfold maxLen at hcm; omega
    have hm : len ≤ m := by rw [hmm]; split <;> omega
    have key : ∀ k, k < len → ∃ d : Bd, W.cell? (a0.add (k * 7)) = some (.int .i64 d.p.x) ∧ W.cell? ((a0.add (k * 7)).add 1) = some (.int .i64 d.p.y) ∧ W.cell? ((a0.add (k * 7)).add 2) = some (.int .i64 d.p.z) ∧
      W.cell? ((a0.add (k * 7)).add 3) = some (.int .i64 d.v.x) ∧ W.cell? ((a0.add (k * 7)).add 4) = some (.int .i64 d.v.y) ∧ W.cell? ((a0.add (k * 7)).add 5) = some (.int .i64 d.v.z) ∧ W.cell? ((a0.add (k * 7)).add 6) = some (.int .i64 d.m) := fun k hk => by
      obtain ⟨cs', hc, ht'⟩ := hi k (by omega)
      rw [cellsBody] at hc
      exact open_body hc ht'
    by_cases hz : len = 0
    · exact ⟨fun _ => ⟨C3.zero, C3.zero, 0⟩, .inl hz, hle⟩
    · obtain ⟨b0, o0, sp⟩ := a0
      have hsp : sp = none := by
        obtain ⟨r, h, _⟩ := key 0 (by omega)
        rw [Nat.zero_mul] at h
        simpa [Addr.add] using World.cell?_spot h
      subst hsp
      simp only [addNo] at key
      have hlt : b0 < W.heap.size := by
        obtain ⟨d, h, _⟩ := key 0 (by omega)
        exact lt_of_cell (a := ⟨b0, _, none⟩) h
      have hall : ∀ k, ∃ d : Bd, k < len → BodyAt W b0 (o0 + k * 7) d := fun k => by
        by_cases hk : k < len
        · obtain ⟨d, h0, h1, h2, h3, h4, h5, h6⟩ := key k hk
          exact ⟨d, fun _ => ⟨h0, h1, h2, h3, h4, h5, h6⟩⟩
        · exact ⟨⟨C3.zero, C3.zero, 0⟩, fun h => absurd h hk⟩
      exact ⟨fun k => Classical.choose (hall k), .inr ⟨b0, o0, rfl, hlt, fun k hk => Classical.choose_spec (hall k) hk⟩, hle⟩
end Go.Proofs.YtlfpfeidaohjmaaDoor
