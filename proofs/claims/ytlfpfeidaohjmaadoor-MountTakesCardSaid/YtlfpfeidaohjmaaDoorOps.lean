/- The law's commands and ticks, opened to cells. -/
import Derived.Test.YtlfpfeidaohjmaaDoorMs1
import Derived.ProofKit
import Derived.OpenShut
import Derived.Lib.SmallJoins
import Derived.Deep.Slices
import Derived.Deep.Fields
set_option linter.unusedSimpArgs false
set_option linter.unusedVariables false
namespace Go.Proofs.YtlfpfeidaohjmaaDoor
open Go.ChangeShapes Go.WideShapes Go.ChangeAt Go.RowKit Go.Joins Go.Grow Go.Mo Go.Deep

theorem cellsOp : Tryd.prog.cellsOf 53 = 5 := by kernel_rfl
theorem cellsC : Tryd.prog.cellsOf 51 = 4 := by kernel_rfl
theorem cells3 : Tryd.prog.cellsOf 3 = 1 := by kernel_rfl
theorem cells4 : Tryd.prog.cellsOf 4 = 1 := by kernel_rfl
theorem cells9 : Tryd.prog.cellsOf 9 = 1 := by kernel_rfl

set_option maxRecDepth 100000 in
theorem open_op {H : Type} {enc : TypeId × Value → H} {W : World} {nn k b0 o0 : Nat} {cs' : List Value} {x : DataW H × List MemPlace}
    (hc : W.cells? 0 ((⟨b0, o0, none⟩ : Addr).add (k * 5)) 5 = some cs') (ht : DataW.trod enc Tryd.prog W 0 (fun _ => true) true nn 53 cs' = some x) :
    ∃ o : OpZ, W.cell? ⟨b0, o0 + k * 5, none⟩ = some (.bool o.tick) ∧ W.cell? ⟨b0, o0 + k * 5 + 1, none⟩ = some (.int .i64 o.n) ∧ W.cell? ⟨b0, o0 + k * 5 + 2, none⟩ = some (.string o.c) ∧
      W.cell? ⟨b0, o0 + k * 5 + 3, none⟩ = some (.int .i64 o.x) ∧ W.cell? ⟨b0, o0 + k * 5 + 4, none⟩ = some (.int .i64 o.y) := by
  obtain ⟨_, hcl, hat⟩ := World.cells?_some hc
  obtain ⟨xs, n1, _, _, _, hxl, hf⟩ := DataW.trod_struct Tryd.underlying53 ht
  match cs', hcl with
  | [c0, c1, c2, c3, c4], _ =>
    match xs, hxl with
    | [y0, y1], _ =>
      have f0 := hf 0 _ rfl
      have f1 := hf 1 _ rfl
      obtain ⟨tb, e0, _⟩ := DataW.trod_bool Tryd.underlying4 (x := y0) f0
      obtain ⟨zs, n2, _, _, _, hzl, hg⟩ := DataW.trod_struct Tryd.underlying51 (x := y1) f1
      match zs, hzl with
      | [z0, z1, z2, z3], _ =>
        have g0 := hg 0 _ rfl
        have g1 := hg 1 _ rfl
        have g2 := hg 2 _ rfl
        have g3 := hg 3 _ rfl
        obtain ⟨i1, e1, _⟩ := DataW.trod_int Tryd.underlying3 (x := z0) g0
        obtain ⟨s2, e2, _⟩ := DataW.trod_string Tryd.underlying9 (x := z1) g1
        obtain ⟨i3, e3, _⟩ := DataW.trod_int Tryd.underlying3 (x := z2) g2
        obtain ⟨i4, e4, _⟩ := DataW.trod_int Tryd.underlying3 (x := z3) g3
        simp [cells3, cells4, cells9, cellsC] at e0 e1 e2 e3 e4
        have add : ∀ i, ((⟨b0, o0, none⟩ : Addr).add (k * 5)).add i = ⟨b0, o0 + k * 5 + i, none⟩ := fun i => by
          unfold Addr.add
          split <;> split <;> simp_all
        have a0 := hat 0 (by decide)
        have a1 := hat 1 (by decide)
        have a2 := hat 2 (by decide)
        have a3 := hat 3 (by decide)
        have a4 := hat 4 (by decide)
        rw [add] at a0 a1 a2 a3 a4
        refine ⟨⟨tb, i1, s2, i3, i4⟩, ?_, ?_, ?_, ?_, ?_⟩
        · exact a0.trans (by rw [e0]; rfl)
        · exact a1.trans (by rw [e1]; rfl)
        · exact a2.trans (by rw [e2]; rfl)
        · exact a3.trans (by rw [e3]; rfl)
        · exact a4.trans (by rw [e4]; rfl)
end Go.Proofs.YtlfpfeidaohjmaaDoor
