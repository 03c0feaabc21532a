/- Proved here: meridianlaw2.SpinChains returns true for every input. Conditions: none. -/
import Derived.Test.YtdnclgpjcgamgaaRows
import Derived.Test.YtdnclgpjcgamgaaS21
import Derived.ProofKit
import Derived.OpenShut
import Derived.ShutString
import Derived.ChangeOld
import Derived.Laws.Cover2
import Derived.Lib.SmallJoins
import Derived.Deep.Slices
import Derived.Deep.Fields
namespace Go.Proofs.Ytdnclgpjcgamgaa.spinChainsProof
open Go.ChangeShapes Go.WideShapes Go.ChangeAt Go.RowKit Go.Joins Go.Fl Go.Grow Go.Deep
open Go.ChangeMaps (open_string shut_string)

theorem own : ownKnob Try.prog.godebug = none := by kernel_rfl
theorem laidOut : laidOutB Try.prog = true := by kernel_rfl
theorem trod_float {H : Type} {enc : TypeId × Value → H} {P : Program} {w : World} {base : Nat} {spare : Nat → Bool} {held : Bool} {fuel : Nat} {t : TypeId} {cs : List Value} {x : DataW H × List MemPlace} {k : FloatKind}
    (ht : P.underlying t = some (.float k)) (h : DataW.trod enc P w base spare held fuel t cs = some x) : ∃ n, cs = [.float k n] := by
  cases fuel with
  | zero => simp [DataW.trod] at h
  | succ n =>
    unfold DataW.trod at h
    rw [ht] at h
    split at h <;> simp_all
theorem cells24 : Try.prog.cellsOf 24 = 4 := by kernel_rfl
theorem cells22 : Try.prog.cellsOf 22 = 1 := by kernel_rfl
set_option maxRecDepth 100000 in
theorem open_q {H : Type} {enc : TypeId × Value → H} {W : World} {nn k b0 o0 : Nat} {cs' : List Value} {x : DataW H × List MemPlace}
    (hc : W.cells? 0 ((⟨b0, o0, none⟩ : Addr).add (k * 4)) 4 = some cs') (ht : DataW.trod enc Try.prog W 0 (fun _ => true) true nn 24 cs' = some x) :
    ∃ a : Nat → Nat, ∀ i, i < 4 → W.cell? ⟨b0, o0 + (k * 4 + i), none⟩ = some (.float .f64 (a i)) := by
  obtain ⟨_, hcl, hat⟩ := World.cells?_some hc
  obtain ⟨xs, n1, _, _, _, hxl, hf⟩ := DataW.trod_struct Try.underlying24 ht
  match cs', hcl with
  | [c0, c1, c2, c3], _ =>
    match xs, hxl with
    | [y0, y1, y2, y3], _ =>
      have f0 := hf 0 _ rfl
      have f1 := hf 1 _ rfl
      have f2 := hf 2 _ rfl
      have f3 := hf 3 _ rfl
      obtain ⟨a0, e0⟩ := trod_float Try.underlying22 (x := y0) f0
      obtain ⟨a1, e1⟩ := trod_float Try.underlying22 (x := y1) f1
      obtain ⟨a2, e2⟩ := trod_float Try.underlying22 (x := y2) f2
      obtain ⟨a3, e3⟩ := trod_float Try.underlying22 (x := y3) f3
      simp [cells22] at e0 e1 e2 e3
      have add : ∀ i, ((⟨b0, o0, none⟩ : Addr).add (k * 4)).add i = ⟨b0, o0 + (k * 4 + i), none⟩ := fun i => by
        unfold Addr.add
        split <;> split <;> simp_all <;> omega
      refine ⟨fun i => if i = 0 then a0 else if i = 1 then a1 else if i = 2 then a2 else a3, fun i hi => ?_⟩
      have ai := hat i (by simpa using hi)
      rw [add] at ai
      have : i = 0 ∨ i = 1 ∨ i = 2 ∨ i = 3 := by omega
      rcases this with rfl | rfl | rfl | rfl
      · exact ai.trans (by rw [e0]; rfl)
      · exact ai.trans (by rw [e1]; rfl)
      · exact ai.trans (by rw [e2]; rfl)
      · exact ai.trans (by rw [e3]; rfl)


set_option maxRecDepth 100000 in
theorem lifted (os : Os) (started : os.Started) (H : Type) (enc : TypeId × Value → H) :
    ReturnsInHanded {} Try.checked os 5 .any (Rows.spinChainsSpec.pre6 enc Try.prog Try.f5 Rows.spinChainsRow.domain false) (Rows.spinChainsSpec.post enc Try.prog Try.f5 false true false false) := by
  refine returnsInHanded_of_change (C := Try.checked) own started (by kernel_rfl) Try.func5
    (ChangeSpec.witness6 (enc := enc) (C := Try.checked) false ⟨#[], #[.slice none 0 0], []⟩ 8 (by kernel_rfl) (by kernel_rfl) (by kernel_rfl) (by kernel_rfl)) ?_
  intro W base args ds gs before hval0 hW hcnd _
  have hval : ∀ (j : Nat) t v, Try.f5.params[j]? = some t → args[j]? = some v → Value.okWide Try.prog W .any base t v := hval0
  have hW' := hW
  obtain ⟨p, q, hA0, hV, rfl, hfz, hnd⟩ := hW
  have hA : DataW.TrodAll enc Try.prog W 0 (fun _ => true) true Try.f5.params.toList args.toList ds p := hA0
  rw [Try.params5] at hA hval
  obtain ⟨v0, vs0, d0, ds0, p0, q0, hargs, rfl, rfl, h0, r0⟩ := trodAll_cons hA
  obtain ⟨rfl, rfl, rfl⟩ := trodAll_nil r0
  obtain rfl : args = #[v0] := by cases args; simp_all
  obtain ⟨rfl, rfl⟩ := trodVars_none hV
  have k0 := h0
  have lt0 : ∀ x ∈ p0, x.block < W.heap.size := by obtain ⟨m, hm⟩ := k0; exact DataW.trod_lt m _ _ _ hm
  have fin : ∀ (e : Ending) (W' : World), Post (fun v => v = .bool true) W e W' → ∃ v, e = .returned v ∧ Rows.spinChainsSpec.post enc Try.prog Try.f5 false true false false W #[v0] v W' := by
    intro e W' ⟨_, he, hv, bel⟩
    subst he
    subst hv
    exact ⟨_, rfl, _, _, _, [], _, [], hW', trodAll_mk1 (shut_bool Try.underlying4 _), (trodAll_cons_mk (Below.trod laidOut (by kernel_rfl) (of_decide_eq_true (by kernel_rfl)) k0 bel lt0) trodAll_mk0), rfl, bel.frame _, fun h => by cases h⟩
  clear hA0 hval0
  obtain ⟨s0, len, cap, rfl⟩ := okWide_slice Try.underlying46 (hval 0 46 v0 rfl rfl)
  obtain ⟨fuel, hf0⟩ := h0
  rcases open_slice Try.underlying46 hf0 with ⟨hcs, _⟩ | ⟨a0, len', cap', m, nn, D, Pl, hcs, _, hlc, hcm, hmm, _, hi⟩
  · have hcs' : (Value.slice s0 len cap) = .slice none 0 0 := by simpa [Value.cells] using hcs
    cases hcs'
    exact (spinChains_walk none 0 0 (fun _ => 0) W (fun h => absurd h (by omega)) (by omega)).mono fin
  · have hcs' : (Value.slice s0 len cap) = .slice (some a0) len' cap' := by simpa [Value.cells] using hcs
    cases hcs'
    by_cases hz : len = 0
    · subst hz
      exact (spinChains_walk (some a0) 0 cap (fun _ => 0) W (fun h => absurd h (by omega)) (by omega)).mono fin
    have hm : len ≤ m := by rw [hmm]; split <;> omega
    have hspot : a0.spot = none := by
      obtain ⟨cs', hc, _⟩ := hi 0 (by omega)
      rw [cells24] at hc
      obtain ⟨_, hcl, hat⟩ := World.cells?_some hc
      have h0 := hat 0 (by decide)
      rw [List.getElem?_eq_getElem (by omega)] at h0
      simpa [Addr.add] using World.cell?_spot h0
    obtain ⟨b0, o0, sp⟩ := a0
    simp only at hspot
    subst hspot
    have hnum : ∀ i, ∃ x : Nat, i < len * 4 → W.cell? ⟨b0, o0 + i, none⟩ = some (.float .f64 x) := by
      intro i
      by_cases hk : i < len * 4
      · obtain ⟨cs', hc, ht'⟩ := hi (i / 4) (by omega)
        rw [cells24] at hc
        obtain ⟨a, ha⟩ := open_q hc ht'
        refine ⟨a (i % 4), fun _ => ?_⟩
        have := ha (i % 4) (by omega)
        rwa [show i / 4 * 4 + i % 4 = i by omega] at this
      · exact ⟨0, fun h => absurd h hk⟩
    exact (spinChains_walk (some ⟨b0, o0, none⟩) len cap (fun i => Classical.choose (hnum i)) W (fun _ => ⟨b0, o0, rfl, fun i hi => Classical.choose_spec (hnum i) hi⟩) (by unfold maxLen at hcm; omega)).mono fin

theorem holds : Rows.SpinChainsSaid :=
  OpenClaim.holds_of_wide 5 Try.f5 rfl rfl rfl rfl rfl rfl rfl ⟨rfl, rfl, rfl, rfl, rfl⟩ rfl rfl rfl rfl rfl (by kernel_rfl) Try.func5 (by kernel_rfl)
    (of_decide_eq_true (by kernel_rfl)) (by unfold Func.isWrapper; first | (rw [if_pos (by decide +kernel)]; kernel_rfl) | (rw [if_neg (by decide +kernel)]; exact ⟨rfl, rfl⟩))
    (fun os started H enc _ => lifted os started H enc)

#print axioms holds
end Go.Proofs.Ytdnclgpjcgamgaa.spinChainsProof
