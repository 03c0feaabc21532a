/- Proved here: the tied card of meridianlaw3.MountTakes: it returns true for every input. Conditions: the ten sentinel errors and the handle that the row lists lie as the program's text lays them (the card ties that). -/
import Derived.Test.YtlfpfeidaohjmaaDoorRows
import Derived.Test.YtlfpfeidaohjmaaDoorCards
import Derived.Test.YtlfpfeidaohjmaaDoorTie
import Derived.Test.YtlfpfeidaohjmaaDoorMt1
import Derived.Test.YtlfpfeidaohjmaaDoorOps
import Derived.ProofKit
import Derived.LaidMore
import Derived.OpenShut
import Derived.ShutString
import Derived.ChangeOld
import Derived.Lib.SmallJoins
import Derived.Deep.Slices
import Derived.Deep.Fields
import Derived.Stop.Joined
import Derived.SevenTiedAt
import Derived.LaidSub
namespace Go.Proofs.YtlfpfeidaohjmaaDoor.mountTakesProof
open Go.ChangeShapes Go.WideShapes Go.ChangeAt Go.RowKit Go.Joins Go.Grow Go.Mo Go.Deep
open Go.ChangeMaps (open_string shut_string)

/-- The law's walk, whatever the input. -/
theorem takes_walk (a : Nat → Addr) (A B : Lim) (n : Int) (r : Option Addr) (len cap : Nat) (ops : Nat → OpZ) (w : World) (hsen : Sen a allK w) (hh : Hand w) (hne : ∀ j ∈ allK, ∀ k ∈ allK, j ≠ k → a j ≠ a k) (hops : OpsAt w r len ops) (hl : len ≤ 9223372036854775807) :
    Calls Tryd.prog 7 #[limV A, limV B, .int .i64 n, .slice r len cap] w fun e w' => e = .returned (.bool true) ∧ Below w.heap.size w w' := by
  by_cases h3 : 300 < len
  · exact takes_long a A B n r len cap ops w hsen hh hne hops hl h3
  · by_cases h0 : newE A B n = 0
    · exact takes_yes a A B n r len cap ops w hsen hh hne hops hl h3 h0
    · exact takes_no a A B n r len cap ops w hsen hh hne hops hl h3 h0
theorem own : ownKnob Tryd.prog.godebug = none := by kernel_rfl
theorem laidOut : laidOutB Tryd.prog = true := by kernel_rfl
theorem cellsL : Tryd.prog.cellsOf 41 = 4 := by kernel_rfl

set_option maxRecDepth 100000 in
theorem lifted (os : Os) (started : os.Started) (H : Type) (enc : TypeId × Value → H) :
    ReturnsInHanded {} Tryd.checked os 7 .any (fun w args => (Rows.mountTakesSpec.pre enc Tryd.prog Tryd.f7 [] false w args ∧ laidMetH Tryd.prog Rows.mountTakesRow.laid w) ∧ sizedMet enc Tryd.prog Tryd.f7 (OpenSpec.ofChange Rows.mountTakesSpec) false w args)
      (Rows.mountTakesSpec.post enc Tryd.prog Tryd.f7 false true false false) := by
  refine returnsInHanded_of_change_and (C := Tryd.checked) (X := fun w _ => laidMetH Tryd.prog Rows.mountTakesRow.laid w) (fun _ _ _ hh h => h.of_heap hh) own started (by kernel_rfl) Tryd.func7
    (ChangeSpec.witness_shaped (enc := enc) (C := Tryd.checked) (os := os) (X := fun w _ => laidMetH Tryd.prog Rows.mountTakesRow.laid w) false (World.doorLaid Tryd.prog 206 os)
      #[.agg #[.int .i64 0, .int .i64 0, .int .i64 0, .int .i64 0], .agg #[.int .i64 0, .int .i64 0, .int .i64 0, .int .i64 0], .int .i64 0, .slice none 0 0] 8 rfl (World.shaped_of_RefB (by kernel_rfl) (by kernel_rfl)) (by kernel_rfl) (by kernel_rfl) (by kernel_rfl)
      (laidMetH_of_parts3 (fuel := 8) (laidMet_of_run' 8 (by kernel_rfl) (by kernel_rfl)) (by kernel_rfl) (by kernel_rfl))) ?_
  intro W base args ds gs before hval0 hW _ _ hL _
  have hval : ∀ (j : Nat) t v, Tryd.f7.params[j]? = some t → args[j]? = some v → Value.okWide Tryd.prog W .any base t v := hval0
  have hW' := hW
  obtain ⟨p, q, hA0, hV, rfl, hfz, hnd⟩ := hW
  have hA : DataW.TrodAll enc Tryd.prog W 0 (fun _ => true) true Tryd.f7.params.toList args.toList ds p := hA0
  rw [Tryd.params7] at hA hval
  obtain ⟨v0, vs0, d0, ds0, p0, q0, hargs, rfl, rfl, h0, r0⟩ := trodAll_cons hA
  obtain ⟨v1, vs1, d1, ds1, p1, q1, rfl, rfl, rfl, h1, r1⟩ := trodAll_cons r0
  obtain ⟨v2, vs2, d2, ds2, p2, q2, rfl, rfl, rfl, h2, r2⟩ := trodAll_cons r1
  obtain ⟨v3, vs3, d3, ds3, p3, q3, rfl, rfl, rfl, h3, r3⟩ := trodAll_cons r2
  obtain ⟨rfl, rfl, rfl⟩ := trodAll_nil r3
  obtain rfl : args = #[v0, v1, v2, v3] := by cases args; simp_all
  obtain ⟨rfl, rfl⟩ := trodVars_none hV
  have k0 := h0
  have lt0 : ∀ x ∈ p0, x.block < W.heap.size := by obtain ⟨m, hm⟩ := k0; exact DataW.trod_lt m _ _ _ hm
  have k1 := h1
  have lt1 : ∀ x ∈ p1, x.block < W.heap.size := by obtain ⟨m, hm⟩ := k1; exact DataW.trod_lt m _ _ _ hm
  have k2 := h2
  have lt2 : ∀ x ∈ p2, x.block < W.heap.size := by obtain ⟨m, hm⟩ := k2; exact DataW.trod_lt m _ _ _ hm
  have k3 := h3
  have lt3 : ∀ x ∈ p3, x.block < W.heap.size := by obtain ⟨m, hm⟩ := k3; exact DataW.trod_lt m _ _ _ hm
  obtain ⟨A, e0⟩ : ∃ A : Lim, v0 = limV A := by
    obtain ⟨c0, c1, c2, c3, y0, y1, y2, y3, m, rfl, _, _, hy0, hy1, hy2, hy3⟩ := open_agg4 Tryd.underlying41 (by kernel_rfl) cellsL (hval 0 _ v0 rfl rfl) h0
    obtain ⟨a0, e0, _, _⟩ := DataW.trod_int Tryd.underlying3 hy0
    obtain ⟨a1, e1, _, _⟩ := DataW.trod_int Tryd.underlying3 hy1
    obtain ⟨a2, e2, _, _⟩ := DataW.trod_int Tryd.underlying3 hy2
    obtain ⟨a3, e3, _, _⟩ := DataW.trod_int Tryd.underlying3 hy3
    simp at e0 e1 e2 e3
    exact ⟨⟨a0, a1, a2, a3⟩, by rw [e0, e1, e2, e3]; rfl⟩
  obtain ⟨B, e1⟩ : ∃ B : Lim, v1 = limV B := by
    obtain ⟨c0, c1, c2, c3, y0, y1, y2, y3, m, rfl, _, _, hy0, hy1, hy2, hy3⟩ := open_agg4 Tryd.underlying41 (by kernel_rfl) cellsL (hval 1 _ v1 rfl rfl) h1
    obtain ⟨a0, e0, _, _⟩ := DataW.trod_int Tryd.underlying3 hy0
    obtain ⟨a1, e1, _, _⟩ := DataW.trod_int Tryd.underlying3 hy1
    obtain ⟨a2, e2, _, _⟩ := DataW.trod_int Tryd.underlying3 hy2
    obtain ⟨a3, e3, _, _⟩ := DataW.trod_int Tryd.underlying3 hy3
    simp at e0 e1 e2 e3
    exact ⟨⟨a0, a1, a2, a3⟩, by rw [e0, e1, e2, e3]; rfl⟩
  obtain ⟨n, e2, _, _, w2⟩ := open_int Tryd.underlying3 (hval 2 _ v2 rfl rfl) h2
  subst e0
  subst e1
  subst e2
  obtain ⟨a, hsen, hne⟩ : ∃ a : Nat → Addr, Sen a allK W ∧ ∀ j ∈ allK, ∀ k ∈ allK, j ≠ k → a j ≠ a k := by
    have h1 := (laidMetH_iff.1 hL).1
    rw [show (Rows.mountTakesRow.laid.filter fun x => x.2.handleName?.isNone) = allK.map laidOf by kernel_rfl] at h1
    exact open_sen (ks := allK) (W := W) (by decide) h1
  have hh : Hand W := by
    have h2 := (laidMetH_iff.1 hL).2
    rw [show (Rows.mountTakesRow.laid.filter fun x => x.2.handleName?.isSome) = [laidType] by kernel_rfl] at h2
    exact open_hand h2
  have fin : ∀ (e : Ending) (W' : World), (e = .returned (.bool true) ∧ Below W.heap.size W W') → ∃ v, e = .returned v ∧ Rows.mountTakesSpec.post enc Tryd.prog Tryd.f7 false true false false W #[limV A, limV B, .int .i64 n, v3] v W' := by
    intro e W' ⟨he, bel⟩
    subst he
    exact ⟨_, rfl, _, _, _, [], _, [], hW', trodAll_mk1 (shut_bool Tryd.underlying4 _), (trodAll_cons_mk (Below.trod laidOut (by kernel_rfl) (of_decide_eq_true (by kernel_rfl)) k0 bel lt0) (trodAll_cons_mk (Below.trod laidOut (by kernel_rfl) (of_decide_eq_true (by kernel_rfl)) k1 bel lt1) (trodAll_cons_mk (Below.trod laidOut (by kernel_rfl) (of_decide_eq_true (by kernel_rfl)) k2 bel lt2) (trodAll_cons_mk (Below.trod laidOut (by kernel_rfl) (of_decide_eq_true (by kernel_rfl)) k3 bel lt3) trodAll_mk0)))), rfl, bel.frame _, fun h => by cases h⟩
  obtain ⟨s0, len, cap, rfl⟩ := okWide_slice Tryd.underlying42 (hval 3 _ v3 rfl rfl)
  obtain ⟨fuel, hf3⟩ := h3
  rcases open_slice Tryd.underlying42 hf3 with ⟨hcs, _⟩ | ⟨a0, len', cap', m, nn, D, Pl, hcs, _, hlc, hcm, hmm, _, hi⟩
  · have hcs' : (Value.slice s0 len cap) = .slice none 0 0 := by simpa [Value.cells] using hcs
    cases hcs'
    exact (takes_walk a A B n none 0 0 (fun _ => ⟨true, 0, ⟨#[]⟩, 0, 0⟩) W hsen hh hne (.inl rfl) (by omega)).mono fin
  · have hcs' : (Value.slice s0 len cap) = .slice (some a0) len' cap' := by simpa [Value.cells] using hcs
    cases hcs'
    by_cases hz : len = 0
    · subst hz
      exact (takes_walk a A B n (some a0) 0 cap (fun _ => ⟨true, 0, ⟨#[]⟩, 0, 0⟩) W hsen hh hne (.inl rfl) (by omega)).mono fin
    have hm : len ≤ m := by rw [hmm]; split <;> omega
    have hspot : a0.spot = none := by
      obtain ⟨cs', hc, _⟩ := hi 0 (by omega)
      rw [cellsOp] at hc
      obtain ⟨_, hcl, hat⟩ := World.cells?_some hc
      have h0 := hat 0 (by decide)
      rw [List.getElem?_eq_getElem (by omega)] at h0
      simpa [Addr.add] using World.cell?_spot h0
    obtain ⟨b0, o0, sp⟩ := a0
    simp only at hspot
    subst hspot
    have hops : ∀ k, ∃ o : OpZ, k < len → W.cell? ⟨b0, o0 + k * 5, none⟩ = some (.bool o.tick) ∧ W.cell? ⟨b0, o0 + k * 5 + 1, none⟩ = some (.int .i64 o.n) ∧ W.cell? ⟨b0, o0 + k * 5 + 2, none⟩ = some (.string o.c) ∧
        W.cell? ⟨b0, o0 + k * 5 + 3, none⟩ = some (.int .i64 o.x) ∧ W.cell? ⟨b0, o0 + k * 5 + 4, none⟩ = some (.int .i64 o.y) := by
      intro k
      by_cases hk : k < len
      · obtain ⟨cs', hc, ht'⟩ := hi k (by omega)
        rw [cellsOp] at hc
        obtain ⟨o, ho⟩ := open_op hc ht'
        exact ⟨o, fun _ => ho⟩
      · exact ⟨⟨true, 0, ⟨#[]⟩, 0, 0⟩, fun h => absurd h hk⟩
    exact (takes_walk a A B n (some ⟨b0, o0, none⟩) len cap (fun k => Classical.choose (hops k)) W hsen hh hne (.inr ⟨b0, o0, rfl, fun k hk => Classical.choose_spec (hops k) hk⟩) (by unfold maxLen at hcm; omega)).mono fin

theorem row_holds : Rows.MountTakesSaid :=
  OpenClaim.holds_of_wide 7 Tryd.f7 rfl rfl rfl rfl rfl rfl rfl ⟨rfl, rfl, rfl, rfl, rfl⟩ rfl rfl rfl rfl rfl (by kernel_rfl) Tryd.func7 (by kernel_rfl)
    (of_decide_eq_true (by kernel_rfl)) (by unfold Func.isWrapper; first | (rw [if_pos (by decide +kernel)]; kernel_rfl) | (rw [if_neg (by decide +kernel)]; exact ⟨rfl, rfl⟩))
    (fun os started H enc _ => lifted os started H enc)
/-- THE TIED CARD. -/
theorem holds : Rows.MountTakesCardSaid :=
  Claim7.holds_tied_plain_at .later [] [.handle, .sentinel, .sentinel, .sentinel, .sentinel, .sentinel, .sentinel, .sentinel, .sentinel, .sentinel, .sentinel] true (true, "256550c319fd9e60cc4a02f35d6f3604f54b8e35f9433b6265260537f7a43522") true
    row_holds (fun _ h => by cases h) (by kernel_rfl) (fun _ h => by cases h) mountTakes_row_tie rfl ⟨rfl, rfl⟩ (by kernel_rfl) rfl
    (fun f fn hf hfn => by
      obtain rfl : f = 7 := Option.some.inj ((show Tryd.prog.funcNamed "meridian/meridianlaw3.MountTakes" = some 7 by kernel_rfl).symm.trans hf) |>.symm
      obtain rfl : fn = Tryd.f7 := (Option.some.inj (Tryd.func7.symm.trans hfn)).symm
      exact ⟨by kernel_rfl, fun j t ht => by
        rw [Tryd.params7] at ht
        have hm : t ∈ [41, 3, 42] := by
          have := Array.mem_of_getElem? ht
          simpa using this
        have hall : ([41, 3, 42].all fun u => !Tryd.prog.wantsStandIn u) = true := by kernel_rfl
        exact (show Tryd.prog.wantsStandIn t = false by simpa using List.all_eq_true.1 hall t hm)⟩)
    (by kernel_rfl)
#print axioms holds
end Go.Proofs.YtlfpfeidaohjmaaDoor.mountTakesProof
