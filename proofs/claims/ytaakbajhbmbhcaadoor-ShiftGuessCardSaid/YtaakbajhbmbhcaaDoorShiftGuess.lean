/- Proved here: the tied card of meridianlaw5.ShiftGuess: it returns true for every input. Conditions: the ten sentinel errors and the handle that the row lists lie as the program's text lays them (the card ties that). -/
import Derived.Test.YtaakbajhbmbhcaaDoorRows
import Derived.Test.YtaakbajhbmbhcaaDoorCards
import Derived.Test.YtaakbajhbmbhcaaDoorTie
import Derived.Test.YtaakbajhbmbhcaaDoorGu7
import Derived.ProofKit
import Derived.LaidMore
import Derived.LaidSub
import Derived.OpenShut
import Derived.ShutString
import Derived.ChangeOld
import Derived.Lib.SmallJoins
import Derived.Deep.Slices
import Derived.Deep.Fields
import Derived.Stop.Joined
import Derived.SevenTiedAt
namespace Go.Proofs.YtaakbajhbmbhcaaDoor.shiftGuessProof
open Go.ChangeShapes Go.WideShapes Go.ChangeAt Go.RowKit Go.Joins Go.Grow Go.Deep
open Go.ChangeMaps (open_string shut_string)

theorem own : ownKnob Tryd.prog.godebug = none := by kernel_rfl
theorem laidOut : laidOutB Tryd.prog = true := by kernel_rfl
theorem trod_float {H : Type} {enc : TypeId × Value → H} {P : Program} {w : World} {base : Nat} {spare : Nat → Bool} {held : Bool} {fuel : Nat} {t : TypeId} {cs : List Value} {x : DataW H × List MemPlace} {k : FloatKind}
    (ht : P.underlying t = some (.float k)) (h : DataW.trod enc P w base spare held fuel t cs = some x) : ∃ n, cs = [.float k n] := by
  cases fuel with
  | zero => simp [DataW.trod] at h
  | succ n =>
    unfold DataW.trod at h
    rw [ht] at h
    split at h <;> simp_all
theorem cellsI : Tryd.prog.cellsOf 3 = 1 := by kernel_rfl

set_option maxRecDepth 100000 in
theorem lifted (os : Os) (started : os.Started) (H : Type) (enc : TypeId × Value → H) :
    ReturnsInHanded {} Tryd.checked os 8 .any (fun w args => (Rows.shiftGuessSpec.pre enc Tryd.prog Tryd.f8 [] false w args ∧ laidMetH Tryd.prog Rows.shiftGuessRow.laid w) ∧ sizedMet enc Tryd.prog Tryd.f8 (OpenSpec.ofChange Rows.shiftGuessSpec) false w args)
      (Rows.shiftGuessSpec.post enc Tryd.prog Tryd.f8 false true false false) := by
  refine returnsInHanded_of_change_and (C := Tryd.checked) (X := fun w _ => laidMetH Tryd.prog Rows.shiftGuessRow.laid w) (fun _ _ _ hh h => h.of_heap hh) own started (by kernel_rfl) Tryd.func8
    (ChangeSpec.witness_shaped (enc := enc) (C := Tryd.checked) (os := os) (X := fun w _ => laidMetH Tryd.prog Rows.shiftGuessRow.laid w) false (World.doorLaid Tryd.prog 206 os)
      #[.slice none 0 0, .slice none 0 0, .int .i64 0] 8 rfl (World.shaped_of_RefB (by kernel_rfl) (by kernel_rfl)) (by kernel_rfl) (by kernel_rfl) (by kernel_rfl)
      (laidMetH_of_parts3 (fuel := 8) (laidMet_of_run' 8 (by kernel_rfl) (by kernel_rfl)) (by kernel_rfl) (by kernel_rfl))) ?_
  intro W base args ds gs before hval0 hW _ _ hL _
  have hval : ∀ (j : Nat) t v, Tryd.f8.params[j]? = some t → args[j]? = some v → Value.okWide Tryd.prog W .any base t v := hval0
  have hW' := hW
  obtain ⟨p, q, hA0, hV, rfl, hfz, hnd⟩ := hW
  have hA : DataW.TrodAll enc Tryd.prog W 0 (fun _ => true) true Tryd.f8.params.toList args.toList ds p := hA0
  rw [Tryd.params8] at hA hval
  obtain ⟨v0, vs0, d0, ds0, p0, q0, hargs, rfl, rfl, h0, r0⟩ := trodAll_cons hA
  obtain ⟨v1, vs1, d1, ds1, p1, q1, rfl, rfl, rfl, h1, r1⟩ := trodAll_cons r0
  obtain ⟨v2, vs2, d2, ds2, p2, q2, rfl, rfl, rfl, h2, r2⟩ := trodAll_cons r1
  obtain ⟨rfl, rfl, rfl⟩ := trodAll_nil r2
  obtain rfl : args = #[v0, v1, v2] := by cases args; simp_all
  obtain ⟨rfl, rfl⟩ := trodVars_none hV
  have k0 := h0
  have lt0 : ∀ x ∈ p0, x.block < W.heap.size := by obtain ⟨m, hm⟩ := k0; exact DataW.trod_lt m _ _ _ hm
  have k1 := h1
  have lt1 : ∀ x ∈ p1, x.block < W.heap.size := by obtain ⟨m, hm⟩ := k1; exact DataW.trod_lt m _ _ _ hm
  have k2 := h2
  have lt2 : ∀ x ∈ p2, x.block < W.heap.size := by obtain ⟨m, hm⟩ := k2; exact DataW.trod_lt m _ _ _ hm
  obtain ⟨s0, len0, cap0, rfl⟩ := okWide_slice Tryd.underlying39 (hval 0 _ v0 rfl rfl)
  obtain ⟨z0, hz0, hm0⟩ : ∃ z, IntsAt W s0 len0 z ∧ len0 ≤ 9223372036854775807 := by
    obtain ⟨fuel, hf⟩ := h0
    rcases open_slice Tryd.underlying39 hf with ⟨hcs, _⟩ | ⟨a0, len', cap', m, nn, D, Pl, hcs, _, hlc, hcm, hmm, _, hi⟩
    · have hcs' : (Value.slice s0 len0 cap0) = .slice none 0 0 := by simpa [Value.cells] using hcs
      cases hcs'
      exact ⟨fun _ => 0, .inl rfl, by omega⟩
    · have hcs' : (Value.slice s0 len0 cap0) = .slice (some a0) len' cap' := by simpa [Value.cells] using hcs
      cases hcs'
      have hle : len0 ≤ 9223372036854775807 := by unfold maxLen at hcm; omega
      by_cases hz : len0 = 0
      · exact ⟨fun _ => 0, .inl hz, hle⟩
      · have hm : len0 ≤ m := by rw [hmm]; split <;> omega
        have key : ∀ k, k < len0 → ∃ n, W.cell? (a0.add k) = some (.int .i64 n) := fun k hk => by
          obtain ⟨cs', hc, ht'⟩ := hi k (by omega)
          rw [cellsI, Nat.mul_one] at hc
          obtain ⟨_, hcl, hat⟩ := World.cells?_some hc
          match cs', hcl with
          | [c], _ =>
            obtain ⟨n, e, _⟩ := DataW.trod_int Tryd.underlying3 ht'
            have h0 := hat 0 (by decide)
            simp at e
            refine ⟨n, ?_⟩
            rw [show (a0.add k).add 0 = a0.add k from rfl] at h0
            rw [h0, e]
            rfl
        obtain ⟨b0, o0, sp⟩ := a0
        have hsp : sp = none := by
          obtain ⟨n, hn⟩ := key 0 (by omega)
          simpa [Addr.add] using World.cell?_spot hn
        subst hsp
        have add : ∀ k, (⟨b0, o0, none⟩ : Addr).add k = ⟨b0, o0 + k, none⟩ := fun k => by
          unfold Addr.add
          split <;> simp_all
        have hall : ∀ k, ∃ n, k < len0 → W.cell? ⟨b0, o0 + k, none⟩ = some (.int .i64 n) := fun k => by
          by_cases hk : k < len0
          · obtain ⟨n, hn⟩ := key k hk
            exact ⟨n, fun _ => by rw [← add]; exact hn⟩
          · exact ⟨0, fun h => absurd h hk⟩
        exact ⟨fun k => Classical.choose (hall k), .inr ⟨b0, o0, rfl, fun k hk => Classical.choose_spec (hall k) hk⟩, hle⟩
  obtain ⟨s1, len1, cap1, rfl⟩ := okWide_slice Tryd.underlying39 (hval 1 _ v1 rfl rfl)
  obtain ⟨z1, hz1, hm1⟩ : ∃ z, IntsAt W s1 len1 z ∧ len1 ≤ 9223372036854775807 := by
    obtain ⟨fuel, hf⟩ := h1
    rcases open_slice Tryd.underlying39 hf with ⟨hcs, _⟩ | ⟨a0, len', cap', m, nn, D, Pl, hcs, _, hlc, hcm, hmm, _, hi⟩
    · have hcs' : (Value.slice s1 len1 cap1) = .slice none 0 0 := by simpa [Value.cells] using hcs
      cases hcs'
      exact ⟨fun _ => 0, .inl rfl, by omega⟩
    · have hcs' : (Value.slice s1 len1 cap1) = .slice (some a0) len' cap' := by simpa [Value.cells] using hcs
      cases hcs'
      have hle : len1 ≤ 9223372036854775807 := by unfold maxLen at hcm; omega
      by_cases hz : len1 = 0
      · exact ⟨fun _ => 0, .inl hz, hle⟩
      · have hm : len1 ≤ m := by rw [hmm]; split <;> omega
        have key : ∀ k, k < len1 → ∃ n, W.cell? (a0.add k) = some (.int .i64 n) := fun k hk => by
          obtain ⟨cs', hc, ht'⟩ := hi k (by omega)
          rw [cellsI, Nat.mul_one] at hc
          obtain ⟨_, hcl, hat⟩ := World.cells?_some hc
          match cs', hcl with
          | [c], _ =>
            obtain ⟨n, e, _⟩ := DataW.trod_int Tryd.underlying3 ht'
            have h0 := hat 0 (by decide)
            simp at e
            refine ⟨n, ?_⟩
            rw [show (a0.add k).add 0 = a0.add k from rfl] at h0
            rw [h0, e]
            rfl
        obtain ⟨b0, o0, sp⟩ := a0
        have hsp : sp = none := by
          obtain ⟨n, hn⟩ := key 0 (by omega)
          simpa [Addr.add] using World.cell?_spot hn
        subst hsp
        have add : ∀ k, (⟨b0, o0, none⟩ : Addr).add k = ⟨b0, o0 + k, none⟩ := fun k => by
          unfold Addr.add
          split <;> simp_all
        have hall : ∀ k, ∃ n, k < len1 → W.cell? ⟨b0, o0 + k, none⟩ = some (.int .i64 n) := fun k => by
          by_cases hk : k < len1
          · obtain ⟨n, hn⟩ := key k hk
            exact ⟨n, fun _ => by rw [← add]; exact hn⟩
          · exact ⟨0, fun h => absurd h hk⟩
        exact ⟨fun k => Classical.choose (hall k), .inr ⟨b0, o0, rfl, fun k hk => Classical.choose_spec (hall k) hk⟩, hle⟩
  obtain ⟨x2, e2, _, _, w2⟩ := open_int Tryd.underlying3 (hval 2 _ v2 rfl rfl) h2
  subst e2
  obtain ⟨a, hsen, hne⟩ : ∃ a : Nat → Addr, Sen a allK W ∧ ∀ j ∈ allK, ∀ k ∈ allK, j ≠ k → a j ≠ a k := by
    have h1 := (laidMetH_iff.1 hL).1
    rw [show (Rows.shiftGuessRow.laid.filter fun x => x.2.handleName?.isNone) = allK.map laidOf by kernel_rfl] at h1
    exact open_sen (ks := allK) (W := W) (by decide) h1
  have hh : Hand W := by
    have h2 := (laidMetH_iff.1 hL).2
    rw [show (Rows.shiftGuessRow.laid.filter fun x => x.2.handleName?.isSome) = [laidType] by kernel_rfl] at h2
    exact open_hand h2
  have fin : ∀ (e : Ending) (W' : World), (e = .returned (.bool true) ∧ Below W.heap.size W W') → ∃ v, e = .returned v ∧ Rows.shiftGuessSpec.post enc Tryd.prog Tryd.f8 false true false false W #[.slice s0 len0 cap0, .slice s1 len1 cap1, .int .i64 x2] v W' := by
    intro e W' ⟨he, bel⟩
    subst he
    exact ⟨_, rfl, _, _, _, [], _, [], hW', trodAll_mk1 (shut_bool Tryd.underlying4 _), (trodAll_cons_mk (Below.trod laidOut (by kernel_rfl) (of_decide_eq_true (by kernel_rfl)) k0 bel lt0) (trodAll_cons_mk (Below.trod laidOut (by kernel_rfl) (of_decide_eq_true (by kernel_rfl)) k1 bel lt1) (trodAll_cons_mk (Below.trod laidOut (by kernel_rfl) (of_decide_eq_true (by kernel_rfl)) k2 bel lt2) trodAll_mk0))), rfl, bel.frame _, fun h => by cases h⟩
  exact (guess_walk a s0 s1 len0 len1 cap0 cap1 x2 z0 z1 W hsen hh hne hz0 hz1 hm0 hm1).mono fin

theorem row_holds : Rows.ShiftGuessSaid :=
  OpenClaim.holds_of_wide 8 Tryd.f8 rfl rfl rfl rfl rfl rfl rfl ⟨rfl, rfl, rfl, rfl, rfl⟩ rfl rfl rfl rfl rfl (by kernel_rfl) Tryd.func8 (by kernel_rfl)
    (of_decide_eq_true (by kernel_rfl)) (by unfold Func.isWrapper; first | (rw [if_pos (by decide +kernel)]; kernel_rfl) | (rw [if_neg (by decide +kernel)]; exact ⟨rfl, rfl⟩))
    (fun os started H enc _ => lifted os started H enc)
/-- THE TIED CARD. -/
theorem holds : Rows.ShiftGuessCardSaid :=
  Claim7.holds_tied_plain_at .later [] [.handle, .sentinel, .sentinel, .sentinel, .sentinel, .sentinel, .sentinel, .sentinel, .sentinel, .sentinel, .sentinel] true (true, "e559e05031aac7a621da660db4d7bfa1bee8af45a3fa9f290db04a57593a82fc") true
    row_holds (fun _ h => by cases h) (by kernel_rfl) (fun _ h => by cases h) shiftGuess_row_tie rfl ⟨rfl, rfl⟩ (by kernel_rfl) rfl
    (fun f fn hf hfn => by
      obtain rfl : f = 8 := Option.some.inj ((show Tryd.prog.funcNamed "meridian/meridianlaw5.ShiftGuess" = some 8 by kernel_rfl).symm.trans hf) |>.symm
      obtain rfl : fn = Tryd.f8 := (Option.some.inj (Tryd.func8.symm.trans hfn)).symm
      exact ⟨by kernel_rfl, fun j t ht => by
        rw [Tryd.params8] at ht
        have hm : t ∈ [39, 3] := by
          have := Array.mem_of_getElem? ht
          simpa using this
        have hall : ([39, 3].all fun u => !Tryd.prog.wantsStandIn u) = true := by kernel_rfl
        exact (show Tryd.prog.wantsStandIn t = false by simpa using List.all_eq_true.1 hall t hm)⟩)
    (by kernel_rfl)
#print axioms holds
end Go.Proofs.YtaakbajhbmbhcaaDoor.shiftGuessProof
