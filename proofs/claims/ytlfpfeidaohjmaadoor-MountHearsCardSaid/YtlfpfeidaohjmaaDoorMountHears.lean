/- Proved here: the tied card of meridianlaw3.MountHears: it returns true for every input. Conditions: the ten sentinel errors and the handle that the row lists lie as the program's text lays them (the card ties that). -/
import Derived.Test.YtlfpfeidaohjmaaDoorRows
import Derived.Test.YtlfpfeidaohjmaaDoorCards
import Derived.Test.YtlfpfeidaohjmaaDoorTie
import Derived.Test.YtlfpfeidaohjmaaDoorMh2
import Derived.ProofKit
import Derived.LaidMore
import Derived.LaidSub
import Derived.OpenShut
import Derived.ShutString
import Derived.ChangeOld
import Derived.Lib.SmallJoins
import Derived.Deep.Slices
import Derived.Deep.Fields
import Derived.Stop.Joined
import Derived.SevenTiedAt
namespace Go.Proofs.YtlfpfeidaohjmaaDoor.mountHearsProof
open Go.ChangeShapes Go.WideShapes Go.ChangeAt Go.RowKit Go.Joins Go.Grow Go.Deep Go.Mo
open Go.ChangeMaps (open_string shut_string)

theorem own : ownKnob Tryd.prog.godebug = none := by kernel_rfl
theorem laidOut : laidOutB Tryd.prog = true := by kernel_rfl
theorem trod_float {H : Type} {enc : TypeId × Value → H} {P : Program} {w : World} {base : Nat} {spare : Nat → Bool} {held : Bool} {fuel : Nat} {t : TypeId} {cs : List Value} {x : DataW H × List MemPlace} {k : FloatKind}
    (ht : P.underlying t = some (.float k)) (h : DataW.trod enc P w base spare held fuel t cs = some x) : ∃ n, cs = [.float k n] := by
  cases fuel with
  | zero => simp [DataW.trod] at h
  | succ n =>
    unfold DataW.trod at h
    rw [ht] at h
    split at h <;> simp_all
theorem cellsL : Tryd.prog.cellsOf 41 = 4 := by kernel_rfl
theorem cellsI : Tryd.prog.cellsOf 3 = 1 := by kernel_rfl
theorem cellsB : Tryd.prog.cellsOf 4 = 1 := by kernel_rfl
theorem hears_walk (a : Nat → Addr) (A B : Lim) (r1 r2 : Option Addr) (l1 l2 cap1 cap2 : Nat) (z1 : Nat → Int) (z2 : Nat → Bool) (w : World) (hsen : Sen a allK w) (hh : Hand w) (hne : ∀ j ∈ allK, ∀ k ∈ allK, j ≠ k → a j ≠ a k) (hk1 : KindsAt w r1 l1 z1) (hk2 : LostAt w r2 l2 z2) (hl1 : l1 ≤ 9223372036854775807) (hl2 : l2 ≤ 9223372036854775807) :
    Calls Tryd.prog 9 #[limV A, limV B, .slice r1 l1 cap1, .slice r2 l2 cap2] w fun e w' => e = .returned (.bool true) ∧ Below w.heap.size w w' := by
  by_cases h1 : 40 < l1
  · exact hears_long1 a A B r1 r2 l1 l2 cap1 cap2 z1 z2 w hsen hh hne hk1 hk2 hl1 hl2 h1
  · by_cases h2 : 400 < l2
    · exact hears_long2 a A B r1 r2 l1 l2 cap1 cap2 z1 z2 w hsen hh hne hk1 hk2 hl1 hl2 h1 h2
    · by_cases h0 : newE A B 1073741824 = 0
      · exact hears_yes a A B r1 r2 l1 l2 cap1 cap2 z1 z2 w hsen hh hne hk1 hk2 hl1 hl2 h1 h2 h0
      · exact hears_no a A B r1 r2 l1 l2 cap1 cap2 z1 z2 w hsen hh hne hk1 hk2 hl1 hl2 h1 h2 h0

set_option maxRecDepth 100000 in
theorem lifted (os : Os) (started : os.Started) (H : Type) (enc : TypeId × Value → H) :
    ReturnsInHanded {} Tryd.checked os 9 .any (fun w args => (Rows.mountHearsSpec.pre enc Tryd.prog Tryd.f9 [] false w args ∧ laidMetH Tryd.prog Rows.mountHearsRow.laid w) ∧ sizedMet enc Tryd.prog Tryd.f9 (OpenSpec.ofChange Rows.mountHearsSpec) false w args)
      (Rows.mountHearsSpec.post enc Tryd.prog Tryd.f9 false true false false) := by
  refine returnsInHanded_of_change_and (C := Tryd.checked) (X := fun w _ => laidMetH Tryd.prog Rows.mountHearsRow.laid w) (fun _ _ _ hh h => h.of_heap hh) own started (by kernel_rfl) Tryd.func9
    (ChangeSpec.witness_shaped (enc := enc) (C := Tryd.checked) (os := os) (X := fun w _ => laidMetH Tryd.prog Rows.mountHearsRow.laid w) false (World.doorLaid Tryd.prog 206 os)
      #[.agg #[.int .i64 0, .int .i64 0, .int .i64 0, .int .i64 0], .agg #[.int .i64 0, .int .i64 0, .int .i64 0, .int .i64 0], .slice none 0 0, .slice none 0 0] 8 rfl (World.shaped_of_RefB (by kernel_rfl) (by kernel_rfl)) (by kernel_rfl) (by kernel_rfl) (by kernel_rfl)
      (laidMetH_of_parts3 (fuel := 8) (laidMet_of_run' 8 (by kernel_rfl) (by kernel_rfl)) (by kernel_rfl) (by kernel_rfl))) ?_
  intro W base args ds gs before hval0 hW _ _ hL _
  have hval : ∀ (j : Nat) t v, Tryd.f9.params[j]? = some t → args[j]? = some v → Value.okWide Tryd.prog W .any base t v := hval0
  have hW' := hW
  obtain ⟨p, q, hA0, hV, rfl, hfz, hnd⟩ := hW
  have hA : DataW.TrodAll enc Tryd.prog W 0 (fun _ => true) true Tryd.f9.params.toList args.toList ds p := hA0
  rw [Tryd.params9] at hA hval
  obtain ⟨v0, vs0, d0, ds0, p0, q0, hargs, rfl, rfl, h0, r0⟩ := trodAll_cons hA
  obtain ⟨v1, vs1, d1, ds1, p1, q1, rfl, rfl, rfl, h1, r1⟩ := trodAll_cons r0
  obtain ⟨v2, vs2, d2, ds2, p2, q2, rfl, rfl, rfl, h2, r2⟩ := trodAll_cons r1
  obtain ⟨v3, vs3, d3, ds3, p3, q3, rfl, rfl, rfl, h3, r3⟩ := trodAll_cons r2
  obtain ⟨rfl, rfl, rfl⟩ := trodAll_nil r3
  obtain rfl : args = #[v0, v1, v2, v3] := by cases args; simp_all
  obtain ⟨rfl, rfl⟩ := trodVars_none hV
  have k0 := h0
  have lt0 : ∀ x ∈ p0, x.block < W.heap.size := by obtain ⟨m, hm⟩ := k0; exact DataW.trod_lt m _ _ _ hm
  have k1 := h1
  have lt1 : ∀ x ∈ p1, x.block < W.heap.size := by obtain ⟨m, hm⟩ := k1; exact DataW.trod_lt m _ _ _ hm
  have k2 := h2
  have lt2 : ∀ x ∈ p2, x.block < W.heap.size := by obtain ⟨m, hm⟩ := k2; exact DataW.trod_lt m _ _ _ hm
  have k3 := h3
  have lt3 : ∀ x ∈ p3, x.block < W.heap.size := by obtain ⟨m, hm⟩ := k3; exact DataW.trod_lt m _ _ _ hm
  obtain ⟨X0, e0⟩ : ∃ A : Lim, v0 = limV A := by
    obtain ⟨c0, c1, c2, c3, y0, y1, y2, y3, m, rfl, _, _, hy0, hy1, hy2, hy3⟩ := open_agg4 Tryd.underlying41 (by kernel_rfl) cellsL (hval 0 _ v0 rfl rfl) h0
    obtain ⟨a0, e0, _, _⟩ := DataW.trod_int Tryd.underlying3 hy0
    obtain ⟨a1, e1, _, _⟩ := DataW.trod_int Tryd.underlying3 hy1
    obtain ⟨a2, e2, _, _⟩ := DataW.trod_int Tryd.underlying3 hy2
    obtain ⟨a3, e3, _, _⟩ := DataW.trod_int Tryd.underlying3 hy3
    simp at e0 e1 e2 e3
    exact ⟨⟨a0, a1, a2, a3⟩, by rw [e0, e1, e2, e3]; rfl⟩
  subst e0
  obtain ⟨X1, e1⟩ : ∃ A : Lim, v1 = limV A := by
    obtain ⟨c0, c1, c2, c3, y0, y1, y2, y3, m, rfl, _, _, hy0, hy1, hy2, hy3⟩ := open_agg4 Tryd.underlying41 (by kernel_rfl) cellsL (hval 1 _ v1 rfl rfl) h1
    obtain ⟨a0, e0, _, _⟩ := DataW.trod_int Tryd.underlying3 hy0
    obtain ⟨a1, e1, _, _⟩ := DataW.trod_int Tryd.underlying3 hy1
    obtain ⟨a2, e2, _, _⟩ := DataW.trod_int Tryd.underlying3 hy2
    obtain ⟨a3, e3, _, _⟩ := DataW.trod_int Tryd.underlying3 hy3
    simp at e0 e1 e2 e3
    exact ⟨⟨a0, a1, a2, a3⟩, by rw [e0, e1, e2, e3]; rfl⟩
  subst e1
  obtain ⟨s2, len2, cap2, rfl⟩ := okWide_slice Tryd.underlying82 (hval 2 _ v2 rfl rfl)
  obtain ⟨z2, hz2, hm2⟩ : ∃ z, KindsAt W s2 len2 z ∧ len2 ≤ 9223372036854775807 := by
    obtain ⟨fuel, hf⟩ := h2
    rcases open_slice Tryd.underlying82 hf with ⟨hcs, _⟩ | ⟨a0, len', cap', m, nn, D, Pl, hcs, _, hlc, hcm, hmm, _, hi⟩
    · have hcs' : (Value.slice s2 len2 cap2) = .slice none 0 0 := by simpa [Value.cells] using hcs
      cases hcs'
      exact ⟨fun _ => 0, .inl rfl, by omega⟩
    · have hcs' : (Value.slice s2 len2 cap2) = .slice (some a0) len' cap' := by simpa [Value.cells] using hcs
      cases hcs'
      have hle : len2 ≤ 9223372036854775807 := by unfold maxLen at hcm; omega
      by_cases hz : len2 = 0
      · exact ⟨fun _ => 0, .inl hz, hle⟩
      · have hm : len2 ≤ m := by rw [hmm]; split <;> omega
        have key : ∀ k, k < len2 → ∃ n, W.cell? (a0.add k) = some (.int .i64 n) := fun k hk => by
          obtain ⟨cs', hc, ht'⟩ := hi k (by omega)
          rw [cellsI, Nat.mul_one] at hc
          obtain ⟨_, hcl, hat⟩ := World.cells?_some hc
          match cs', hcl with
          | [c], _ =>
            obtain ⟨n, e, _⟩ := DataW.trod_int Tryd.underlying3 ht'
            have h0 := hat 0 (by decide)
            simp at e
            refine ⟨n, ?_⟩
            rw [show (a0.add k).add 0 = a0.add k from rfl] at h0
            rw [h0, e]
            rfl
        obtain ⟨b0, o0, sp⟩ := a0
        have hsp : sp = none := by
          obtain ⟨n, hn⟩ := key 0 (by omega)
          simpa [Addr.add] using World.cell?_spot hn
        subst hsp
        have add : ∀ k, (⟨b0, o0, none⟩ : Addr).add k = ⟨b0, o0 + k, none⟩ := fun k => by
          unfold Addr.add
          split <;> simp_all
        have hall : ∀ k, ∃ n, k < len2 → W.cell? ⟨b0, o0 + k, none⟩ = some (.int .i64 n) := fun k => by
          by_cases hk : k < len2
          · obtain ⟨n, hn⟩ := key k hk
            exact ⟨n, fun _ => by rw [← add]; exact hn⟩
          · exact ⟨0, fun h => absurd h hk⟩
        exact ⟨fun k => Classical.choose (hall k), .inr ⟨b0, o0, rfl, fun k hk => Classical.choose_spec (hall k) hk⟩, hle⟩
  obtain ⟨s3, len3, cap3, rfl⟩ := okWide_slice Tryd.underlying83 (hval 3 _ v3 rfl rfl)
  obtain ⟨z3, hz3, hm3⟩ : ∃ z, LostAt W s3 len3 z ∧ len3 ≤ 9223372036854775807 := by
    obtain ⟨fuel, hf⟩ := h3
    rcases open_slice Tryd.underlying83 hf with ⟨hcs, _⟩ | ⟨a0, len', cap', m, nn, D, Pl, hcs, _, hlc, hcm, hmm, _, hi⟩
    · have hcs' : (Value.slice s3 len3 cap3) = .slice none 0 0 := by simpa [Value.cells] using hcs
      cases hcs'
      exact ⟨fun _ => false, .inl rfl, by omega⟩
    · have hcs' : (Value.slice s3 len3 cap3) = .slice (some a0) len' cap' := by simpa [Value.cells] using hcs
      cases hcs'
      have hle : len3 ≤ 9223372036854775807 := by unfold maxLen at hcm; omega
      by_cases hz : len3 = 0
      · exact ⟨fun _ => false, .inl hz, hle⟩
      · have hm : len3 ≤ m := by rw [hmm]; split <;> omega
        have key : ∀ k, k < len3 → ∃ n, W.cell? (a0.add k) = some (.bool n) := fun k hk => by
          obtain ⟨cs', hc, ht'⟩ := hi k (by omega)
          rw [cellsB, Nat.mul_one] at hc
          obtain ⟨_, hcl, hat⟩ := World.cells?_some hc
          match cs', hcl with
          | [c], _ =>
            obtain ⟨n, e, _⟩ := DataW.trod_bool Tryd.underlying4 ht'
            have h0 := hat 0 (by decide)
            simp at e
            refine ⟨n, ?_⟩
            rw [show (a0.add k).add 0 = a0.add k from rfl] at h0
            rw [h0, e]
            rfl
        obtain ⟨b0, o0, sp⟩ := a0
        have hsp : sp = none := by
          obtain ⟨n, hn⟩ := key 0 (by omega)
          simpa [Addr.add] using World.cell?_spot hn
        subst hsp
        have add : ∀ k, (⟨b0, o0, none⟩ : Addr).add k = ⟨b0, o0 + k, none⟩ := fun k => by
          unfold Addr.add
          split <;> simp_all
        have hall : ∀ k, ∃ n, k < len3 → W.cell? ⟨b0, o0 + k, none⟩ = some (.bool n) := fun k => by
          by_cases hk : k < len3
          · obtain ⟨n, hn⟩ := key k hk
            exact ⟨n, fun _ => by rw [← add]; exact hn⟩
          · exact ⟨false, fun h => absurd h hk⟩
        exact ⟨fun k => Classical.choose (hall k), .inr ⟨b0, o0, rfl, fun k hk => Classical.choose_spec (hall k) hk⟩, hle⟩
  obtain ⟨a, hsen, hne⟩ : ∃ a : Nat → Addr, Sen a allK W ∧ ∀ j ∈ allK, ∀ k ∈ allK, j ≠ k → a j ≠ a k := by
    have h1 := (laidMetH_iff.1 hL).1
    rw [show (Rows.mountHearsRow.laid.filter fun x => x.2.handleName?.isNone) = allK.map laidOf by kernel_rfl] at h1
    exact open_sen (ks := allK) (W := W) (by decide) h1
  have hh : Hand W := by
    have h2 := (laidMetH_iff.1 hL).2
    rw [show (Rows.mountHearsRow.laid.filter fun x => x.2.handleName?.isSome) = [laidType] by kernel_rfl] at h2
    exact open_hand h2
  have fin : ∀ (e : Ending) (W' : World), (e = .returned (.bool true) ∧ Below W.heap.size W W') → ∃ v, e = .returned v ∧ Rows.mountHearsSpec.post enc Tryd.prog Tryd.f9 false true false false W #[limV X0, limV X1, .slice s2 len2 cap2, .slice s3 len3 cap3] v W' := by
    intro e W' ⟨he, bel⟩
    subst he
    exact ⟨_, rfl, _, _, _, [], _, [], hW', trodAll_mk1 (shut_bool Tryd.underlying4 _), (trodAll_cons_mk (Below.trod laidOut (by kernel_rfl) (of_decide_eq_true (by kernel_rfl)) k0 bel lt0) (trodAll_cons_mk (Below.trod laidOut (by kernel_rfl) (of_decide_eq_true (by kernel_rfl)) k1 bel lt1) (trodAll_cons_mk (Below.trod laidOut (by kernel_rfl) (of_decide_eq_true (by kernel_rfl)) k2 bel lt2) (trodAll_cons_mk (Below.trod laidOut (by kernel_rfl) (of_decide_eq_true (by kernel_rfl)) k3 bel lt3) trodAll_mk0)))), rfl, bel.frame _, fun h => by cases h⟩
  exact (hears_walk a X0 X1 s2 s3 len2 len3 cap2 cap3 z2 z3 W hsen hh hne hz2 hz3 hm2 hm3).mono fin

theorem row_holds : Rows.MountHearsSaid :=
  OpenClaim.holds_of_wide 9 Tryd.f9 rfl rfl rfl rfl rfl rfl rfl ⟨rfl, rfl, rfl, rfl, rfl⟩ rfl rfl rfl rfl rfl (by kernel_rfl) Tryd.func9 (by kernel_rfl)
    (of_decide_eq_true (by kernel_rfl)) (by unfold Func.isWrapper; first | (rw [if_pos (by decide +kernel)]; kernel_rfl) | (rw [if_neg (by decide +kernel)]; exact ⟨rfl, rfl⟩))
    (fun os started H enc _ => lifted os started H enc)
/-- THE TIED CARD. -/
theorem holds : Rows.MountHearsCardSaid :=
  Claim7.holds_tied_plain_at .later [] [.handle, .sentinel, .sentinel, .sentinel, .sentinel, .sentinel, .sentinel, .sentinel, .sentinel, .sentinel, .sentinel] true (true, "256550c319fd9e60cc4a02f35d6f3604f54b8e35f9433b6265260537f7a43522") true
    row_holds (fun _ h => by cases h) (by kernel_rfl) (fun _ h => by cases h) mountHears_row_tie rfl ⟨rfl, rfl⟩ (by kernel_rfl) rfl
    (fun f fn hf hfn => by
      obtain rfl : f = 9 := Option.some.inj ((show Tryd.prog.funcNamed "meridian/meridianlaw3.MountHears" = some 9 by kernel_rfl).symm.trans hf) |>.symm
      obtain rfl : fn = Tryd.f9 := (Option.some.inj (Tryd.func9.symm.trans hfn)).symm
      exact ⟨by kernel_rfl, fun j t ht => by
        rw [Tryd.params9] at ht
        have hm : t ∈ [41, 82, 83] := by
          have := Array.mem_of_getElem? ht
          simpa using this
        have hall : ([41, 82, 83].all fun u => !Tryd.prog.wantsStandIn u) = true := by kernel_rfl
        exact (show Tryd.prog.wantsStandIn t = false by simpa using List.all_eq_true.1 hall t hm)⟩)
    (by kernel_rfl)
#print axioms holds
end Go.Proofs.YtlfpfeidaohjmaaDoor.mountHearsProof
