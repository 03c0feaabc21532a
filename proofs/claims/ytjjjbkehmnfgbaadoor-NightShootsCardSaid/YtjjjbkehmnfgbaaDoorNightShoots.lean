/- Proved here: the tied card of meridianlaw5.NightShoots: it returns true for every input. Conditions: the ten sentinel errors and the handle that the row lists lie as the program's text lays them (the card ties that). -/
import Derived.Test.YtjjjbkehmnfgbaaDoorRows
import Derived.Test.YtjjjbkehmnfgbaaDoorCards
import Derived.Test.YtjjjbkehmnfgbaaDoorTie
import Derived.Test.YtjjjbkehmnfgbaaDoorNh14
import Derived.Test.YtjjjbkehmnfgbaaDoorTs
import Derived.ProofKit
import Derived.LaidMore
import Derived.LaidSub
import Derived.OpenShut
import Derived.ShutString
import Derived.ChangeOld
import Derived.Lib.SmallJoins
import Derived.Deep.Slices
import Derived.Deep.Fields
import Derived.Stop.Joined
import Derived.SevenTiedAt
namespace Go.Proofs.YtjjjbkehmnfgbaaDoor.nightShootsProof
open Go.ChangeShapes Go.WideShapes Go.ChangeAt Go.RowKit Go.Joins Go.Grow Go.Deep
open Go.ChangeMaps (open_string shut_string)

theorem own : ownKnob Tryd.prog.godebug = none := by kernel_rfl
theorem laidOut : laidOutB Tryd.prog = true := by kernel_rfl
theorem trod_float {H : Type} {enc : TypeId × Value → H} {P : Program} {w : World} {base : Nat} {spare : Nat → Bool} {held : Bool} {fuel : Nat} {t : TypeId} {cs : List Value} {x : DataW H × List MemPlace} {k : FloatKind}
    (ht : P.underlying t = some (.float k)) (h : DataW.trod enc P w base spare held fuel t cs = some x) : ∃ n, cs = [.float k n] := by
  cases fuel with
  | zero => simp [DataW.trod] at h
  | succ n =>
    unfold DataW.trod at h
    rw [ht] at h
    split at h <;> simp_all

set_option maxRecDepth 100000 in
theorem lifted (os : Os) (started : os.Started) (H : Type) (enc : TypeId × Value → H) :
    ReturnsInHanded {} Tryd.checked os 6 .any (fun w args => (Rows.nightShootsSpec.pre enc Tryd.prog Tryd.f6 [] false w args ∧ laidMetH Tryd.prog Rows.nightShootsRow.laid w) ∧ sizedMet enc Tryd.prog Tryd.f6 (OpenSpec.ofChange Rows.nightShootsSpec) false w args)
      (Rows.nightShootsSpec.post enc Tryd.prog Tryd.f6 false true false false) := by
  refine returnsInHanded_of_change_and (C := Tryd.checked) (X := fun w _ => laidMetH Tryd.prog Rows.nightShootsRow.laid w) (fun _ _ _ hh h => h.of_heap hh) own started (by kernel_rfl) Tryd.func6
    (ChangeSpec.witness_shaped (enc := enc) (C := Tryd.checked) (os := os) (X := fun w _ => laidMetH Tryd.prog Rows.nightShootsRow.laid w) false (World.doorLaid Tryd.prog 206 os)
      #[.slice none 0 0, .int .i64 0] 8 rfl (World.shaped_of_RefB (by kernel_rfl) (by kernel_rfl)) (by kernel_rfl) (by kernel_rfl) (by kernel_rfl)
      (laidMetH_of_parts3 (fuel := 8) (laidMet_of_run' 8 (by kernel_rfl) (by kernel_rfl)) (by kernel_rfl) (by kernel_rfl))) ?_
  intro W base args ds gs before hval0 hW _ _ hL _
  have hval : ∀ (j : Nat) t v, Tryd.f6.params[j]? = some t → args[j]? = some v → Value.okWide Tryd.prog W .any base t v := hval0
  have hW' := hW
  obtain ⟨p, q, hA0, hV, rfl, hfz, hnd⟩ := hW
  have hA : DataW.TrodAll enc Tryd.prog W 0 (fun _ => true) true Tryd.f6.params.toList args.toList ds p := hA0
  rw [Tryd.params6] at hA hval
  obtain ⟨v0, vs0, d0, ds0, p0, q0, hargs, rfl, rfl, h0, r0⟩ := trodAll_cons hA
  obtain ⟨v1, vs1, d1, ds1, p1, q1, rfl, rfl, rfl, h1, r1⟩ := trodAll_cons r0
  obtain ⟨rfl, rfl, rfl⟩ := trodAll_nil r1
  obtain rfl : args = #[v0, v1] := by cases args; simp_all
  obtain ⟨rfl, rfl⟩ := trodVars_none hV
  have k0 := h0
  have lt0 : ∀ x ∈ p0, x.block < W.heap.size := by obtain ⟨m, hm⟩ := k0; exact DataW.trod_lt m _ _ _ hm
  have k1 := h1
  have lt1 : ∀ x ∈ p1, x.block < W.heap.size := by obtain ⟨m, hm⟩ := k1; exact DataW.trod_lt m _ _ _ hm
  obtain ⟨s0, len0, cap0, rfl⟩ := okWide_slice Tryd.underlying68 (hval 0 _ v0 rfl rfl)
  obtain ⟨l0, hl0, hp0, hm0, hn0⟩ : ∃ l : List Go.Hs.Tl, l.length = len0 ∧ TsAt W s0 l ∧ len0 ≤ 9223372036854775807 ∧ ∀ k, k < l.length → TlGood W (Go.Hs.tl l k) := by
    obtain ⟨fuel, hf⟩ := h0
    exact open_tls hf
  obtain ⟨x1, e1, _, _, w1⟩ := open_int Tryd.underlying3 (hval 1 _ v1 rfl rfl) h1
  subst e1
  obtain ⟨a, hsen, hne⟩ : ∃ a : Nat → Addr, Sen a allK W ∧ ∀ j ∈ allK, ∀ k ∈ allK, j ≠ k → a j ≠ a k := by
    have h1 := (laidMetH_iff.1 hL).1
    rw [show (Rows.nightShootsRow.laid.filter fun x => x.2.handleName?.isNone) = allK.map laidOf by kernel_rfl] at h1
    exact open_sen (ks := allK) (W := W) (by decide) h1
  have hh : Hand W := by
    have h2 := (laidMetH_iff.1 hL).2
    rw [show (Rows.nightShootsRow.laid.filter fun x => x.2.handleName?.isSome) = [laidType] by kernel_rfl] at h2
    exact open_hand h2
  have fin : ∀ (e : Ending) (W' : World), (e = .returned (.bool true) ∧ Below W.heap.size W W') → ∃ v, e = .returned v ∧ Rows.nightShootsSpec.post enc Tryd.prog Tryd.f6 false true false false W #[.slice s0 len0 cap0, .int .i64 x1] v W' := by
    intro e W' ⟨he, bel⟩
    subst he
    exact ⟨_, rfl, _, _, _, [], _, [], hW', trodAll_mk1 (shut_bool Tryd.underlying4 _), (trodAll_cons_mk (Below.trod laidOut (by kernel_rfl) (of_decide_eq_true (by kernel_rfl)) k0 bel lt0) (trodAll_cons_mk (Below.trod laidOut (by kernel_rfl) (of_decide_eq_true (by kernel_rfl)) k1 bel lt1) trodAll_mk0)), rfl, bel.frame _, fun h => by cases h⟩
  have ww := shoots_walk a s0 l0 cap0 x1 W hsen hh hne (by omega) hp0 hn0
  rw [hl0] at ww
  exact ww.mono fin

theorem row_holds : Rows.NightShootsSaid :=
  OpenClaim.holds_of_wide 6 Tryd.f6 rfl rfl rfl rfl rfl rfl rfl ⟨rfl, rfl, rfl, rfl, rfl⟩ rfl rfl rfl rfl rfl (by kernel_rfl) Tryd.func6 (by kernel_rfl)
    (of_decide_eq_true (by kernel_rfl)) (by unfold Func.isWrapper; first | (rw [if_pos (by decide +kernel)]; kernel_rfl) | (rw [if_neg (by decide +kernel)]; exact ⟨rfl, rfl⟩))
    (fun os started H enc _ => lifted os started H enc)
/-- THE TIED CARD. -/
theorem holds : Rows.NightShootsCardSaid :=
  Claim7.holds_tied_plain_at .later [] [.handle, .sentinel, .sentinel, .sentinel, .sentinel, .sentinel, .sentinel, .sentinel, .sentinel, .sentinel, .sentinel] true (true, "b6f92032fe91280c072e5eee59a9d7d907448176c45610988db166ee237ed38b") true
    row_holds (fun _ h => by cases h) (by kernel_rfl) (fun _ h => by cases h) nightShoots_row_tie rfl ⟨rfl, rfl⟩ (by kernel_rfl) rfl
    (fun f fn hf hfn => by
      obtain rfl : f = 6 := Option.some.inj ((show Tryd.prog.funcNamed "meridian/meridianlaw5.NightShoots" = some 6 by kernel_rfl).symm.trans hf) |>.symm
      obtain rfl : fn = Tryd.f6 := (Option.some.inj (Tryd.func6.symm.trans hfn)).symm
      exact ⟨by kernel_rfl, fun j t ht => by
        rw [Tryd.params6] at ht
        have hm : t ∈ [68, 3] := by
          have := Array.mem_of_getElem? ht
          simpa using this
        have hall : ([68, 3].all fun u => !Tryd.prog.wantsStandIn u) = true := by kernel_rfl
        exact (show Tryd.prog.wantsStandIn t = false by simpa using List.all_eq_true.1 hall t hm)⟩)
    (by kernel_rfl)
#print axioms holds
end Go.Proofs.YtjjjbkehmnfgbaaDoor.nightShootsProof
