/- Proved here: the tied card of meridianlaw5.AtlasCells: it returns true for every input. Conditions: the ten sentinel errors and the handle that the row lists lie as the program's text lays them (the card ties that). -/
import Derived.Test.YtjjjbkehmnfgbaaDoorRows
import Derived.Test.YtjjjbkehmnfgbaaDoorCards
import Derived.Test.YtjjjbkehmnfgbaaDoorTie
import Derived.Test.YtjjjbkehmnfgbaaDoorAc26
import Derived.Test.YtjjjbkehmnfgbaaDoorAo
import Derived.ProofKit
import Derived.LaidMore
import Derived.LaidSub
import Derived.OpenShut
import Derived.ShutString
import Derived.ChangeOld
import Derived.Lib.SmallJoins
import Derived.Deep.Slices
import Derived.Deep.Fields
import Derived.Stop.Joined
import Derived.SevenTiedAt
namespace Go.Proofs.YtjjjbkehmnfgbaaDoor.atlasCellsProof
open Go.ChangeShapes Go.WideShapes Go.ChangeAt Go.RowKit Go.Joins Go.Grow Go.Deep
open Go.ChangeMaps (open_string shut_string)

theorem own : ownKnob Tryd.prog.godebug = none := by kernel_rfl
theorem laidOut : laidOutB Tryd.prog = true := by kernel_rfl
theorem trod_float {H : Type} {enc : TypeId × Value → H} {P : Program} {w : World} {base : Nat} {spare : Nat → Bool} {held : Bool} {fuel : Nat} {t : TypeId} {cs : List Value} {x : DataW H × List MemPlace} {k : FloatKind}
    (ht : P.underlying t = some (.float k)) (h : DataW.trod enc P w base spare held fuel t cs = some x) : ∃ n, cs = [.float k n] := by
  cases fuel with
  | zero => simp [DataW.trod] at h
  | succ n =>
    unfold DataW.trod at h
    rw [ht] at h
    split at h <;> simp_all
theorem cells_walk (a : Nat → Addr) (r : Option Addr) (l : List Go.Atl.En) (cap : Nat) (lev : Int) (d : Go.Atl.Dr) (s : Go.Atl.Sp) (w : World) (hs : Sen a allK w) (hh : Hand w) (hne : ∀ j ∈ allK, ∀ k ∈ allK, j ≠ k → a j ≠ a k) (hl : l.length ≤ 9223372036854775807) (hr : EnsAt w r l) (hn : ∀ k, k < l.length → (Go.Atl.en l k).name.size ≤ maxLen) :
    Calls Tryd.prog 5 #[.slice r l.length cap, .int .i64 lev, drV d, spV s] w fun e w' => e = .returned (.bool true) ∧ Below w.heap.size w w' := by
  cases ho : outB l d
  · exact law_cells a r l cap lev d s w hs hh hne hl hr hn ho
  · exact law_out r l cap lev d s w hl hr hn ho

set_option maxRecDepth 100000 in
theorem lifted (os : Os) (started : os.Started) (H : Type) (enc : TypeId × Value → H) :
    ReturnsInHanded {} Tryd.checked os 5 .any (fun w args => (Rows.atlasCellsSpec.pre enc Tryd.prog Tryd.f5 [] false w args ∧ laidMetH Tryd.prog Rows.atlasCellsRow.laid w) ∧ sizedMet enc Tryd.prog Tryd.f5 (OpenSpec.ofChange Rows.atlasCellsSpec) false w args)
      (Rows.atlasCellsSpec.post enc Tryd.prog Tryd.f5 false true false false) := by
  refine returnsInHanded_of_change_and (C := Tryd.checked) (X := fun w _ => laidMetH Tryd.prog Rows.atlasCellsRow.laid w) (fun _ _ _ hh h => h.of_heap hh) own started (by kernel_rfl) Tryd.func5
    (ChangeSpec.witness_shaped (enc := enc) (C := Tryd.checked) (os := os) (X := fun w _ => laidMetH Tryd.prog Rows.atlasCellsRow.laid w) false (World.doorLaid Tryd.prog 206 os)
      #[.slice none 0 0, .int .i64 0, .agg #[.int .i64 0, .int .i64 0, .int .i64 0], .agg #[.int .i64 0, .int .i64 0, .int .i64 0, .int .i64 0]] 8 rfl (World.shaped_of_RefB (by kernel_rfl) (by kernel_rfl)) (by kernel_rfl) (by kernel_rfl) (by kernel_rfl)
      (laidMetH_of_parts3 (fuel := 8) (laidMet_of_run' 8 (by kernel_rfl) (by kernel_rfl)) (by kernel_rfl) (by kernel_rfl))) ?_
  intro W base args ds gs before hval0 hW _ _ hL _
  have hval : ∀ (j : Nat) t v, Tryd.f5.params[j]? = some t → args[j]? = some v → Value.okWide Tryd.prog W .any base t v := hval0
  have hW' := hW
  obtain ⟨p, q, hA0, hV, rfl, hfz, hnd⟩ := hW
  have hA : DataW.TrodAll enc Tryd.prog W 0 (fun _ => true) true Tryd.f5.params.toList args.toList ds p := hA0
  rw [Tryd.params5] at hA hval
  obtain ⟨v0, vs0, d0, ds0, p0, q0, hargs, rfl, rfl, h0, r0⟩ := trodAll_cons hA
  obtain ⟨v1, vs1, d1, ds1, p1, q1, rfl, rfl, rfl, h1, r1⟩ := trodAll_cons r0
  obtain ⟨v2, vs2, d2, ds2, p2, q2, rfl, rfl, rfl, h2, r2⟩ := trodAll_cons r1
  obtain ⟨v3, vs3, d3, ds3, p3, q3, rfl, rfl, rfl, h3, r3⟩ := trodAll_cons r2
  obtain ⟨rfl, rfl, rfl⟩ := trodAll_nil r3
  obtain rfl : args = #[v0, v1, v2, v3] := by cases args; simp_all
  obtain ⟨rfl, rfl⟩ := trodVars_none hV
  have k0 := h0
  have lt0 : ∀ x ∈ p0, x.block < W.heap.size := by obtain ⟨m, hm⟩ := k0; exact DataW.trod_lt m _ _ _ hm
  have k1 := h1
  have lt1 : ∀ x ∈ p1, x.block < W.heap.size := by obtain ⟨m, hm⟩ := k1; exact DataW.trod_lt m _ _ _ hm
  have k2 := h2
  have lt2 : ∀ x ∈ p2, x.block < W.heap.size := by obtain ⟨m, hm⟩ := k2; exact DataW.trod_lt m _ _ _ hm
  have k3 := h3
  have lt3 : ∀ x ∈ p3, x.block < W.heap.size := by obtain ⟨m, hm⟩ := k3; exact DataW.trod_lt m _ _ _ hm
  obtain ⟨s0, len0, cap0, rfl⟩ := okWide_slice Tryd.underlying44 (hval 0 _ v0 rfl rfl)
  obtain ⟨l0, hl0, hp0, hm0, hn0⟩ : ∃ l : List Go.Atl.En, l.length = len0 ∧ EnsAt W s0 l ∧ len0 ≤ 9223372036854775807 ∧ ∀ k, k < l.length → (Go.Atl.en l k).name.size ≤ maxLen := by
    obtain ⟨fuel, hf⟩ := h0
    exact open_ens hf
  obtain ⟨x1, e1, _, _, w1⟩ := open_int Tryd.underlying3 (hval 1 _ v1 rfl rfl) h1
  subst e1
  obtain ⟨X2, e2⟩ : ∃ d : Go.Atl.Dr, v2 = drV d := by
    obtain ⟨c0, c1, c2, y0, y1, y2, m, rfl, _, _, hy0, hy1, hy2⟩ := open_agg3 Tryd.underlying46 (by kernel_rfl) cellsCe (hval 2 _ v2 rfl rfl) h2
    obtain ⟨a0, e0, _, _⟩ := DataW.trod_int Tryd.underlying3 hy0
    obtain ⟨a1, e1, _, _⟩ := DataW.trod_int Tryd.underlying3 hy1
    obtain ⟨a2, e2, _, _⟩ := DataW.trod_int Tryd.underlying3 hy2
    simp at e0 e1 e2
    exact ⟨⟨a0, a1, a2⟩, by rw [e0, e1, e2]; rfl⟩
  subst e2
  obtain ⟨X3, e3⟩ : ∃ d : Go.Atl.Sp, v3 = spV d := by
    obtain ⟨c0, c1, c2, c3, y0, y1, y2, y3, m, rfl, _, _, hy0, hy1, hy2, hy3⟩ := open_agg4 Tryd.underlying48 (by kernel_rfl) cellsS5 (hval 3 _ v3 rfl rfl) h3
    obtain ⟨a0, e0, _, _⟩ := DataW.trod_int Tryd.underlying3 hy0
    obtain ⟨a1, e1, _, _⟩ := DataW.trod_int Tryd.underlying3 hy1
    obtain ⟨a2, e2, _, _⟩ := DataW.trod_int Tryd.underlying3 hy2
    obtain ⟨a3, e3, _, _⟩ := DataW.trod_int Tryd.underlying3 hy3
    simp at e0 e1 e2 e3
    exact ⟨⟨a0, a1, a2, a3⟩, by rw [e0, e1, e2, e3]; rfl⟩
  subst e3
  obtain ⟨a, hsen, hne⟩ : ∃ a : Nat → Addr, Sen a allK W ∧ ∀ j ∈ allK, ∀ k ∈ allK, j ≠ k → a j ≠ a k := by
    have h1 := (laidMetH_iff.1 hL).1
    rw [show (Rows.atlasCellsRow.laid.filter fun x => x.2.handleName?.isNone) = allK.map laidOf by kernel_rfl] at h1
    exact open_sen (ks := allK) (W := W) (by decide) h1
  have hh : Hand W := by
    have h2 := (laidMetH_iff.1 hL).2
    rw [show (Rows.atlasCellsRow.laid.filter fun x => x.2.handleName?.isSome) = [laidType] by kernel_rfl] at h2
    exact open_hand h2
  have fin : ∀ (e : Ending) (W' : World), (e = .returned (.bool true) ∧ Below W.heap.size W W') → ∃ v, e = .returned v ∧ Rows.atlasCellsSpec.post enc Tryd.prog Tryd.f5 false true false false W #[.slice s0 len0 cap0, .int .i64 x1, drV X2, spV X3] v W' := by
    intro e W' ⟨he, bel⟩
    subst he
    exact ⟨_, rfl, _, _, _, [], _, [], hW', trodAll_mk1 (shut_bool Tryd.underlying4 _), (trodAll_cons_mk (Below.trod laidOut (by kernel_rfl) (of_decide_eq_true (by kernel_rfl)) k0 bel lt0) (trodAll_cons_mk (Below.trod laidOut (by kernel_rfl) (of_decide_eq_true (by kernel_rfl)) k1 bel lt1) (trodAll_cons_mk (Below.trod laidOut (by kernel_rfl) (of_decide_eq_true (by kernel_rfl)) k2 bel lt2) (trodAll_cons_mk (Below.trod laidOut (by kernel_rfl) (of_decide_eq_true (by kernel_rfl)) k3 bel lt3) trodAll_mk0)))), rfl, bel.frame _, fun h => by cases h⟩
  have ww := cells_walk a s0 l0 cap0 x1 X2 X3 W hsen hh hne (by omega) hp0 hn0
  rw [hl0] at ww
  exact ww.mono fin

theorem row_holds : Rows.AtlasCellsSaid :=
  OpenClaim.holds_of_wide 5 Tryd.f5 rfl rfl rfl rfl rfl rfl rfl ⟨rfl, rfl, rfl, rfl, rfl⟩ rfl rfl rfl rfl rfl (by kernel_rfl) Tryd.func5 (by kernel_rfl)
    (of_decide_eq_true (by kernel_rfl)) (by unfold Func.isWrapper; first | (rw [if_pos (by decide +kernel)]; kernel_rfl) | (rw [if_neg (by decide +kernel)]; exact ⟨rfl, rfl⟩))
    (fun os started H enc _ => lifted os started H enc)
/-- THE TIED CARD. -/
theorem holds : Rows.AtlasCellsCardSaid :=
  Claim7.holds_tied_plain_at .later [] [.handle, .sentinel, .sentinel, .sentinel, .sentinel, .sentinel, .sentinel, .sentinel, .sentinel, .sentinel, .sentinel] true (true, "b6f92032fe91280c072e5eee59a9d7d907448176c45610988db166ee237ed38b") true
    row_holds (fun _ h => by cases h) (by kernel_rfl) (fun _ h => by cases h) atlasCells_row_tie rfl ⟨rfl, rfl⟩ (by kernel_rfl) rfl
    (fun f fn hf hfn => by
      obtain rfl : f = 5 := Option.some.inj ((show Tryd.prog.funcNamed "meridian/meridianlaw5.AtlasCells" = some 5 by kernel_rfl).symm.trans hf) |>.symm
      obtain rfl : fn = Tryd.f5 := (Option.some.inj (Tryd.func5.symm.trans hfn)).symm
      exact ⟨by kernel_rfl, fun j t ht => by
        rw [Tryd.params5] at ht
        have hm : t ∈ [44, 3, 46, 48] := by
          have := Array.mem_of_getElem? ht
          simpa using this
        have hall : ([44, 3, 46, 48].all fun u => !Tryd.prog.wantsStandIn u) = true := by kernel_rfl
        exact (show Tryd.prog.wantsStandIn t = false by simpa using List.all_eq_true.1 hall t hm)⟩)
    (by kernel_rfl)
#print axioms holds
end Go.Proofs.YtjjjbkehmnfgbaaDoor.atlasCellsProof
