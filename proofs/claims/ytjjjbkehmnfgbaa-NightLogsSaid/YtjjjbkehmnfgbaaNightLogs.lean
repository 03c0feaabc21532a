/- Proved here: meridianlaw5.NightLogs returns true for every input. Conditions: none. -/
import Derived.Test.YtjjjbkehmnfgbaaRows
import Derived.Test.YtjjjbkehmnfgbaaNl13
import Derived.ProofKit
import Derived.OpenShut
import Derived.ShutString
import Derived.ChangeOld
import Derived.Lib.SmallJoins
import Derived.Deep.Slices
import Derived.Deep.Fields
namespace Go.Proofs.Ytjjjbkehmnfgbaa.nightLogsProof
open Go.ChangeShapes Go.WideShapes Go.ChangeAt Go.RowKit Go.Joins Go.Grow Go.Deep
open Go.ChangeMaps (open_string shut_string)

theorem own : ownKnob Try.prog.godebug = none := by kernel_rfl
theorem laidOut : laidOutB Try.prog = true := by kernel_rfl
theorem cellsRR : Try.prog.cellsOf 30 = 3 := by kernel_rfl
theorem cellsI : Try.prog.cellsOf 3 = 1 := by kernel_rfl
theorem cellsU : Try.prog.cellsOf 5 = 1 := by kernel_rfl
set_option maxRecDepth 100000 in
theorem open_r {H : Type} {enc : TypeId × Value → H} {W : World} {nn k : Nat} {a0 : Addr} {cs' : List Value} {x : DataW H × List MemPlace}
    (hc : W.cells? 0 (a0.add (k * 3)) 3 = some cs') (ht : DataW.trod enc Try.prog W 0 (fun _ => true) true nn 30 cs' = some x) :
    ∃ r : Res, r.ok ∧ W.cell? (a0.add (k * 3)) = some (.int .i64 r.i) ∧ W.cell? ((a0.add (k * 3)).add 1) = some (.int .i64 r.s) ∧ W.cell? ((a0.add (k * 3)).add 2) = some (.int .i64 r.l) := by
  obtain ⟨_, hcl, hat⟩ := World.cells?_some hc
  obtain ⟨xs, n1, _, _, _, hxl, hf⟩ := DataW.trod_struct Try.underlying30 ht
  match cs', hcl with
  | [c0, c1, c2], _ =>
    match xs, hxl with
    | [y0, y1, y2], _ =>
      have f0 := hf 0 _ rfl
      have f1 := hf 1 _ rfl
      have f2 := hf 2 _ rfl
      obtain ⟨a, e0, _, w0⟩ := DataW.trod_int Try.underlying3 (x := y0) f0
      obtain ⟨b, e1, _, w1⟩ := DataW.trod_int Try.underlying3 (x := y1) f1
      obtain ⟨c, e2, _, w2⟩ := DataW.trod_int Try.underlying3 (x := y2) f2
      simp [cellsI] at e0 e1 e2
      refine ⟨⟨a, b, c⟩, ⟨bounds_i64 w0, bounds_i64 w1, bounds_i64 w2⟩, ?_, ?_, ?_⟩
      · have := hat 0 (by decide)
        rw [show (a0.add (k * 3)).add 0 = a0.add (k * 3) from rfl] at this
        rw [this, e0]; rfl
      · rw [hat 1 (by decide), e1]; rfl
      · rw [hat 2 (by decide), e2]; rfl
theorem addN (b o k : Nat) : (⟨b, o, none⟩ : Addr).add k = ⟨b, o + k, none⟩ := by
  unfold Addr.add
  split <;> simp_all
/-- A list of results, opened. -/
theorem open_res {H : Type} {enc : TypeId × Value → H} {W : World} {fuel : Nat} {s : Option Addr} {len cap : Nat} {x : DataW H × List MemPlace}
    (hf : DataW.trod enc Try.prog W 0 (fun _ => true) true fuel 22 (Value.slice s len cap).cells.toList = some x) :
    ∃ l : List Res, l.length = len ∧ (∀ r ∈ l, r.ok) ∧ ResAt W s l ∧ len ≤ cap ∧ cap ≤ 9223372036854775807 := by
  rcases open_slice Try.underlying22 hf with ⟨hcs, _⟩ | ⟨a0, len', cap', m, nn, D, Pl, hcs, _, hlc, hcm, hmm, _, hi⟩
  · have hcs' : (Value.slice s len cap) = .slice none 0 0 := by simpa [Value.cells] using hcs
    cases hcs'
    exact ⟨[], rfl, fun _ h => (by cases h), .inl rfl, Nat.le_refl _, by omega⟩
  · have hcs' : (Value.slice s len cap) = .slice (some a0) len' cap' := by simpa [Value.cells] using hcs
    cases hcs'
    have hcap : cap ≤ 9223372036854775807 := by unfold maxLen at hcm; omega
    have hm : len ≤ m := by rw [hmm]; split <;> omega
    have key : ∀ k, k < len → ∃ r : Res, r.ok ∧ W.cell? (a0.add (k * 3)) = some (.int .i64 r.i) ∧ W.cell? ((a0.add (k * 3)).add 1) = some (.int .i64 r.s) ∧ W.cell? ((a0.add (k * 3)).add 2) = some (.int .i64 r.l) := fun k hk => by
      obtain ⟨cs', hc, ht'⟩ := hi k (by omega)
      rw [cellsRR] at hc
      exact open_r hc ht'
    by_cases hz : len = 0
    · subst hz
      exact ⟨[], rfl, fun _ h => (by cases h), .inl rfl, hlc, hcap⟩
    · obtain ⟨b0, o0, sp⟩ := a0
      have hsp : sp = none := by
        obtain ⟨r, _, h, _⟩ := key 0 (by omega)
        rw [Nat.zero_mul] at h
        simpa [Addr.add] using World.cell?_spot h
      subst hsp
      simp only [addN] at key
      have hall : ∀ k, ∃ r : Res, k < len → r.ok ∧ W.cell? ⟨b0, o0 + k * 3, none⟩ = some (.int .i64 r.i) ∧ W.cell? ⟨b0, o0 + k * 3 + 1, none⟩ = some (.int .i64 r.s) ∧ W.cell? ⟨b0, o0 + k * 3 + 2, none⟩ = some (.int .i64 r.l) := fun k => by
        by_cases hk : k < len
        · obtain ⟨r, h⟩ := key k hk
          exact ⟨r, fun _ => h⟩
        · exact ⟨⟨0, 0, 0⟩, fun h => absurd h hk⟩
      refine ⟨(List.range len).map fun k => Classical.choose (hall k), by simp, fun r hr => ?_, .inr ⟨b0, o0, rfl, fun k hk => ?_⟩, hlc, hcap⟩
      · obtain ⟨k, hk, rfl⟩ := List.mem_map.1 hr
        exact (Classical.choose_spec (hall k) (List.mem_range.1 hk)).1
      · simp only [List.getElem_map, List.getElem_range]
        exact (Classical.choose_spec (hall k) (by simpa using hk)).2
/-- Bytes, opened. -/
theorem open_bytes {H : Type} {enc : TypeId × Value → H} {W : World} {fuel : Nat} {s : Option Addr} {len cap : Nat} {x : DataW H × List MemPlace}
    (hf : DataW.trod enc Try.prog W 0 (fun _ => true) true fuel 23 (Value.slice s len cap).cells.toList = some x) :
    ∃ l : List Nat, l.length = len ∧ (28 ≤ l.length → ∃ b o, s = some ⟨b, o, none⟩ ∧ b < W.heap.size ∧ Bytes W b o l) ∧ len ≤ cap ∧ cap ≤ 9223372036854775807 := by
  rcases open_slice Try.underlying23 hf with ⟨hcs, _⟩ | ⟨a0, len', cap', m, nn, D, Pl, hcs, _, hlc, hcm, hmm, _, hi⟩
  · have hcs' : (Value.slice s len cap) = .slice none 0 0 := by simpa [Value.cells] using hcs
    cases hcs'
    exact ⟨[], rfl, fun h => absurd h (by simp), Nat.le_refl _, by omega⟩
  · have hcs' : (Value.slice s len cap) = .slice (some a0) len' cap' := by simpa [Value.cells] using hcs
    cases hcs'
    have hcap : cap ≤ 9223372036854775807 := by unfold maxLen at hcm; omega
    have hm : len ≤ m := by rw [hmm]; split <;> omega
    have key : ∀ k, k < len → ∃ n : Nat, n < 256 ∧ W.cell? (a0.add k) = some (.int .u8 (n : Int)) := fun k hk => by
      obtain ⟨cs', hc, ht'⟩ := hi k (by omega)
      rw [cellsU, Nat.mul_one] at hc
      obtain ⟨_, hcl, hat⟩ := World.cells?_some hc
      match cs', hcl with
      | [c], _ =>
        obtain ⟨n, e, _, wn⟩ := DataW.trod_int Try.underlying5 ht'
        have hb := bounds_u8 wn
        have h0 := hat 0 (by decide)
        simp at e
        refine ⟨n.toNat, by omega, ?_⟩
        rw [show (a0.add k).add 0 = a0.add k from rfl] at h0
        rw [h0, e, Int.toNat_of_nonneg hb.1]
        rfl
    by_cases hz : len = 0
    · subst hz
      exact ⟨[], rfl, fun h => absurd h (by simp), hlc, hcap⟩
    · obtain ⟨b0, o0, sp⟩ := a0
      have hsp : sp = none := by
        obtain ⟨n, _, h⟩ := key 0 (by omega)
        simpa [Addr.add] using World.cell?_spot h
      subst hsp
      simp only [addN] at key
      have hall : ∀ k, ∃ n : Nat, k < len → n < 256 ∧ W.cell? ⟨b0, o0 + k, none⟩ = some (.int .u8 (n : Int)) := fun k => by
        by_cases hk : k < len
        · obtain ⟨n, h⟩ := key k hk
          exact ⟨n, fun _ => h⟩
        · exact ⟨0, fun h => absurd h hk⟩
      have hlt : b0 < W.heap.size := by
        obtain ⟨n, _, h⟩ := key 0 (by omega)
        exact lt_of_cell (a := ⟨b0, _, none⟩) h
      refine ⟨(List.range len).map fun k => Classical.choose (hall k), by simp, fun _ => ⟨b0, o0, rfl, hlt, fun k hk => ?_, fun n hn => ?_⟩, hlc, hcap⟩
      · simp only [List.getElem_map, List.getElem_range]
        exact (Classical.choose_spec (hall k) (by simpa using hk)).2
      · obtain ⟨k, hk, rfl⟩ := List.mem_map.1 hn
        exact (Classical.choose_spec (hall k) (List.mem_range.1 hk)).1

set_option maxRecDepth 100000 in
theorem lifted (os : Os) (started : os.Started) (H : Type) (enc : TypeId × Value → H) :
    ReturnsInHanded {} Try.checked os 3 .any (Rows.nightLogsSpec.pre6 enc Try.prog Try.f3 Rows.nightLogsRow.domain false) (Rows.nightLogsSpec.post enc Try.prog Try.f3 false true false false) := by
  refine returnsInHanded_of_change (C := Try.checked) own started (by kernel_rfl) Try.func3
    (ChangeSpec.witness6 (enc := enc) (C := Try.checked) false ⟨#[], #[.slice none 0 0, .slice none 0 0, .int .i64 0], []⟩ 8 (by kernel_rfl) (by kernel_rfl) (by kernel_rfl) (by kernel_rfl)) ?_
  intro W base args ds gs before hval0 hW hcnd _
  have hval : ∀ (j : Nat) t v, Try.f3.params[j]? = some t → args[j]? = some v → Value.okWide Try.prog W .any base t v := hval0
  have hW' := hW
  obtain ⟨p, q, hA0, hV, rfl, hfz, hnd⟩ := hW
  have hA : DataW.TrodAll enc Try.prog W 0 (fun _ => true) true Try.f3.params.toList args.toList ds p := hA0
  rw [Try.params3] at hA hval
  obtain ⟨v0, vs0, d0, ds0, p0, q0, hargs, rfl, rfl, h0, r0⟩ := trodAll_cons hA
  obtain ⟨v1, vs1, d1, ds1, p1, q1, rfl, rfl, rfl, h1, r1⟩ := trodAll_cons r0
  obtain ⟨v2, vs2, d2, ds2, p2, q2, rfl, rfl, rfl, h2, r2⟩ := trodAll_cons r1
  obtain ⟨rfl, rfl, rfl⟩ := trodAll_nil r2
  obtain rfl : args = #[v0, v1, v2] := by cases args; simp_all
  obtain ⟨rfl, rfl⟩ := trodVars_none hV
  have k0 := h0
  have lt0 : ∀ x ∈ p0, x.block < W.heap.size := by obtain ⟨m, hm⟩ := k0; exact DataW.trod_lt m _ _ _ hm
  have k1 := h1
  have lt1 : ∀ x ∈ p1, x.block < W.heap.size := by obtain ⟨m, hm⟩ := k1; exact DataW.trod_lt m _ _ _ hm
  have k2 := h2
  have lt2 : ∀ x ∈ p2, x.block < W.heap.size := by obtain ⟨m, hm⟩ := k2; exact DataW.trod_lt m _ _ _ hm
  obtain ⟨x2, e2, _, _, w2⟩ := open_int Try.underlying3 (hval 2 _ v2 rfl rfl) h2
  subst e2
  obtain ⟨s0, n0, c0, rfl⟩ := okWide_slice Try.underlying22 (hval 0 _ v0 rfl rfl)
  obtain ⟨s1, n1, c1, rfl⟩ := okWide_slice Try.underlying23 (hval 1 _ v1 rfl rfl)
  obtain ⟨l, hl, hok, hres, hlc, hc0⟩ : ∃ l : List Res, l.length = n0 ∧ (∀ r ∈ l, r.ok) ∧ ResAt W s0 l ∧ n0 ≤ c0 ∧ c0 ≤ 9223372036854775807 := by
    obtain ⟨fuel, hf⟩ := h0
    exact open_res hf
  obtain ⟨B, hB, hby, hlc1, hc1⟩ : ∃ l : List Nat, l.length = n1 ∧ (28 ≤ l.length → ∃ b o, s1 = some ⟨b, o, none⟩ ∧ b < W.heap.size ∧ Bytes W b o l) ∧ n1 ≤ c1 ∧ c1 ≤ 9223372036854775807 := by
    obtain ⟨fuel, hf⟩ := h1
    exact open_bytes hf
  subst hl
  subst hB
  clear hA0 hval0
  have fin : ∀ (e : Ending) (W' : World), (e = .returned (.bool true) ∧ Below W.heap.size W W') → ∃ v, e = .returned v ∧ Rows.nightLogsSpec.post enc Try.prog Try.f3 false true false false W #[.slice s0 l.length c0, .slice s1 B.length c1, .int .i64 x2] v W' := by
    intro e W' ⟨he, bel⟩
    subst he
    exact ⟨_, rfl, _, _, _, [], _, [], hW', trodAll_mk1 (shut_bool Try.underlying4 _), (trodAll_cons_mk (Below.trod laidOut (by kernel_rfl) (of_decide_eq_true (by kernel_rfl)) k0 bel lt0) (trodAll_cons_mk (Below.trod laidOut (by kernel_rfl) (of_decide_eq_true (by kernel_rfl)) k1 bel lt1) (trodAll_cons_mk (Below.trod laidOut (by kernel_rfl) (of_decide_eq_true (by kernel_rfl)) k2 bel lt2) trodAll_mk0))), rfl, bel.frame _, fun h => by cases h⟩
  by_cases hlong : 60 < l.length ∨ 2000 < B.length
  · exact (logs_long s0 s1 l.length B.length c0 c1 x2 W hlong).mono fin
  · exact (logs_short s0 s1 l B c0 c1 x2 W (by omega) (by omega) hres hok hlc hc0 hby hlc1 hc1).mono fin

theorem holds : Rows.NightLogsSaid :=
  OpenClaim.holds_of_wide 3 Try.f3 rfl rfl rfl rfl rfl rfl rfl ⟨rfl, rfl, rfl, rfl, rfl⟩ rfl rfl rfl rfl rfl (by kernel_rfl) Try.func3 (by kernel_rfl)
    (of_decide_eq_true (by kernel_rfl)) (by unfold Func.isWrapper; first | (rw [if_pos (by decide +kernel)]; kernel_rfl) | (rw [if_neg (by decide +kernel)]; exact ⟨rfl, rfl⟩))
    (fun os started H enc _ => lifted os started H enc)

#print axioms holds
end Go.Proofs.Ytjjjbkehmnfgbaa.nightLogsProof
