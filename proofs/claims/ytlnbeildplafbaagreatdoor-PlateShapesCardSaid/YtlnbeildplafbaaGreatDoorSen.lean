/- The program's sentinels: what the condition on them gives a walk; kept from world to world. -/
import Derived.Test.YtlnbeildplafbaaGreatDoorChecked
import Derived.Test.YtlnbeildplafbaaGreatDoorGrow
import Derived.WalkKit
import Derived.RowKitTokens
import Derived.Stop.LaidErr
import Derived.LaidHandle
import Derived.LaidMore
import Derived.ProofKit
import Derived.Lib.Hide
set_option linter.unusedSimpArgs false
set_option linter.unusedVariables false
namespace Go.Proofs.YtlnbeildplafbaaGreatDoor
open Go.RowKit Go.Grow Go.ChangeShapes

/-- The variable of a sentinel, by the error's number. -/
def gOf : Nat → Nat
  | 1 => 1 | 2 => 2 | 3 => 3 | 4 => 4 | 5 => 0
  | 6 => 5 | 7 => 6 | 8 => 7 | 9 => 8 | 10 => 9 | _ => 0
def nameOf : Nat → String
  | 1 => "meridian/api.ErrText" | 2 => "meridian/api.ErrBound" | 3 => "meridian/api.ErrTime" | 4 => "meridian/api.ErrTable" | 5 => "meridian/api.ErrShape"
  | 6 => "meridian/api.ErrLimit" | 7 => "meridian/api.ErrState" | 8 => "meridian/api.ErrFile" | 9 => "meridian/api.ErrNone" | 10 => "meridian/api.ErrName" | _ => ""
def tailOf : Nat → List UInt8
  | 1 => [116, 101, 120, 116] | 2 => [98, 111, 117, 110, 100] | 3 => [116, 105, 109, 101] | 4 => [116, 97, 98, 108, 101] | 5 => [115, 104, 97, 112, 101]
  | 6 => [108, 105, 109, 105, 116] | 7 => [115, 116, 97, 116, 101] | 8 => [102, 105, 108, 101] | 9 => [110, 111, 110, 101] | 10 => [110, 97, 109, 101] | _ => []
def textOf (k : Nat) : List UInt8 := [109, 101, 114, 105, 100, 105, 97, 110, 58, 32] ++ tailOf k
/-- An error as a value, by its number (0: nil). -/
def errV (a : Nat → Addr) (k : Nat) : Value := if k = 0 then .nilIface else .iface 353 (.pointer (some (a k)))
theorem errV_zero (a : Nat → Addr) : errV a 0 = .nilIface := rfl
theorem errV_pos (a : Nat → Addr) {k : Nat} (h : k ≠ 0) : errV a k = .iface 353 (.pointer (some (a k))) := if_neg h

/-- The sentinels ks lie in w, at a. -/
def Sen (a : Nat → Addr) (ks : List Nat) (w : World) : Prop :=
  ∀ k ∈ ks, w.cell? ⟨gOf k, 0, none⟩ = some (.iface 353 (.pointer (some (a k)))) ∧ ∃ c t, w.heap[(a k).block]? = some (.cells c t (0, 0))
theorem Sen.below {a : Nat → Addr} {ks : List Nat} {w w' : World} (h : Sen a ks w) (hb : Below w.heap.size w w') : Sen a ks w' := fun k hk => by
  obtain ⟨h1, c, t, h2⟩ := h k hk
  refine ⟨?_, c, t, ?_⟩
  · rw [hb.cell (p := ⟨gOf k, 0, none⟩) (lt_of_cell h1)]; exact h1
  · rw [hb.block _ (Array.getElem?_eq_some_iff.1 h2).1]; exact h2
theorem Sen.sub {a : Nat → Addr} {ks js : List Nat} {w : World} (h : Sen a ks w) (hs : ∀ k ∈ js, k ∈ ks) : Sen a js w := fun k hk => h k (hs k hk)
theorem Sen.lt {a : Nat → Addr} {ks : List Nat} {w : World} (h : Sen a ks w) {k : Nat} (hk : k ∈ ks) : gOf k < w.heap.size ∧ (a k).block < w.heap.size := by
  obtain ⟨h1, c, t, h2⟩ := h k hk
  exact ⟨lt_of_cell h1, (Array.getElem?_eq_some_iff.1 h2).1⟩

theorem tiOf (k : Nat) (h : 1 ≤ k ∧ k ≤ 10) (hp : (Tryz.prog.globalNamed (nameOf k)).isSome = true) : Tryz.prog.globalNamed (nameOf k) = some (gOf k) ∧ (Tryz.prog.globals[gOf k]?).map (·.type) = some 38 := by
  obtain ⟨h1, h2⟩ := h
  have : k = 1 ∨ k = 2 ∨ k = 3 ∨ k = 4 ∨ k = 5 ∨ k = 6 ∨ k = 7 ∨ k = 8 ∨ k = 9 ∨ k = 10 := by omega
  rcases this with rfl | rfl | rfl | rfl | rfl | rfl | rfl | rfl | rfl | rfl
  all_goals first
    | exact ⟨by kernel_rfl, by kernel_rfl⟩
    | (exfalso; revert hp; exact fun h => Bool.noConfusion (h.symm.trans (by kernel_rfl)))

theorem rowES (u : TypeId) (h : Tryz.prog.typeName? 3 u = some "*errors.errorString") : u = 353 := by
  refine typeName_ptr_named (nm := "errors.errorString") ?_ ?_ (by decide) u h
  · kernel_rfl
  · kernel_rfl
theorem cellsES : Tryz.prog.cellsOf 378 = 1 := by kernel_rfl
theorem cellsStr : Tryz.prog.cellsOf 9 = 1 := by kernel_rfl

def laidOf (k : Nat) : String × DataW Unit := (nameOf k, .iface "*errors.errorString" (.ptr (.agg [.lit (.string (textOf k))])))

set_option maxRecDepth 10000 in
/-- The condition, opened: where each listed sentinel lies. -/
theorem open_vars {W : World} : ∀ (ks : List Nat) (ps : List MemPlace), (∀ k ∈ ks, 1 ≤ k ∧ k ≤ 10) → DataW.LaidVars Tryz.prog W (ks.map laidOf) ps →
    (∀ b off, MemPlace.cell b off ∈ ps → (∃ c t, W.heap[b]? = some (.cells c t (0, 0))) ∧ ∀ u v, W.cell? ⟨b, off, none⟩ = some (.iface u v) → Value.okWide Tryz.prog W .any 0 u v) → ps.Nodup →
    ∃ a : Nat → Addr, Sen a ks W ∧ (∀ k ∈ ks, MemPlace.cell (a k).block (a k).off ∈ ps) ∧ ∀ j ∈ ks, ∀ k ∈ ks, j ≠ k → a j ≠ a k
  | [], _, _, _, _, _ => ⟨fun _ => ⟨0, 0, none⟩, (fun _ h => by cases h), (fun _ h => by cases h), (fun _ h => by cases h)⟩
  | k :: ks, ps, hk, h, hr, hnd => by
    obtain ⟨g0, t0, cs0, f0, p0, q0, hg0, ht0, hv0, hd0, hq, e0⟩ := h
    have hk0 := hk k (List.mem_cons_self ..)
    have hG := tiOf k hk0 (by rw [show Tryz.prog.globalNamed (nameOf k) = some g0 from hg0]; rfl)
    obtain rfl := Option.some.inj (hG.1.symm.trans hg0)
    obtain rfl := Option.some.inj (hG.2.symm.trans ht0)
    subst e0
    obtain ⟨l0⟩ := cs0
    have ok0 : ∀ u v, l0 = [.iface u v] → Value.okWide Tryz.prog W .any 0 u v := fun u v e => by
      subst e
      exact (hr (gOf k) 0 (by simp [MemPlace.row])).2 u v (by simpa using World.var?_cell hG.1 hv0 0)
    obtain ⟨a0, s0, rfl, hc0, hs0, hz0, rfl⟩ := errorString_of_trod Tryz.underlying38 rowES Tryz.underlying353 Tryz.underlying378 rfl rfl Tryz.underlying9 cellsES cellsStr hd0 ok0
    obtain ⟨a, h1, h2, h3⟩ := open_vars ks q0 (fun j hj => hk j (List.mem_cons_of_mem _ hj)) hq (fun b off hm => hr b off (List.mem_append_right _ hm)) (List.Nodup.sublist (List.sublist_append_right _ _) hnd)
    have hdis : ∀ j ∈ ks, a j ≠ a0 := fun j hj e => by
      have hm := h2 j hj
      rw [e] at hm
      have := List.nodup_append.1 hnd
      exact this.2.2 _ (by simp [MemPlace.row]) _ hm rfl
    by_cases hin : k ∈ ks
    · exfalso
      have hj := h1 k hin
      have hm := h2 k hin
      have hce : W.cell? ⟨gOf k, 0, none⟩ = some (.iface 353 (.pointer (some a0))) := by simpa using World.var?_cell hG.1 hv0 0
      have := hj.1.symm.trans hce
      simp at this
      exact hdis k hin this
    · refine ⟨fun j => if j = k then a0 else a j, fun j hj => ?_, fun j hj => ?_, fun i hi j hj hne => ?_⟩
      · rcases List.mem_cons.1 hj with rfl | hj
        · obtain ⟨c, t, hb⟩ := (hr a0.block a0.off (by simp [MemPlace.row])).1
          exact ⟨by simpa using World.var?_cell hG.1 hv0 0, c, t, by simpa using hb⟩
        · have : j ≠ k := fun e => hin (e ▸ hj)
          simp only [this, if_false]
          exact h1 j hj
      · rcases List.mem_cons.1 hj with rfl | hj
        · simp [MemPlace.row]
        · have : j ≠ k := fun e => hin (e ▸ hj)
          simp only [this, if_false]
          exact List.mem_append_right _ (h2 j hj)
      · rcases List.mem_cons.1 hi with ei | hi2 <;> rcases List.mem_cons.1 hj with ej | hj2
        · exact absurd (ei.trans ej.symm) hne
        · have e2 : j ≠ k := fun e => hin (e ▸ hj2)
          simp only [ei, if_true, e2, if_false]
          exact fun e => hdis j hj2 e.symm
        · have e2 : i ≠ k := fun e => hin (e ▸ hi2)
          simp only [ej, if_true, e2, if_false]
          exact hdis i hi2
        · have e1 : i ≠ k := fun e => hin (e ▸ hi2)
          have e2 : j ≠ k := fun e => hin (e ▸ hj2)
          simp only [e1, e2, if_false]
          exact h3 i hi2 j hj2 hne

theorem open_sen {W : World} {ks : List Nat} (hk : ∀ k ∈ ks, 1 ≤ k ∧ k ≤ 10) (h : laidMet Tryz.prog (ks.map laidOf) W) :
    ∃ a : Nat → Addr, Sen a ks W ∧ ∀ j ∈ ks, ∀ k ∈ ks, j ≠ k → a j ≠ a k := by
  obtain ⟨ps, hv, hnd, hrows⟩ := h
  obtain ⟨a, h1, _, h3⟩ := open_vars ks ps hk hv hrows hnd
  exact ⟨a, h1, h3⟩

/-- The handle of the type error lies in the variable of the package errors. -/
def Hand (w : World) : Prop := w.cell? ⟨10, 0, none⟩ = some (.iface 186 (.agg #[.pointer (some ⟨28, 38, none⟩)]))
theorem Hand.below {w w' : World} (h : Hand w) (hb : Below w.heap.size w w') : Hand w' := by
  unfold Hand at *
  rw [hb.cell (p := ⟨10, 0, none⟩) (lt_of_cell h)]; exact h
theorem et_global : Tryz.prog.globalNamed "errors.errorType" = some 10 := by kernel_rfl
theorem et_rtype : (Tryz.prog.cutTypes.find? (·.1 == "internal/reflectlite.rtype")).map (·.2) = some 186 := by kernel_rfl
theorem et_oneRow : ((List.range 394).filter fun t => Tryz.prog.rowNamed t [101, 114, 114, 111, 114]) = [38] := by kernel_rfl
theorem et_size : Tryz.prog.types.size = 394 := by kernel_rfl
def laidType : String × DataW Unit := ("errors.errorType", .iface "internal/reflectlite.rtype" (.agg [.ptr (.lit (.string [101, 114, 114, 111, 114]))]))
theorem open_hand {W : World} (h : handlesMet Tryz.prog [laidType] W) : Hand W := by
  obtain ⟨name, u, ty, e1, e2, e3, e4, e5⟩ := h _ (List.mem_singleton.2 rfl)
  have en : name = [101, 114, 114, 111, 114] := (Option.some.inj e1).symm
  subst en
  obtain rfl := Option.some.inj (et_rtype.symm.trans e2)
  have hm : ty ∈ (List.range 394).filter fun t => Tryz.prog.rowNamed t [101, 114, 114, 111, 114] := List.mem_filter.2 ⟨List.mem_range.2 (by rw [← et_size]; exact e3), e4⟩
  rw [et_oneRow] at hm
  obtain rfl := List.mem_singleton.1 hm
  have hh : typeHandle Tryz.prog 38 = .pointer (some ⟨28, 38, none⟩) := by kernel_rfl
  rw [hh] at e5
  unfold Hand
  simpa using World.var?_cell et_global e5 0
end Go.Proofs.YtlnbeildplafbaaGreatDoor
