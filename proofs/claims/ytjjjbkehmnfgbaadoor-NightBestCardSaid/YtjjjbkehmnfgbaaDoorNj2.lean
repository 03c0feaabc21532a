/- The night's jobs: few; whether they are right, the document's. -/
import Derived.Test.YtjjjbkehmnfgbaaDoorNs5
import Derived.MapKept
set_option linter.unusedSimpArgs false
set_option linter.unusedVariables false
namespace Go.Proofs.YtjjjbkehmnfgbaaDoor
open Go.RowKit Go.Grow Go.Night

theorem bytes_dec (a b : ByteArray) : (a == b) = decide (a = b) := by
  rw [Bool.eq_iff_iff, decide_eq_true_eq]; exact MapKept.bytes_beq a b
theorem toList_dec (a b : ByteArray) : (a.toList == b.toList) = decide (a = b) := by
  rw [Bool.eq_iff_iff, decide_eq_true_eq, beq_iff_eq, ByteArray.toList_eq, ByteArray.toList_eq]
  refine ⟨fun h => ?_, fun h => by rw [h]⟩
  obtain ⟨⟨x⟩⟩ := a
  obtain ⟨⟨y⟩⟩ := b
  simpa using h
def twin (l : List Jb) (i : Nat) : Nat → Bool
  | 0 => false
  | k + 1 => twin l i k || decide ((at_ l k).name = (at_ l i).name)
def nameOk (l : List Jb) (i : Nat) : Bool := !decide ((at_ l i).name = .empty) && !twin l i i
def namesUp (l : List Jb) : Nat → Bool
  | 0 => true
  | i + 1 => namesUp l i && nameOk l i
def shapeB (j : Jb) : Bool := decide (1 ≤ j.long) && decide (j.long ≤ 1099511627776) && decide (1 ≤ j.worth) && decide (j.worth ≤ 1099511627776) && fineB j.win
def shapesUp (l : List Jb) : Nat → Bool
  | 0 => true
  | i + 1 => shapesUp l i && shapeB (at_ l i)
def jobsE (l : List Jb) : Nat := if 12 < l.length then 2 else if namesUp l l.length then (if shapesUp l l.length then 0 else 5) else 10
theorem up_false {f : Nat → Bool} {g : Nat → Bool} (hs : ∀ i, f (i + 1) = (f i && g i)) {k : Nat} (h : f k = false) : ∀ m, k ≤ m → f m = false
  | 0, hm => by obtain rfl : k = 0 := by omega
                exact h
  | m + 1, hm => by
    rcases Nat.lt_or_ge m k with h1 | h1
    · obtain rfl : k = m + 1 := by omega
      exact h
    · rw [hs, up_false hs h m h1]; rfl
theorem up_at {f : Nat → Bool} {g : Nat → Bool} (hs : ∀ i, f (i + 1) = (f i && g i)) : ∀ {m : Nat}, f m = true → ∀ k, k < m → g k = true
  | 0, _, k, hk => absurd hk (by omega)
  | m + 1, h, k, hk => by
    rw [hs, Bool.and_eq_true] at h
    by_cases c : k = m
    · subst c; exact h.2
    · exact up_at hs h.1 k (by omega)
theorem twin_true {l : List Jb} {i : Nat} : ∀ {n k : Nat}, k < n → (at_ l k).name = (at_ l i).name → twin l i n = true
  | 0, k, h, _ => absurd h (by omega)
  | n + 1, k, h, e => by
    unfold twin
    by_cases c : k = n
    · subst c; rw [decide_eq_true e, Bool.or_true]
    · rw [twin_true (k := k) (by omega) e, Bool.true_or]
theorem names_bad {l : List Jb} {i : Nat} (hi : i < l.length) (h : nameOk l i = false) : namesUp l l.length = false :=
  up_false (f := namesUp l) (g := nameOk l) (fun _ => rfl) (k := i + 1) (by rw [namesUp, h, Bool.and_false]) _ hi
theorem shapes_bad {l : List Jb} {i : Nat} (hi : i < l.length) (h : shapeB (at_ l i) = false) : shapesUp l l.length = false :=
  up_false (f := shapesUp l) (g := fun i => shapeB (at_ l i)) (fun _ => rfl) (k := i + 1) (by rw [shapesUp, h, Bool.and_false]) _ hi
theorem rise_up {l : List (Int × Int)} (h : fineB l = true) : Up l := by
  unfold Up
  have key : ∀ i j (hi : i < l.length) (hj : j < l.length), i < j → l[i].2 ≤ l[j].1 := by
    intro i j hi hj hij
    induction j with
    | zero => omega
    | succ j ih =>
      obtain ⟨a1, a2, a3, a4⟩ := fine_at h (j + 1) hj
      have h1 := a4 j rfl
      by_cases c : i = j
      · subst c; omega
      · have h2 := ih (by omega) (by omega)
        obtain ⟨b1, _⟩ := fine_at h j (by omega)
        omega
  rw [List.pairwise_iff_getElem]
  exact fun i j hi hj hij => key i j hi hj hij
theorem fine_of_jobs {l : List Jb} (h : jobsE l = 0) : Fine l ∧ l.length ≤ 12 := by
  unfold jobsE at h
  by_cases c1 : 12 < l.length
  · rw [if_pos c1] at h; cases h
  · rw [if_neg c1] at h
    by_cases c2 : namesUp l l.length = true
    · rw [if_pos c2] at h
      by_cases c3 : shapesUp l l.length = true
      · have hn := up_at (f := namesUp l) (g := nameOk l) (fun _ => rfl) c2
        have hs := up_at (f := shapesUp l) (g := fun i => shapeB (at_ l i)) (fun _ => rfl) c3
        have hap : ∀ i k, i < k → k < l.length → (at_ l i).name ≠ (at_ l k).name := fun i k hik hk e => by
          have h1 := hn k hk
          unfold nameOk at h1
          rw [twin_true hik e] at h1
          simp at h1
        have hsh : ∀ j ∈ l, shapeB j = true := fun j hj => by
          obtain ⟨i, hi, rfl⟩ := List.mem_iff_getElem.1 hj
          have := hs i hi
          simp only [at_get hi] at this
          exact this
        refine ⟨⟨fun i k hi hk e => ?_, fun j hj => ?_, fun j hj => ?_, fun j hj x hx => ?_, fun j hj => ?_⟩, by omega⟩
        · rcases Nat.lt_trichotomy i k with h1 | h1 | h1
          · exact absurd e (hap i k h1 hk)
          · exact h1
          · exact absurd e.symm (hap k i h1 hi)
        · have := hsh j hj; unfold shapeB at this; simp only [Bool.and_eq_true, decide_eq_true_eq] at this; omega
        · have := hsh j hj; unfold shapeB at this; simp only [Bool.and_eq_true, decide_eq_true_eq] at this; omega
        · have := hsh j hj; unfold shapeB at this; simp only [Bool.and_eq_true, decide_eq_true_eq] at this
          obtain ⟨i, hi, rfl⟩ := List.mem_iff_getElem.1 hx
          obtain ⟨a1, a2, a3, a4⟩ := fine_at this.2 i hi
          exact ⟨a2, a1, a3⟩
        · have := hsh j hj; unfold shapeB at this; simp only [Bool.and_eq_true, decide_eq_true_eq] at this
          exact rise_up this.2
      · rw [if_neg c3] at h; cases h
    · rw [if_neg c2] at h; cases h

/-! few -/
def winsUp (l : List Jb) : Nat → Bool
  | 0 => true
  | i + 1 => winsUp l i && decide ((at_ l i).win.length ≤ 20)
def fewB (l : List Jb) : Bool := winsUp l l.length && (decide (l.length ≤ 6) || (decide (12 < l.length) && decide (l.length ≤ 20)))
theorem wins_bad {l : List Jb} {i : Nat} (hi : i < l.length) (h : 20 < (at_ l i).win.length) : fewB l = false := by
  unfold fewB
  rw [up_false (f := winsUp l) (g := fun i => decide ((at_ l i).win.length ≤ 20)) (fun _ => rfl) (k := i + 1) (by rw [winsUp, decide_eq_false (show ¬ (at_ l i).win.length ≤ 20 by omega), Bool.and_false]) _ hi]
  rfl
theorem few_wins {l : List Jb} (h : fewB l = true) : (∀ j ∈ l, j.win.length ≤ 20) ∧ (l.length ≤ 6 ∨ 12 < l.length ∧ l.length ≤ 20) := by
  unfold fewB at h
  simp only [Bool.and_eq_true, Bool.or_eq_true, decide_eq_true_eq] at h
  refine ⟨fun j hj => ?_, h.2⟩
  obtain ⟨i, hi, rfl⟩ := List.mem_iff_getElem.1 hj
  have := up_at (f := winsUp l) (g := fun i => decide ((at_ l i).win.length ≤ 20)) (fun _ => rfl) h.1 i hi
  simp only [at_get hi, decide_eq_true_eq] at this
  exact this
set_option maxRecDepth 100000 in
set_option maxHeartbeats 8000000 in
theorem fewJobs_walk (r : Option Addr) (l : List Jb) (cap : Nat) (w : World) (hl : l.length ≤ 9223372036854775807) (hr : JobsAt w r l) :
    Calls Tryd.prog 8 #[.slice r l.length cap] w fun e w' => e = .returned (.bool (fewB l)) ∧ w = w' := by
  have HR := Lib.hid hr
  clear hr
  go_enter Tryd.func8, Tryd.ntmps8
  go_wp2
  go_loopw [3] (fun v3 wr => ∃ k : Nat, k ≤ l.length ∧ v3 = .int .i64 k ∧ w = wr ∧ Hid (winsUp l k = true)) (fun i _ => l.length - (intOf i).toNat)
  case atStart => exact ⟨0, Nat.zero_le _, rfl, rfl, Lib.hid rfl⟩
  case round =>
    obtain ⟨k, hk, rfl, rfl, HI⟩ := hrel
    by_cases hlt : k < l.length
    · obtain ⟨b1, o1, rfl, hc⟩ := HR.out.resolve_left (by intro h; rw [h] at hlt; exact absurd hlt (by simp))
      obtain ⟨rs, cs, e0, e1, e2, e3, hsp⟩ := hc k hlt
      have hi0 : (0 : Int) ≤ (k : Int) := by omega
      have hi1 : (k : Int) < (l.length : Int) := by omega
      have HB := Lib.hid (fun h => wins_bad hlt h)
      have HS := Lib.hid (show winsUp l (k + 1) = (winsUp l k && decide ((at_ l k).win.length ≤ 20)) from rfl)
      clear hc hsp
      generalize at_ l k = x at e0 e1 e2 e3 HB HS
      obtain ⟨nm, wn, lg, wt⟩ := x
      simp only at e0 e1 e2 e3 HB HS
      by_cases c : 20 < wn.length
      · have HZ := Lib.hid (HB.out c)
        clear HB HS HI
        go_wp2
        go_ret
        exact ⟨by rw [HZ.out]; rfl, rfl⟩
      · have HZ := Lib.hid (show winsUp l (k + 1) = true by rw [HS.out, HI.out, decide_eq_true (show wn.length ≤ 20 by omega)]; rfl)
        clear HB HS HI
        go_wp2
        go_roundw
        case rel => exact ⟨k + 1, by omega, by go_num, trivial, HZ⟩
        case measure => simp [intOf]; omega
    · obtain rfl : k = l.length := by omega
      have HF := Lib.hid (show fewB l = (decide (l.length ≤ 6) || (decide (12 < l.length) && decide (l.length ≤ 20))) by unfold fewB; rw [HI.out]; rfl)
      clear HI HR
      generalize l.length = n at *
      by_cases c1 : n ≤ 6
      · have d1 : decide (n ≤ 6) = true := decide_eq_true c1
        go_wp2
        go_ret
        refine ⟨congrArg (fun b => Ending.returned (.bool b)) ?_, rfl⟩
        rw [HF.out, Bool.eq_iff_iff]
        simp [d1]
        (try omega)
      · have d1 : decide (n ≤ 6) = false := decide_eq_false c1
        by_cases c2 : 12 < n
        · have d2 : decide (12 < n) = true := decide_eq_true c2
          go_wp2
          go_ret
          refine ⟨congrArg (fun b => Ending.returned (.bool b)) ?_, rfl⟩
          rw [HF.out, Bool.eq_iff_iff]
          simp [d1, d2]
          (try omega)
        · have d2 : decide (12 < n) = false := decide_eq_false c2
          go_wp2
          go_ret
          refine ⟨congrArg (fun b => Ending.returned (.bool b)) ?_, rfl⟩
          rw [HF.out, Bool.eq_iff_iff]
          simp [d1, d2]
          (try omega)
end Go.Proofs.YtjjjbkehmnfgbaaDoor
