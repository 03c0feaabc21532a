/- Spans: where an instant stands in a list (slices.BinarySearchFunc); whether a list has it (joined's closure). -/
import Derived.Test.YtlfpfeidaohjmaaDoorEs7
set_option linter.unusedSimpArgs false
set_option linter.unusedVariables false
namespace Go.Proofs.YtlfpfeidaohjmaaDoor
open Go.RowKit Go.Grow

/-- The ends rise. -/
def Ends (l : List (Int × Int)) : Prop := ∀ i j (hi : i < j) (hj : j < l.length), (l[i]'(by omega)).2 ≤ l[j].2
def SearchPost (l : List (Int × Int)) (x : Int) (w : World) (e : Ending) (w' : World) : Prop :=
  ∃ (i : Nat) (b : Bool), e = .returned (.tuple #[.int .i64 i, .bool b]) ∧ i ≤ l.length ∧ (∀ j (hj : j < l.length), j < i → l[j].2 ≤ x) ∧ (∀ j (hj : j < l.length), i ≤ j → x < l[j].2) ∧ Below w.heap.size w w'
set_option maxRecDepth 100000 in
set_option maxHeartbeats 8000000 in
theorem search_walk (r : Option Addr) (l : List (Int × Int)) (cap : Nat) (x : Int) (w : World) (h1 : -2305843009213693952 ≤ x) (h2 : x ≤ 2305843009213693952) (hl : l.length ≤ 1000000) (hr : SpAt w r l) (hE : Ends l) :
    Calls Tryd.prog 128 #[.slice r l.length cap, .int .i64 x, .func (.func 129) #[] #[]] w (SearchPost l x w) := by
  have HR := Lib.hid hr
  have HE := Lib.hid hE
  have TC := Lib.hid (fun a b X => toCmp_walk a b x X h1 h2)
  clear hr hE h1 h2
  go_enter Tryd.func128, Tryd.ntmps128
  go_wp2
  go_loopw [9, 10] (fun v9 v10 wr => ∃ i j : Nat, i ≤ j ∧ j ≤ l.length ∧ v9 = .int .i64 i ∧ v10 = .int .i64 j ∧ Hid (∀ k (hk : k < l.length), k < i → l[k].2 ≤ x) ∧ Hid (∀ k (hk : k < l.length), j ≤ k → x < l[k].2) ∧ Below w.heap.size w wr) (fun i j _ => (intOf j).toNat - (intOf i).toNat)
  case atStart => exact ⟨0, l.length, Nat.zero_le _, Nat.le_refl _, rfl, rfl, Lib.hid fun k hk h => absurd h (by omega), Lib.hid fun k hk h => absurd hk (by omega), Below.refl _ _⟩
  case round =>
    obtain ⟨i, j, hij, hjl, rfl, rfl, LO, UP, hg⟩ := hrel
    have G := Lib.hid hg
    clear hg
    by_cases hlt : i < j
    · obtain ⟨m, hm⟩ : ∃ m, (i + j) / 2 = m := ⟨_, rfl⟩
      have hmi : i ≤ m := by omega
      have hmj : m < j := by omega
      have e4 : IntKind.u64.wrap ((i : Int) + (j : Int)) / 2 = (m : Int) := by
        rw [show IntKind.u64.wrap ((i : Int) + (j : Int)) = (i : Int) + (j : Int) from IntWalk.u64_in _ (by omega)]; omega
      have e5 : ((i : Int) + (j : Int)) / 2 = (m : Int) := by omega
      have hml : m < l.length := by omega
      have SP := HR.out.below G.out
      obtain ⟨b1, o1, rfl, hc⟩ := SP.resolve_left (by intro h; rw [h] at hml; exact absurd hml (by simp))
      obtain ⟨d0, d1⟩ := hc m hml
      have hi0 : (0 : Int) ≤ (m : Int) := by omega
      have hi1 : (m : Int) < (l.length : Int) := by omega
      clear hc SP
      obtain ⟨⟨xa, xb⟩, hx⟩ : ∃ y, l[m] = y := ⟨_, rfl⟩
      rw [hx] at d0 d1
      simp only at d0 d1
      have TCm := Lib.hid (fun X => TC.out xa xb X)
      by_cases c : xb < x + 1
      · have e6 : cmpZ xb (x + 1) = -1 := by unfold cmpZ; rw [if_pos c]
        rw [e6] at TCm
        have LO2 := Lib.hid (show ∀ k (hk : k < l.length), k < m + 1 → l[k].2 ≤ x from fun k hk h => by
          rcases Nat.lt_or_ge k m with h3 | h3
          · have h5 := HE.out k m h3 hml
            rw [hx] at h5
            simp only at h5
            omega
          · obtain rfl : k = m := by omega
            rw [hx]; simp only; omega)
        clear c e6 hx
        go_wp2_with (go_at_call 129; (with_reducible refine (TCm.out _).mono ?_); rintro e w1 ⟨rfl, hb⟩; have HB := Lib.hid (grow_trans G.out hb); clear hb)
        go_roundw
        case rel => exact ⟨m + 1, j, by omega, hjl, by go_num, rfl, LO2, UP, HB.out⟩
        case measure => simp [intOf]; omega
      · have e6 : ¬ (cmpZ xb (x + 1) < 0) := by
          unfold cmpZ; rw [if_neg c]; split <;> omega
        generalize cmpZ xb (x + 1) = z at TCm e6
        have e7 : decide (z < 0) = false := decide_eq_false e6
        have UP2 := Lib.hid (show ∀ k (hk : k < l.length), m ≤ k → x < l[k].2 from fun k hk h => by
          rcases Nat.lt_or_ge m k with h3 | h3
          · have h5 := HE.out m k h3 hk
            rw [hx] at h5
            simp only at h5
            omega
          · obtain rfl : k = m := by omega
            rw [hx]; simp only; omega)
        clear c e6 hx
        go_wp2_with (go_at_call 129; (with_reducible refine (TCm.out _).mono ?_); rintro e w1 ⟨rfl, hb⟩; have HB := Lib.hid (grow_trans G.out hb); clear hb)
        go_roundw
        case rel => exact ⟨i, m, hmi, by omega, rfl, by go_num, LO, UP2, HB.out⟩
        case measure => simp [intOf]; omega
    · obtain rfl : i = j := by omega
      by_cases c : i < l.length
      · have SP := HR.out.below G.out
        obtain ⟨b1, o1, rfl, hc⟩ := SP.resolve_left (by intro h; rw [h] at c; exact absurd c (by simp))
        obtain ⟨d0, d1⟩ := hc i c
        have hi0 : (0 : Int) ≤ (i : Int) := by omega
        have hi1 : (i : Int) < (l.length : Int) := by omega
        clear hc SP
        have UPi := UP
        generalize l[i] = y at d0 d1
        obtain ⟨xa, xb⟩ := y
        simp only at d0 d1
        have TCm := Lib.hid (fun X => TC.out xa xb X)
        generalize cmpZ xb (x + 1) = z at TCm
        go_wp2_with (go_at_call 129; (with_reducible refine (TCm.out _).mono ?_); rintro e w1 ⟨rfl, hb⟩; have HB := Lib.hid (grow_trans G.out hb); clear hb)
        go_ret2
        exact ⟨i, _, rfl, hjl, LO.out, UP.out, HB.out⟩
      · go_wp2
        go_ret2
        exact ⟨i, _, rfl, hjl, LO.out, UP.out, G.out⟩
end Go.Proofs.YtlfpfeidaohjmaaDoor
