/- The document's tracks: whether one is right; its height at an instant. -/
import Derived.Test.YtlfpfeidaohjmaaDoorEb4
import Derived.Test.YtlfpfeidaohjmaaDoorFl
set_option linter.unusedSimpArgs false
set_option linter.unusedVariables false
namespace Go.Proofs.YtlfpfeidaohjmaaDoor
open Go.RowKit Go.Grow Go.Bg Go.Fl

def goodT (t : Int) : Bool := decide (-300000000000000000 ≤ t) && decide (t ≤ 300000000000000000)
def hugeL (L : List Int) : Bool := L.any fun x => decide (1099511627776 < x) || decide (x < -1099511627776)
/-- The last instant. -/
def lastT (F S : Int) (n : Nat) : Int := F + ((n : Int) - 1) * S
/-- What is wrong with a track: its number. -/
def trE (F S : Int) (L : List Int) : Nat :=
  if L.length < 2 ∨ 4000 < L.length then 2 else if goodT F = true ∧ 1 ≤ S ∧ goodT (lastT F S L.length) = true then (if hugeL L then 5 else 0) else 3
/-- A track lies in w. -/
structure TrAt (w : World) (b o : Nat) (F S : Int) (r : Option Addr) (c : Nat) (L : List Int) : Prop where
  c0 : w.cell? ⟨b, o, none⟩ = some (.int .i64 F)
  c1 : w.cell? ⟨b, o + 1, none⟩ = some (.int .i64 S)
  c2 : w.cell? ⟨b, o + 2, none⟩ = some (.slice r L.length c)
  row : InAt w r L
theorem TrAt.lt {w : World} {b o : Nat} {F S : Int} {r : Option Addr} {c : Nat} {L : List Int} (h : TrAt w b o F S r c L) : b < w.heap.size := lt_of_cellS h.c0
theorem TrAt.below {w w' : World} {b o : Nat} {F S : Int} {r : Option Addr} {c : Nat} {L : List Int} (h : TrAt w b o F S r c L) (hb : Below w.heap.size w w') : TrAt w' b o F S r c L :=
  ⟨(hb.cell (p := ⟨b, _, none⟩) h.lt).trans h.c0, (hb.cell (p := ⟨b, _, none⟩) h.lt).trans h.c1, (hb.cell (p := ⟨b, _, none⟩) h.lt).trans h.c2, h.row.below hb⟩
theorem goodT_iff (t : Int) : goodT t = true ↔ -300000000000000000 ≤ t ∧ t ≤ 300000000000000000 := by unfold goodT; simp
set_option maxRecDepth 100000 in
set_option maxHeartbeats 8000000 in
theorem isTime_walk (t : Int) (w : World) : Calls Tryd.prog 104 #[.int .i64 t] w fun e w' => e = .returned (.bool (goodT t)) ∧ w = w' := by
  unfold goodT
  by_cases h1 : -300000000000000000 ≤ t
  · by_cases h2 : t ≤ 300000000000000000
    all_goals
      go_enter Tryd.func104, Tryd.ntmps104
      go_wp2
      go_ret
      exact ⟨by simp [h1, h2] <;> omega, rfl⟩
  · go_enter Tryd.func104, Tryd.ntmps104
    go_wp2
    go_ret
    exact ⟨by simp [h1] <;> omega, rfl⟩
theorem hugeL_snoc (L : List Int) (k : Nat) (h : k < L.length) : hugeL (L.take (k + 1)) = (hugeL (L.take k) || (decide (1099511627776 < L[k]) || decide (L[k] < -1099511627776))) := by
  unfold hugeL
  rw [List.take_succ_eq_append_getElem h, List.any_append]
  simp
theorem hugeL_take {L : List Int} {k : Nat} (h : hugeL (L.take k) = true) : hugeL L = true := by
  unfold hugeL at h ⊢
  rw [List.any_eq_true] at h ⊢
  obtain ⟨x, hx, h2⟩ := h
  exact ⟨x, List.mem_of_mem_take hx, h2⟩
/-- The instants rise. -/
theorem step_le {S : Int} (hS : 1 ≤ S) {k n : Nat} (h : k ≤ n) : (k : Int) * S ≤ (n : Int) * S ∧ (k : Int) ≤ (k : Int) * S := by
  constructor
  · exact Int.mul_le_mul_of_nonneg_right (by omega) (by omega)
  · have : (k : Int) * 1 ≤ (k : Int) * S := Int.mul_le_mul_of_nonneg_left hS (by omega)
    omega
def Tr1 (F S : Int) (n : Nat) (W : World) (v5 v6 : Value) (wr : World) : Prop :=
  ∃ (k : Nat) (t : Int), 1 ≤ k ∧ k ≤ n ∧ v6 = .int .i64 k ∧ v5 = .int .i64 t ∧ t = F + ((k : Int) - 1) * S ∧ goodT t = true ∧ W = wr
set_option maxRecDepth 100000 in
set_option maxHeartbeats 16000000 in
theorem trackError_walk (b o : Nat) (F S : Int) (r : Option Addr) (c : Nat) (L : List Int) (w : World) (hl : L.length ≤ 9223372036854775807) (h : TrAt w b o F S r c L) :
    Calls Tryd.prog 60 #[.pointer (some ⟨b, o, none⟩)] w fun e w' => e = .returned (.int .i64 (trE F S L : Nat)) ∧ Below w.heap.size w w' := by
  have T := Lib.hid h
  have d0 := h.c0
  have d1 := h.c1
  have d2 := h.c2
  have IT := Lib.hid (fun t X => isTime_walk t X)
  clear h
  obtain ⟨K, hK⟩ : ∃ K : Nat, trE F S L = K := ⟨_, rfl⟩
  rw [hK]
  unfold trE at hK
  by_cases q1 : L.length < 2
  · rw [if_pos (.inl q1)] at hK
    subst hK
    have n1 : (L.length : Int) < 2 := by omega
    go_enter Tryd.func60, Tryd.ntmps60
    go_wp2
    go_ret
    exact ⟨rfl, Below.refl _ _⟩
  by_cases q2 : 4000 < L.length
  · rw [if_pos (.inr q2)] at hK
    subst hK
    have n1 : ¬ (L.length : Int) < 2 := by omega
    have n2 : (4000 : Int) < L.length := by omega
    go_enter Tryd.func60, Tryd.ntmps60
    go_wp2
    go_ret
    exact ⟨rfl, Below.refl _ _⟩
  rw [if_neg (by omega)] at hK
  have n1 : ¬ (L.length : Int) < 2 := by omega
  have n2 : ¬ (4000 : Int) < L.length := by omega
  by_cases g2 : goodT F = false
  · rw [if_neg (fun h => by rw [g2] at h; cases h.1)] at hK
    subst hK
    go_enter Tryd.func60, Tryd.ntmps60
    go_wp2_with (go_at_call 104; (with_reducible refine (IT.out _ _).mono ?_); rintro e w1 ⟨rfl, rfl⟩; rw [g2])
    go_ret
    exact ⟨rfl, Below.refl _ _⟩
  have g1 : goodT F = true := by simpa using g2
  by_cases g3 : S < 1
  · rw [if_neg (fun h => by have := h.2.1; omega)] at hK
    subst hK
    go_enter Tryd.func60, Tryd.ntmps60
    go_wp2_with (go_at_call 104; (with_reducible refine (IT.out _ _).mono ?_); rintro e w1 ⟨rfl, rfl⟩; rw [g1])
    go_ret
    exact ⟨rfl, Below.refl _ _⟩
  have hS : 1 ≤ S := by omega
  obtain ⟨gF1, gF2⟩ := (goodT_iff F).1 g1
  obtain ⟨m, hm⟩ : ∃ m : Nat, L.length = m + 2 := ⟨L.length - 2, by omega⟩
  have lastE : lastT F S L.length = F + ((m + 1 : Nat) : Int) * S := by unfold lastT; rw [hm]; congr 2; omega
  by_cases g4 : 600000000000000000 < S
  · have : goodT (lastT F S L.length) ≠ true := fun h => by
      have h2 := (goodT_iff _).1 h
      rw [lastE] at h2
      have h3 := (step_le hS (show 1 ≤ m + 1 by omega)).1
      have e : ((1 : Nat) : Int) * S = S := by simp
      rw [e] at h3
      omega
    rw [if_neg (fun h => this h.2.2)] at hK
    subst hK
    go_enter Tryd.func60, Tryd.ntmps60
    go_wp2_with (go_at_call 104; (with_reducible refine (IT.out _ _).mono ?_); rintro e w1 ⟨rfl, rfl⟩; rw [g1])
    go_ret
    exact ⟨rfl, Below.refl _ _⟩
  have LE := Lib.hid lastE
  have HK := Lib.hid hK
  clear hK
  clear lastE
  go_enter Tryd.func60, Tryd.ntmps60
  go_wp2_with (go_at_call 104; (with_reducible refine (IT.out _ _).mono ?_); rintro e w1 ⟨rfl, rfl⟩; rw [g1])
  go_loopw [5, 6] (fun v5 v6 wr => Tr1 F S L.length w v5 v6 wr) (fun _ v _ => L.length - (intOf v).toNat)
  case atStart => exact ⟨1, F, Nat.le_refl _, by omega, rfl, rfl, by simp, g1, rfl⟩
  case round =>
    obtain ⟨k, t, hk1, hk, rfl, rfl, ht, hg, rfl⟩ := hrel
    obtain ⟨gt1, gt2⟩ := (goodT_iff t).1 hg
    by_cases hlt : k < L.length
    · have hi1 : (k : Int) < (L.length : Int) := by omega
      have ht2 : t + S = F + (((k + 1 : Nat) : Int) - 1) * S := by
        rw [ht, show (((k + 1 : Nat) : Int) - 1) = ((k : Int) - 1) + 1 by omega, Int.add_mul, Int.one_mul]
        omega
      by_cases gg : goodT (t + S) = true
      · have HT := Lib.hid ht2
        clear ht2 ht
        go_wp2_with (go_at_call 104; (with_reducible refine (IT.out _ _).mono ?_); rintro e w1 ⟨rfl, rfl⟩; rw [gg])
        go_roundw
        case rel => exact ⟨k + 1, t + S, by omega, by omega, by go_num, rfl, HT.out, gg, rfl⟩
        case measure => simp [intOf]; omega
      · have gg2 : goodT (t + S) = false := by simpa using gg
        have bad : ¬ (goodT F = true ∧ 1 ≤ S ∧ goodT (lastT F S L.length) = true) := fun h => by
          have h2 := (goodT_iff _).1 h.2.2
          rw [LE.out] at h2
          have h3 := (step_le hS (show k ≤ m + 1 by omega)).1
          rw [show (((k + 1 : Nat) : Int) - 1) = (k : Int) by omega] at ht2
          exact gg ((goodT_iff _).2 (by omega))
        have KE := Lib.hid (show K = 3 by rw [← HK.out, if_neg bad])
        clear ht2 ht bad
        go_wp2_with (go_at_call 104; (with_reducible refine (IT.out _ _).mono ?_); rintro e w1 ⟨rfl, rfl⟩; rw [gg2])
        go_ret
        exact ⟨by rw [KE.out]; rfl, Below.refl _ _⟩
    · obtain rfl : k = L.length := by omega
      have good : goodT F = true ∧ 1 ≤ S ∧ goodT (lastT F S L.length) = true := ⟨g1, hS, by unfold lastT; rw [← ht]; exact hg⟩
      have KG := Lib.hid (show K = if hugeL L then 5 else 0 by rw [← HK.out, if_pos good])
      clear good ht
      go_wp2
      go_loopw [8] (fun v8 wr => ∃ k : Nat, k ≤ L.length ∧ v8 = .int .i64 k ∧ hugeL (L.take k) = false ∧ Below w.heap.size w wr) (fun v _ => L.length - (intOf v).toNat)
      case atStart => exact ⟨0, Nat.zero_le _, rfl, by simp [hugeL], Below.refl _ _⟩
      case round =>
        obtain ⟨k, hk, rfl, hh, hb⟩ := hrel
        have G := Lib.hid hb
        have HH := Lib.hid hh
        clear hb hh
        by_cases hlt : k < L.length
        · obtain ⟨b1, o1, rfl, hc⟩ := T.out.row.resolve_left (by intro h; rw [h] at hlt; exact absurd hlt (by simp))
          have hb1 : b1 < w.heap.size := lt_of_cellS (hc k hlt)
          have hb0 := T.out.lt
          have f0 := (G.out.cell (p := ⟨b1, _, none⟩) hb1).trans (hc k hlt)
          have f1 := (G.out.cell (p := ⟨b, _, none⟩) hb0).trans d2
          have HN := Lib.hid (hugeL_snoc L k hlt)
          have HL := Lib.hid (fun (h : hugeL (L.take (k + 1)) = true) => hugeL_take h)
          have hi0 : (0 : Int) ≤ (k : Int) := by omega
          have hi1 : (k : Int) < (L.length : Int) := by omega
          clear hc
          generalize L[k] = x at f0 HN
          rw [HH.out, Bool.false_or] at HN
          by_cases x1 : 1099511627776 < x
          · have e : hugeL L = true := HL.out (by rw [HN.out]; simp [x1])
            go_wp2
            go_ret
            exact ⟨by rw [KG.out, e]; rfl, G.out⟩
          · by_cases x2 : x < -1099511627776
            · have e : hugeL L = true := HL.out (by rw [HN.out]; simp [x2])
              go_wp2
              go_ret
              exact ⟨by rw [KG.out, e]; rfl, G.out⟩
            · go_wp2
              go_roundw
              case rel => exact ⟨k + 1, by omega, by go_num, by rw [HN.out]; simp [x1, x2], G.out⟩
              case measure => simp [intOf]; omega
        · obtain rfl : k = L.length := by omega
          have e : hugeL L = false := by have := HH.out; rwa [List.take_length] at this
          go_wp2
          go_ret
          exact ⟨by rw [KG.out, e]; rfl, G.out⟩
end Go.Proofs.YtlfpfeidaohjmaaDoor
