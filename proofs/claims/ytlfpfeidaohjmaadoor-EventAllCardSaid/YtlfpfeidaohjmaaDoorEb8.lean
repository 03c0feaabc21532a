/- The program's tracks: products over a number; instants; heights that are too large. -/
import Derived.Test.YtlfpfeidaohjmaaDoorEb7
import Derived.Test.YtlfpfeidaohjmaaDoorEb5
import Derived.Test.YtlfpfeidaohjmaaDoorEs6
set_option linter.unusedSimpArgs false
set_option linter.unusedVariables false
namespace Go.Proofs.YtlfpfeidaohjmaaDoor
open Go.RowKit Go.Grow Go.Fl

theorem div64_walk (hi lo y : Nat) (hlo : lo < 18446744073709551616) (hy1 : hi < y) (hy : y < 18446744073709551616) (w : World) :
    Calls Tryd.prog 136 #[.int .u64 hi, .int .u64 lo, .int .u64 y] w fun e w' => e = .returned (.tuple #[.int .u64 (((hi * 18446744073709551616 + lo) / y : Nat) : Int), .int .u64 (((hi * 18446744073709551616 + lo) % y : Nat) : Int)]) ∧ Below w.heap.size w w' := by
  rcases Nat.eq_zero_or_pos hi with h | h
  · subst h
    have h1 := div64_low lo y hlo hy1 hy w
    rw [Nat.zero_mul, Nat.zero_add]
    exact h1
  · exact div64_high hi lo y hlo h hy1 hy w
theorem whole {a b : Nat} : a * b / 18446744073709551616 * 18446744073709551616 + a * b % 18446744073709551616 = a * b := by
  rw [Nat.mul_comm (a * b / _)]
  exact Nat.div_add_mod _ _
set_option maxRecDepth 100000 in
set_option maxHeartbeats 8000000 in
theorem over_walk (a b c : Nat) (w : World) (ha : a ≤ 9223372036854775807) (hb : b ≤ c) (hc0 : 0 < c) (hc : c ≤ 9223372036854775807) (hq : a * b / c ≤ 9223372036854775807) :
    Calls Tryd.prog 108 #[.int .i64 a, .int .i64 b, .int .i64 c] w fun e w' => e = .returned (.tuple #[.int .i64 (a * b / c : Nat), .bool (decide (0 < a * b % c))]) ∧ Below w.heap.size w w' := by
  have MU := Lib.hid (fun X => mul64_walk a b (by omega) (by omega) X)
  have h1 : a * b / 18446744073709551616 < c := by
    refine Nat.div_lt_of_lt_mul ?_
    have h2 : a * b ≤ 9223372036854775807 * c := Nat.mul_le_mul ha hb
    omega
  have DV := Lib.hid (fun X => div64_walk (a * b / 18446744073709551616) (a * b % 18446744073709551616) c (Nat.mod_lt _ (by decide)) h1 (by omega) X)
  rw [whole] at DV
  have hm : a * b % c < c := Nat.mod_lt _ hc0
  clear h1
  generalize a * b / 18446744073709551616 = h at MU DV
  generalize a * b % 18446744073709551616 = l at MU DV
  generalize a * b / c = q at DV hq ⊢
  generalize a * b % c = m at DV hm ⊢
  have ca : IntKind.u64.wrap (a : Int) = (a : Int) := wrapN _ (by omega)
  have cb : IntKind.u64.wrap (b : Int) = (b : Int) := wrapN _ (by omega)
  have cc : IntKind.u64.wrap (c : Int) = (c : Int) := wrapN _ (by omega)
  have hm2 : decide ((0 : Int) < (m : Int)) = decide (0 < m) := by simp
  go_enter Tryd.func108, Tryd.ntmps108
  go_wp2_with (first
    | (go_at_call 135; (with_reducible refine (MU.out _).mono ?_); rintro e w1 ⟨rfl, rfl⟩)
    | (go_at_call 136; (with_reducible refine (DV.out _).mono ?_); rintro e w2 ⟨rfl, hb⟩; have G := Lib.hid hb; clear hb))
  go_ret2
  exact ⟨by simp, G.out⟩
set_option maxRecDepth 100000 in
set_option maxHeartbeats 8000000 in
theorem good_walk (t : Int) (w : World) : Calls Tryd.prog 110 #[.int .i64 t] w fun e w' => e = .returned (.bool (goodT t)) ∧ w = w' := by
  unfold goodT
  by_cases h1 : t ≤ 300000000000000000
  · by_cases h2 : -300000000000000000 ≤ t
    all_goals
      go_enter Tryd.func110, Tryd.ntmps110
      go_wp2
      go_ret
      exact ⟨by simp [h1, h2] <;> omega, rfl⟩
  · go_enter Tryd.func110, Tryd.ntmps110
    go_wp2
    go_ret
    exact ⟨by simp [h1] <;> omega, rfl⟩
def trk (F S : Int) (r : Option Addr) (n c : Nat) : Value := .agg #[.int .i64 F, .int .i64 S, .slice r n c]
set_option maxRecDepth 100000 in
set_option maxHeartbeats 8000000 in
theorem last_walk (F S : Int) (r : Option Addr) (n c : Nat) (w : World) (hn : 1 ≤ n) (hn2 : n ≤ 1000000) (f1 : -300000000000000000 ≤ F) (f2 : F ≤ 300000000000000000) (h0 : 0 ≤ ((n : Int) - 1) * S) (h1 : ((n : Int) - 1) * S ≤ 600000000000000000) :
    Calls Tryd.prog 107 #[trk F S r n c] w fun e w' => e = .returned (.int .i64 (lastT F S n)) ∧ Below w.heap.size w w' := by
  unfold trk lastT
  obtain ⟨P, hP⟩ : ∃ P, ((n : Int) - 1) * S = P := ⟨_, rfl⟩
  rw [hP] at h0 h1 ⊢
  have hP2 : S * ((n : Int) - 1) = P := by rw [Int.mul_comm]; exact hP
  clear hP
  go_enter Tryd.func107, Tryd.ntmps107
  go_wp2
  go_ret
  exact ⟨rfl, grow_alloc (grow_refl _) _⟩
set_option maxRecDepth 100000 in
set_option maxHeartbeats 8000000 in
theorem when_walk (F S : Int) (r : Option Addr) (n c : Nat) (i : Nat) (w : World) (f1 : -300000000000000000 ≤ F) (f2 : F ≤ 300000000000000000) (h0 : 0 ≤ (i : Int) * S) (h1 : (i : Int) * S ≤ 600000000000000000) :
    Calls Tryd.prog 109 #[trk F S r n c, .int .i64 i] w fun e w' => e = .returned (.int .i64 (F + (i : Int) * S)) ∧ Below w.heap.size w w' := by
  unfold trk
  obtain ⟨P, hP⟩ : ∃ P, (i : Int) * S = P := ⟨_, rfl⟩
  rw [hP] at h0 h1 ⊢
  go_enter Tryd.func109, Tryd.ntmps109
  go_wp2
  go_ret
  exact ⟨rfl, grow_alloc (grow_refl _) _⟩
def bigH (x : Int) : Bool := decide (1099511627776 < x) || decide (x < -1099511627776)
set_option maxRecDepth 100000 in
set_option maxHeartbeats 8000000 in
theorem valid1T_walk (x : Int) (w : World) : Calls Tryd.prog 112 #[.int .i64 x] w fun e w' => e = .returned (.bool (bigH x)) ∧ w = w' := by
  unfold bigH
  by_cases h1 : 1099511627776 < x
  · go_enter Tryd.func112, Tryd.ntmps112
    go_wp2
    go_ret
    exact ⟨by simp [h1] <;> omega, rfl⟩
  · by_cases h2 : x < -1099511627776
    all_goals
      go_enter Tryd.func112, Tryd.ntmps112
      go_wp2
      go_ret
      exact ⟨by simp [h1, h2] <;> omega, rfl⟩
def IxPost (L : List Int) (w : World) (e : Ending) (w' : World) : Prop := (∃ i : Int, e = .returned (.int .i64 i) ∧ -1 ≤ i ∧ i ≤ L.length ∧ (0 ≤ i ↔ hugeL L = true)) ∧ Below w.heap.size w w'
set_option maxRecDepth 100000 in
set_option maxHeartbeats 8000000 in
theorem idxT_walk (r : Option Addr) (L : List Int) (cap : Nat) (w : World) (hn : L.length ≤ 1000000) (hr : InAt w r L) :
    Calls Tryd.prog 138 #[.slice r L.length cap, .func (.func 112) #[] #[]] w (IxPost L w) := by
  have HR := Lib.hid hr
  have V1 := Lib.hid (fun x X => valid1T_walk x X)
  clear hr
  go_enter Tryd.func138, Tryd.ntmps138
  go_wp2
  go_loopw [8] (fun v8 wr => ∃ k : Nat, k ≤ L.length ∧ v8 = .int .i64 k ∧ hugeL (L.take k) = false ∧ Below w.heap.size w wr) (fun i _ => L.length - (intOf i).toNat)
  case atStart => exact ⟨0, Nat.zero_le _, rfl, by simp [hugeL], Below.refl _ _⟩
  case round =>
    obtain ⟨k, hk, rfl, hno, hb⟩ := hrel
    have HNO := Lib.hid hno
    have G := Lib.hid hb
    clear hno hb
    by_cases hlt : k < L.length
    · obtain ⟨b1, o1, rfl, hc⟩ := HR.out.resolve_left (by intro h; rw [h] at hlt; exact absurd hlt (by simp))
      have hb1 : b1 < w.heap.size := lt_of_cellS (hc k hlt)
      have f0 := (G.out.cell (p := ⟨b1, _, none⟩) hb1).trans (hc k hlt)
      have HN := Lib.hid (hugeL_snoc L k hlt)
      have HL := Lib.hid (fun (h : hugeL (L.take (k + 1)) = true) => hugeL_take h)
      have hi0 : (0 : Int) ≤ (k : Int) := by omega
      have hi1 : (k : Int) < (L.length : Int) := by omega
      clear hc
      generalize L[k] = x at f0 HN
      rw [HNO.out, Bool.false_or] at HN
      obtain ⟨bb, hbb⟩ : ∃ bb, bigH x = bb := ⟨_, rfl⟩
      have V2 := Lib.hid (fun X => valid1T_walk x X)
      rw [hbb] at V2
      rw [show (decide (1099511627776 < x) || decide (x < -1099511627776)) = bb from hbb] at HN
      clear hbb V1
      cases bb
      · go_wp2_with (go_at_call 112; (with_reducible refine (V2.out _).mono ?_); rintro e w1 ⟨rfl, rfl⟩)
        go_roundw
        case rel => exact ⟨k + 1, by omega, by go_num, HN.out, by first | exact G.out | exact grow_drewN G.out _ | exact grow_drew G.out⟩
        case measure => simp [intOf]; omega
      · have e : hugeL L = true := HL.out HN.out
        go_wp2_with (go_at_call 112; (with_reducible refine (V2.out _).mono ?_); rintro e w1 ⟨rfl, rfl⟩)
        go_ret
        exact ⟨⟨(k : Int), rfl, by omega, by omega, ⟨fun _ => e, fun _ => by omega⟩⟩, by first | exact G.out | exact grow_drewN G.out _ | exact grow_drew G.out⟩
    · obtain rfl : k = L.length := by omega
      have e : hugeL L = false := by have := HNO.out; rwa [List.take_length] at this
      go_wp2
      go_ret
      exact ⟨⟨-1, rfl, by omega, by omega, ⟨fun h => absurd h (by omega), fun h => by rw [e] at h; cases h⟩⟩, G.out⟩
set_option maxRecDepth 100000 in
set_option maxHeartbeats 8000000 in
theorem hasT_walk (r : Option Addr) (L : List Int) (cap : Nat) (w : World) (hn : L.length ≤ 1000000) (hr : InAt w r L) :
    Calls Tryd.prog 111 #[.slice r L.length cap, .func (.func 112) #[] #[]] w fun e w' => e = .returned (.bool (hugeL L)) ∧ Below w.heap.size w w' := by
  have IX := Lib.hid (idxT_walk r L cap w hn hr)
  unfold IxPost at IX
  generalize hugeL L = h at IX ⊢
  clear hr
  go_enter Tryd.func111, Tryd.ntmps111
  go_wp2_with (go_at_call 138; (with_reducible refine IX.out.mono ?_); rintro e w1 ⟨⟨i, rfl, h1, h2, h3⟩, hb⟩; have G := Lib.hid hb; have H3 := Lib.hid h3; clear hb h3)
  go_ret
  have h3 := H3.out
  exact ⟨by cases h <;> simp at h3 ⊢ <;> omega, G.out⟩
end Go.Proofs.YtlfpfeidaohjmaaDoor
