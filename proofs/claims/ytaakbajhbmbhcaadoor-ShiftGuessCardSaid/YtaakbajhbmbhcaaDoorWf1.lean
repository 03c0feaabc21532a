/- Powers of 2: the program's test and the document's. -/
import Derived.Test.YtaakbajhbmbhcaaDoorWv3
import Derived.Outline
set_option linter.unusedSimpArgs false
set_option linter.unusedVariables false
namespace Go.Proofs.YtaakbajhbmbhcaaDoor
open Go.RowKit Go.Grow

def oc1 (x : Int) : Int := IntKind.u64.wrap (bits .and .u64 (x / 2) 6148914691236517205 + bits .and .u64 x 6148914691236517205)
def oc2 (x : Int) : Int := IntKind.u64.wrap (bits .and .u64 (x / 4) 3689348814741910323 + bits .and .u64 x 3689348814741910323)
def oc3 (x : Int) : Int := bits .and .u64 (IntKind.u64.wrap (x / 16 + x)) 1085102592571150095
def oc4 (x : Int) : Int := IntKind.u64.wrap (x + x / 256)
def oc5 (x : Int) : Int := IntKind.u64.wrap (x + x / 65536)
def oc6 (x : Int) : Int := IntKind.u64.wrap (x + x / 4294967296)
def ocF (n : Int) : Int := bits .and .i64 (wrap64 (oc6 (oc5 (oc4 (oc3 (oc2 (oc1 n))))))) 127
set_option maxRecDepth 100000 in
set_option maxHeartbeats 4000000 in
theorem ones_walk (n : Nat) (w : World) (hn : n ≤ 256) : Calls Tryd.prog 61 #[.int .u64 n] w fun e w' => e = .returned (.int .i64 (ocF n)) ∧ w = w' := by
  go_enter Tryd.func61, Tryd.ntmps61
  go_wp2
  go_ret
  exact ⟨rfl, rfl⟩
def isP2 (n : Nat) : Bool := n == 1 || n == 2 || n == 4 || n == 8 || n == 16 || n == 32 || n == 64 || n == 128 || n == 256
theorem ocF_p2 : ∀ n : Nat, n < 257 → (ocF n == 1) = isP2 n := by decide +kernel
set_option maxRecDepth 100000 in
set_option maxHeartbeats 4000000 in
theorem two_walk (n : Nat) (w : World) (hn : n ≤ 256) : Calls Tryd.prog 32 #[.int .i64 n] w fun e w' => e = .returned (.bool (isP2 n)) ∧ w = w' := by
  have OW := Lib.hid (fun x => ones_walk n x hn)
  have HP := Lib.hid (ocF_p2 n (by omega))
  rw [← HP.out]
  generalize ocF n = t at *
  go_enter Tryd.func32, Tryd.ntmps32
  go_wp2_with (first
    | (go_at_call 61; (with_reducible refine (OW.out _).mono ?_); rintro e w1 ⟨rfl, rfl⟩)
    | go_in)
  go_ret
  exact ⟨rfl, rfl⟩
/-- Halved as long as it goes. -/
def halvF : Nat → Nat → Bool
  | 0, n => n == 1
  | f + 1, n => if 1 < n ∧ n % 2 = 0 then halvF f (n / 2) else n == 1
theorem halvF_p2 : ∀ n : Nat, n < 257 → halvF 10 n = isP2 n := by decide +kernel
set_option maxRecDepth 100000 in
set_option maxHeartbeats 4000000 in
theorem isTwo_any (f n : Nat) (w : World) (hn : n < 2 ^ f) (hf : f ≤ 10) : Calls Tryd.prog 10 #[.int .i64 n] w fun e w' => e = .returned (.bool (halvF f n)) ∧ w = w' := by
  have HB := Lib.hid (show n ≤ 1024 from Nat.le_trans (Nat.le_of_lt hn) (Nat.pow_le_pow_right (by omega) hf))
  go_enter Tryd.func10, Tryd.ntmps10
  have HN := Lib.hid hn
  have HF := Lib.hid hf
  clear hn hf
  go_wp2
  go_loop [0] (fun v0 => ∃ m g : Nat, v0 = .int .i64 m ∧ m ≤ 1024 ∧ Hid (m < 2 ^ g) ∧ Hid (halvF g m = halvF f n)) (fun i => (intOf i).toNat)
  case atStart => exact ⟨n, f, rfl, HB.out, HN, Lib.hid rfl⟩
  case round =>
    obtain ⟨m, g, rfl, hm, H1, H2⟩ := hrel
    by_cases h1 : 1 < m
    · obtain ⟨g, rfl⟩ : ∃ g', g = g' + 1 := ⟨g - 1, by
        have := H1.out
        cases g with
        | zero => simp at this; omega
        | succ g => simp⟩
      by_cases h2 : m % 2 = 0
      · have H3 := Lib.hid (show halvF g (m / 2) = halvF f n by rw [← H2.out, halvF, if_pos ⟨h1, h2⟩])
        have H4 := Lib.hid (show m / 2 < 2 ^ g by have := H1.out; rw [Nat.pow_succ] at this; omega)
        have d2 : ((m : Int) % 2 == 0) = true := by simp; omega
        go_wp2
        go_round
        case rel => exact ⟨m / 2, g, by congr 1, by omega, H4, H3⟩
        case measure => simp [intOf]; omega
      · have H3 := Lib.hid (show (m == 1) = halvF f n by rw [← H2.out, halvF, if_neg (fun h => h2 h.2)])
        have d2 : ((m : Int) % 2 == 0) = false := by simp; omega
        have d3 : ((m : Int) == 1) = false := by simp; omega
        have d4 : (m == 1) = false := by simp; omega
        go_wp2
        go_ret
        exact ⟨by rw [← H3.out, d4]; rfl, rfl⟩
    · have H3 := Lib.hid (show (m == 1) = halvF f n by
        rw [← H2.out]
        cases g with
        | zero => rfl
        | succ g => rw [halvF, if_neg (fun h => h1 h.1)])
      have d1 : decide (1 < (m : Int)) = false := decide_eq_false (by omega)
      go_wp2
      all_goals
        go_ret
        exact ⟨by rw [← H3.out]; simp; rw [Bool.eq_iff_iff]; simp; omega, rfl⟩
end Go.Proofs.YtaakbajhbmbhcaaDoor
