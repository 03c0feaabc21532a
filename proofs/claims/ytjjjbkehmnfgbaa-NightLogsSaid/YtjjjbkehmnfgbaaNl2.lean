/- A log's sums and numbers: functions that read bytes. -/
import Derived.Test.YtjjjbkehmnfgbaaNl1
set_option linter.unusedSimpArgs false
set_option linter.unusedVariables false
namespace Go.Proofs.Ytjjjbkehmnfgbaa
open Go.RowKit Go.Grow

/-- The bytes l lie behind r, where there are any. -/
def RowAt (w : World) (r : Option Addr) (l : List Nat) : Prop := l = [] ∨ ∃ b o, r = some ⟨b, o, none⟩ ∧ ∀ k (h : k < l.length), w.cell? ⟨b, o + k, none⟩ = some (.int .u8 (l[k] : Nat))
def small (l : List Nat) : Prop := ∀ x ∈ l, x < 256
def sumF (s : Nat) (l : List Nat) : Nat := l.foldl (fun s c => (s * 31 + c) % 4294967296) s
theorem sumF_snoc (s : Nat) (l : List Nat) (c : Nat) : sumF s (l ++ [c]) = (sumF s l * 31 + c) % 4294967296 := by simp [sumF]
theorem sumF_lt (s : Nat) (l : List Nat) (h : s < 4294967296) : sumF s l < 4294967296 := by
  induction l generalizing s with
  | nil => exact h
  | cons c l ih => exact ih _ (Nat.mod_lt _ (by decide))
theorem take_snoc' (l : List Nat) (k : Nat) (h : k < l.length) : l.take (k + 1) = l.take k ++ [l[k]] := by
  rw [List.take_succ_eq_append_getElem h]
theorem RowAt.below {w w' : World} {r : Option Addr} {l : List Nat} {n : Nat} (h : RowAt w r l) (hb : Below n w w') (hr : ∀ a, r = some a → a.block < n) : RowAt w' r l := by
  rcases h with h | ⟨b, o, rfl, h⟩
  · exact .inl h
  · exact .inr ⟨b, o, rfl, fun k hk => by rw [hb.cell (p := ⟨b, o + k, none⟩) (hr ⟨b, o, none⟩ rfl)]; exact h k hk⟩
set_option maxRecDepth 100000 in
set_option maxHeartbeats 4000000 in
theorem sumOf_walk (s : Nat) (r : Option Addr) (l : List Nat) (cap : Nat) (w : World) (hs : s < 4294967296) (hl : l.length ≤ 1000000) (hsm : small l) (hr : RowAt w r l) :
    Calls Try.prog 15 #[.int .i64 s, .slice r l.length cap] w fun e w' => e = .returned (.int .i64 (sumF s l : Nat)) ∧ w = w' := by
  have HR := Lib.hid hr
  have HS := Lib.hid hsm
  clear hr hsm
  go_enter Try.func15, Try.ntmps15
  go_wp2
  go_loop [0, 5] (fun v0 v5 => ∃ k : Nat, k ≤ l.length ∧ v5 = .int .i64 k ∧ v0 = .int .i64 (sumF s (l.take k) : Nat)) (fun _ i => l.length - (intOf i).toNat)
  case atStart => exact ⟨0, Nat.zero_le _, rfl, by simp [sumF]⟩
  case round =>
    obtain ⟨k, hk, rfl, rfl⟩ := hrel
    by_cases hlt : k < l.length
    · obtain ⟨b, o, rfl, hc⟩ := HR.out.resolve_left (by intro h; rw [h] at hlt; exact absurd hlt (by simp))
      have c := hc k hlt
      have hlk := HS.out _ (List.getElem_mem hlt)
      have hsl := sumF_lt s (l.take k) hs
      have SN := Lib.hid (sumF_snoc s (l.take k) l[k])
      have TS := Lib.hid (take_snoc' l k hlt)
      clear hc
      generalize l[k] = x at c hlk SN TS
      generalize hq : sumF s (l.take k) = q at hsl SN
      clear hq
      have e1 : IntKind.i64.wrap ((q : Int) * 31) = (q : Int) * 31 := IntWalk.i64_in _ (by omega)
      have e2 : IntKind.i64.wrap ((q : Int) * 31 + x) = (q : Int) * 31 + x := IntWalk.i64_in _ (by omega)
      go_wp2
      go_round
      case rel =>
        refine ⟨k + 1, by omega, by go_num, ?_⟩
        rw [TS.out, SN.out]
        go_num
      case measure => simp [intOf]; omega
    · obtain rfl : k = l.length := by omega
      go_wp2
      go_ret
      exact ⟨rfl, rfl⟩

/-- The number of bytes, the low one first. -/
def val : List Nat → Nat
  | [] => 0
  | c :: l => val l * 256 + c
theorem val_lt (l : List Nat) (h : small l) : val l < 256 ^ l.length := by
  induction l with
  | nil => simp [val]
  | cons c l ih =>
    have h1 := ih (fun x hx => h x (List.mem_cons_of_mem _ hx))
    have h2 := h c (List.mem_cons_self ..)
    simp only [val, List.length_cons, Nat.pow_succ]
    omega
theorem val_drop (l : List Nat) (k : Nat) (h : k < l.length) : val (l.drop k) = val (l.drop (k + 1)) * 256 + l[k] := by
  rw [List.drop_eq_getElem_cons h]; rfl
set_option maxRecDepth 100000 in
set_option maxHeartbeats 4000000 in
theorem numberOf_walk (r : Option Addr) (l : List Nat) (cap : Nat) (w : World) (hl : l.length = 8) (hsm : small l) (hr : RowAt w r l) :
    Calls Try.prog 18 #[.slice r 8 cap] w fun e w' => e = .returned (.int .i64 (wrap64 (val l : Nat))) ∧ w = w' := by
  obtain ⟨b, o, rfl, hc⟩ := hr.resolve_left (by intro h; rw [h] at hl; exact absurd hl (by simp))
  have HC := Lib.hid hc
  have HS := Lib.hid hsm
  have HL := Lib.hid hl
  clear hr hc hsm hl
  go_enter Try.func18, Try.ntmps18
  go_wp2
  go_loop [3, 4] (fun v3 v4 => ∃ k : Nat, k ≤ 8 ∧ v4 = .int .i64 ((k : Int) - 1) ∧ v3 = .int .u64 (val (l.drop k) : Nat)) (fun _ i => (intOf i + 1).toNat)
  case atStart => exact ⟨8, by omega, rfl, by rw [← HL.out]; simp [val]⟩
  case round =>
    obtain ⟨k, hk, rfl, rfl⟩ := hrel
    by_cases h0 : k = 0
    · subst h0
      go_wp2
      go_ret
      exact ⟨rfl, rfl⟩
    · obtain ⟨j, rfl⟩ : ∃ j, k = j + 1 := ⟨k - 1, by omega⟩
      have hj : j < l.length := by rw [HL.out]; omega
      have c := HC.out j hj
      have hx := HS.out _ (List.getElem_mem hj)
      have VD := Lib.hid (val_drop l j hj)
      have hv := val_lt (l.drop (j + 1)) (fun x hx => HS.out x (List.mem_of_mem_drop hx))
      rw [List.length_drop, HL.out] at hv
      generalize l[j] = x at c hx VD
      have hp : 256 ^ (8 - (j + 1)) ≤ 256 ^ 7 := Nat.pow_le_pow_right (by decide) (by omega)
      generalize val (l.drop (j + 1)) = q at hv VD
      have hq : q < 72057594037927936 := by have : (256 : Nat) ^ 7 = 72057594037927936 := by decide
                                            omega
      clear hv hp
      have ej : ((j + 1 : Nat) : Int) - 1 = (j : Int) := by omega
      rw [ej]
      go_wp2
      go_round
      case rel => exact ⟨j, by omega, rfl, by rw [VD.out]; go_num⟩
      case measure => simp [intOf]

theorem bits_or (q x : Nat) (hq : q < 72057594037927936) (hx : x < 256) : bits BinOp.or IntKind.u64 ((q : Int) * 256) x = ((q * 256 + x : Nat) : Int) := by
  have h := Nat.two_pow_add_eq_or_of_lt (i := 8) (b := x) (by omega) q
  have e1 : (BitVec.ofInt 64 ((q : Int) * 256)).toNat = q * 256 := by
    rw [BitVec.toNat_ofInt]; omega
  have e2 : (BitVec.ofInt 64 (x : Int)).toNat = x := by
    rw [BitVec.toNat_ofInt]; omega
  show IntKind.u64.wrap (((BitVec.ofInt 64 ((q : Int) * 256) ||| BitVec.ofInt 64 (x : Int)).toNat : Nat) : Int) = _
  rw [BitVec.toNat_or, e1, e2, show q * 256 ||| x = q * 256 + x by rw [Nat.mul_comm]; exact h.symm]
  show (((q * 256 + x : Nat) : Int)) % 18446744073709551616 = _
  omega
set_option maxRecDepth 100000 in
set_option maxHeartbeats 4000000 in
theorem get_walk (r : Option Addr) (l : List Nat) (cap : Nat) (w : World) (hl : l.length ≤ 8) (h0 : l ≠ []) (hsm : small l) (hr : RowAt w r l) :
    Calls Try.prog 17 #[.slice r l.length cap] w fun e w' => e = .returned (.int .u64 (val l : Nat)) ∧ w = w' := by
  obtain ⟨b, o, rfl, hc⟩ := hr.resolve_left h0
  have HC := Lib.hid hc
  have HS := Lib.hid hsm
  clear hr hc hsm h0
  have el : IntKind.i64.wrap ((l.length : Int) - 1) = (l.length : Int) - 1 := IntWalk.i64_in _ (by omega)
  go_enter Try.func17, Try.ntmps17
  go_wp2
  go_loop [3, 4] (fun v3 v4 => ∃ k : Nat, k ≤ l.length ∧ v4 = .int .i64 ((k : Int) - 1) ∧ v3 = .int .u64 (val (l.drop k) : Nat)) (fun _ i => (intOf i + 1).toNat)
  case atStart => exact ⟨l.length, by omega, rfl, by simp [val]⟩
  case round =>
    obtain ⟨k, hk, rfl, rfl⟩ := hrel
    by_cases h0 : k = 0
    · subst h0
      go_wp2
      go_ret
      exact ⟨rfl, rfl⟩
    · obtain ⟨j, rfl⟩ : ∃ j, k = j + 1 := ⟨k - 1, by omega⟩
      have hj : j < l.length := by omega
      have c := HC.out j hj
      have hx := HS.out _ (List.getElem_mem hj)
      have VD := Lib.hid (val_drop l j hj)
      have hv := val_lt (l.drop (j + 1)) (fun x hx => HS.out x (List.mem_of_mem_drop hx))
      rw [List.length_drop] at hv
      generalize l[j] = x at c hx VD
      have hp : 256 ^ (l.length - (j + 1)) ≤ 256 ^ 7 := Nat.pow_le_pow_right (by decide) (by omega)
      generalize val (l.drop (j + 1)) = q at hv VD
      have hq : q < 72057594037927936 := by have : (256 : Nat) ^ 7 = 72057594037927936 := by decide
                                            omega
      clear hv hp
      have ej : ((j + 1 : Nat) : Int) - 1 = (j : Int) := by omega
      rw [ej]
      have hb := Lib.hid (bits_or q x hq hx)
      go_wp2
      go_round
      case rel => exact ⟨j, by omega, rfl, by rw [VD.out, hb.out]⟩
      case measure => simp [intOf]
end Go.Proofs.Ytjjjbkehmnfgbaa
