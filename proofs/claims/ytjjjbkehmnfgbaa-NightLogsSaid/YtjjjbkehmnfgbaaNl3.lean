/- A log's sum of an entry. -/
import Derived.Test.YtjjjbkehmnfgbaaNl2
set_option linter.unusedSimpArgs false
set_option linter.unusedVariables false
namespace Go.Proofs.Ytjjjbkehmnfgbaa
open Go.RowKit Go.Grow

theorem bytes_one (l : List Nat) : ∀ u ∈ bv l, u.oneCell' = true := fun u h => by
  obtain ⟨n, _, rfl⟩ := List.mem_map.1 h
  rfl
theorem small_le (k n : Nat) : small (le k n) := by
  induction k generalizing n with
  | zero => intro x hx; cases hx
  | succ k ih =>
    intro x hx
    rcases List.mem_cons.1 hx with rfl | hx
    · exact Nat.mod_lt _ (by decide)
    · exact ih _ _ hx
/-- A row that is owned can be read. -/
theorem row_of_owns {w : World} {base n : Nat} {v : Value} {l : List Nat} {e : TypeId} (h : w.ownsRow base e 1 v n (bv l)) : n = l.length ∧ ∃ r cap, v = .slice r l.length cap ∧ RowAt w r l ∧ ∀ a, r = some a → base ≤ a.block ∧ a.block < w.heap.size := by
  have hlen : n = l.length := by have := h.1; rw [bv_length] at this; omega
  have hlt := h.lt
  have hc := fun g hg => h.cells (g := g) hg
  obtain ⟨_, ⟨hv, hn⟩ | ⟨g, cap, cur, hv, _⟩⟩ := h
  · refine ⟨hlen, none, 0, by rw [hv, ← hlen, hn], .inl (List.length_eq_zero_iff.1 (by omega)), fun a h => by cases h⟩
  · refine ⟨hlen, some ⟨g, 0, none⟩, cap, by rw [hv, hlen], .inr ⟨g, 0, rfl, fun k hk => ?_⟩, fun a ha => by cases ha; exact hlt g (by rw [hv]; rfl)⟩
    have := hc g (by rw [hv]; rfl) k (.int .u8 (l[k] : Nat)) (by simp [bv, hk])
    rw [add_zero] at this
    simpa using this
set_option maxRecDepth 100000 in
set_option maxHeartbeats 4000000 in
theorem summed_walk (s : Nat) (r : Option Addr) (l : List Nat) (cap : Nat) (w : World) (hs : s < 4294967296) (hl : l.length ≤ 1000000) (h0 : l ≠ []) (hsm : small l) (hr : RowAt w r l) (hrb : ∀ a, r = some a → a.block < w.heap.size) :
    Calls Try.prog 13 #[.int .u32 s, .slice r l.length cap] w fun e w' => e = .returned (.int .u32 (sumF 0 (le 4 s ++ l) : Nat)) ∧ Below w.heap.size w w' := by
  obtain ⟨b, o, rfl, hc⟩ := hr.resolve_left h0
  obtain ⟨i0, hi, hz0, hz1, hz2⟩ := info_parts info5
  have HI := Lib.hid hi
  have HZ0 := Lib.hid hz0
  have HZ1 := Lib.hid hz1
  have HZ2 := Lib.hid hz2
  have HC := Lib.hid hc
  have HS := Lib.hid hsm
  have hbw : b < w.heap.size := hrb _ rfl
  have PW := Lib.hid (show Calls Try.prog 12 #[.slice none 0 0, .int .u64 s, .int .i64 4] w (Grown w w.heap.size ([] ++ le 4 s)) from put_walk w.heap.size (.slice none 0 0) [] s 4 w (Nat.le_refl _) (World.ownsRow_nil _ _ _ _) (by omega) (by omega) (by simp))
  clear hi hz0 hz1 hz2 hr hc hsm hrb h0
  have C3 := Lib.hid (show 4 + l.length ≤ maxLen by unfold maxLen; omega)
  have C4 := Lib.hid (show (4 + l.length) * 1 ≤ 140737488355328 by omega)
  go_enter Try.func13, Try.ntmps13
  go_wp2_with (first
    | (go_at_call 12; (with_reducible refine PW.out.mono ?_); rintro e w1 ⟨v1, rfl, ho, hB⟩; rw [List.nil_append, le_length] at ho; have HO := Lib.hid ho; have HB := Lib.hid hB; clear ho hB)
    | (at_builtin; refine wpList_append_own _ rfl _ _ 23 rfl w.heap.size 5 i0 (.int .u8 0) 1 1 Try.underlying23 HI.out HZ0.out HZ1.out HZ2.out rfl (by decide) _ _ _ rfl HO.out ⟨b, o, none⟩ l.length cap (bv l) rfl (by rw [bv_length, Nat.mul_one]) ?_ (bytes_one _) C3.out C4.out HB.out.size ?_))
  · intro j u hu
    have hj : j < l.length := by
      have := (List.getElem?_eq_some_iff.1 hu).1
      rwa [bv_length] at this
    have e : u = .int .u8 (l[j] : Nat) := by
      simp [bv, hj] at hu; exact hu.symm
    subst e
    have e2 : (⟨b, o, none⟩ : Addr).add j = ⟨b, o + j, none⟩ := by unfold Addr.add; split <;> simp_all
    rw [e2, HB.out.cell (p := ⟨b, o + j, none⟩) hbw]
    exact HC.out j hj
  · intro v2 w2 hown hg _
    have hb2 := below_grown HB.out HB.out.size hg (fun k hk => (HO.out.lt k hk).1)
    rw [← bv_append] at hown
    obtain ⟨hlen, r2, cap2, rfl, hrow, hrb⟩ := row_of_owns hown
    have HR := Lib.hid hrow
    have HB2 := Lib.hid hb2
    have HSL := Lib.hid (show small (le 4 s ++ l) from fun x hx => (List.mem_append.1 hx).elim (small_le _ _ x) (HS.out x))
    clear hown hg hb2 hrow hrb HO HB HC HS C3 C4
    have hL : (le 4 s ++ l).length ≤ 1000004 := by rw [List.length_append, le_length]; omega
    generalize hLe : le 4 s ++ l = L at *
    have HLE := Lib.hid hLe
    clear hLe
    go_wp2
    go_loop [5, 14] (fun v5 v14 => ∃ k : Nat, k ≤ L.length ∧ v14 = .int .i64 k ∧ v5 = .int .u32 (sumF 0 (L.take k) : Nat)) (fun _ i => L.length - (intOf i).toNat)
    case atStart => exact ⟨0, Nat.zero_le _, rfl, by simp [sumF]⟩
    case round =>
      obtain ⟨k, hk, rfl, rfl⟩ := hrel
      by_cases hlt : k < L.length
      · obtain ⟨b3, o3, rfl, hc⟩ := HR.out.resolve_left (by intro h; rw [h] at hlt; exact absurd hlt (by simp))
        have c := hc k hlt
        have hlk := HSL.out _ (List.getElem_mem hlt)
        have hsl := sumF_lt 0 (L.take k) (by omega)
        have SN := Lib.hid (sumF_snoc 0 (L.take k) L[k])
        have TS := Lib.hid (take_snoc' L k hlt)
        clear hc
        generalize L[k] = x at c hlk SN TS
        generalize hq : sumF 0 (L.take k) = q at hsl SN
        clear hq
        go_wp2
        go_round
        case rel =>
          refine ⟨k + 1, by omega, by go_num, ?_⟩
          rw [TS.out, SN.out]
          congr 1
          omega
        case measure => simp [intOf]; omega
      · obtain rfl : k = L.length := by omega
        go_wp2
        go_ret
        exact ⟨by rw [HLE.out]; rfl, HB2.out⟩
end Go.Proofs.Ytjjjbkehmnfgbaa
