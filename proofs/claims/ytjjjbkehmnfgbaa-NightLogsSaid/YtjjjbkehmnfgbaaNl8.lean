/- The document's log of results. -/
import Derived.Test.YtjjjbkehmnfgbaaNl7
import Derived.Maps.AppendAt
set_option linter.unusedSimpArgs false
set_option linter.unusedVariables false
namespace Go.Proofs.Ytjjjbkehmnfgbaa
open Go.RowKit Go.Grow

def LogRel (w : World) (l : List Res) (v3 v4 v5 : Value) (wr : World) : Prop :=
  ∃ (k ga ca : Nat), k ≤ l.length ∧ v5 = .int .i64 k ∧ v4 = .slice (some ⟨ga, 0, none⟩) 4 ca ∧ wr.ownsRow w.heap.size 5 1 v4 4 (bv (le 4 (sumR 0 (l.take k)))) ∧ v3.ownBlock ≠ some ga ∧
    wr.ownsRow w.heap.size 5 1 v3 (logF 0 (l.take k)).length (bv (logF 0 (l.take k))) ∧ Below w.heap.size w wr
theorem row_owned {w : World} {base g n cap : Nat} {l : List Nat} {e : TypeId} (h : w.ownsRow base e 1 (.slice (some ⟨g, 0, none⟩) n cap) n (bv l)) : ∀ k (h : k < l.length), w.cell? ⟨g, 0 + k, none⟩ = some (.int .u8 (l[k] : Nat)) := fun k hk => by
  have := owns_cells h k (.int .u8 (l[k] : Nat)) (by simp [bv, hk])
  rwa [Nat.zero_add]
theorem owns_base {w : World} {base b0 : Nat} {e : TypeId} {size : Nat} {v : Value} {n : Nat} {xs : List Value} (h : w.ownsRow base e size v n xs) (hb : b0 ≤ base) : w.ownsRow b0 e size v n xs := by
  obtain ⟨h1, h2 | ⟨g, cap, cur, hv, hg, r⟩⟩ := h
  · exact ⟨h1, .inl h2⟩
  · exact ⟨h1, .inr ⟨g, cap, cur, hv, Nat.le_trans hb hg, r⟩⟩
theorem keep_row {w w' : World} {base : Nat} {e : TypeId} {size g n cap : Nat} {xs : List Value} {row : Option Nat} (h : w.ownsRow base e size (.slice (some ⟨g, 0, none⟩) n cap) n xs) (hg : w.grownBy w' row) (hne : row ≠ some g) : w'.ownsRow base e size (.slice (some ⟨g, 0, none⟩) n cap) n xs :=
  h.kept hg (.inr (fun e => hne e.symm))
set_option maxRecDepth 100000 in
set_option maxHeartbeats 8000000 in
theorem logOf_walk (r : Option Addr) (l : List Res) (cap : Nat) (w : World) (hr : ResAt w r l) (hl : l.length ≤ 1000) :
    Calls Try.prog 7 #[.slice r l.length cap] w fun e w' => ∃ v', e = .returned v' ∧ w'.ownsRow w.heap.size 5 1 v' (logF 0 l).length (bv (logF 0 l)) ∧ Below w.heap.size w w' := by
  obtain ⟨i0, hi, hz0, hz1, hz2⟩ := info_parts info5
  have HI := Lib.hid hi
  have HZ0 := Lib.hid hz0
  have HZ1 := Lib.hid hz1
  have HZ2 := Lib.hid hz2
  have HR := Lib.hid hr
  have B0 := Lib.hid (show Calls Try.prog 14 #[.slice none 0 0, .int .u64 0, .int .i64 4] w (Grown w w.heap.size ([] ++ le 4 0)) from bytes_walk w.heap.size (.slice none 0 0) [] 0 4 w (Nat.le_refl _) (World.ownsRow_nil _ _ _ _) (by decide) (by decide) (by decide))
  clear hi hz0 hz1 hz2 hr
  go_enter Try.func7, Try.ntmps7
  go_wp2_with (go_at_call 14; (with_reducible refine B0.out.mono ?_); rintro e w0 ⟨v0, rfl, ho0, hB0⟩; rw [List.nil_append, le_length] at ho0; have HO0 := Lib.hid ho0; have HB0 := Lib.hid hB0; clear ho0 hB0)
  obtain ⟨ga0, ca0, rfl, hga, hga2⟩ := HO0.out.form (by decide)
  go_loopw [3, 4, 5] (fun v3 v4 v5 wr => LogRel w l v3 v4 v5 wr) (fun _ _ i _ => l.length - (intOf i).toNat)
  case atStart => exact ⟨0, ga0, ca0, Nat.zero_le _, rfl, rfl, HO0.out, by simp [Value.ownBlock], World.ownsRow_nil _ _ _ _, HB0.out⟩
  case round =>
    obtain ⟨k, ga, ca, hk, rfl, rfl, hah, hap, hown, hg⟩ := hrel
    have HA := Lib.hid hah
    have HAP := Lib.hid hap
    have HO := Lib.hid hown
    have HG := Lib.hid hg
    clear hown hg hah hap
    by_cases hlt : k < l.length
    · obtain ⟨b1, o1, rfl, hc⟩ := HR.out.resolve_left (by intro h; rw [h] at hlt; exact absurd hlt (by simp))
      have hb1 : b1 < w.heap.size := lt_of_cell (hc k hlt).1
      have hbs := HG.out.size
      obtain ⟨e0, e1, e2⟩ := hc k hlt
      rw [← HG.out.cell (p := ⟨b1, _, none⟩) hb1] at e0 e1 e2
      have TS := Lib.hid (take_snocR l k hlt)
      have hsl := sumR_lt 0 (l.take k) (by decide)
      clear hc
      generalize l[k] = x at e0 e1 e2 TS
      have s0 := trivial
      go_wp2_with (first
        | (clear s0; go_at_call 14; rw [wrapU64]; refine (bytes_walk wr.heap.size _ [] _ 8 _ (Nat.le_refl _) (World.ownsRow_nil _ _ _ _) (u64_lt _) (by decide) (by simp)).mono ?_; rintro e w1 ⟨v1, rfl, ho1, hB1⟩; have HO1 := Lib.hid ho1; have HB1 := Lib.hid hB1; have e1' := (hB1.cell (p := ⟨b1, o1 + k * 3 + 1, none⟩) (by simp only; omega)).trans e1; have e2' := (hB1.cell (p := ⟨b1, o1 + k * 3 + 2, none⟩) (by simp only; omega)).trans e2; clear ho1 hB1 e0 e1 e2; have s1 := trivial)
        | (clear s1; go_at_call 14; rw [wrapU64]; refine (bytes_walk wr.heap.size _ _ _ 8 _ HB1.out.size HO1.out (u64_lt _) (by decide) (by simp [le_length])).mono ?_; rintro e w2 ⟨v2, rfl, ho2, hB2⟩; have HO2 := Lib.hid ho2; have HB2 := Lib.hid (HB1.out.trans hB2); have e2 := (hB2.cell (p := ⟨b1, o1 + k * 3 + 2, none⟩) (by simp only; omega)).trans e2'; clear ho2 hB2 HO1 HB1 e1' e2'; have s2 := trivial)
        | (clear s2; go_at_call 14; rw [wrapU64]; refine (bytes_walk wr.heap.size _ _ _ 8 _ HB2.out.size HO2.out (u64_lt _) (by decide) (by simp [le_length])).mono ?_; rintro e w3 ⟨v3, rfl, ho3, hB3⟩; have HO3 := Lib.hid ho3; have HB3 := Lib.hid (HB2.out.trans hB3); clear ho3 hB3 HO2 HB2 e2; have s3 := trivial))
      clear s3
      have HE : Hid (w3.ownsRow wr.heap.size 5 1 v3 24 (bv (enc x))) := Lib.hid (by
        have h := HO3.out
        rwa [show ([] ++ le 8 (u64 x.i) ++ le 8 (u64 x.s) ++ le 8 (u64 x.l)) = enc x by simp [enc], enc_length] at h)
      obtain ⟨g3, cap3, rfl, hg3, hg3'⟩ := HE.out.form (by decide)
      have hel := enc_length x
      clear HO3
      have HA3 := Lib.hid (ownsRow_below HA.out HB3.out)
      have hga1 := (HA.out.lt ga rfl).2
      have HO3 := Lib.hid (ownsRow_below HO.out HB3.out)
      have hol := Lib.hid (fun q (h : u3.ownBlock = some q) => (HO.out.lt q h).2)
      have R1 := Lib.hid (show RowAt w3 (some ⟨ga, 0, none⟩) (le 4 (sumR 0 (l.take k))) from .inr ⟨ga, 0, rfl, row_owned HA3.out⟩)
      have R2 := Lib.hid (show RowAt w3 (some ⟨g3, 0, none⟩) (enc x) from .inr ⟨g3, 0, rfl, row_owned HE.out⟩)
      have S1 := Lib.hid (show Calls Try.prog 15 #[.int .i64 0, .slice (some ⟨ga, 0, none⟩) 4 ca] w3 fun e w' => e = .returned (.int .i64 (sumF 0 (le 4 (sumR 0 (l.take k))) : Nat)) ∧ w3 = w' from sumOf_walk 0 _ (le 4 (sumR 0 (l.take k))) ca w3 (by decide) (by simp [le_length]) (small_le _ _) R1.out)
      have S2 := Lib.hid (show Calls Try.prog 15 #[.int .i64 (sumF 0 (le 4 (sumR 0 (l.take k))) : Nat), .slice (some ⟨g3, 0, none⟩) 24 cap3] w3 fun e w' => e = .returned (.int .i64 (next (sumR 0 (l.take k)) (enc x) : Nat)) ∧ w3 = w' from by
        have h := sumOf_walk (sumF 0 (le 4 (sumR 0 (l.take k)))) (some ⟨g3, 0, none⟩) (enc x) cap3 w3 (sumF_lt _ _ (by decide)) (by omega) (small_enc x) R2.out
        rw [hel] at h
        unfold next
        rw [show sumF 0 (le 4 (sumR 0 (l.take k)) ++ enc x) = sumF (sumF 0 (le 4 (sumR 0 (l.take k)))) (enc x) from List.foldl_append]
        exact h)
      generalize sumF 0 (le 4 (sumR 0 (l.take k))) = qa at S1 S2
      have NQ := Lib.hid (sumR_snoc 0 (l.take k) x)
      have EQ := Lib.hid (logF_snoc 0 (l.take k) x)
      unfold entryF at EQ
      have hnl := next_lt (sumR 0 (l.take k)) (enc x)
      generalize next (sumR 0 (l.take k)) (enc x) = nq at S2 NQ EQ hnl
      have C3 := Lib.hid (show (logF 0 (l.take k)).length + 24 ≤ maxLen by rw [logF_length, List.length_take]; unfold maxLen; omega)
      have C4 := Lib.hid (show ((logF 0 (l.take k)).length + 24) * 1 ≤ 140737488355328 by rw [logF_length, List.length_take]; omega)
      have C5 := Lib.hid (show (logF 0 (l.take k) ++ enc x).length + 4 ≤ maxLen by rw [List.length_append, logF_length, List.length_take, hel]; unfold maxLen; omega)
      have C6 := Lib.hid (show ((logF 0 (l.take k) ++ enc x).length + 4) * 1 ≤ 140737488355328 by rw [List.length_append, logF_length, List.length_take, hel]; omega)
      have E5 := Lib.hid (show (logF 0 (l.take k)).length + 24 = (logF 0 (l.take k) ++ enc x).length by rw [List.length_append, hel])
      have E6 := Lib.hid (show (logF 0 (l.take k) ++ enc x).length + 4 = (logF 0 (l.take k) ++ enc x ++ le 4 nq).length by rw [List.length_append (bs := le 4 nq), le_length])
      clear R1 R2
      have h3s := HB3.out.size
      have s0 := trivial
      go_wp2_with (first
        | (clear s0; go_at_call 15; (with_reducible refine S1.out.mono ?_); rintro e w4 ⟨rfl, rfl⟩; have s1 := trivial)
        | (clear s1; go_at_call 15; (with_reducible refine S2.out.mono ?_); rintro e w4 ⟨rfl, rfl⟩)
        | (go_at_call 14; refine (bytes_walk w3.heap.size _ [] nq 4 _ (Nat.le_refl _) (World.ownsRow_nil _ _ _ _) (by omega) (by decide) (by simp)).mono ?_; rintro e w4 ⟨v4, rfl, ho4, hB4⟩; rw [List.nil_append, le_length] at ho4; obtain ⟨g4, cap4, rfl, hg4, hg4'⟩ := ho4.form (by decide); have HA4 := Lib.hid ho4; have HB4 := Lib.hid hB4; clear ho4 hB4; have s2 := trivial)
        | (clear s2; at_builtin; refine wpList_append_own_at _ rfl _ _ 23 rfl w.heap.size 5 i0 (.int .u8 0) 1 1 Try.underlying23 HI.out HZ0.out HZ1.out HZ2.out rfl (by decide) _ _ _ rfl (ownsRow_below HO3.out HB4.out) ⟨g3, 0, none⟩ 24 cap3 (bv (enc x)) rfl (by rw [bv_length, hel]) (news_row (row_owned (ownsRow_below HE.out HB4.out))) (bytes_one _) C3.out C4.out (by have := HB4.out.size; omega) ?_; intro v5 w5 ho5 hg5 _ hat5; rw [← bv_append, E5.out] at ho5; have HO5 := Lib.hid ho5; have ha5 := keep_row HA4.out hg5 (fun h => by have := hol.out _ h; omega); have HA5 := Lib.hid ha5; have hb5 := Below.grown (HG.out.trans ((HB3.out.mono HG.out.size).trans (HB4.out.mono (by omega)))) hg5 (by have := HB4.out.size; omega) (fun k hk => (HO.out.lt k hk).1); have HB5 := Lib.hid hb5; have n5 : v5.ownBlock ≠ some g4 := (fun h => by { rcases hat5 with h5 | h5; { rw [h5] at h; have := hol.out _ h; omega }; { rw [h5] at h; cases h; omega } }); have h5s := hg5.size; have HN5 := Lib.hid n5; clear ho5 hg5 hat5 hb5 ha5 n5; have s3 := trivial)
        | (clear s3; at_builtin; refine wpList_append_own_at _ rfl _ _ 23 rfl w.heap.size 5 i0 (.int .u8 0) 1 1 Try.underlying23 HI.out HZ0.out HZ1.out HZ2.out rfl (by decide) _ _ _ rfl HO5.out ⟨g4, 0, none⟩ 4 cap4 (bv (le 4 nq)) rfl (by rw [bv_length, le_length]) (news_row (row_owned HA5.out)) (bytes_one _) C5.out C6.out HB5.out.size ?_; intro v6 w6 ho6 hg6 _ hat6; rw [← bv_append, E6.out] at ho6; have HO6 := Lib.hid ho6; have ha6 := keep_row HA5.out hg6 HN5.out; have HA6 := Lib.hid ha6; have hb6 := Below.grown HB5.out hg6 HB5.out.size (fun k hk => (HO5.out.lt k hk).1); have HB6 := Lib.hid hb6; have n6 : v6.ownBlock ≠ some g4 := (fun h => by { rcases hat6 with h5 | h5; { rw [h5] at h; exact HN5.out h }; { rw [h5] at h; cases h; omega } }); have HN6 := Lib.hid n6; clear ho6 hg6 hat6 hb6 ha6 n6))
      go_roundw
      case rel =>
        refine ⟨k + 1, g4, cap4, by omega, by go_num, rfl, ?_, HN6.out, ?_, HB6.out⟩
        · rw [TS.out, NQ.out]; exact owns_base HA6.out (by omega)
        · rw [TS.out, EQ.out, ← List.append_assoc]; exact HO6.out
      case measure => simp [intOf]; omega
    · obtain rfl : k = l.length := by omega
      go_wp2
      go_ret
      refine ⟨_, rfl, ?_, HG.out⟩
      have := HO.out
      rwa [List.take_length] at this
end Go.Proofs.Ytjjjbkehmnfgbaa
