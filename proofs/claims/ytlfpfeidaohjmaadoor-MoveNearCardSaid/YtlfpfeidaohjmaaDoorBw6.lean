/- Are bodies valid? Both ways. -/
import Derived.Test.YtlfpfeidaohjmaaDoorBw5
import Derived.Test.YtlfpfeidaohjmaaDoorSen
set_option linter.unusedSimpArgs false
set_option linter.unusedVariables false
namespace Go.Proofs.YtlfpfeidaohjmaaDoor
open Go.RowKit Go.Grow Go.Bo

theorem anyB_iff (n : Nat) (B : Nat → Bd) (p : Bd → Bool) : anyB n B p = true ↔ ∃ k, k < n ∧ p (B k) = true := by unfold anyB; simp
theorem anyB_false (n : Nat) (B : Nat → Bd) (p : Bd → Bool) : anyB n B p = false ↔ ∀ k, k < n → p (B k) = false := by
  unfold anyB
  rw [decide_eq_false_iff_not]
  constructor
  · intro h k hk
    cases hp : p (B k) with
    | false => rfl
    | true => exact absurd ⟨k, hk, hp⟩ h
  · rintro h ⟨k, hk, hp⟩
    rw [h k hk] at hp; cases hp
/-- What is wrong with bodies: an error's number. -/
noncomputable def validE (n : Nat) (B : Nat → Bd) : Nat := if 12 < n then 2 else if anyB n B massB = true then 5 else if anyB n B outB = true then 6 else 0
theorem validE_cases (n : Nat) (B : Nat → Bd) : validE n B = 0 ∨ validE n B = 2 ∨ validE n B = 5 ∨ validE n B = 6 := by
  unfold validE; split
  · simp
  · split
    · simp
    · split <;> simp
theorem validE_le (n : Nat) (B : Nat → Bd) : validE n B ≤ 10 := by rcases validE_cases n B with h | h | h | h <;> rw [h] <;> decide
theorem massB_false {d : Bd} : massB d = false ↔ 0 ≤ d.m ∧ d.m ≤ 65536 := by unfold massB; simp
theorem outB_false {d : Bd} : outB d = false ↔ d.p.le 1048576 ∧ d.v.le 1048576 := by
  unfold outB
  simp only [Bool.or_eq_false_iff, Bool.not_eq_false', C3.inB_iff]
theorem validE_ok {n : Nat} {B : Nat → Bd} : validE n B = 0 ↔ n ≤ 12 ∧ Ok n B := by
  unfold validE
  constructor
  · intro h
    split at h
    · cases h
    · split at h
      · cases h
      · split at h
        · cases h
        · rename_i h1 h2 h3
          have h2 := (anyB_false _ _ _).1 (by simpa using h2)
          have h3 := (anyB_false _ _ _).1 (by simpa using h3)
          exact ⟨by omega, fun i hi => (outB_false.1 (h3 i hi)).1, fun i hi => (outB_false.1 (h3 i hi)).2, fun i hi => massB_false.1 (h2 i hi)⟩
  · rintro ⟨h1, h2, h3, h4⟩
    rw [if_neg (by omega), if_neg (by rw [(anyB_false _ _ _).2 fun k hk => massB_false.2 (h4 k hk)]; simp), if_neg (by rw [(anyB_false _ _ _).2 fun k hk => outB_false.2 ⟨h2 k hk, h3 k hk⟩]; simp)]

set_option maxRecDepth 100000 in
set_option maxHeartbeats 4000000 in
theorem free_walk (r : Option Addr) (n cap : Nat) (B : Nat → Bd) (w : World) (hn : n ≤ 1000000) (hr : BodsAt w r n B) :
    Calls Tryd.prog 79 #[.slice r n cap] w fun e w' => e = .returned (.bool (anyB n B outB)) ∧ Below w.heap.size w w' := by
  have HI := Lib.hid (has_free1 r n cap B w hn hr)
  clear hr
  go_enter Tryd.func79, Tryd.ntmps79
  go_wp2_with (go_at_call 77; (with_reducible refine HI.out.mono ?_); rintro e w1 ⟨rfl, hb1⟩; have HB1 := Lib.hid hb1; clear hb1)
  go_ret
  exact ⟨rfl, HB1.out⟩

set_option maxRecDepth 100000 in
set_option maxHeartbeats 4000000 in
theorem valid_walk (a : Nat → Addr) (r : Option Addr) (n cap : Nat) (B : Nat → Bd) (w : World) (hn : n ≤ 9223372036854775807) (hr : BodsAt w r n B) (hs : Sen a [2, 5, 6] w) :
    Calls Tryd.prog 34 #[.slice r n cap] w fun e w' => e = .returned (errV a (validE n B)) ∧ Below w.heap.size w w' := by
  have HS := Lib.hid hs
  have c2 := (hs 2 (by decide)).1
  have l2 := (hs.lt (k := 2) (by decide)).1
  have c5 := (hs 5 (by decide)).1
  have l5 := (hs.lt (k := 5) (by decide)).1
  have c6 := (hs 6 (by decide)).1
  have l6 := (hs.lt (k := 6) (by decide)).1
  simp only [gOf] at c2 c5 c6 l2 l5 l6
  have HR := Lib.hid hr
  clear hs hr
  by_cases h12 : 12 < n
  · have HE := Lib.hid (show errV a (validE n B) = .iface 261 (.pointer (some (a 2))) by unfold validE; rw [if_pos h12]; exact errV_pos a (by decide))
    go_enter Tryd.func34, Tryd.ntmps34
    go_wp2
    go_ret
    exact ⟨by rw [HE.out]; rfl, grow_refl _⟩
  · have M := Lib.hid (has_valid1 r n cap B w (by omega) HR.out)
    cases hm : anyB n B massB with
    | true =>
      have HE := Lib.hid (show errV a (validE n B) = .iface 261 (.pointer (some (a 5))) by unfold validE; rw [if_neg h12, if_pos hm]; exact errV_pos a (by decide))
      rw [hm] at M
      clear hm
      go_enter Tryd.func34, Tryd.ntmps34
      go_wp2_with (go_at_call 77; (with_reducible refine M.out.mono ?_); rintro e w1 ⟨rfl, hb1⟩; have HB1 := Lib.hid hb1; obtain ⟨hc1, hf1, hz1⟩ := facts hb1; clear hb1)
      go_ret
      exact ⟨by rw [HE.out]; rfl, HB1.out⟩
    | false =>
      have F := Lib.hid (fun x (hx : Below w.heap.size w x) => free_walk r n cap B x (by omega) (HR.out.below hx))
      cases ho : anyB n B outB with
      | true =>
        have HE := Lib.hid (show errV a (validE n B) = .iface 261 (.pointer (some (a 6))) by unfold validE; rw [if_neg h12, if_neg (by rw [hm]; simp), if_pos ho]; exact errV_pos a (by decide))
        rw [hm] at M
        rw [ho] at F
        clear hm ho
        go_enter Tryd.func34, Tryd.ntmps34
        go_wp2_with (first
          | (go_at_call 77; (with_reducible refine M.out.mono ?_); rintro e w1 ⟨rfl, hb1⟩; have HB1 := Lib.hid hb1; clear hb1)
          | (go_at_call 79; (with_reducible refine (F.out _ HB1.out).mono ?_); rintro e w2 ⟨rfl, hb2⟩; have HB2 := Lib.hid (grow_trans HB1.out hb2); obtain ⟨hc1, hf1, hz1⟩ := facts (grow_trans HB1.out hb2); clear hb2))
        go_ret
        exact ⟨by rw [HE.out]; rfl, HB2.out⟩
      | false =>
        have HE := Lib.hid (show errV a (validE n B) = .nilIface by unfold validE; rw [if_neg h12, if_neg (by rw [hm]; simp), if_neg (by rw [ho]; simp)]; rfl)
        rw [hm] at M
        rw [ho] at F
        clear hm ho
        go_enter Tryd.func34, Tryd.ntmps34
        go_wp2_with (first
          | (go_at_call 77; (with_reducible refine M.out.mono ?_); rintro e w1 ⟨rfl, hb1⟩; have HB1 := Lib.hid hb1; clear hb1)
          | (go_at_call 79; (with_reducible refine (F.out _ HB1.out).mono ?_); rintro e w2 ⟨rfl, hb2⟩; have HB2 := Lib.hid (grow_trans HB1.out hb2); clear hb2))
        go_ret
        exact ⟨by rw [HE.out]; rfl, HB2.out⟩

set_option maxRecDepth 100000 in
set_option maxHeartbeats 4000000 in
theorem bodiesError_walk (r : Option Addr) (n cap : Nat) (B : Nat → Bd) (w : World) (hn : n ≤ 9223372036854775807) (hr : BodsAt w r n B) :
    Calls Tryd.prog 35 #[.slice r n cap] w fun e w' => e = .returned (.int .i64 (validE n B : Nat)) ∧ Below w.heap.size w w' := by
  have HR := Lib.hid hr
  clear hr
  by_cases h12 : 12 < n
  · have HE := Lib.hid (show validE n B = 2 by unfold validE; rw [if_pos h12])
    go_enter Tryd.func35, Tryd.ntmps35
    go_wp2
    go_ret
    exact ⟨by rw [HE.out]; rfl, grow_refl _⟩
  · go_enter Tryd.func35, Tryd.ntmps35
    go_wp2
    go_loopw [3, 4] (fun v3 v4 wr => ∃ k : Nat, k ≤ n ∧ v4 = .int .i64 k ∧ v3 = .bool (anyB k B outB) ∧ (∀ j, j < k → massB (B j) = false) ∧ Below w.heap.size w wr) (fun _ i _ => n - (intOf i).toNat)
    case atStart => exact ⟨0, Nat.zero_le _, rfl, by rw [(anyB_false 0 B outB).2 (fun k h => absurd h (by omega))], fun j h => absurd h (by omega), Below.refl _ _⟩
    case round =>
      obtain ⟨k, hk, rfl, rfl, hno, hb⟩ := hrel
      have HNO := Lib.hid hno
      have HB := Lib.hid hb
      clear hno hb
      by_cases hlt : k < n
      · obtain ⟨b1, o1, rfl, hl1, hc⟩ := HR.out.resolve_left (by omega)
        obtain ⟨c0, c1, c2, c3, c4, c5, c6⟩ := (hc k hlt).below HB.out hl1
        have HL1 := Lib.hid hl1
        have hz := HB.out.size
        have hl1' : b1 < wr.heap.size := by omega
        clear hc
        cases hm : massB (B k) with
        | true =>
          have HE := Lib.hid (show validE n B = 5 by unfold validE; rw [if_neg h12, if_pos ((anyB_iff _ _ _).2 ⟨k, hlt, hm⟩)])
          have hmm : (B k).m < 0 ∨ 65536 < (B k).m := by unfold massB at hm; simpa using hm
          clear hm
          generalize B k = d at *
          obtain ⟨⟨x, y, z⟩, ⟨u, v, q⟩, m⟩ := d
          simp only at c0 c1 c2 c3 c4 c5 c6 hmm
          rcases hmm with h | h
          all_goals
            go_wp2
            go_ret
            exact ⟨by rw [HE.out]; rfl, HB.out⟩
        | false =>
          have HMF := Lib.hid (show ∀ j, j = k → massB (B j) = false from fun j hj => hj ▸ hm)
          obtain ⟨m1, m2⟩ := massB_false.1 hm
          have NX := Lib.hid (show anyB (k + 1) B outB = (anyB k B outB || outB (B k)) by
            rw [Bool.eq_iff_iff, Bool.or_eq_true, anyB_iff, anyB_iff]
            constructor
            · rintro ⟨j, hj, h⟩
              rcases Nat.lt_or_ge j k with h2 | h2
              · exact .inl ⟨j, h2, h⟩
              · obtain rfl : j = k := by omega
                exact .inr h
            · rintro (⟨j, hj, h⟩ | h)
              · exact ⟨j, by omega, h⟩
              · exact ⟨k, by omega, h⟩)
          have P := Lib.hid (fun x => bin_walk (B k).p 1048576 (by omega) (by omega) x)
          have V := Lib.hid (fun x => bin_walk (B k).v 1048576 (by omega) (by omega) x)
          have HOB := Lib.hid (show outB (B k) = (!(B k).p.inB 1048576 || !(B k).v.inB 1048576) from rfl)
          clear hm
          unfold vec at P V
          generalize hd : B k = d at *
          clear hd
          obtain ⟨⟨x, y, z⟩, ⟨u, v, q⟩, m⟩ := d
          simp only at c0 c1 c2 c3 c4 c5 c6 m1 m2 P V HOB
          generalize C3.inB ⟨x, y, z⟩ 1048576 = p1 at *
          generalize C3.inB ⟨u, v, q⟩ 1048576 = p2 at *
          generalize anyB k B outB = ak at *
          have s0 := trivial
          cases ak <;> cases p1 <;> cases p2
          all_goals
            go_wp2_with (first
              | (clear s0; go_at_call 80; (with_reducible refine (P.out _).mono ?_); rintro e w1 ⟨rfl, hb1⟩; have HB1 := Lib.hid (HB.out.trans (hb1.mono hz)); obtain ⟨hc1, hf1, hz1⟩ := facts hb1; clear hb1; have s1 := trivial)
              | (clear s1; go_at_call 80; (with_reducible refine (V.out _).mono ?_); rintro e w2 ⟨rfl, hb2⟩; have HB2 := Lib.hid (HB1.out.trans (hb2.mono (by have := HB1.out.size; omega))); clear hb2))
            go_roundw
            case rel =>
              refine ⟨k + 1, by omega, by go_num, by rw [NX.out, HOB.out]; rfl, fun j hj => ?_, HB2.out⟩
              rcases Nat.lt_or_ge j k with h | h
              · exact HNO.out j h
              · exact HMF.out j (by omega)
            case measure => simp [intOf]; omega
      · obtain rfl : k = n := by omega
        have HM := Lib.hid ((anyB_false k B massB).2 HNO.out)
        cases ho : anyB k B outB with
        | true =>
          have HE := Lib.hid (show validE k B = 6 by unfold validE; rw [if_neg h12, if_neg (by rw [HM.out]; simp), if_pos ho])
          clear ho
          go_wp2
          go_ret
          exact ⟨by rw [HE.out]; rfl, HB.out⟩
        | false =>
          have HE := Lib.hid (show validE k B = 0 by unfold validE; rw [if_neg h12, if_neg (by rw [HM.out]; simp), if_neg (by rw [ho]; simp)])
          clear ho
          go_wp2
          go_ret
          exact ⟨by rw [HE.out]; rfl, HB.out⟩
end Go.Proofs.YtlfpfeidaohjmaaDoor
