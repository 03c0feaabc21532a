/- Windows of a track above a level, and what they hold: plain. -/
import Derived.Test.YtlfpfeidaohjmaaDoorEs13
import Derived.Test.YtlfpfeidaohjmaaDoorEc1
set_option linter.unusedSimpArgs false
set_option linter.unusedVariables false
namespace Go.Proofs.YtlfpfeidaohjmaaDoor
open Go.Bg

/-- Is a segment above a level, d behind its begin? -/
def segAb (S n a b d : Int) : Bool := decide (0 < (a - n) * (S - d) + (b - n) * d)
/-- Is the track above a level at an instant? -/
def above (F S : Int) (n : Int) (L : List Int) (x : Int) : Bool :=
  if ((x - F) / S).toNat + 1 ≥ L.length then decide (n < L.getD (L.length - 1) 0)
  else segAb S n (L.getD ((x - F) / S).toNat 0) (L.getD (((x - F) / S).toNat + 1) 0) (x - F - (((x - F) / S).toNat : Int) * S)
def putW (W : List (Int × Int)) (f t : Int) : List (Int × Int) :=
  if f < t then (match W.getLast? with
    | some s => if f ≤ s.2 then W.dropLast ++ [(s.1, t)] else W ++ [(f, t)]
    | none => [(f, t)]) else W
structure WSt where
  W : List (Int × Int)
  f : Int
  up : Bool
def wstep (s : WSt) (e : Ev) : WSt := if e.k = 1 then ⟨s.W, e.at' + 1, true⟩ else ⟨putW s.W s.f e.at', s.f, false⟩
def wfold (s : WSt) (l : List Ev) : WSt := l.foldl wstep s
def wUp (F : Int) (S : Nat) (n : Int) (L : List Int) (k : Nat) : WSt := wfold ⟨[], F, decide (n < L.getD 0 0)⟩ (evUp F S n L k)
def windows (F : Int) (S : Nat) (n : Int) (L : List Int) : List (Int × Int) :=
  let s := wUp F S n L (L.length - 1)
  if s.up then putW s.W s.f (F + ((L.length : Int) - 1) * S + 1) else s.W
theorem putW_far {W : List (Int × Int)} {f t : Int} (h : ∀ s ∈ W, s.2 < f) (ht : f < t) : putW W f t = W ++ [(f, t)] := by
  unfold putW
  rw [if_pos ht]
  rcases List.eq_nil_or_concat W with rfl | ⟨m, ⟨p, q⟩, hm⟩
  · rfl
  · have e : W = m ++ [(p, q)] := by simpa using hm
    subst e
    have h1 := h (p, q) (by simp)
    simp at h1 ⊢
    omega
theorem up_lt {p c d : Nat} (hc : 0 < c) : d < upQ p c ↔ d * c < p := by
  unfold upQ
  have h1 := Nat.div_add_mod p c
  have h2 := Nat.mod_lt p hc
  split
  · rename_i h0
    rw [h0, Nat.add_zero] at h1
    rw [← h1, Nat.mul_div_cancel_left _ hc, Nat.mul_comm c]
    exact ⟨fun h => Nat.mul_lt_mul_of_pos_right h hc, fun h => Nat.lt_of_mul_lt_mul_right h⟩
  · rename_i h0
    constructor
    · intro h
      have h3 : d * c ≤ p / c * c := Nat.mul_le_mul_right _ (by omega)
      rw [Nat.mul_comm c] at h1
      omega
    · intro h
      have h3 : ¬ (p / c + 1 ≤ d) := fun h4 => by
        have h5 : (p / c + 1) * c ≤ d * c := Nat.mul_le_mul_right _ h4
        rw [Nat.add_mul, Nat.one_mul, Nat.mul_comm (p / c)] at h5
        omega
      omega
/-- A segment that rises through the level. -/
theorem seg_rise {S d : Nat} {n a b : Int} (h1 : a ≤ n) (h2 : n < b) : segAb S n a b d = decide (S * (n - a).toNat / (b - a).toNat < d) := by
  obtain ⟨m, hm⟩ : ∃ m : Nat, n - a = (m : Int) := ⟨(n - a).toNat, by omega⟩
  obtain ⟨c, hc⟩ : ∃ c : Nat, b - a = (c : Int) := ⟨(b - a).toNat, by omega⟩
  have hc0 : 0 < c := by omega
  unfold segAb
  rw [hm, hc, Int.toNat_natCast, Int.toNat_natCast, show a - n = -(m : Int) by omega, show b - n = (c : Int) - (m : Int) by omega]
  have e : -(m : Int) * ((S : Int) - (d : Int)) + ((c : Int) - (m : Int)) * (d : Int) = ((d * c : Nat) : Int) - ((S * m : Nat) : Int) := by
    rw [Int.natCast_mul, Int.natCast_mul, Int.neg_mul, Int.mul_sub, Int.sub_mul, Int.mul_comm (d : Int), Int.mul_comm (S : Int)]
    omega
  rw [e, decide_eq_decide, Nat.div_lt_iff_lt_mul hc0]
  omega
/-- A segment that falls through it. -/
theorem seg_fall {S d : Nat} {n a b : Int} (h1 : n < a) (h2 : b ≤ n) : segAb S n a b d = decide (d < upQ (S * (a - n).toNat) (a - b).toNat) := by
  obtain ⟨m, hm⟩ : ∃ m : Nat, a - n = (m : Int) := ⟨(a - n).toNat, by omega⟩
  obtain ⟨c, hc⟩ : ∃ c : Nat, a - b = (c : Int) := ⟨(a - b).toNat, by omega⟩
  have hc0 : 0 < c := by omega
  unfold segAb
  rw [hm, hc, Int.toNat_natCast, Int.toNat_natCast, show b - n = (m : Int) - (c : Int) by omega]
  have e : (m : Int) * ((S : Int) - (d : Int)) + ((m : Int) - (c : Int)) * (d : Int) = ((S * m : Nat) : Int) - ((d * c : Nat) : Int) := by
    rw [Int.natCast_mul, Int.natCast_mul, Int.mul_sub, Int.sub_mul, Int.mul_comm (d : Int), Int.mul_comm (S : Int)]
    omega
  rw [e, decide_eq_decide, up_lt hc0]
  omega
theorem seg_high {S n a b d : Int} (h1 : n < a) (h2 : n < b) (h3 : 0 ≤ d) (h4 : d < S) : segAb S n a b d = true := by
  unfold segAb
  have p1 : 0 < (a - n) * (S - d) := Int.mul_pos (by omega) (by omega)
  have p2 : 0 ≤ (b - n) * d := Int.mul_nonneg (by omega) h3
  exact decide_eq_true (by omega)
theorem seg_low {S n a b d : Int} (h1 : a ≤ n) (h2 : b ≤ n) (h3 : 0 ≤ d) (h4 : d < S) : segAb S n a b d = false := by
  unfold segAb
  have p1 : 0 ≤ (n - a) * (S - d) := Int.mul_nonneg (by omega) (by omega)
  have p2 : 0 ≤ (n - b) * d := Int.mul_nonneg (by omega) h3
  have e1 : (a - n) * (S - d) = -((n - a) * (S - d)) := by rw [← Int.neg_mul]; congr 1; omega
  have e2 : (b - n) * d = -((n - b) * d) := by rw [← Int.neg_mul]; congr 1; omega
  exact decide_eq_false (by omega)
/-- What holds when k segments are done. -/
structure WInv (F : Int) (S : Nat) (n : Int) (L : List Int) (k : Nat) (s : WSt) : Prop where
  up : s.up = decide (n < L.getD k 0)
  rise : RiseP s.W
  in' : ∀ p ∈ s.W, F ≤ p.1 ∧ p.2 ≤ F + (k : Int) * S
  fr : s.up = true → F ≤ s.f ∧ s.f ≤ F + (k : Int) * S ∧ ∀ p ∈ s.W, p.2 < s.f
  ab : ∀ x, F ≤ x → x < F + (k : Int) * S → (inSp s.W x || (s.up && decide (s.f ≤ x))) = above F S n L x
theorem inSp_past {W : List (Int × Int)} {x t : Int} (h : ∀ p ∈ W, p.2 ≤ t) (hx : t ≤ x) : inSp W x = false := by
  unfold inSp
  rw [List.any_eq_false]
  intro p hp
  have := h p hp
  simp
  intro _
  omega
/-- The segment in which an instant lies. -/
theorem above_seg {F : Int} {S : Nat} {n : Int} {L : List Int} {k d : Nat} (hS : 0 < S) (hd : d < S) (hk : k + 1 < L.length) : above F S n L (F + (k : Int) * S + d) = segAb S n (L.getD k 0) (L.getD (k + 1) 0) d := by
  have e0 : F + (k : Int) * S + d - F = ((d + S * k : Nat) : Int) := by rw [Int.natCast_add, Int.natCast_mul, Int.mul_comm (S : Int)]; omega
  have e : (F + (k : Int) * S + d - F) / (S : Int) = (k : Int) := by
    rw [e0, ← Int.natCast_ediv, Nat.add_mul_div_left _ _ hS, Nat.div_eq_of_lt hd, Nat.zero_add]
  unfold above
  rw [e, Int.toNat_natCast, if_neg (by omega)]
  congr 1
  omega
theorem wUp_succ (F : Int) (S : Nat) (n : Int) (L : List Int) (k : Nat) : wUp F S n L (k + 1) = wfold (wUp F S n L k) (ev1 F S n (L.getD k 0) (L.getD (k + 1) 0) k) := by
  unfold wUp wfold
  show List.foldl _ _ (evUp F S n L k ++ _) = _
  rw [List.foldl_append]
theorem next_t (F : Int) (S k : Nat) : F + ((k + 1 : Nat) : Int) * S = F + (k : Int) * S + S := by
  rw [show ((k + 1 : Nat) : Int) = (k : Int) + 1 by omega, Int.add_mul, Int.one_mul, Int.add_assoc]
theorem WInv.zero (F : Int) (S : Nat) (n : Int) (L : List Int) : WInv F S n L 0 (wUp F S n L 0) :=
  ⟨rfl, ⟨fun s hs => (by cases hs), List.Pairwise.nil⟩, fun p hp => (by cases hp), fun _ => ⟨Int.le_refl _, (by show F ≤ F + ((0 : Nat) : Int) * S; simp), fun p hp => (by cases hp)⟩, fun x h1 h2 => (by simp at h2; omega)⟩
theorem WInv.step {F : Int} {S : Nat} {n : Int} {L : List Int} {k : Nat} (hS : 0 < S) (hk : k + 1 < L.length) (h : WInv F S n L k (wUp F S n L k)) : WInv F S n L (k + 1) (wUp F S n L (k + 1)) := by
  rw [wUp_succ]
  generalize wUp F S n L k = s at h ⊢
  have AB := fun d (hd : d < S) => above_seg (F := F) (n := n) hS hd hk
  obtain ⟨hup, hr, hin, hfr, hab⟩ := h
  have hb := next_t F S k
  have hF : F ≤ F + (k : Int) * S := by
    have : 0 ≤ (k : Int) * S := Int.mul_nonneg (by omega) (by omega)
    omega
  have eup : L.getD (k + 1) 0 = L.getD (k + 1) 0 := rfl
  generalize ht : F + (k : Int) * S = t at *
  generalize L.getD k 0 = a at *
  generalize hbb : L.getD (k + 1) 0 = b at *
  obtain ⟨W, f, u⟩ := s
  simp only at hup hr hin hfr hab
  have split : ∀ x, F ≤ x → x < t + S → x < t ∨ ∃ d : Nat, d < S ∧ x = t + d := fun x h1 h2 => by
    rcases Int.lt_or_le x t with h | h
    · exact .inl h
    · exact .inr ⟨(x - t).toNat, by omega, by omega⟩
  have past : ∀ x, t ≤ x → inSp W x = false := fun x hx => inSp_past (fun p hp => (hin p hp).2) hx
  by_cases c1 : a ≤ n ∧ n < b
  · have hu : u = false := by rw [hup]; exact decide_eq_false (by omega)
    subst hu
    have e : ev1 F S n a b k = [⟨1, t + ((S * (n - a).toNat / (b - a).toNat : Nat) : Int), k⟩] := by unfold ev1; rw [if_pos c1, ht]
    rw [e]
    show WInv F S n L (k + 1) ⟨W, t + ((S * (n - a).toNat / (b - a).toNat : Nat) : Int) + 1, true⟩
    have AR := fun d (hd : d < S) => (AB d hd).trans (seg_rise (S := S) (d := d) c1.1 c1.2)
    have hq : S * (n - a).toNat / (b - a).toNat < S := by
      refine (Nat.div_lt_iff_lt_mul (by omega)).2 ?_
      exact Nat.mul_lt_mul_of_pos_left (by omega) hS
    generalize S * (n - a).toNat / (b - a).toNat = q at hq AR ⊢
    refine ⟨?_, hr, fun p hp => ?_, fun _ => ⟨?_, ?_, fun p hp => ?_⟩, fun x h1 h2 => ?_⟩
    · simp only; rw [hbb]; exact (decide_eq_true c1.2).symm
    · have := hin p hp; rw [hb]; omega
    · simp only; omega
    · simp only; rw [hb]; omega
    · have := hin p hp; simp only; omega
    · simp only
      rw [hb] at h2
      rcases split x h1 h2 with h3 | ⟨d, hd, rfl⟩
      · have h4 := hab x h1 h3
        simp only [Bool.false_and, Bool.or_false] at h4
        rw [← h4, show decide (t + (q : Int) + 1 ≤ x) = false from decide_eq_false (by omega)]
        simp
      · rw [past _ (by omega), AR d hd, Bool.false_or, Bool.true_and, decide_eq_decide]
        omega
  · by_cases c2 : n < a ∧ b ≤ n
    · have hu : u = true := by rw [hup]; exact decide_eq_true c2.1
      subst hu
      obtain ⟨i, e⟩ : ∃ i : Int, ev1 F S n a b k = [⟨2, t + ((upQ (S * (a - n).toNat) (a - b).toNat : Nat) : Int), i⟩] := by
        unfold ev1
        rw [if_neg c1, if_pos c2, ht]
        exact ⟨_, rfl⟩
      rw [e]
      have AR := fun d (hd : d < S) => (AB d hd).trans (seg_fall (S := S) (d := d) c2.1 c2.2)
      have hq1 : 0 < upQ (S * (a - n).toNat) (a - b).toNat := (up_lt (by omega)).2 (by rw [Nat.zero_mul]; exact Nat.mul_pos hS (by omega))
      have hq2 : ¬ S < upQ (S * (a - n).toNat) (a - b).toNat := fun h => by
        have h2 := (up_lt (by omega)).1 h
        have h3 := Nat.lt_of_mul_lt_mul_left h2
        omega
      generalize upQ (S * (a - n).toNat) (a - b).toNat = q at hq1 hq2 AR ⊢
      obtain ⟨f1, f2, f3⟩ := hfr rfl
      have e2 : wfold ⟨W, f, true⟩ [⟨2, t + (q : Int), i⟩] = ⟨W ++ [(f, t + (q : Int))], f, false⟩ := by
        show WSt.mk (putW W f (t + (q : Int))) f false = _
        rw [putW_far f3 (by omega)]
      rw [e2]
      refine ⟨?_, ⟨fun p hp => ?_, ?_⟩, fun p hp => ?_, fun h => (by cases h), fun x h1 h2 => ?_⟩
      · simp only; rw [hbb]; exact (decide_eq_false (by omega)).symm
      · rcases List.mem_append.1 hp with h | h
        · exact hr.1 p h
        · obtain rfl : p = (f, t + (q : Int)) := by simpa using h
          simp only; omega
      · rw [List.pairwise_append]
        refine ⟨hr.2, by simp, fun p hp r hr' => ?_⟩
        obtain rfl : r = (f, t + (q : Int)) := by simpa using hr'
        exact f3 p hp
      · rw [hb]
        rcases List.mem_append.1 hp with h | h
        · have := hin p h; omega
        · obtain rfl : p = (f, t + (q : Int)) := by simpa using h
          simp only; omega
      · simp only
        rw [hb] at h2
        rw [inSp_append, inSp_one, Bool.false_and, Bool.or_false]
        rcases split x h1 h2 with h3 | ⟨d, hd, rfl⟩
        · rw [← hab x h1 h3, show decide (x < t + (q : Int)) = true from decide_eq_true (by omega)]
          simp
        · rw [past _ (by omega), AR d hd, Bool.false_or, show decide (f ≤ t + (d : Int)) = true from decide_eq_true (by omega), Bool.true_and, decide_eq_decide]
          omega
    · have e : ev1 F S n a b k = [] := by unfold ev1; rw [if_neg c1, if_neg c2]
      rw [e]
      show WInv F S n L (k + 1) ⟨W, f, u⟩
      have hu2 : u = decide (n < b) := by rw [hup, decide_eq_decide]; omega
      refine ⟨?_, hr, fun p hp => ?_, fun h => ?_, fun x h1 h2 => ?_⟩
      · simp only; rw [hbb]; exact hu2
      · have := hin p hp; rw [hb]; omega
      · obtain ⟨f1, f2, f3⟩ := hfr h
        exact ⟨f1, by rw [hb]; simp only; omega, f3⟩
      · simp only
        rw [hb] at h2
        rcases split x h1 h2 with h3 | ⟨d, hd, rfl⟩
        · exact hab x h1 h3
        · rw [past _ (by omega), AB d hd, Bool.false_or]
          by_cases c3 : n < a
          · have hu : u = true := by rw [hup]; exact decide_eq_true c3
            subst hu
            obtain ⟨f1, f2, f3⟩ := hfr rfl
            rw [seg_high c3 (by omega) (by omega) (by omega), show decide (f ≤ t + (d : Int)) = true from decide_eq_true (by omega)]
            rfl
          · have hu : u = false := by rw [hup]; exact decide_eq_false c3
            subst hu
            rw [seg_low (by omega) (by omega) (by omega) (by omega)]
            rfl
theorem WInv.all {F : Int} {S : Nat} {n : Int} {L : List Int} (hS : 0 < S) : ∀ k, k < L.length → WInv F S n L k (wUp F S n L k)
  | 0, _ => WInv.zero F S n L
  | k + 1, h => (WInv.all hS k (by omega)).step hS h
theorem above_last {F : Int} {S : Nat} {n : Int} {L : List Int} {k : Nat} (hS : 0 < S) (hk : k + 1 = L.length) : above F S n L (F + (k : Int) * S) = decide (n < L.getD k 0) := by
  have e : (F + (k : Int) * S - F) / (S : Int) = (k : Int) := by
    rw [show F + (k : Int) * S - F = ((S * k : Nat) : Int) by rw [Int.natCast_mul, Int.mul_comm (S : Int)]; omega, ← Int.natCast_ediv, Nat.mul_div_cancel_left _ hS]
  unfold above
  rw [e, Int.toNat_natCast, if_pos (by omega), show L.length - 1 = k by omega]
/-- The windows hold just what lies above. -/
theorem windows_spec {F : Int} {S : Nat} {n : Int} {L : List Int} (hS : 0 < S) (h2 : 1 ≤ L.length) :
    RiseP (windows F S n L) ∧ (∀ p ∈ windows F S n L, F ≤ p.1 ∧ p.2 ≤ F + ((L.length : Int) - 1) * S + 1) ∧ ∀ x, F ≤ x → x ≤ F + ((L.length : Int) - 1) * S → inSp (windows F S n L) x = above F S n L x := by
  obtain ⟨k, hk⟩ : ∃ k, k + 1 = L.length := ⟨L.length - 1, by omega⟩
  have e1 : L.length - 1 = k := by omega
  have e2 : ((L.length : Int) - 1) = (k : Int) := by omega
  unfold windows
  rw [e1, e2]
  have h := WInv.all (F := F) (n := n) (L := L) hS k (by omega)
  have AL := above_last (F := F) (n := n) hS hk
  generalize wUp F S n L k = s at h ⊢
  obtain ⟨hup, hr, hin, hfr, hab⟩ := h
  obtain ⟨W, f, u⟩ := s
  simp only at hup hr hin hfr hab ⊢
  have hF : F ≤ F + (k : Int) * S := by
    have : 0 ≤ (k : Int) * S := Int.mul_nonneg (by omega) (by omega)
    omega
  generalize F + (k : Int) * S = t at *
  rw [← hup] at AL
  cases u
  · simp only [Bool.false_eq_true, if_false]
    refine ⟨hr, fun p hp => ?_, fun x h1 h3 => ?_⟩
    · have := hin p hp; omega
    · rcases Int.lt_or_le x t with h4 | h4
      · have := hab x h1 h4
        simpa using this
      · obtain rfl : x = t := by omega
        rw [AL, inSp_past (fun p hp => (hin p hp).2) (Int.le_refl _)]
  · obtain ⟨f1, f2, f3⟩ := hfr rfl
    simp only [if_true]
    rw [putW_far f3 (by omega)]
    refine ⟨⟨fun p hp => ?_, ?_⟩, fun p hp => ?_, fun x h1 h3 => ?_⟩
    · rcases List.mem_append.1 hp with h | h
      · exact hr.1 p h
      · obtain rfl : p = (f, t + 1) := by simpa using h
        simp only; omega
    · rw [List.pairwise_append]
      refine ⟨hr.2, by simp, fun p hp r hr' => ?_⟩
      obtain rfl : r = (f, t + 1) := by simpa using hr'
      exact f3 p hp
    · rcases List.mem_append.1 hp with h | h
      · have := hin p h; omega
      · obtain rfl : p = (f, t + 1) := by simpa using h
        simp only; omega
    · rw [inSp_append, inSp_one]
      rcases Int.lt_or_le x t with h4 | h4
      · rw [← hab x h1 h4, show decide (x < t + 1) = true from decide_eq_true (by omega)]
        simp
      · obtain rfl : x = t := by omega
        rw [AL, inSp_past (fun p hp => (hin p hp).2) (Int.le_refl _), decide_eq_true f2, decide_eq_true (show x < x + 1 by omega)]
        rfl
end Go.Proofs.YtlfpfeidaohjmaaDoor
