/- The document's large numbers: which is the larger; of two numbers with signs. -/
import Derived.Test.YtlfpfeidaohjmaaDoorEb2
set_option linter.unusedSimpArgs false
set_option linter.unusedVariables false
namespace Go.Proofs.YtlfpfeidaohjmaaDoor
open Go.RowKit Go.Grow Go.Bg


set_option maxRecDepth 100000 in
set_option maxHeartbeats 8000000 in
theorem bigCmp_walk (r1 r2 : Option Addr) (a b : List Nat) (c1 c2 : Nat) (w : World) (ha : a.length ≤ 1000) (hb : b.length ≤ 1000) (h1 : DgAt w r1 a) (h2 : DgAt w r2 b) (s1 : Canon a) (s2 : Canon b) :
    Calls Tryd.prog 115 #[.slice r1 a.length c1, .slice r2 b.length c2] w fun e w' => e = .returned (.int .i64 (cmpN (val a) (val b))) ∧ Below w.heap.size w w' := by
  have A1 := Lib.hid h1
  have A2 := Lib.hid h2
  have S1 := Lib.hid s1
  have S2 := Lib.hid s2
  clear h1 h2 s1 s2
  rcases Nat.lt_trichotomy a.length b.length with hl | hl | hl
  · have e : cmpN (val a) (val b) = -1 := by have := canon_lt S1.out S2.out hl; unfold cmpN; rw [if_pos this]
    rw [e]
    have n1 : ¬ ((a.length : Int) = (b.length : Int)) := by omega
    have n2 : (a.length : Int) < (b.length : Int) := by omega
    go_enter Tryd.func115, Tryd.ntmps115
    go_wp2
    go_ret
    exact ⟨rfl, Below.refl _ _⟩
  · have hbl : (b.length : Int) = (a.length : Int) := by omega
    have HLN := Lib.hid hl
    clear hl
    go_enter Tryd.func115, Tryd.ntmps115
    go_wp2
    go_loopw [5] (fun v5 wr => ∃ k : Nat, k ≤ a.length ∧ v5 = .int .i64 ((k : Int) - 1) ∧ a.drop k = b.drop k ∧ Below w.heap.size w wr) (fun v _ => (intOf v + 1).toNat)
    case atStart => exact ⟨a.length, Nat.le_refl _, rfl, by rw [List.drop_of_length_le (by omega), List.drop_of_length_le (by have := HLN.out; omega)], Below.refl _ _⟩
    case round =>
      obtain ⟨k, hk, rfl, hdr, hg⟩ := hrel
      have G := Lib.hid hg
      have HD := Lib.hid hdr
      clear hg hdr
      rcases Nat.eq_zero_or_pos k with h0 | h0
      · subst h0
        have e : cmpN (val a) (val b) = 0 := by
          have := HD.out
          rw [List.drop_zero, List.drop_zero] at this
          rw [this]; unfold cmpN; simp
        go_wp2
        go_ret
        exact ⟨by rw [e]; rfl, G.out⟩
      · obtain ⟨j, rfl⟩ : ∃ j, k = j + 1 := ⟨k - 1, by omega⟩
        have hj : j < a.length := by omega
        have hj2 : j < b.length := by omega
        obtain ⟨b1, o1, rfl, hc⟩ := A1.out.resolve_left (by intro h; rw [h] at hj; exact absurd hj (by simp))
        obtain ⟨b2, o2, rfl, hc2⟩ := A2.out.resolve_left (by intro h; rw [h] at hj2; exact absurd hj2 (by simp))
        have hb1 : b1 < w.heap.size := lt_of_cellS (hc j hj)
        have hb2 : b2 < w.heap.size := lt_of_cellS (hc2 j hj2)
        have f1 := (G.out.cell (p := ⟨b1, _, none⟩) hb1).trans (hc j hj)
        have f2 := (G.out.cell (p := ⟨b2, _, none⟩) hb2).trans (hc2 j hj2)
        have LT := Lib.hid (lt_at (b := b) S1.out.small hj hj2 HD.out)
        have GT := Lib.hid (lt_at (b := a) S2.out.small hj2 hj HD.out.symm)
        have EQ := Lib.hid (fun (h : a[j] = b[j]) => show a.drop j = b.drop j by rw [List.drop_eq_getElem_cons hj, List.drop_eq_getElem_cons hj2, h, HD.out])
        clear hc hc2
        generalize a[j] = x at f1 LT GT EQ
        generalize b[j] = y at f2 LT GT EQ
        have hi0 : (0 : Int) ≤ (j : Int) := by omega
        have hi1 : (j : Int) < (a.length : Int) := by omega
        have hi2 : (j : Int) < (b.length : Int) := by omega
        rcases Nat.lt_trichotomy x y with h | h | h
        · have e : cmpN (val a) (val b) = -1 := by have := LT.out h; unfold cmpN; rw [if_pos this]
          have d1 : (x : Int) < (y : Int) := by omega
          go_wp2
          go_quiet (fail)
          go_wp2
          go_ret
          exact ⟨by rw [e]; rfl, grow_drewN G.out _⟩
        · subst h
          go_wp2
          go_quiet (fail)
          go_wp2
          go_quiet (fail)
          go_wp2
          go_roundw
          case rel =>
            exact ⟨j, by omega, by go_num, EQ.out trivial, by first | exact grow_drewN G.out _ | exact grow_drewN (grow_drewN G.out _) _⟩
          case measure => simp [intOf]
        · have e : cmpN (val a) (val b) = 1 := by have := GT.out h; unfold cmpN; rw [if_neg (by omega), if_pos this]
          have d1 : ¬ (x : Int) < (y : Int) := by omega
          have d2 : (y : Int) < (x : Int) := by omega
          go_wp2
          go_quiet (fail)
          go_wp2
          go_quiet (fail)
          go_wp2
          go_ret
          exact ⟨by rw [e]; rfl, grow_drewN (grow_drewN G.out _) _⟩
  · have e : cmpN (val a) (val b) = 1 := by have := canon_lt S2.out S1.out hl; unfold cmpN; rw [if_neg (by omega), if_pos this]
    rw [e]
    have n1 : ¬ ((a.length : Int) = (b.length : Int)) := by omega
    have n2 : ¬ ((a.length : Int) < (b.length : Int)) := by omega
    go_enter Tryd.func115, Tryd.ntmps115
    go_wp2
    go_ret
    exact ⟨rfl, Below.refl _ _⟩
/-- Numbers' digits. -/
theorem dgCmp_walk (r1 r2 : Option Addr) (x y : Nat) (c1 c2 : Nat) (w : World) (hx : x < 1000000 ^ 100) (hy : y < 1000000 ^ 100) (h1 : DgAt w r1 (dig x)) (h2 : DgAt w r2 (dig y)) :
    Calls Tryd.prog 115 #[.slice r1 (dig x).length c1, .slice r2 (dig y).length c2] w fun e w' => e = .returned (.int .i64 (cmpN x y)) ∧ Below w.heap.size w w' := by
  have h := bigCmp_walk r1 r2 (dig x) (dig y) c1 c2 w (Nat.le_trans (dig_length_le _ 100 hx) (by decide)) (Nat.le_trans (dig_length_le _ 100 hy) (by decide)) h1 h2 (canon_dig x) (canon_dig y)
  rwa [val_dig, val_dig] at h
theorem dgMul_walk (r1 r2 : Option Addr) (x y : Nat) (c1 c2 : Nat) (w : World) (hx : x < 1000000 ^ 100) (hy : y < 1000000 ^ 100) (h1 : DgAt w r1 (dig x)) (h2 : DgAt w r2 (dig y)) :
    Calls Tryd.prog 139 #[.slice r1 (dig x).length c1, .slice r2 (dig y).length c2] w (DgPost (dig (x * y)) w) := by
  have h := bigMul_walk r1 r2 (dig x) (dig y) c1 c2 w (Nat.le_trans (dig_length_le _ 100 hx) (by decide)) (Nat.le_trans (dig_length_le _ 100 hy) (by decide)) h1 h2 (canon_dig x).small (canon_dig y).small
  rwa [val_dig, val_dig] at h
/-- A sign and a size. -/
def ProdPost (x y : Int) (w : World) (e : Ending) (w' : World) : Prop := ∃ r c, e = .returned (.tuple #[.int .i64 (sgn x y), .slice r (dig (x.natAbs * y.natAbs)).length c]) ∧ DgAt w' r (dig (x.natAbs * y.natAbs)) ∧ Below w.heap.size w w'
theorem big_pow {x : Nat} (h : x ≤ 9223372036854775807) : x < 1000000 ^ 100 :=
  Nat.lt_of_lt_of_le (show x < 1000000 ^ 4 by omega) (Nat.pow_le_pow_right (by decide) (by decide))
set_option maxRecDepth 100000 in
set_option maxHeartbeats 8000000 in
theorem product_walk (x y : Int) (w : World) (hx : -9223372036854775808 < x ∧ x ≤ 9223372036854775807) (hy : -9223372036854775808 < y ∧ y ≤ 9223372036854775807) :
    Calls Tryd.prog 114 #[.int .i64 x, .int .i64 y] w (ProdPost x y w) := by
  have B1 := Lib.hid (fun X => bigOf_walk x.natAbs (by omega) X)
  have B2 := Lib.hid (fun X => bigOf_walk y.natAbs (by omega) X)
  have M := Lib.hid (fun X r1 r2 c1 c2 h1 h2 => dgMul_walk r1 r2 x.natAbs y.natAbs c1 c2 X (big_pow (by omega)) (big_pow (by omega)) h1 h2)
  unfold ProdPost sgn
  obtain ⟨hx1, hx2⟩ := hx
  obtain ⟨hy1, hy2⟩ := hy
  have X1 : (x < 0 ∧ (x.natAbs : Int) = -x) ∨ (¬ x < 0 ∧ (x.natAbs : Int) = x) := by omega
  have Y1 : (y < 0 ∧ (y.natAbs : Int) = -y) ∨ (¬ y < 0 ∧ (y.natAbs : Int) = y) := by omega
  rcases X1 with ⟨p, hu⟩ | ⟨p, hu⟩ <;> rcases Y1 with ⟨q, hv⟩ | ⟨q, hv⟩
  all_goals
    rw [hu] at B1
    rw [hv] at B2
    simp only [p, q, decide_true, decide_false, if_true, if_false, reduceCtorEq, Bool.false_eq_true]
    generalize x.natAbs = m at B1 M ⊢
    generalize y.natAbs = n at B2 M ⊢
    clear hu hv
    go_enter Tryd.func114, Tryd.ntmps114
    go_wp2_with (first
      | (go_at_call 140; (with_reducible refine (B1.out _).mono ?_); rintro e w1 ⟨r1, c1, rfl, hd, hb⟩; have D1 := Lib.hid hd; have G := Lib.hid hb; clear hd hb B1)
      | (go_at_call 140; (with_reducible refine (B2.out _).mono ?_); rintro e w2 ⟨r2, c2, rfl, hd, hb⟩; have D2 := Lib.hid hd; replace D1 := Lib.hid (D1.out.below hb); replace G := Lib.hid (grow_trans G.out hb); clear hd hb B2)
      | (go_at_call 139; (with_reducible refine (M.out _ _ _ _ _ D1.out D2.out).mono ?_); rintro e w3 ⟨r3, c3, rfl, hd, hb⟩; have D3 := Lib.hid hd; replace G := Lib.hid (grow_trans G.out hb); clear hd hb M))
    go_ret2
    exact ⟨r3, c3, rfl, D3.out, G.out⟩
end Go.Proofs.YtlfpfeidaohjmaaDoor
