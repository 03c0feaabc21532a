/- Cells of directions: a name put into a list that rises. -/
import Derived.Test.YtjjjbkehmnfgbaaDoorAc13
import Derived.Laws.AppendOwnNone
set_option linter.unusedSimpArgs false
set_option linter.unusedVariables false
namespace Go.Proofs.YtjjjbkehmnfgbaaDoor
open Go.RowKit Go.Grow Go.Atl

def lessB (x s : ByteArray) : Bool := Op.bytesLess x.toList s.toList
def insZ (l : List ByteArray) (s : ByteArray) : List ByteArray := l.takeWhile (lessB · s) ++ s :: l.dropWhile (lessB · s)
theorem insZ_length (l : List ByteArray) (s : ByteArray) : (insZ l s).length = l.length + 1 := by
  unfold insZ
  have := congrArg List.length (List.takeWhile_append_dropWhile (p := (lessB · s)) (l := l))
  rw [List.length_append] at this ⊢
  rw [List.length_cons]; omega
theorem ins_at (s : ByteArray) : ∀ (l : List ByteArray) (k : Nat), k ≤ l.length → (∀ i (hi : i < l.length), i < k → lessB l[i] s = true) → (∀ hi : k < l.length, lessB l[k] s = false) → insZ l s = l.take k ++ s :: l.drop k
  | [], k, hk, _, _ => by simp [insZ]
  | x :: l, 0, _, _, he => by
    have : lessB x s = false := he (by simp)
    simp [insZ, List.takeWhile, List.dropWhile, this]
  | x :: l, k + 1, hk, h, he => by
    have h0 : lessB x s = true := h 0 (by simp) (by omega)
    have := ins_at s l k (by simpa using hk) (fun i hi hik => by have := h (i + 1) (by simpa using hi) (by omega); simpa using this) (fun hi => by have := he (by simpa using hi); simpa using this)
    have e : insZ (x :: l) s = x :: insZ l s := by simp [insZ, List.takeWhile, List.dropWhile, h0]
    rw [e, this]; rfl
theorem info_st : (Tryd.prog.info? 9).map (fun i => (i.zero, i.size, i.bytes)) = some (some (.string .empty), 1, 16) := by kernel_rfl
theorem news_st (w : World) (x : ByteArray) (t : TypeId) : ∀ j u, [Value.string x][j]? = some u → (w.alloc (.cells #[.string x] t)).cell? ((⟨w.heap.size, 0, none⟩ : Addr).add j) = some u := fun j u h => by
  have K := Known.new w #[.string x] t
  have := K.cell j
  rw [show (⟨w.heap.size, 0, none⟩ : Addr).add j = ⟨w.heap.size, j, none⟩ by unfold Addr.add; split <;> simp_all, this]
  simpa using h
theorem st_cell (x : ByteArray) : ∀ u ∈ [Value.string x], u.oneCell' = true := fun u h => by simp at h; subst h; rfl
theorem st_cells (l : List ByteArray) : ∀ u ∈ stL l, u.oneCell' = true := fun u h => by simp [stL] at h; obtain ⟨x, _, rfl⟩ := h; rfl
theorem below_grownE {base : Nat} {w w1 w2 : World} {row : Option Nat} (h : Below base w w1) (hb : base ≤ w1.heap.size) (g : w1.grownBy w2 row) (hr : ∀ k, row = some k → base ≤ k) : Below base w w2 :=
  h.trans ⟨g.os, g.tape, g.output, g.size, fun k hk => g.block k (by omega) (fun e => absurd (hr k e.symm) (by omega))⟩
theorem drop_cells {w w1 : World} {b o k : Nat} {l : List ByteArray} (hb : Below w.heap.size w w1) (hc : ∀ k (h : k < l.length), w.cell? ⟨b, o + k, none⟩ = some (.string l[k])) : ∀ j u, (stL (l.drop k))[j]? = some u → w1.cell? ((⟨b, o + k, none⟩ : Addr).add j) = some u := fun j u h => by
  have hj : j < (l.drop k).length := by
    by_cases hj : j < (l.drop k).length
    · exact hj
    · rw [List.getElem?_eq_none (by simp [stL] at hj ⊢; omega)] at h; cases h
  have hj' : k + j < l.length := by simp at hj; omega
  have e : u = .string l[k + j] := by
    simp [stL, hj'] at h
    exact h.symm
  have hcc := hc (k + j) hj'
  rw [show (⟨b, o + k, none⟩ : Addr).add j = ⟨b, o + (k + j), none⟩ by unfold Addr.add; split <;> simp_all [Nat.add_assoc], hb.cell (p := ⟨b, _, none⟩) (lt_of_cellE hcc), hcc, e]
theorem drop_len (l : List ByteArray) (k : Nat) : (stL (l.drop k)).length = (l.length - k) * 1 := by simp [stL]
def InsRel (w : World) (l : List ByteArray) (s : ByteArray) (v5 v6 : Value) (wr : World) : Prop :=
  ∃ k : Nat, k ≤ l.length ∧ v6 = .int .i64 k ∧ wr.ownsRow w.heap.size 9 1 v5 k (stL (l.take k)) ∧ Below w.heap.size w wr ∧ (∀ i (hi : i < l.length), i < k → lessB l[i] s = true)
set_option maxRecDepth 100000 in
set_option maxHeartbeats 16000000 in
theorem insert_walk (r : Option Addr) (l : List ByteArray) (cap : Nat) (s : ByteArray) (w : World) (hl : l.length ≤ 1000000) (hc : l.length ≤ cap) (hc2 : cap ≤ maxLen) (hn : r = none → cap = 0) (hr : StrAt w r l) :
    Calls Tryd.prog 63 #[.slice r l.length cap, .string s] w fun e w' => ∃ v, e = .returned v ∧ w'.ownsRow w.heap.size 9 1 v (insZ l s).length (stL (insZ l s)) ∧ Below w.heap.size w w' := by
  obtain ⟨i0, hi, hz0, hz1, hz2⟩ := info_parts info_st
  have HI := Lib.hid hi
  have HZ0 := Lib.hid hz0
  have HZ1 := Lib.hid hz1
  have HZ2 := Lib.hid hz2
  have HR := Lib.hid hr
  clear hr hi hz0 hz1 hz2
  unfold maxLen at hc2
  go_enter Tryd.func63, Tryd.ntmps63
  go_wp2
  go_loopw [5, 6] (fun v5 v6 wr => InsRel w l s v5 v6 wr) (fun _ i _ => l.length - (intOf i).toNat)
  case atStart => exact ⟨0, Nat.zero_le _, rfl, World.ownsRow_nil _ _ _ _, Below.refl _ _, fun i _ h => absurd h (by omega)⟩
  case round =>
    obtain ⟨k, hk, rfl, hown, hg, hpre⟩ := hrel
    have O := Lib.hid hown
    have G := Lib.hid hg
    have HP := Lib.hid hpre
    clear hown hg hpre
    have hz := G.out.size
    by_cases hlt : k < l.length
    · obtain ⟨b1, o1, rfl, hcc⟩ := HR.out.resolve_left (by intro h; rw [h] at hlt; exact absurd hlt (by simp))
      have e0 := hcc k hlt
      have hb1 : b1 < w.heap.size := lt_of_cellE e0
      rw [← G.out.cell (p := ⟨b1, _, none⟩) hb1] at e0
      have TS := Lib.hid (show l.take (k + 1) = l.take k ++ [l[k]] from List.take_succ_eq_append_getElem hlt)
      have HL := Lib.hid (show ∀ b, lessB l[k] s = b → Op.bytesLess l[k].toList s.toList = b from fun b h => h)
      have HC := Lib.hid hcc
      clear hcc
      have hb1' : b1 < wr.heap.size := Nat.lt_of_lt_of_le hb1 hz
      have hi0 : (0 : Int) ≤ (k : Int) := by omega
      have hi1 : (k : Int) < (l.length : Int) := by omega
      cases hls : lessB l[k] s
      · have d1 := HL.out _ hls
        clear HL
        have C3 := Lib.hid (show k + 1 ≤ maxLen by unfold maxLen; omega)
        have C4 := Lib.hid (show (k + 1) * 16 ≤ 140737488355328 by omega)
        have C5 := Lib.hid (show w.heap.size ≤ (wr.alloc (.cells #[Value.string s] 9)).heap.size by simp; omega)
        have HZL := Lib.hid (show insZ l s = l.take k ++ s :: l.drop k from ins_at s l k hk HP.out (fun _ => hls))
        have s0 := trivial
        go_wp2_with (first
          | (clear s0; at_builtin; refine wpList_append_own _ rfl _ _ 63 rfl w.heap.size 9 i0 (.string .empty) 1 16 Tryd.underlying63 HI.out HZ0.out HZ1.out HZ2.out rfl (by decide) _ _ _ rfl (O.out.alloc _) ⟨wr.heap.size, 0, none⟩ 1 1 [.string s] rfl rfl (news_st _ _ _) (st_cell _) C3.out C4.out C5.out ?_))
        intro v' w1 hown' hg' _
        have HO2 := Lib.hid hown'
        have HG2 := Lib.hid (below_grownE (G.out.alloc hz (.cells #[Value.string s] 9)) (by simp; omega) hg' (fun k hk => (owns_block O.out hk).1))
        clear hown' hg'
        have C6 := Lib.hid (show k + 1 + (l.length - k) ≤ maxLen by unfold maxLen; omega)
        have C7 := Lib.hid (show (k + 1 + (l.length - k)) * 16 ≤ 140737488355328 by omega)
        have C8 := Lib.hid (Nat.le_trans (Nat.le_refl _) HG2.out.size)
        have CD := Lib.hid (drop_cells (k := k) HG2.out HC.out)
        go_wp2_with (at_builtin; refine wpList_append_own _ rfl _ _ 63 rfl w.heap.size 9 i0 (.string .empty) 1 16 Tryd.underlying63 HI.out HZ0.out HZ1.out HZ2.out rfl (by decide) _ _ _ rfl HO2.out ⟨b1, o1 + k, none⟩ (l.length - k) (cap - k) (stL (l.drop k)) rfl (drop_len l k) CD.out (st_cells _) C6.out C7.out C8.out ?_)
        intro v2 w2 hown2 hg2 _
        have HO3 := Lib.hid hown2
        have HG3 := Lib.hid (below_grownE HG2.out C8.out hg2 (fun k hk => (owns_block HO2.out hk).1))
        clear hown2 hg2
        go_wp2
        go_ret
        refine ⟨v2, rfl, ?_, HG3.out⟩
        rw [insZ_length, HZL.out, show l.length + 1 = k + 1 + (l.length - k) by omega, stL_append]
        exact HO3.out
      · have d1 := HL.out _ hls
        have HP2 := Lib.hid (show ∀ i (hi : i < l.length), i < k + 1 → lessB l[i] s = true from fun i hi h => by
          by_cases e : i = k
          · subst e; exact hls
          · exact HP.out i hi (by omega))
        clear hls HL
        generalize l[k] = x at e0 TS d1
        have C3 := Lib.hid (show k + 1 ≤ maxLen by unfold maxLen; omega)
        have C4 := Lib.hid (show (k + 1) * 16 ≤ 140737488355328 by omega)
        have C5 := Lib.hid (show w.heap.size ≤ (wr.alloc (.cells #[Value.string x] 9)).heap.size by simp; omega)
        go_wp2_with (at_builtin; refine wpList_append_own _ rfl _ _ 63 rfl w.heap.size 9 i0 (.string .empty) 1 16 Tryd.underlying63 HI.out HZ0.out HZ1.out HZ2.out rfl (by decide) _ _ _ rfl (O.out.alloc _) ⟨wr.heap.size, 0, none⟩ 1 1 [.string x] rfl rfl (news_st _ _ _) (st_cell _) C3.out C4.out C5.out ?_)
        intro v' w1 hown' hg' _
        have HO2 := Lib.hid hown'
        have HG2 := Lib.hid hg'
        clear hown' hg'
        go_wp2
        go_roundw
        case rel =>
          refine ⟨k + 1, by omega, by go_num, ?_, below_grownE (G.out.alloc hz _) (by simp; omega) HG2.out (fun k hk => (owns_block O.out hk).1), HP2.out⟩
          rw [TS.out, stL_append]
          exact HO2.out
        case measure => simp [intOf]; omega
    · obtain rfl : k = l.length := by omega
      have hls : ∀ hi : l.length < l.length, lessB l[l.length] s = false := fun h => absurd h (by omega)
      have C3 := Lib.hid (show l.length + 1 ≤ maxLen by unfold maxLen; omega)
      have C4 := Lib.hid (show (l.length + 1) * 16 ≤ 140737488355328 by omega)
      have C5 := Lib.hid (show w.heap.size ≤ (wr.alloc (.cells #[Value.string s] 9)).heap.size by simp; omega)
      have HZL := Lib.hid (show insZ l s = l.take l.length ++ s :: l.drop l.length from ins_at s l l.length hk HP.out hls)
      have s0 := trivial
      go_wp2_with (first
        | (clear s0; at_builtin; refine wpList_append_own _ rfl _ _ 63 rfl w.heap.size 9 i0 (.string .empty) 1 16 Tryd.underlying63 HI.out HZ0.out HZ1.out HZ2.out rfl (by decide) _ _ _ rfl (O.out.alloc _) ⟨wr.heap.size, 0, none⟩ 1 1 [.string s] rfl rfl (news_st _ _ _) (st_cell _) C3.out C4.out C5.out ?_))
      intro v' w1 hown' hg' _
      have HO2 := Lib.hid hown'
      have HG2 := Lib.hid (below_grownE (G.out.alloc hz (.cells #[Value.string s] 9)) (by simp; omega) hg' (fun k hk => (owns_block O.out hk).1))
      clear hown' hg'
      have hii : (0 : Int) ≤ (l.length : Int) := by omega
      cases r with
      | none =>
        obtain rfl := hn rfl
        obtain rfl : l = [] := List.length_eq_zero_iff.1 (by omega)
        go_wp2_with (at_builtin; refine wpList_append_own_none rfl _ _ 63 rfl w.heap.size 9 i0 1 Tryd.underlying63 HI.out _ _ _ rfl HO2.out rfl ?_)
        go_ret
        refine ⟨_, rfl, ?_, HG2.out⟩
        exact HO2.out
      | some ad =>
        have hll : (l.length : Int) ≤ (cap : Int) := by omega
        obtain ⟨ab, ao, asp⟩ := ad
        have C6 := Lib.hid (show l.length + 1 + 0 ≤ maxLen by unfold maxLen; omega)
        have C7 := Lib.hid (show (l.length + 1 + 0) * 16 ≤ 140737488355328 by omega)
        have C8 := Lib.hid (Nat.le_trans (Nat.le_refl _) HG2.out.size)
        by_cases hlc : cap = l.length
        · subst hlc
          go_wp2_with (at_builtin; refine wpList_append_own _ rfl _ _ 63 rfl w.heap.size 9 i0 (.string .empty) 1 16 Tryd.underlying63 HI.out HZ0.out HZ1.out HZ2.out rfl (by decide) _ _ _ rfl HO2.out ⟨ab, ao, asp⟩ 0 0 [] rfl rfl (fun j u h => by simp at h) (fun u h => by simp at h) C6.out C7.out C8.out ?_)
          intro v2 w2 hown2 hg2 _
          have HO3 := Lib.hid hown2
          have HG3 := Lib.hid (below_grownE HG2.out C8.out hg2 (fun k hk => (owns_block HO2.out hk).1))
          clear hown2 hg2
          go_wp2
          go_ret
          refine ⟨v2, rfl, ?_, HG3.out⟩
          rw [insZ_length, HZL.out, stL_append, List.drop_length, List.take_length]
          exact HO3.out
        · have hpos : 0 < cap - l.length := by omega
          have hpos' : ¬ cap - l.length = 0 := by omega
          go_wp2_with (at_builtin; refine wpList_append_own _ rfl _ _ 63 rfl w.heap.size 9 i0 (.string .empty) 1 16 Tryd.underlying63 HI.out HZ0.out HZ1.out HZ2.out rfl (by decide) _ _ _ rfl HO2.out _ 0 (cap - l.length) [] rfl rfl (fun j u h => by simp at h) (fun u h => by simp at h) C6.out C7.out C8.out ?_)
          intro v2 w2 hown2 hg2 _
          have HO3 := Lib.hid hown2
          have HG3 := Lib.hid (below_grownE HG2.out C8.out hg2 (fun k hk => (owns_block HO2.out hk).1))
          clear hown2 hg2
          go_wp2
          go_ret
          refine ⟨v2, rfl, ?_, HG3.out⟩
          rw [insZ_length, HZL.out, stL_append, List.drop_length, List.take_length]
          exact HO3.out
end Go.Proofs.YtjjjbkehmnfgbaaDoor
