/- Waves: a share of all, the document's. -/
import Derived.Test.YtaakbajhbmbhcaaDoorWv4
import Derived.Test.YtaakbajhbmbhcaaDoorLate
set_option linter.unusedSimpArgs false
set_option linter.unusedVariables false
namespace Go.Proofs.YtaakbajhbmbhcaaDoor
open Go.RowKit Go.Fl Go.Grow Go.Tr

def pvL (l : List (Nat × Nat)) : List Value := l.flatMap fun p => [.float .f64 p.1, .float .f64 p.2]
theorem pvL_append (a b : List (Nat × Nat)) : pvL (a ++ b) = pvL a ++ pvL b := by simp [pvL]
theorem pvL_length (l : List (Nat × Nat)) : (pvL l).length = l.length * 2 := by
  induction l with
  | nil => rfl
  | cons x l ih =>
    rw [show pvL (x :: l) = .float .f64 x.1 :: .float .f64 x.2 :: pvL l from rfl]
    simp only [List.length_cons, ih]; omega
theorem pvL_get : ∀ (l : List (Nat × Nat)) (k : Nat) (h : k < l.length), (pvL l)[k * 2]? = some (.float .f64 l[k].1) ∧ (pvL l)[k * 2 + 1]? = some (.float .f64 l[k].2)
  | [], k, h => absurd h (by simp)
  | x :: l, 0, h => ⟨rfl, rfl⟩
  | x :: l, k + 1, h => by
    have := pvL_get l k (by simpa using h)
    rw [show pvL (x :: l) = .float .f64 x.1 :: .float .f64 x.2 :: pvL l from rfl, show (k + 1) * 2 = k * 2 + 1 + 1 by omega]
    simpa using this
theorem info_pr : (Tryd.prog.info? 28).map (fun i => (i.zero, i.size, i.bytes)) = some (some (.agg #[.float .f64 0, .float .f64 0]), 2, 16) := by kernel_rfl
theorem pr_cell (a b : Nat) : ∀ u ∈ [Value.float .f64 a, Value.float .f64 b], u.oneCell' = true := fun u h => by simp at h; rcases h with rfl | rfl <;> rfl
theorem news_pr (w : World) (c : List Value) (t : TypeId) : ∀ j u, c[j]? = some u → (w.alloc (.cells c.toArray t)).cell? ((⟨w.heap.size, 0, none⟩ : Addr).add j) = some u := fun j u h => by
  rw [add_zero, cell?_cells, if_pos rfl]; simpa using h
/-- A row of pairs of the call's own, read. -/
theorem pr_of_owns {w : World} {base n : Nat} {v : Value} {l : List (Nat × Nat)} {e : TypeId} (h : w.ownsRow base e 2 v n (pvL l)) : ∃ r cap, v = .slice r l.length cap ∧ PrAt w r l := by
  have hlen : n = l.length := by have := h.1; rw [pvL_length] at this; omega
  subst hlen
  obtain ⟨hl, ⟨hv, hn⟩ | ⟨g, cap, cur, hv, hg⟩⟩ := h
  · exact ⟨none, 0, by rw [hv, hn], .inl (List.length_eq_zero_iff.1 hn)⟩
  · subst hv
    have hc := owns_cells (w := w) (base := base) (e := e) (size := 2) (g := g) (n := l.length) (cap := cap) (xs := pvL l) ⟨hl, .inr ⟨g, cap, cur, rfl, hg⟩⟩
    refine ⟨some ⟨g, 0, none⟩, cap, rfl, .inr ⟨g, 0, rfl, fun k hk => ?_⟩⟩
    obtain ⟨h0, h1⟩ := pvL_get l k hk
    rw [Nat.zero_add]
    exact ⟨hc _ _ h0, hc _ _ h1⟩
def OvRel (w : World) (n : Nat) (l : List (Nat × Nat)) (v4 v5 : Value) (wr : World) : Prop :=
  ∃ (k : Nat) (L : List (Nat × Nat)), k ≤ l.length ∧ v5 = .int .i64 k ∧ L.map cb = (l.take k).map (fun p => shr n (cb p)) ∧ wr.ownsRow w.heap.size 28 2 v4 k (pvL L) ∧ Below w.heap.size w wr
def PrPost (w : World) (T : List C2) (e : Ending) (w' : World) : Prop := ∃ r c L, e = .returned (.slice r L.length c) ∧ PrAt w' r L ∧ L.map cb = T ∧ Below w.heap.size w w'
set_option maxRecDepth 100000 in
set_option maxHeartbeats 8000000 in
theorem over_walk (r : Option Addr) (l : List (Nat × Nat)) (cap : Nat) (w : World) (hl : l.length ≤ 256) (hr : PrAt w r l) :
    Calls Tryd.prog 46 #[.slice r l.length cap] w (PrPost w (l.map fun p => shr l.length (cb p))) := by
  obtain ⟨i0, hi, hz0, hz1, hz2⟩ := info_parts info_pr
  have HI := Lib.hid hi
  have HZ0 := Lib.hid hz0
  have HZ1 := Lib.hid hz1
  have HZ2 := Lib.hid hz2
  have HR := Lib.hid hr
  clear hr hi hz0 hz1 hz2
  go_enter Tryd.func46, Tryd.ntmps46
  go_wp2
  obtain ⟨q, hq⟩ : ∃ q, nF l.length = q := ⟨_, rfl⟩
  have HQ := Lib.hid hq
  unfold nF at hq
  rw [hq]
  clear hq
  go_loopw [4, 5] (fun v4 v5 wr => OvRel w l.length l v4 v5 wr) (fun _ i _ => l.length - (intOf i).toNat)
  case atStart => exact ⟨0, [], Nat.zero_le _, rfl, rfl, World.ownsRow_nil _ _ _ _, Below.refl _ _⟩
  case round =>
    obtain ⟨k, L, hk, rfl, hL, hown, hg⟩ := hrel
    have HL := Lib.hid hL
    have O := Lib.hid hown
    have G := Lib.hid hg
    clear hown hg hL
    have hz := G.out.size
    by_cases hlt : k < l.length
    · obtain ⟨b1, o1, rfl, hc⟩ := HR.out.resolve_left (by intro h; rw [h] at hlt; exact absurd hlt (by simp))
      obtain ⟨e0, e1⟩ := hc k hlt
      have hb1 : b1 < w.heap.size := lt_of_cell e0
      rw [← G.out.cell (p := ⟨b1, _, none⟩) hb1] at e0 e1
      have TS := Lib.hid (take_snocC l k hlt)
      clear hc
      generalize l[k] = x at *
      obtain ⟨xa, xb⟩ := x
      simp only at e0 e1
      have hb1' : b1 < wr.heap.size := Nat.lt_of_lt_of_le hb1 hz
      have hi0 : (0 : Int) ≤ (k : Int) := by omega
      have hi1 : (k : Int) < (l.length : Int) := by omega
      go_wp2
      refine Rel.wp_region_rel_late SpecC 16 0 16 (by kernel_rfl) (by kernel_rfl) (lexTailB_of_fast (by kernel_rfl) (by kernel_rfl) (by kernel_rfl)) (by decide) (fun _ _ _ _ _ h => h) ?_
      simp only [List.append_eq, List.cons_append, List.nil_append, List.take_succ_cons, List.take_zero, List.drop_succ_cons, List.drop_zero]
      have s0 := trivial
      repeat (first
        | (clear s0; refine rel_arith (by rfl) rfl (by rfl) rfl rfl ?_; intro p1 P1; have s1 := trivial; simp only [Act.put, List.setIfInBounds_toArray, List.set_cons_zero, List.set_cons_succ])
        | (clear s1; refine rel_arith (by rfl) rfl (by rfl) rfl rfl ?_; intro p2 P2; simp only [Act.put, List.setIfInBounds_toArray, List.set_cons_zero, List.set_cons_succ])
        | (refine rel_plain (by rfl) rfl ?_; intro K hK; go_big_quiet_op; go_big_quiet_on)
        | (refine rel_skip (by rfl) ?_; simp only [Act.put, List.setIfInBounds_toArray, List.set_cons_zero, List.set_cons_succ]))
      refine Rel.wpRel_nil ?_
      intro w4 hB9 hG9
      clear hG9
      have OX := Lib.hid (ownsRow_below O.out hB9)
      have GX := Lib.hid (grow_trans G.out hB9)
      clear O G e0 e1 hB9
      have hz4 := GX.out.size
      have C3 := Lib.hid (show k + 1 ≤ maxLen by unfold maxLen; omega)
      have C4 := Lib.hid (show (k + 1) * 16 ≤ 140737488355328 by omega)
      have C5 := Lib.hid (show w.heap.size ≤ (w4.alloc (.cells #[Value.float .f64 p1, Value.float .f64 p2] 28)).heap.size by simp; omega)
      go_wp2_with (at_builtin; refine wpList_append_own _ rfl _ _ 22 rfl w.heap.size 28 i0 (.agg #[.float .f64 0, .float .f64 0]) 2 16 Tryd.underlying22 HI.out HZ0.out HZ1.out HZ2.out rfl (by decide) _ _ _ rfl (OX.out.alloc _) ⟨w4.heap.size, 0, none⟩ 1 1 [.float .f64 p1, .float .f64 p2] rfl rfl (news_pr _ _ _) (pr_cell _ _) C3.out C4.out C5.out ?_)
      intro v' w1 hown' hg' _
      have HO2 := Lib.hid hown'
      have HG2 := Lib.hid hg'
      clear hown' hg'
      go_wp2
      go_roundw
      case rel =>
        refine ⟨k + 1, L ++ [(p1, p2)], by omega, by go_num, ?_, ?_, below_grown (GX.out.alloc hz4 _) (by simp; omega) HG2.out (fun k hk => (OX.out.lt k hk).1)⟩
        · rw [TS.out, List.map_append, List.map_append, HL.out]
          congr 1
          have h1 : fl p1 = fdiv (fl xa) (fl (nF l.length)) := by rw [P1.out, HQ.out]; rfl
          have h2 : fl p2 = fdiv (fl xb) (fl (nF l.length)) := by rw [P2.out, HQ.out]; rfl
          simp only [List.map_cons, List.map_nil, cb, shr, h1, h2]
        · rw [pvL_append]
          exact HO2.out
      case measure => simp [intOf]; omega
    · obtain rfl : k = l.length := by omega
      obtain ⟨r', c', hv, hx⟩ := pr_of_owns O.out
      subst hv
      go_wp2
      go_ret
      exact ⟨r', c', L, rfl, hx, by rw [HL.out, List.take_length], G.out⟩
end Go.Proofs.YtaakbajhbmbhcaaDoor
/- Waves of a row: the document's. -/
set_option linter.unusedSimpArgs false
set_option linter.unusedVariables false
namespace Go.Proofs.YtaakbajhbmbhcaaDoor
open Go.RowKit Go.Fl Go.Grow Go.Tr

def SpecD : FuncId → Array Value → Value → Prop
  | 45, #[.int .i64 g, .bool back], v => IsPair (wav g back) v
  | 44, #[.agg #[.float .f64 a, .float .f64 b], .agg #[.float .f64 c, .float .f64 d]], v => IsPair (cmul ⟨fl a, fl b⟩ ⟨fl c, fl d⟩) v
  | _, _, _ => False
theorem known_eq {w : World} {b : Nat} {c c' : Array Value} (h : Known w b c) (e : c = c') : Known w b c' := e ▸ h
theorem ownsRow_but {w w' : World} {base b : Nat} {e : TypeId} {size : Nat} {v : Value} {n : Nat} {xs : List Value} (h : w.ownsRow base e size v n xs) (hb : But b w w') (hne : v.ownBlock ≠ some b) : w'.ownsRow base e size v n xs :=
  h.kept (row := some b) ⟨hb.os, hb.tape, hb.output, hb.size, fun k hk hk2 => hb.block k hk (fun e => hk2 (by rw [e]))⟩ (by
    cases hv : v.ownBlock with
    | none => exact .inl rfl
    | some k => exact .inr (fun e => hne (by rw [hv, e])))
theorem alloc_pr (w : World) : (Instr.alloc 28 true (.tuple #[])).run Tryd.prog w = .ok (.pointer (some ⟨w.heap.size, 0, none⟩)) (w.alloc (.cells #[.float .f64 0, .float .f64 0] 28)) := by kernel_rfl
def VRel (X : Nat → C2) (n : Nat) (back : Bool) (w : World) (v6 v7 : Value) (wr : World) : Prop :=
  ∃ (k : Nat) (L : List (Nat × Nat)), k ≤ n ∧ v7 = .int .i64 k ∧ L.map cb = (List.range k).map (fun i => wUp X n back i n) ∧ wr.ownsRow w.heap.size 28 2 v6 k (pvL L) ∧ Below w.heap.size w wr
def VRel2 (X : Nat → C2) (n : Nat) (back : Bool) (k b8 : Nat) (u6 : Value) (L : List (Nat × Nat)) (w : World) (v9 : Value) (wr : World) : Prop :=
  ∃ j p q : Nat, j ≤ n ∧ v9 = .int .i64 j ∧ Known wr b8 #[.float .f64 p, .float .f64 q] ∧ fl p = (wUp X n back k j).re ∧ fl q = (wUp X n back k j).im ∧ wr.ownsRow w.heap.size 28 2 u6 k (pvL L) ∧ Below w.heap.size w wr
set_option maxRecDepth 100000 in
set_option maxHeartbeats 16000000 in
theorem wavesOf_walk (r : Option Addr) (l : List (Nat × Nat)) (n cap : Nat) (back : Bool) (w : World) (hn : l.length = n) (hl : n ≤ 256) (h0 : 0 < n) (hr : PrAt w r l) :
    Calls Tryd.prog 27 #[.slice r n cap, .bool back] w (PrPost w ((List.range n).map (wavZ (fun k => cb (l.getD k (0, 0))) n back))) := by
  obtain ⟨i0, hi, hz0, hz1, hz2⟩ := info_parts info_pr
  have HI := Lib.hid hi
  have HZ0 := Lib.hid hz0
  have HZ1 := Lib.hid hz1
  have HZ2 := Lib.hid hz2
  obtain ⟨b1, o1, rfl, hc⟩ := hr.resolve_left (by intro h; rw [h] at hn; simp at hn; omega)
  obtain ⟨X, hX⟩ : ∃ X, X = fun k => cb (l.getD k (0, 0)) := ⟨_, rfl⟩
  rw [← hX]
  have HC := Lib.hid (show ∀ k, k < n → ∃ p q, w.cell? ⟨b1, o1 + k * 2, none⟩ = some (.float .f64 p) ∧ w.cell? ⟨b1, o1 + k * 2 + 1, none⟩ = some (.float .f64 q) ∧ fl p = (X k).re ∧ fl q = (X k).im from fun k hk => by
    obtain ⟨c0, c1⟩ := hc k (by omega)
    have e : X k = cb l[k] := by rw [hX]; simp [hn, hk]
    exact ⟨_, _, c0, c1, by rw [e]; rfl, by rw [e]; rfl⟩)
  have hb1 : b1 < w.heap.size := by obtain ⟨p, q, h, _⟩ := HC.out 0 h0; exact lt_of_cell h
  clear hr hi hz0 hz1 hz2 hc hX hn
  go_enter Tryd.func27, Tryd.ntmps27
  go_wp2
  go_loopw [6, 7] (fun v6 v7 wr => VRel X n back w v6 v7 wr) (fun _ i _ => n - (intOf i).toNat)
  case atStart => exact ⟨0, [], Nat.zero_le _, rfl, rfl, World.ownsRow_nil _ _ _ _, Below.refl _ _⟩
  case round =>
    obtain ⟨k, L, hk, rfl, hL, hown, hg⟩ := hrel
    have HL := Lib.hid hL
    have O := Lib.hid hown
    have G := Lib.hid hg
    clear hown hg hL
    have hz := G.out.size
    by_cases hlt : k < n
    · have HB6 := Lib.hid (show ∀ b, u6.ownBlock = some b → b < wr.heap.size from fun b h => (O.out.lt b h).2)
      obtain ⟨b8, hb8⟩ : ∃ b8, wr.heap.size = b8 := ⟨_, rfl⟩
      have HB8 := Lib.hid hb8
      rw [hb8] at HB6 hz
      clear hb8
      go_wp2
      rw [HB8.out]
      go_loopw [9] (fun v9 wr => VRel2 X n back k b8 u6 L w v9 wr) (fun i _ => n - (intOf i).toNat)
      case atStart => exact ⟨0, 0, 0, Nat.zero_le _, rfl, Known.new' HB8.out.symm, fl_zero, fl_zero, ownsRow_below O.out (grow_alloc (grow_refl _) _), grow_alloc G.out _⟩
      case round =>
        clear O G HB8
        obtain ⟨j, p, q, hj, rfl, hk8, h1, h2, hown, hg⟩ := hrel
        have O := Lib.hid hown
        have G := Lib.hid hg
        have Y1 := Lib.hid h1
        have Y2 := Lib.hid h2
        clear hown hg h1 h2
        have hz2 := G.out.size
        have hne : u6.ownBlock ≠ some b8 := fun e => Nat.lt_irrefl _ (HB6.out b8 e)
        have HNE := Lib.hid hne
        clear hne
        by_cases hjl : j < n
        · obtain ⟨xa, xb, c1, c2, x1, x2⟩ := HC.out j hjl
          replace c1 := (G.out.cell (p := ⟨b1, o1 + j * 2, none⟩) hb1).trans c1
          replace c2 := (G.out.cell (p := ⟨b1, o1 + j * 2 + 1, none⟩) hb1).trans c2
          have X1 := Lib.hid x1
          have X2 := Lib.hid x2
          clear x1 x2
          have HS := Lib.hid (show wUp X n back k (j + 1) = cadd (wUp X n back k j) (cmul (X j) (wav (angW n j k : Nat) back)) from rfl)
          have hm : j * k ≤ 65536 := Nat.le_trans (Nat.mul_le_mul (Nat.le_of_lt hjl) (Nat.le_of_lt hlt)) (Nat.mul_le_mul hl hl)
          have hq : j * k % n < n := Nat.mod_lt _ (by omega)
          have e1 : (j : Int) * (k : Int) = ((j * k : Nat) : Int) := (Int.natCast_mul _ _).symm
          have e3 : ((j * k : Nat) : Int).tmod (n : Int) = ((j * k % n : Nat) : Int) := (Int.ofNat_tmod _ _).symm
          have e5 : (1296000000000 * ((j * k % n : Nat) : Int)).tdiv (n : Int) = ((angW n j k : Nat) : Int) := by
            unfold angW
            rw [Int.natCast_ediv, Int.natCast_mul, Int.tdiv_eq_ediv_of_nonneg (by omega)]; rfl
          have ht : angW n j k ≤ 331776000000000 := by
            unfold angW
            refine Nat.le_trans (Nat.div_le_self _ _) ?_
            have := Nat.mul_le_mul (Nat.le_refl 1296000000000) (show j * k % n ≤ 256 by omega)
            omega
          generalize angW n j k = t at e5 HS ht
          generalize j * k % n = q0 at hq e3 e5
          generalize j * k = m at hm e1 e3
          have e2 : IntKind.i64.wrap (m : Int) = (m : Int) := IntWalk.i64_in _ (by omega)
          have e4 : IntKind.i64.wrap (1296000000000 * (q0 : Int)) = 1296000000000 * (q0 : Int) := IntWalk.i64_in _ (by omega)
          have e6 : IntKind.i64.wrap (t : Int) = (t : Int) := IntWalk.i64_in _ (by omega)
          have hn1 : ¬ ((n : Int) = 0) := by omega
          have hj0 : (0 : Int) ≤ (j : Int) := by omega
          have hj1 : (j : Int) < (n : Int) := by omega
          have hl8 := hk8.lt
          have hb1' : b1 < wr.heap.size := by omega
          go_wp2
          refine Rel.wp_region_rel_tail SpecD 16 (by kernel_rfl) (lexTailB_of_fast (by kernel_rfl) (by kernel_rfl) (by kernel_rfl)) ?_
          simp only [List.append_eq, List.cons_append, List.nil_append, List.take_succ_cons, List.take_zero, List.drop_succ_cons, List.drop_zero]
          repeat (first
            | (refine rel_call (f := 45) (args := #[.int .i64 _, .bool _]) (by rfl) rfl (callAt_func rfl Tryd.func45 (by kernel_rfl) (by kernel_rfl) rfl) (keeps_over (fun v h => h) fun x => waveOf_walk _ _ _) ?_; rintro _ ⟨wa, wb, rfl, hw1, hw2⟩; have W1 := Lib.hid hw1; have W2 := Lib.hid hw2; clear hw1 hw2; simp only [Act.put, List.setIfInBounds_toArray, List.set_cons_zero, List.set_cons_succ])
            | (refine rel_call (f := 44) (args := #[.agg #[.float .f64 _, .float .f64 _], .agg #[.float .f64 _, .float .f64 _]]) (by rfl) rfl (callAt_func rfl Tryd.func44 (by kernel_rfl) (by kernel_rfl) rfl) (keeps_over (fun v h => h) fun x => product_walk _ _ _ _ _) ?_; rintro _ ⟨ta, tb, rfl, ht1, ht2⟩; have T1 := Lib.hid ht1; have T2 := Lib.hid ht2; clear ht1 ht2; simp only [Act.put, List.setIfInBounds_toArray, List.set_cons_zero, List.set_cons_succ])
            | (refine rel_alloc (by rfl) rfl alloc_pr ?_; intro b10 hk10; have hk1 := hk10.1; clear hk10; simp only [Act.put, List.setIfInBounds_toArray, List.set_cons_zero, List.set_cons_succ])
            | (refine rel_plain (by rfl) rfl ?_; intro K hK; go_big_quiet_op; go_big_quiet_on)
            | (refine rel_skip (by rfl) ?_; simp only [Act.put, List.setIfInBounds_toArray, List.set_cons_zero, List.set_cons_succ]))
          refine Rel.wpRel_nil ?_
          intro w9 hB9 hG9
          simp only [Rel.holds, List.forall_mem_cons] at hG9
          obtain ⟨hx0, -⟩ := hG9
          have K10 := Known.held hx0
          have K8 := hk8.below hB9
          have O9 := Lib.hid (ownsRow_below O.out hB9)
          have G9 := Lib.hid (grow_trans G.out hB9)
          clear hx0 hB9 hk8 c1 c2 O G
          have l8 := K8.lt
          have l10 := K10.lt
          have c8 := K8.cell
          have c10 := K10.cell
          have f8 := K8.frozen
          have f10 := K10.frozen
          have hne8 : b8 ≠ b10 := by omega
          have hne9 : b10 ≠ b8 := by omega
          have hge8 : w.heap.size ≤ b8 := hz
          have hge10 : w.heap.size ≤ b10 := by omega
          have s0 := trivial
          go_wp2_with (first
            | (clear s0; refine wpList_arith rfl rfl (by rfl) rfl rfl ?_; intro p1 n1 A1; have s1 := trivial)
            | (clear s1; refine wpList_arith rfl rfl (by rfl) rfl rfl ?_; intro p2 n2 A2))
          have key1 := Lib.hid (show fl p1 = (wUp X n back k (j + 1)).re by
            rw [HS.out]; unfold cadd
            rw [A1.out, Y1.out, T1.out, X1.out, X2.out, W1.out, W2.out]; rfl)
          have key2 := Lib.hid (show fl p2 = (wUp X n back k (j + 1)).im by
            rw [HS.out]; unfold cadd
            rw [A2.out, Y2.out, T2.out, X1.out, X2.out, W1.out, W2.out]; rfl)
          go_roundw
          case rel =>
            refine ⟨j + 1, p1, p2, by omega, by go_num, ?_, key1.out, key2.out, ?_, ?_⟩
            · refine known_eq (c := (#[Value.float .f64 p, .float .f64 q].setIfInBounds 0 (.float .f64 p1)).setIfInBounds 1 (.float .f64 p2)) ?_ rfl
              (repeat (with_reducible first | exact K8 | apply Known.same | apply Known.other | apply Known.drewN)) <;> omega
            · have hne10 : u6.ownBlock ≠ some b10 := fun e => by have := HB6.out b10 e; omega
              exact ownsRow_below (ownsRow_but (ownsRow_but O9.out (((But.refl _ _).setCell _ _).setCell _ _) hne10) (((But.refl _ _).setCell _ _).setCell _ _) HNE.out) (grow_drewN (grow_refl _) _)
            · (repeat (with_reducible first | exact G9.out | refine Grow.grow_setCell ?_ ?_ _ | refine Grow.grow_drewN ?_ _)) <;> omega
          case measure => simp [intOf]; omega
        · obtain rfl : j = n := by omega
          have c8 := hk8.cell
          have l8 := hk8.lt
          have C3 := Lib.hid (show k + 1 ≤ maxLen by unfold maxLen; omega)
          have C4 := Lib.hid (show (k + 1) * 16 ≤ 140737488355328 by omega)
          have C5 := Lib.hid (show w.heap.size ≤ (wr.alloc (.cells #[Value.float .f64 p, Value.float .f64 q] 28)).heap.size by simp; omega)
          go_wp2_with (at_builtin; refine wpList_append_own _ rfl _ _ 22 rfl w.heap.size 28 i0 (.agg #[.float .f64 0, .float .f64 0]) 2 16 Tryd.underlying22 HI.out HZ0.out HZ1.out HZ2.out rfl (by decide) _ _ _ rfl (O.out.alloc _) ⟨wr.heap.size, 0, none⟩ 1 1 [.float .f64 p, .float .f64 q] rfl rfl (news_pr _ _ _) (pr_cell _ _) C3.out C4.out C5.out ?_)
          intro v' w1 hown' hg' _
          have HO2 := Lib.hid hown'
          have HG2 := Lib.hid hg'
          clear hown' hg'
          go_wp2
          go_roundw
          case rel =>
            refine ⟨k + 1, L ++ [(p, q)], by omega, by go_num, ?_, ?_, below_grown (G.out.alloc hz2 _) (by simp; omega) HG2.out (fun k hk => (O.out.lt k hk).1)⟩
            · rw [List.map_append, HL.out, List.range_succ, List.map_append]
              congr 1
              simp only [List.map_cons, List.map_nil, cb, Y1.out, Y2.out]
            · rw [pvL_append]
              exact HO2.out
          case measure => simp [intOf]; omega
    · obtain rfl : k = n := by omega
      obtain ⟨r', c', hv, hx⟩ := pr_of_owns O.out
      have hLn : L.length = k := by
        have := congrArg List.length HL.out
        simpa using this
      have XX := Lib.hid hx
      clear hx
      subst hv
      rw [hLn]
      have HLN := Lib.hid hLn
      clear hLn
      cases back with
      | true =>
        have OW := Lib.hid (show Calls Tryd.prog 46 #[.slice r' k c'] wr (PrPost wr ((List.range k).map (wavZ X k true))) by
          have h := over_walk r' L c' wr (by rw [HLN.out]; omega) XX.out
          rw [HLN.out, show (L.map fun p => shr k (cb p)) = (L.map cb).map (shr k) by rw [List.map_map]; rfl, HL.out, List.map_map] at h
          exact h)
        go_wp2_with (go_at_call 46; (with_reducible refine OW.out.mono ?_); rintro e w2 ⟨r2, c2, L2, rfl, hp2, hm2, hb2⟩; have P2 := Lib.hid hp2; have M2 := Lib.hid hm2; have G2 := Lib.hid (grow_trans G.out hb2); clear hp2 hm2 hb2)
        go_ret
        exact ⟨r2, c2, L2, rfl, P2.out, M2.out, G2.out⟩
      | false =>
        go_wp2
        go_ret
        exact ⟨r', c', L, by rw [HLN.out]; rfl, XX.out, HL.out, G.out⟩
end Go.Proofs.YtaakbajhbmbhcaaDoor
