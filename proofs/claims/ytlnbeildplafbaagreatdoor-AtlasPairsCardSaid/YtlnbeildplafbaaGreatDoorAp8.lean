/- Pairs of stars: Cross. -/
import Derived.Test.YtlnbeildplafbaaGreatDoorAp7
import Derived.Laws.AppendOwnNone
import Derived.StringKeys
import Derived.Deep.RegionHeld3
import Derived.Deep.DeepCutAuto
set_option linter.unusedSimpArgs false
set_option linter.unusedVariables false
namespace Go.Proofs.YtlnbeildplafbaaGreatDoor
open Go.RowKit Go.Grow Go.Atl Go.Maps Go.WideMaps

theorem EnsAt.off {X : Nat → Prop} {w w' : World} {r : Option Addr} {es : List En} (h : EnsAt w r es) (o : Off X w w') (hn : ∀ b, r = some b → ¬ X b.block) : EnsAt w' r es := by
  rcases h with h | ⟨b, oo, rfl, h⟩
  · exact .inl h
  · refine .inr ⟨b, oo, rfl, fun k hk => ?_⟩
    obtain ⟨h0, h1, h2, h3, h4⟩ := h k hk
    have hb : b < w.heap.size := lt_of_cellE h0
    have e := o.block b hb (hn _ rfl)
    unfold EnAt World.cell? at *
    rw [e]
    exact ⟨h0, h1, h2, h3, h4⟩
theorem QAt.off {X : Nat → Prop} {w w' : World} {g : Nat} {lev : Int} {m1 m2 : Nat} {r : Option Addr} {cap : Nat} {es : List En} {lk : Int} (h : QAt w g lev m1 m2 r cap es lk) (o : Off X w w') (hg : ¬ X g) (hn : ∀ b, r = some b → ¬ X b.block) : QAt w' g lev m1 m2 r cap es lk :=
  ⟨h.box.off o hg, h.row.off o hn, h.ne⟩
theorem QAt.below {w w' : World} {g : Nat} {lev : Int} {m1 m2 : Nat} {r : Option Addr} {cap : Nat} {es : List En} {lk : Int} (h : QAt w g lev m1 m2 r cap es lk) (hb : Below w.heap.size w w') : QAt w' g lev m1 m2 r cap es lk :=
  h.off (X := fun _ => False) (Off.of_below hb) (fun f => f) (fun _ _ f => f)
theorem owns_belowP {w w' : World} {base : Nat} {e : TypeId} {size : Nat} {v : Value} {n : Nat} {xs : List Value} (h : w.ownsRow base e size v n xs) (hb : Below w.heap.size w w') : w'.ownsRow base e size v n xs :=
  owns_off (X := fun _ => False) h (Off.of_below hb) (fun _ _ f => f)
theorem toList_decP (a b : ByteArray) : (a.toList == b.toList) = decide (a = b) := by
  rw [ByteArray.toList_eq, ByteArray.toList_eq]
  obtain ⟨⟨x⟩⟩ := a
  obtain ⟨⟨y⟩⟩ := b
  simp only [Bool.beq_eq_decide_eq, ByteArray.mk.injEq, Array.mk.injEq]
theorem Off.own {X : Nat → Prop} {w w1 w2 : World} {v : Value} (h : Off X w w1) (g : w1.grownBy w2 v.ownBlock) (hv : ∀ i, v.ownBlock = some i → w.heap.size ≤ i) : Off X w w2 :=
  ⟨g.os.trans h.os, g.tape.trans h.tape, g.output.trans h.output, Nat.le_trans h.size g.size, fun i hi hx => (g.block i (Nat.lt_of_lt_of_le hi h.size) (fun e => by have := hv i e.symm; omega)).trans (h.block i hi hx)⟩
theorem MAt.lt {w : World} {P : Program} {mb n : Nat} {k : TypeId} {R : Value → Option (DataW Unit × List MemPlace)} {D : DataW Unit} (h : w.ownsMap P k R mb n D) : mb < w.heap.size := by
  obtain ⟨es, c, hb, _⟩ := h
  exact (Array.getElem?_eq_some_iff.1 hb).1
theorem ens_lt {w : World} {b o : Nat} {es : List En} (h : EnsAt w (some ⟨b, o, none⟩) es) (hp : 0 < es.length) : b < w.heap.size := by
  obtain ⟨b', o', e, hc⟩ := h.resolve_left (by intro h; rw [h] at hp; exact absurd hp (by simp))
  cases e
  have := hc 0 hp
  exact lt_of_cellE this.1
/-- The names' map of an atlas: which name stands where. -/
def MAt (w : World) (mb : Nat) (es : List En) : Prop := ∃ n D, w.ownsMap Tryz.prog 9 (plainElem Tryz.prog 3) mb n D ∧ Nms D es
theorem MAt.off {X : Nat → Prop} {w w' : World} {mb : Nat} {es : List En} (h : MAt w mb es) (o : Off X w w') (hb : ¬ X mb) : MAt w' mb es := by
  obtain ⟨n, D, h1, h2⟩ := h
  exact ⟨n, D, map_off h1 o hb, h2⟩
theorem MAt.below {w w' : World} {mb : Nat} {es : List En} (h : MAt w mb es) (hb : Below w.heap.size w w') : MAt w' mb es := h.off (X := fun _ => False) (Off.of_below hb) (fun f => f)
theorem MAt.look {w : World} {mb : Nat} {es : List En} (h : MAt w mb es) {k : Nat} (hk : k < es.length) (hs : (en es k).name.size ≤ maxLen) : (Instr.lookup 97 (.map (some mb)) (.string (en es k).name) false).run Tryz.prog w = .ok (.int .i64 (k : Nat)) w := by
  obtain ⟨n, D, h1, h2⟩ := h
  obtain ⟨c, hrun, hat, _⟩ := h1.lookup_int lawSt Tryz.underlying97 Tryz.underlying3 (zeroIn w) (key := .string (en es k).name) (kl := nameL (en es k).name) (keyOf_string_mk Tryz.underlying9 hs)
  have := h2.2 k hk (.lit (.int .i64 0))
  rw [hat] at this
  cases this
  exact hrun
/-- The pair of entry k, if there is one. -/
def crossOne (es1 es2 : List En) (num den : Int) (k : Nat) : Option Pr :=
  let o := en es2 (nearUp (en es1 k).at' es2 es2.length)
  if (en es1 (nearUp o.at' es1 es1.length)).name = (en es1 k).name ∧ withZ (en es1 k).at' o.at' num den = true then some ((en es1 k).name, o.name) else none
def crossUp (es1 es2 : List En) (num den : Int) : Nat → List Pr
  | 0 => []
  | k + 1 => crossUp es1 es2 num den k ++ (crossOne es1 es2 num den k).toList
theorem crossUp_len (es1 es2 : List En) (num den : Int) : ∀ k, (crossUp es1 es2 num den k).length ≤ k
  | 0 => Nat.le_refl _
  | k + 1 => by
    have := crossUp_len es1 es2 num den k
    rw [crossUp, List.length_append]
    have : (crossOne es1 es2 num den k).toList.length ≤ 1 := by cases crossOne es1 es2 num den k <;> simp
    omega
theorem info_pr : (Tryz.prog.info? 62).map (fun i => (i.zero, i.size, i.bytes)) = some (some (.agg #[.string .empty, .string .empty]), 2, 32) := by kernel_rfl
theorem news_pr (w : World) (x y : ByteArray) (t : TypeId) : ∀ j u, [Value.string x, Value.string y][j]? = some u → (w.alloc (.cells #[.string x, .string y] t)).cell? ((⟨w.heap.size, 0, none⟩ : Addr).add j) = some u := news_sp w [.string x, .string y] t
theorem pr_cell (x y : ByteArray) : ∀ u ∈ [Value.string x, Value.string y], u.oneCell' = true := fun u h => by simp at h; rcases h with rfl | rfl <;> rfl
def CInv (w : World) (B g1 g2 : Nat) (lev1 lev2 : Int) (m1 n1 mb n2 : Nat) (r1 r2 : Option Addr) (cap1 cap2 : Nat) (es1 es2 : List En) (lk1 lk2 num den : Int) (v11 v39 : Value) (wr : World) : Prop :=
  ∃ k : Nat, k ≤ es1.length ∧ v39 = .int .i64 (k : Nat) ∧ QAt wr g1 lev1 m1 n1 r1 cap1 es1 (lk1 + k * es1.length) ∧ QAt wr g2 lev2 mb n2 r2 cap2 es2 (lk2 + k * es2.length) ∧ MAt wr mb es2 ∧ wr.ownsRow B 62 2 v11 (crossUp es1 es2 num den k).length (pL (crossUp es1 es2 num den k)) ∧ Off (fun k => k = g1 ∨ k = g2) w wr ∧ B ≤ wr.heap.size
set_option maxRecDepth 100000 in
set_option maxHeartbeats 64000000 in
theorem cross_walk (w : World) (g1 g2 : Nat) (lev1 lev2 : Int) (m1 n1 mb n2 : Nat) (r1 r2 : Option Addr) (cap1 cap2 : Nat) (es1 es2 : List En) (lk1 lk2 num den : Int)
    (hnum : I64 num) (hden : I64 den) (hc : badCone num den = false) (hl1 : es1.length ≤ 200) (hl2 : es2.length ≤ 200) (hp2 : 0 < es2.length)
    (hd1 : ∀ k, k < es1.length → isDir (en es1 k).at' = true) (hd2 : ∀ k, k < es2.length → isDir (en es2 k).at' = true) (hs2 : ∀ k, k < es2.length → (en es2 k).name.size ≤ maxLen)
    (hlk1 : 0 ≤ lk1 ∧ lk1 ≤ 100000) (hlk2 : 0 ≤ lk2 ∧ lk2 ≤ 100000)
    (hq1 : QAt w g1 lev1 m1 n1 r1 cap1 es1 lk1) (hq2 : QAt w g2 lev2 mb n2 r2 cap2 es2 lk2) (hm2 : MAt w mb es2) (hg : g1 ≠ g2) (hr1 : ∀ b, r1 = some b → b.block ≠ g2) (hr2 : ∀ b, r2 = some b → b.block ≠ g1) (hmb1 : mb ≠ g1) (hmb2 : mb ≠ g2) :
    Calls Tryz.prog 17 #[.pointer (some ⟨g1, 0, none⟩), .pointer (some ⟨g2, 0, none⟩), .int .i64 num, .int .i64 den] w fun e' w' => ∃ v m, e' = .returned (.tuple #[v, .nilIface]) ∧ m.Perm (crossUp es1 es2 num den es1.length) ∧ (∀ i j, i < j → j < m.length → ltOf cfP (m.getD j (.empty, .empty)) (m.getD i (.empty, .empty)) = false) ∧ w'.ownsRow w.heap.size 62 2 v m.length (pL m) ∧ Off (fun k => k = g1 ∨ k = g2) w w' := by
  obtain ⟨i0, hi, hz0, hz1, hz2⟩ := info_parts info_pr
  have HI := Lib.hid hi
  have HZ0 := Lib.hid hz0
  have HZ1 := Lib.hid hz1
  have HZ2 := Lib.hid hz2
  clear hi hz0 hz1 hz2
  have CW := Lib.hid (fun X => cone_good ⟨1, 0, 0⟩ num den (by decide) X hc)
  have H1 := Lib.hid hq1
  have H2 := Lib.hid hq2
  have HM := Lib.hid hm2
  have HD1 := Lib.hid hd1
  have HD2 := Lib.hid hd2
  have HS2 := Lib.hid hs2
  have HR1 := Lib.hid hr1
  have HR2 := Lib.hid hr2
  have HNUM := Lib.hid hnum
  have HDEN := Lib.hid hden
  have gl1 := hq1.box.lt
  have gl2 := hq2.box.lt
  have HB1 := Lib.hid (fun b o (h : r1 = some ⟨b, o, none⟩) (hp : 0 < es1.length) => ens_lt (h ▸ hq1.row) hp)
  have HB2 := Lib.hid (fun b o (h : r2 = some ⟨b, o, none⟩) (hp : 0 < es2.length) => ens_lt (h ▸ hq2.row) hp)
  have mlt : mb < w.heap.size := by obtain ⟨_, _, h, _⟩ := hm2; exact MAt.lt h
  obtain ⟨k1a, k1b⟩ := hlk1
  obtain ⟨k2a, k2b⟩ := hlk2
  clear hq1 hq2 hm2 hd1 hd2 hs2 hr1 hr2 hnum hden hc
  unfold drV at CW
  go_enter Tryz.func17, Tryz.ntmps17
  go_upto_region 7 with (go_at_call 40; (with_reducible refine (CW.out _).mono ?_); rintro e1 w1 ⟨rfl, hb⟩; have B1 := Lib.hid hb; clear hb)
  have Q1 := Lib.hid (H1.out.below B1.out)
  have Q2 := Lib.hid (H2.out.below B1.out)
  have M2 := Lib.hid (HM.out.below B1.out)
  have g1c := Q1.out.box.cell 2
  have g1l := Q1.out.box.lt
  simp only [List.getElem?_toArray, List.getElem?_cons_zero, List.getElem?_cons_succ] at g1c
  go_wp2
  clear g1c g1l
  go_loopw [11, 39] (fun v11 v39 wr => CInv w w.heap.size g1 g2 lev1 lev2 m1 n1 mb n2 r1 r2 cap1 cap2 es1 es2 lk1 lk2 num den v11 v39 wr) (fun _ i _ => es1.length - (intOf i).toNat)
  case atStart => exact ⟨0, Nat.zero_le _, rfl, by rw [show lk1 + ((0 : Nat) : Int) * es1.length = lk1 by simp]; exact Q1.out, by rw [show lk2 + ((0 : Nat) : Int) * es2.length = lk2 by simp]; exact Q2.out, M2.out, World.ownsRow_nil _ _ _ _, Off.of_below B1.out, B1.out.size⟩
  case round =>
    obtain ⟨k, hk, rfl, hqa, hqb, hma, how, hof, hsz⟩ := hrel
    have QA := Lib.hid hqa
    have QB := Lib.hid hqb
    have MA := Lib.hid hma
    have OW := Lib.hid how
    have HO := Lib.hid hof
    have SZ := Lib.hid hsz
    clear hqa hqb hma how hof hsz Q1 Q2 M2 H1 H2 HM
    have hcl := crossUp_len es1 es2 num den k
    by_cases hlt : k < es1.length
    · have hlt2 : (k : Int) * es1.length ≤ 40000 ∧ 0 ≤ (k : Int) * es1.length ∧ (k : Int) * es2.length ≤ 40000 ∧ 0 ≤ (k : Int) * es2.length := by
        have a1 : k * es1.length ≤ 200 * 200 := Nat.mul_le_mul (by omega) (by omega)
        have a2 : k * es2.length ≤ 200 * 200 := Nat.mul_le_mul (by omega) (by omega)
        rw [← Int.natCast_mul, ← Int.natCast_mul]
        omega
      obtain ⟨t1, t2, t3, t4⟩ := hlt2
      obtain ⟨b1, o1, rfl, hc1⟩ := QA.out.row.resolve_left (by intro h; rw [h] at hlt; exact absurd hlt (by simp))
      obtain ⟨b2, o2, rfl, hc2⟩ := QB.out.row.resolve_left (by intro h; rw [h] at hp2; exact absurd hp2 (by simp))
      have d0 : (0 : Int) ≤ (k : Int) := by omega
      have d1 : (k : Int) < (es1.length : Int) := by omega
      obtain ⟨e0, e1, e2, e3, e4⟩ := hc1 k hlt
      have l1 : b1 < wr.heap.size := lt_of_cellE e0
      have hdk := HD1.out k hlt
      have hn := nearUp_lt (en es1 k).at' es2 es2.length hp2
      have dn0 : (0 : Int) ≤ (nearUp (en es1 k).at' es2 es2.length : Nat) := by omega
      have dn1 : ((nearUp (en es1 k).at' es2 es2.length : Nat) : Int) < (es2.length : Int) := by omega
      have hdo := HD2.out _ hn
      have hso := HS2.out _ hn
      have EO := Lib.hid (hc2 _ hn)
      have NB := Lib.hid (fun X (h : QAt X g2 lev2 mb n2 (some ⟨b2, o2, none⟩) cap2 es2 (lk2 + k * es2.length)) => nearest_walk X g2 lev2 mb n2 _ cap2 es2 _ (en es1 k).at' hdk hl2 HD2.out (by omega) (by omega) h)
      have NA := Lib.hid (fun X (h : QAt X g1 lev1 m1 n1 (some ⟨b1, o1, none⟩) cap1 es1 (lk1 + k * es1.length)) => nearest_walk X g1 lev1 m1 n1 _ cap1 es1 _ (en es2 (nearUp (en es1 k).at' es2 es2.length)).at' hdo hl1 HD1.out (by omega) (by omega) h)
      have WI := Lib.hid (fun X => within_walk (en es1 k).at' (en es2 (nearUp (en es1 k).at' es2 es2.length)).at' num den (dir_sm hdk) (dir_sm hdo) HNUM.out HDEN.out X)
      have ML := Lib.hid (fun X (h : MAt X mb es2) => h.look hn hso)
      have NMB := Lib.hid (show (if es2.length = 0 then ByteArray.empty else (en es2 (nearUp (en es1 k).at' es2 es2.length)).name) = (en es2 (nearUp (en es1 k).at' es2 es2.length)).name from if_neg (by omega))
      have NMA := Lib.hid (show (if es1.length = 0 then ByteArray.empty else (en es1 (nearUp (en es2 (nearUp (en es1 k).at' es2 es2.length)).at' es1 es1.length)).name) = (en es1 (nearUp (en es2 (nearUp (en es1 k).at' es2 es2.length)).at' es1 es1.length)).name from if_neg (by omega))
      have HCR := Lib.hid (show crossUp es1 es2 num den (k + 1) = crossUp es1 es2 num den k ++ (crossOne es1 es2 num den k).toList from rfl)
      unfold crossOne at HCR
      simp only at HCR
      unfold NearPost at NA NB
      have dz2 : decide (0 < es2.length) = true := decide_eq_true hp2
      have dz1 : decide (0 < es1.length) = true := decide_eq_true (by omega)
      rw [dz2] at NB
      rw [dz1] at NA
      clear hc1 hc2 hdk hdo hso
      generalize nearUp (en es1 k).at' es2 es2.length = n at *
      generalize en es1 (nearUp (en es2 n).at' es1 es1.length) = eb at *
      generalize withZ (en es1 k).at' (en es2 n).at' num den = wz at *
      generalize en es2 n = eo at *
      obtain ⟨on, ⟨ox, oy, oz⟩, ol⟩ := eo
      generalize en es1 k = ee at *
      obtain ⟨nm, ⟨x, y, z⟩, lt⟩ := ee
      obtain ⟨bn, bd, bl⟩ := eb
      simp only at e0 e1 e2 e3 e4 EO NA NB WI ML NMA NMB HCR
      unfold drV at NA NB WI
      unfold EnAt at EO
      simp only at NA NB WI EO
      have lg2 := QB.out.box.lt
      have hb1w := HB1.out b1 o1 rfl (by omega)
      have hb2w := HB2.out b2 o2 rfl hp2
      clear HB1 HB2
      have QBX := Lib.hid (QB.out.below (grow_alloc (grow_refl wr) (.cells #[.string nm, .int .i64 x, .int .i64 y, .int .i64 z, .int .i64 lt] 93)))
      go_upto_region 12 with (go_at_call 41; ((with_reducible refine ((NB.out _ QBX.out).mono ?_)); rintro e2 w2 ⟨⟨nm2, rfl, hnm2⟩, hqb, hof⟩; have hnm3 := hnm2.trans NMB.out; subst hnm3; have Q2B := Lib.hid hqb; have O2 := Lib.hid (((Off.refl (fun k => k = g2) wr).alloc _).trans hof); have Q2A := Lib.hid (QA.out.off O2.out hg (fun b h => HR1.out b h)); have M2 := Lib.hid (MA.out.off O2.out hmb2); have KE2 := Lib.hid ((Known.new wr #[.string nm, .int .i64 x, .int .i64 y, .int .i64 z, .int .i64 lt] 93).off hof (by omega)); have OW2 := Lib.hid (owns_off OW.out O2.out (fun i h => by have := (OW.out.lt i h).1; omega)); clear hnm2 hqb hof QA QB MA OW))
      have EO2 := Lib.hid (show w2.cell? ⟨b2, o2 + n * 5, none⟩ = some (.string nm2) ∧ w2.cell? ⟨b2, o2 + n * 5 + 1, none⟩ = some (.int .i64 ox) ∧ w2.cell? ⟨b2, o2 + n * 5 + 2, none⟩ = some (.int .i64 oy) ∧ w2.cell? ⟨b2, o2 + n * 5 + 3, none⟩ = some (.int .i64 oz) ∧ w2.cell? ⟨b2, o2 + n * 5 + 4, none⟩ = some (.int .i64 ol) by
        obtain ⟨bq, oq, hbq, hcq⟩ := Q2B.out.row.resolve_left (by intro h; rw [h] at hp2; exact absurd hp2 (by simp))
        cases hbq
        have e := O2.out.block b2 (lt_of_cellE EO.out.1) (Q2B.out.ne _ rfl)
        obtain ⟨h0, h1, h2, h3, h4⟩ := EO.out
        unfold World.cell? at *
        rw [e]
        exact ⟨h0, h1, h2, h3, h4⟩)
      have hg1r : g1 < wr.heap.size := Nat.lt_of_lt_of_le gl1 HO.out.size
      have hg1w2 := Q2A.out.box.lt
      generalize hge : wr.heap.size = ge at KE2 ⊢
      have hg1e : g1 < ge := by omega
      clear hge hg1r
      have SS := Lib.hid (fun X (hX : Below w2.heap.size w2 X) => (show X.cell? ⟨g2, 1, none⟩ = some (.map (some mb)) ∧ X.cell? ⟨g2, 2, none⟩ = some (.slice (some ⟨b2, o2, none⟩) es2.length cap2) ∧ X.cell? ⟨b2, o2 + n * 5, none⟩ = some (.string nm2) ∧ X.cell? ⟨b2, o2 + n * 5 + 1, none⟩ = some (.int .i64 ox) ∧ X.cell? ⟨b2, o2 + n * 5 + 2, none⟩ = some (.int .i64 oy) ∧ X.cell? ⟨b2, o2 + n * 5 + 3, none⟩ = some (.int .i64 oz) ∧ X.cell? ⟨b2, o2 + n * 5 + 4, none⟩ = some (.int .i64 ol) ∧ g2 < X.heap.size ∧ b2 < X.heap.size ∧ (Instr.lookup 97 (.map (some mb)) (.string nm2) false).run Tryz.prog X = .ok (.int .i64 (n : Nat)) X from ⟨(Q2B.out.box.below hX).cell 1, (Q2B.out.box.below hX).cell 2, (hX.cell (lt_of_cellE EO2.out.1)).trans EO2.out.1, (hX.cell (lt_of_cellE EO2.out.2.1)).trans EO2.out.2.1, (hX.cell (lt_of_cellE EO2.out.2.2.1)).trans EO2.out.2.2.1, (hX.cell (lt_of_cellE EO2.out.2.2.2.1)).trans EO2.out.2.2.2.1, (hX.cell (lt_of_cellE EO2.out.2.2.2.2)).trans EO2.out.2.2.2.2, (Q2B.out.box.below hX).lt, Nat.lt_of_lt_of_le (lt_of_cellE EO2.out.1) hX.size, ML.out X (M2.out.below hX)⟩))
      clear e0 e1 e2 e3 e4 l1 lg2
      obtain ⟨s0, s1, s2, s3, s4, s5, s6, z0, z1, s7⟩ := SS.out w2 (grow_refl w2)
      go_cut [17] (fun v17 wx => v17 = .pointer (some ⟨w2.heap.size, 0, none⟩) ∧ wx = (w2.alloc (.cells #[.string nm2, .int .i64 ox, .int .i64 oy, .int .i64 oz, .int .i64 ol] 93)).drew)
      case first =>
        go_region_held3 (fun X => X.cell? ⟨g2, 1, none⟩ = some (.map (some mb)) ∧ X.cell? ⟨g2, 2, none⟩ = some (.slice (some ⟨b2, o2, none⟩) es2.length cap2) ∧ X.cell? ⟨b2, o2 + n * 5, none⟩ = some (.string nm2) ∧ X.cell? ⟨b2, o2 + n * 5 + 1, none⟩ = some (.int .i64 ox) ∧ X.cell? ⟨b2, o2 + n * 5 + 2, none⟩ = some (.int .i64 oy) ∧ X.cell? ⟨b2, o2 + n * 5 + 3, none⟩ = some (.int .i64 oz) ∧ X.cell? ⟨b2, o2 + n * 5 + 4, none⟩ = some (.int .i64 ol) ∧ g2 < X.heap.size ∧ b2 < X.heap.size ∧ (Instr.lookup 97 (.map (some mb)) (.string nm2) false).run Tryz.prog X = .ok (.int .i64 (n : Nat)) X) (exact SS.out _ (by (repeat (with_reducible first | exact grow_refl _ | refine Grow.grow_drewN ?_ _ | refine Grow.grow_drew ?_ | refine Grow.grow_alloc ?_ _)))) (fail)
        all_goals
          go_wp2
          go_meet
          exact ⟨rfl, rfl⟩
      case rest =>
        obtain ⟨rfl, rfl⟩ := hcut
        clear s0 s1 s2 s3 s4 s5 s6 z0 z1 s7
        have BX := Lib.hid (show Below w2.heap.size w2 (w2.alloc (.cells #[.string nm2, .int .i64 ox, .int .i64 oy, .int .i64 oz, .int .i64 ol] 93)).drew from grow_drew (grow_alloc (grow_refl w2) _))
        have KO := Lib.hid (show Known (w2.alloc (.cells #[.string nm2, .int .i64 ox, .int .i64 oy, .int .i64 oz, .int .i64 ol] 93)).drew w2.heap.size #[.string nm2, .int .i64 ox, .int .i64 oy, .int .i64 oz, .int .i64 ol] from (Known.new w2 _ _).drew)
        generalize (w2.alloc (.cells #[.string nm2, .int .i64 ox, .int .i64 oy, .int .i64 oz, .int .i64 ol] 93)).drew = w3 at *
        have QAX := Lib.hid (Q2A.out.below BX.out)
        have j1 := KO.out.cell 1
        have j2 := KO.out.cell 2
        have j3 := KO.out.cell 3
        have jl := KO.out.lt
        simp only [List.getElem?_toArray, List.getElem?_cons_zero, List.getElem?_cons_succ] at j1 j2 j3
        go_upto_region 14 with (go_at_call 41; ((with_reducible refine ((NA.out _ QAX.out).mono ?_)); rintro e4 w4 ⟨⟨nm4, rfl, hnm4⟩, hqa, hof4⟩; have hnm5 := hnm4.trans NMA.out; subst hnm5; have Q4A := Lib.hid hqa; have O4 := Lib.hid ((Off.of_below BX.out).trans hof4 : Off (fun k => k = g1) w2 w4); have Q4B := Lib.hid (Q2B.out.off O4.out (fun e => hg e.symm) (fun b h => HR2.out b h)); have M4 := Lib.hid (M2.out.off O4.out hmb1); have KE4 := Lib.hid (KE2.out.off O4.out (by omega)); have KO4 := Lib.hid (KO.out.off hof4 (by omega)); have OW4 := Lib.hid (owns_off OW2.out O4.out (fun i h => by have := (OW2.out.lt i h).1; omega)); clear hnm4 hqa hof4 Q2A Q2B M2 KE2 KO OW2 QAX j1 j2 j3 jl))
        have c0 := KE4.out.cell 0
        have c1 := KE4.out.cell 1
        have c2 := KE4.out.cell 2
        have c3 := KE4.out.cell 3
        have cl := KE4.out.lt
        have j1 := KO4.out.cell 1
        have j2 := KO4.out.cell 2
        have j3 := KO4.out.cell 3
        have jl := KO4.out.lt
        simp only [List.getElem?_toArray, List.getElem?_cons_zero, List.getElem?_cons_succ] at c0 c1 c2 c3 j1 j2 j3
        have O6 := Lib.hid ((HO.out.trans (O2.out.mono (fun _ h => .inr h))).trans (O4.out.mono (fun _ h => .inl h)) : Off (fun k => k = g1 ∨ k = g2) w w4)
        have HSZ := Lib.hid (Nat.le_trans HO.out.size (Nat.le_trans O2.out.size O4.out.size))
        clear O2 O4 HO NA NB NMA NMB EO EO2 SS BX
        have HNX := Lib.hid (fun (W : World) (v : Value) (kk : Nat) (hkk : kk = k + 1) (o : Off (fun i => v.ownBlock = some i) w4 W) (hv : ∀ i, v.ownBlock = some i → w.heap.size ≤ i) (u : Value) (ho : W.ownsRow w.heap.size 62 2 u (crossUp es1 es2 num den kk).length (pL (crossUp es1 es2 num den kk))) => (show CInv w w.heap.size g1 g2 lev1 lev2 m1 n1 mb n2 (some ⟨b1, o1, none⟩) (some ⟨b2, o2, none⟩) cap1 cap2 es1 es2 lk1 lk2 num den u (.int .i64 (kk : Nat)) W from
          ⟨kk, by omega, rfl,
            by rw [hkk, show lk1 + ((k + 1 : Nat) : Int) * es1.length = lk1 + k * es1.length + es1.length by rw [Int.natCast_add, Int.add_mul]; simp [Int.add_assoc]]; exact Q4A.out.off o (fun h => by have := hv _ h; omega) (fun b hb h => by cases hb; have := hv _ h; simp only at this; omega),
            by rw [hkk, show lk2 + ((k + 1 : Nat) : Int) * es2.length = lk2 + k * es2.length + es2.length by rw [Int.natCast_add, Int.add_mul]; simp [Int.add_assoc]]; exact Q4B.out.off o (fun h => by have := hv _ h; omega) (fun b hb h => by cases hb; have := hv _ h; simp only at this; omega),
            M4.out.off o (fun h => by have := hv _ h; omega), ho,
            ⟨o.os.trans O6.out.os, o.tape.trans O6.out.tape, o.output.trans O6.out.output, Nat.le_trans O6.out.size o.size, fun i hi hx => (o.block i (Nat.lt_of_lt_of_le hi O6.out.size) (fun h => by have := hv i h; omega)).trans (O6.out.block i hi hx)⟩, Nat.le_trans HSZ.out o.size⟩))
        by_cases hnn : nm4 = nm
        · subst hnn
          have u1 : (nm4.toList == nm4.toList) = true := by simp
          cases wz
          · have HE := Lib.hid (show crossUp es1 es2 num den (k + 1) = crossUp es1 es2 num den k by rw [HCR.out]; simp)
            go_wp2_with (go_at_call 42; ((with_reducible refine (WI.out _).mono ?_); rintro e5 w5 ⟨rfl, hb⟩; have B5 := Lib.hid hb; clear hb))
            go_roundw
            case rel => exact HNX.out w5 (.slice none 0 0) (k + 1) rfl (Off.of_below B5.out) (fun i h => by cases h) _ (by rw [HE.out]; exact owns_belowP OW4.out B5.out)
            case measure => simp [intOf]; omega
          · have HE := Lib.hid (show crossUp es1 es2 num den (k + 1) = crossUp es1 es2 num den k ++ [(nm4, nm2)] by rw [HCR.out]; simp)
            obtain ⟨r5, c5, hv5⟩ : ∃ r c, u11 = Value.slice r (crossUp es1 es2 num den k).length c := by
              obtain ⟨_, ⟨h, hn0⟩ | ⟨gq, cap, cur, h, _⟩⟩ := OW4.out
              · exact ⟨none, 0, by rw [h, hn0]⟩
              · exact ⟨_, _, h⟩
            subst hv5
            have C3 := Lib.hid (show (crossUp es1 es2 num den k).length + 1 ≤ maxLen by unfold maxLen; omega)
            have C4 := Lib.hid (show ((crossUp es1 es2 num den k).length + 1) * 32 ≤ 140737488355328 by omega)
            go_wp2_with (first
              | (go_at_call 42; ((with_reducible refine (WI.out _).mono ?_); rintro e5 w5 ⟨rfl, hb⟩; have B5 := Lib.hid hb; have KE5 := Lib.hid (KE4.out.below hb); have OX := Lib.hid (fun (o : Obj) => owns_belowP OW4.out (grow_trans hb (grow_alloc (grow_refl w5) o))); have CB := Lib.hid (fun (o : Obj) => show w.heap.size ≤ (w5.alloc o).heap.size from by have := hb.size; have := HSZ.out; simp; omega); clear hb c0 c1 c2 c3 cl j1 j2 j3 jl; have c0 := KE5.out.cell 0; have cl := KE5.out.lt; simp only [List.getElem?_toArray, List.getElem?_cons_zero, List.getElem?_cons_succ] at c0))
              | (at_builtin; (refine wpList_append_own _ rfl _ _ 51 rfl w.heap.size 62 i0 (.agg #[.string .empty, .string .empty]) 2 32 Tryz.underlying51 HI.out HZ0.out HZ1.out HZ2.out rfl (by decide) _ _ _ rfl (OX.out _) ⟨w5.heap.size, 0, none⟩ 1 1 [.string nm4, .string nm2] rfl rfl (news_pr w5 nm4 nm2 _) (pr_cell _ _) C3.out C4.out (CB.out _) ?_; intro v6 w6 hown6 hg6 _)))
            have OW6 := Lib.hid hown6
            have BW6 := Lib.hid ((Off.of_below (X := fun i => (Value.slice r5 (crossUp es1 es2 num den k).length c5).ownBlock = some i) B5.out).trans (((Off.refl _ w5).alloc _).trans (Off.grown hg6 (fun i h => h))))
            clear hown6 hg6
            go_roundw
            case rel => exact HNX.out w6 (.slice r5 (crossUp es1 es2 num den k).length c5) (k + 1) rfl BW6.out (fun i h => (OW4.out.lt i h).1) _ (by rw [HE.out, pL_append, List.length_append]; exact OW6.out)
            case measure => simp [intOf]; omega
        · have HE := Lib.hid (show crossUp es1 es2 num den (k + 1) = crossUp es1 es2 num den k by rw [HCR.out, if_neg (fun h => hnn h.1)]; simp)
          have u1 : (nm4.toList == nm.toList) = false := by rw [toList_decP]; exact decide_eq_false hnn
          go_wp2
          go_roundw
          case rel => exact HNX.out w4 (.slice none 0 0) (k + 1) rfl (Off.refl _ _) (fun i h => by cases h) _ (by rw [HE.out]; exact OW4.out)
          case measure => simp [intOf]; omega
    · obtain rfl : k = es1.length := by omega
      have SP := Lib.hid (sortP_walk _ _ w.heap.size _ wr (by omega) OW.out)
      go_wp2_with (go_at_call 43; (with_reducible refine (SP.out).mono ?_); rintro e7 w7 ⟨rfl, m, hpm, hso, hown, hgr⟩; have PM := Lib.hid hpm; have SO := Lib.hid hso; have OW7 := Lib.hid hown; have GR := Lib.hid hgr; clear hpm hso hown hgr)
      go_ret2
      refine ⟨_, m, rfl, PM.out, SO.out, by rw [PM.out.length_eq]; exact OW7.out, ?_⟩
      exact ⟨GR.out.os.trans HO.out.os, GR.out.tape.trans HO.out.tape, GR.out.output.trans HO.out.output, Nat.le_trans HO.out.size GR.out.size, fun i hi hx => (GR.out.block i (Nat.lt_of_lt_of_le hi HO.out.size) (fun e => by have := (OW.out.lt i e.symm).1; omega)).trans (HO.out.block i hi hx)⟩
end Go.Proofs.YtlnbeildplafbaaGreatDoor
