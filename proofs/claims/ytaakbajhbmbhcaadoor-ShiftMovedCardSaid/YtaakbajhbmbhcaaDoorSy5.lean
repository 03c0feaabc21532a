/- How far a picture is moved: plain; the program's loops. -/
import Derived.Test.YtaakbajhbmbhcaaDoorSy4
import Derived.Deep.DeepCutAuto
import Derived.Deep.CutBlock
import Derived.Outline
set_option linter.unusedSimpArgs false
set_option linter.unusedVariables false
namespace Go.Proofs.YtaakbajhbmbhcaaDoor
open Go.RowKit Go.Grow

structure Mv where
  dx : Int
  dy : Int
  s : Int
def mvStep (f : Int → Int → Int) (R : Nat) (y x : Nat) (m : Mv) : Mv := if m.s < f (-(R : Int) + x) (-(R : Int) + y) then ⟨-(R : Int) + x, -(R : Int) + y, f (-(R : Int) + x) (-(R : Int) + y)⟩ else m
def rowUp (f : Int → Int → Int) (R : Nat) (y : Nat) (m : Mv) : Nat → Mv
  | 0 => m
  | x + 1 => mvStep f R y x (rowUp f R y m x)
def allUp (f : Int → Int → Int) (R : Nat) : Nat → Mv
  | 0 => ⟨0, 0, -1⟩
  | y + 1 => rowUp f R y (allUp f R y) (2 * R + 1)
def mvZ (f : Int → Int → Int) (R : Nat) : Mv := allUp f R (2 * R + 1)
def mvE (A B : Pic) (R : Int) : Nat := if picE A ≠ 0 then picE A else if picE B ≠ 0 then picE B else if R < 0 ∨ 16 < R then 5 else 0
def togF (A B : Pic) (aw ah bw bh : Nat) (dx dy : Int) : Int := togUp aw A.z bw bh B.z dx dy (ah * aw)
/-- Both boxes and all that was. -/
def Boxes (A B : Pic) (w wx : World) : Prop :=
  Known wx w.heap.size #[.int .i64 A.W, .int .i64 A.H, .slice A.r A.n A.cap] ∧ Known wx (w.heap.size + 1) #[.int .i64 B.W, .int .i64 B.H, .slice B.r B.n B.cap] ∧ Below w.heap.size w wx
theorem results_tmp4 {fn : Func} {t u v x : Tmp} (h : fn.results = #[.tmp t, .tmp u, .tmp v, .tmp x]) (tmps : Array Value) (P : Program) (w : World) :
    (results fn tmps).run P w = .ok (.tuple #[tmps.getD t undef, tmps.getD u undef, tmps.getD v undef, tmps.getD x undef]) w := by simp [results, h]
set_option maxRecDepth 100000 in
set_option maxHeartbeats 16000000 in
theorem moved_look (a : Nat → Addr) (A B : Pic) (R : Nat) (w : World) (hs : Sen a [2, 5] w) (hA : PicAt w A) (hB : PicAt w B) (eA : picE A = 0) (eB : picE B = 0) (hR : R ≤ 16) (hP : A.W * A.H ≤ 150) (aw ah bw bh : Nat) (fA : Fine A aw ah) (fB : Fine B bw bh) :
    Calls Tryd.prog 16 #[picV A, picV B, .int .i64 R] w fun e w' => e = .returned (.tuple #[.int .i64 (mvZ (togF A B aw ah bw bh) R).dx, .int .i64 (mvZ (togF A B aw ah bw bh) R).dy, .int .i64 (mvZ (togF A B aw ah bw bh) R).s, .nilIface]) ∧ Below w.heap.size w w' := by
  have VA := Lib.hid (fun X (hX : Below w.heap.size w X) => frameValid_walk a A X (hs.below hX) (hA.below hX))
  have VB := Lib.hid (fun X (hX : Below w.heap.size w X) => frameValid_walk a B X (hs.below hX) (hB.below hX))
  rw [eA, errV_zero] at VA
  rw [eB, errV_zero] at VB
  have TW := Lib.hid (fun X (hX : Below w.heap.size w X) dx dy hx hy => together_walk A B aw ah bw bh dx dy X (hA.below hX) (hB.below hX) fA fB hx hy)
  have FA := Lib.hid fA
  have FB := Lib.hid fB
  clear hs hA hB eA eB fA fB
  obtain ⟨f, hf⟩ : ∃ f, togF A B aw ah bw bh = f := ⟨_, rfl⟩
  have TF := Lib.hid (show ∀ X, Below w.heap.size w X → ∀ dx dy : Int, -16 ≤ dx ∧ dx ≤ 16 → -16 ≤ dy ∧ dy ≤ 16 → Calls Tryd.prog 38 #[picV A, picV B, .int .i64 dx, .int .i64 dy] X fun e w' => e = .returned (.int .i64 (f dx dy)) ∧ Below X.heap.size X w' from fun X hX dx dy h1 h2 => by
    rw [← hf]
    exact TW.out X hX dx dy h1 h2)
  rw [hf]
  clear TW hf
  obtain ⟨W1, H1, r1, n1, cap1, z1⟩ := A
  obtain ⟨W2, H2, r2, n2, cap2, z2⟩ := B
  unfold picV at *
  simp only at *
  go_enter Tryd.func16, Tryd.ntmps16
  go_upto_block 0 with (fail)
  refine Grow.seal_wp ?_
  intro W hW
  have K0 : Known W w.heap.size #[.int .i64 W1, .int .i64 H1, .slice r1 n1 cap1] := by rw [hW.out]; exact ((Known.new w _ _).alloc _).alloc _
  have K1 : Known W (w.heap.size + 1) #[.int .i64 W2, .int .i64 H2, .slice r2 n2 cap2] := by rw [hW.out]; exact (Known.new' (by simp)).alloc _
  have KS : Known W (w.heap.size + 1 + 1) #[.int .i64 W1, .int .i64 H1, .slice r1 n1 cap1, .int .i64 W2, .int .i64 H2, .slice r2 n2 cap2] := by rw [hW.out]; exact Known.new' (by simp)
  have G : Hid (Below w.heap.size w W) := Lib.hid (by rw [hW.out]; exact grow_alloc (grow_alloc (grow_alloc (grow_refl w) _) _) _)
  clear hW
  have l0 := K0.lt
  have l1 := K1.lt
  have lS := KS.lt
  have cS := KS.cell
  have fS := KS.frozen
  go_cut [6, 7] (fun v6 v7 wx => v6 = .int .i64 0 ∧ v7 = .int .i64 0 ∧ Boxes ⟨W1, H1, r1, n1, cap1, z1⟩ ⟨W2, H2, r2, n2, cap2, z2⟩ w wx)
  case first => as_aux_lemma =>
    go_wp2_with fail
    refine wp_loop_rounds 3 ?_
    rw [rounds_succ]
    go_wp2_with (go_at_call 37; (with_reducible refine (VA.out _ ?_).mono ?_); ((repeat (with_reducible first | exact G.out | refine Grow.grow_setCell ?_ ?_ _ | refine Grow.grow_alloc ?_ _)) <;> omega); rintro e w1 ⟨rfl, hb⟩; have G2 := Lib.hid (grow_trans (show Below w.heap.size w _ by (repeat (with_reducible first | exact G.out | refine Grow.grow_setCell ?_ ?_ _ | refine Grow.grow_alloc ?_ _)) <;> omega) hb); replace K0 := Known.below (by (repeat (with_reducible first | exact K0 | apply Known.other | apply Known.alloc)) <;> omega) hb; replace K1 := Known.below (by (repeat (with_reducible first | exact K1 | apply Known.other | apply Known.alloc)) <;> omega) hb; clear cS fS l0 l1 lS G; have G := G2; clear G2; replace KS := Known.below (by (repeat (with_reducible first | exact KS | apply Known.other | apply Known.alloc)) <;> omega) hb; clear hb; have l0 := K0.lt; have l1 := K1.lt; have lS := KS.lt; have cS := KS.cell; have fS := KS.frozen)
    rw [rounds_succ]
    go_wp2_with (go_at_call 37; (with_reducible refine (VB.out _ ?_).mono ?_); ((repeat (with_reducible first | exact G.out | refine Grow.grow_setCell ?_ ?_ _ | refine Grow.grow_alloc ?_ _)) <;> omega); rintro e w2 ⟨rfl, hb⟩; have G2 := Lib.hid (grow_trans (show Below w.heap.size w _ by (repeat (with_reducible first | exact G.out | refine Grow.grow_setCell ?_ ?_ _ | refine Grow.grow_alloc ?_ _)) <;> omega) hb); replace K0 := Known.below (by (repeat (with_reducible first | exact K0 | apply Known.other | apply Known.alloc)) <;> omega) hb; replace K1 := Known.below (by (repeat (with_reducible first | exact K1 | apply Known.other | apply Known.alloc)) <;> omega) hb; clear cS fS l0 l1 lS G; have G := G2; clear G2; replace KS := Known.below (by (repeat (with_reducible first | exact KS | apply Known.other | apply Known.alloc)) <;> omega) hb; clear hb; have l0 := K0.lt; have l1 := K1.lt; have lS := KS.lt; have cS := KS.cell; have fS := KS.frozen)
    rw [rounds_succ]
    go_wp2_with fail
    go_meet
    exact ⟨rfl, rfl, K0, K1, G.out⟩
  case rest =>
    clear K0 K1 KS cS fS l0 l1 lS G VA VB
    obtain ⟨rfl, rfl, K0, K1, g⟩ := hcut
    have G := Lib.hid g
    clear g
    have l0 := K0.lt
    have l1 := K1.lt
    have c0 := K0.cell
    have c1 := K1.cell
    have f0 := K0.frozen
    have f1 := K1.frozen
    simp only at c0 c1
    obtain ⟨m1, m2⟩ : 1 ≤ W1 * H1 ∧ W1 * H1 ≤ 65536 := by
      obtain ⟨e1, e2, a1, a2, a3, a4, _⟩ := FA.out
      simp only at e1 e2
      exact area (by omega) (by omega) (by omega) (by omega)
    have m3 : 1 ≤ W1 * H1 * (2 * (R : Int) + 1) ∧ W1 * H1 * (2 * (R : Int) + 1) ≤ 4950 := by
      have h1 := Int.mul_le_mul m1 (show (1 : Int) ≤ 2 * (R : Int) + 1 by omega) (by omega) (by omega)
      have h2 := Int.mul_le_mul hP (show 2 * (R : Int) + 1 ≤ 33 by omega) (by omega) (by omega)
      omega
    have m4 : 1 ≤ W1 * H1 * (2 * (R : Int) + 1) * (2 * (R : Int) + 1) ∧ W1 * H1 * (2 * (R : Int) + 1) * (2 * (R : Int) + 1) ≤ 163350 := by
      have h1 := Int.mul_le_mul m3.1 (show (1 : Int) ≤ 2 * (R : Int) + 1 by omega) (by omega) (by omega)
      have h2 := Int.mul_le_mul m3.2 (show 2 * (R : Int) + 1 ≤ 33 by omega) (by omega) (by omega)
      omega
    obtain ⟨m5, m6⟩ := m3
    obtain ⟨m7, m8⟩ := m4
    clear FA FB
    go_wp2
    go_loopw [6, 7, 8, 14] (fun v6 v7 v8 v14 wr => ∃ y : Nat, y ≤ 2 * R + 1 ∧ v14 = .int .i64 (-(R : Int) + y) ∧ v6 = .int .i64 (allUp f R y).dx ∧ v7 = .int .i64 (allUp f R y).dy ∧ v8 = .int .i64 (allUp f R y).s ∧ Boxes ⟨W1, H1, r1, n1, cap1, z1⟩ ⟨W2, H2, r2, n2, cap2, z2⟩ w wr) (fun _ _ _ v _ => 2 * R + 1 - (intOf v + R).toNat)
    case atStart => exact ⟨0, by omega, by congr 1; omega, rfl, rfl, rfl, K0, K1, G.out⟩
    case round =>
      clear K0 K1 G l0 l1 c0 c1 f0 f1 m1 m2 m5 m6 m7 m8 hP
      obtain ⟨y, hy, rfl, rfl, rfl, rfl, K0, K1, g⟩ := hrel
      have G := Lib.hid g
      clear g
      have hyR : -16 ≤ -(R : Int) + y := by omega
      by_cases hlt : y < 2 * R + 1
      · have HY := Lib.hid (show allUp f R (y + 1) = rowUp f R y (allUp f R y) (2 * R + 1) from rfl)
        generalize allUp f R y = m at HY ⊢
        go_wp2
        go_loopw [6, 7, 8, 15] (fun v6 v7 v8 v15 wr => ∃ x : Nat, x ≤ 2 * R + 1 ∧ v15 = .int .i64 (-(R : Int) + x) ∧ v6 = .int .i64 (rowUp f R y m x).dx ∧ v7 = .int .i64 (rowUp f R y m x).dy ∧ v8 = .int .i64 (rowUp f R y m x).s ∧ Boxes ⟨W1, H1, r1, n1, cap1, z1⟩ ⟨W2, H2, r2, n2, cap2, z2⟩ w wr) (fun _ _ _ v _ => 2 * R + 1 - (intOf v + R).toNat)
        case atStart => exact ⟨0, by omega, by congr 1; omega, rfl, rfl, rfl, K0, K1, G.out⟩
        case round =>
          clear K0 K1 G
          obtain ⟨x, hx, rfl, rfl, rfl, rfl, K0, K1, g⟩ := hrel
          have G := Lib.hid g
          clear g
          by_cases hxt : x < 2 * R + 1
          · have HX := Lib.hid (show rowUp f R y m (x + 1) = mvStep f R y x (rowUp f R y m x) from rfl)
            unfold mvStep at HX
            have TF2 := Lib.hid (fun X hX => TF.out X hX (-(R : Int) + x) (-(R : Int) + y) (by omega) (by omega))
            generalize rowUp f R y m x = mm at HX ⊢
            generalize f (-(R : Int) + x) (-(R : Int) + y) = t at HX TF2
            have c0 := K0.cell
            have c1 := K1.cell
            simp only at c0 c1
            by_cases hst : mm.s < t
            · rw [if_pos hst] at HX
              go_wp2_with (go_at_call 38; (with_reducible refine (TF2.out _ G.out).mono ?_); rintro e w1 ⟨rfl, hb⟩; have K2 := K0.below hb; have K3 := K1.below hb; have G2 := Lib.hid (grow_trans G.out hb); clear hb)
              go_roundw
              case rel => exact ⟨x + 1, by omega, by congr 1; omega, by rw [HX.out], by rw [HX.out], by rw [HX.out], K2, K3, G2.out⟩
              case measure => simp [intOf]; omega
            · rw [if_neg hst] at HX
              go_wp2_with (go_at_call 38; (with_reducible refine (TF2.out _ G.out).mono ?_); rintro e w1 ⟨rfl, hb⟩; have K2 := K0.below hb; have K3 := K1.below hb; have G2 := Lib.hid (grow_trans G.out hb); clear hb)
              go_roundw
              case rel => exact ⟨x + 1, by omega, by congr 1; omega, by rw [HX.out], by rw [HX.out], by rw [HX.out], K2, K3, G2.out⟩
              case measure => simp [intOf]; omega
          · obtain rfl : x = 2 * R + 1 := by omega
            go_wp2
            go_roundw
            case rel => exact ⟨y + 1, by omega, by congr 1; omega, by rw [HY.out], by rw [HY.out], by rw [HY.out], K0, K1, G.out⟩
            case measure => simp [intOf]; omega
      · obtain rfl : y = 2 * R + 1 := by omega
        go_wp2
        refine bodyPost_ret (results_tmp4 rfl _ _ _) rfl ?_
        exact ⟨rfl, G.out⟩
end Go.Proofs.YtaakbajhbmbhcaaDoor
