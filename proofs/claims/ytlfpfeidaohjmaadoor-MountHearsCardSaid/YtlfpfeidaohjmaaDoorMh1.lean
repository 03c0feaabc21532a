/- MountHears: the law's walk. -/
import Derived.Test.YtlfpfeidaohjmaaDoorMh0
import Derived.Test.YtlfpfeidaohjmaaDoorMt1
import Derived.Deep.LoopGhost
import Derived.Outline
set_option linter.unusedSimpArgs false
set_option linter.unusedVariables false
namespace Go.Proofs.YtlfpfeidaohjmaaDoor
open Go.RowKit Go.Grow Go.Mo

def KindsAt (w : World) (r : Option Addr) (len : Nat) (z : Nat → Int) : Prop := len = 0 ∨ ∃ b0 o0, r = some ⟨b0, o0, none⟩ ∧ ∀ k, k < len → w.cell? ⟨b0, o0 + k, none⟩ = some (.int .i64 (z k))
def LostAt (w : World) (r : Option Addr) (len : Nat) (z : Nat → Bool) : Prop := len = 0 ∨ ∃ b0 o0, r = some ⟨b0, o0, none⟩ ∧ ∀ k, k < len → w.cell? ⟨b0, o0 + k, none⟩ = some (.bool (z k))
/-- At the head of the loop over the commands. -/
def HearsRel (a : Nat → Addr) (b b2 b3 len : Nat) (w : World) (v16 v17 v18 : Value) (wr : World) : Prop :=
  ∃ (i n : Nat) (s : St) (m : Rf) (c : ByteArray) (x y : Int), i ≤ len ∧ v16 = .bool false ∧ v17 = .int .i64 n ∧ v18 = .int .i64 i ∧ n ≤ 402 + 2 * i ∧ s.ok ∧ Sim s m ∧ s.err ≤ 10 ∧ 0 ≤ s.quiet ∧ s.quiet ≤ i ∧ (s.taken = false ∨ s.number < i + 1) ∧
    Known wr b (mCells a s) ∧ Known wr b2 (rCells m) ∧ Known wr b3 (sCells i c x y true) ∧ Below w.heap.size w wr
/-- At the head of the loop that asks again. -/
def AgainRel (a : Nat → Addr) (b b2 b3 b20 b21 n0 : Nat) (s0 s1 : St) (m1 : Rf) (N : Int) (c : ByteArray) (x : Int) (R : Rep) (w : World) (v17 v22 : Value) (wr : World) : Prop :=
  ∃ (n : Nat) (h : Bool) (s : St), v17 = .int .i64 n ∧ v22 = .bool h ∧ (h = false → n ≤ n0) ∧ n ≤ n0 + 2 ∧ (s = s1 ∨ (h = false ∧ s = s0)) ∧ Known wr b (mCells a s) ∧ Known wr b2 (rCells m1) ∧ Known wr b3 (sCells N c x x h) ∧
    Known wr b20 #[.int .i64 N, .string c, .int .i64 x, .int .i64 x] ∧ Known wr b21 #[.int .i64 R.number, .int .i64 R.err, .int .i64 R.a, .int .i64 R.b, .int .i64 R.state] ∧ Below w.heap.size w wr
def agM (l : Nat) (v17 v22 : Value) : Nat := match v22 with | .bool true => 0 | _ => 1 + (l - (intOf v17).toNat)

set_option maxRecDepth 100000 in
set_option maxHeartbeats 4000000 in
theorem hears_long1 (a : Nat → Addr) (A B : Lim) (r1 r2 : Option Addr) (l1 l2 cap1 cap2 : Nat) (z1 : Nat → Int) (z2 : Nat → Bool) (w : World) (hsen : Sen a allK w) (hh : Hand w) (hne : ∀ j ∈ allK, ∀ k ∈ allK, j ≠ k → a j ≠ a k) (hk1 : KindsAt w r1 l1 z1) (hk2 : LostAt w r2 l2 z2) (hl1 : l1 ≤ 9223372036854775807) (hl2 : l2 ≤ 9223372036854775807) (h1 : 40 < l1) :
    Calls Tryd.prog 9 #[limV A, limV B, .slice r1 l1 cap1, .slice r2 l2 cap2] w fun e w' => e = .returned (.bool true) ∧ Below w.heap.size w w' := by
  have HS := Lib.hid hsen
  have HH := Lib.hid hh
  have HN := Lib.hid hne
  have HK1 := Lib.hid hk1
  have HK2 := Lib.hid hk2
  clear hsen hh hne hk1 hk2
  have g : Hid (Below w.heap.size w w) := Lib.hid (Below.refl _ _)
  have CD := Lib.hid (fun (k : Nat) (hk : k ≤ 10) (x : World) (hx : Below w.heap.size w x) => coded_same a k hk x (HS.out.below hx) (HH.out.below hx) HN.out)
  unfold limV
  go_enter Tryd.func9, Tryd.ntmps9
  go_wp2_with (go_at_call 22; refine (mounted_walk a _ ?_).mono ?_; exact (HS.out.below (grow_alloc (grow_alloc g.out _) _)).sub (by decide); rintro e w1 ⟨rfl, hB⟩; have HB := Lib.hid hB; clear hB)
  go_ret
  exact ⟨rfl, grow_trans (grow_alloc (grow_alloc g.out _) _) HB.out⟩

set_option maxRecDepth 100000 in
set_option maxHeartbeats 4000000 in
theorem hears_long2 (a : Nat → Addr) (A B : Lim) (r1 r2 : Option Addr) (l1 l2 cap1 cap2 : Nat) (z1 : Nat → Int) (z2 : Nat → Bool) (w : World) (hsen : Sen a allK w) (hh : Hand w) (hne : ∀ j ∈ allK, ∀ k ∈ allK, j ≠ k → a j ≠ a k) (hk1 : KindsAt w r1 l1 z1) (hk2 : LostAt w r2 l2 z2) (hl1 : l1 ≤ 9223372036854775807) (hl2 : l2 ≤ 9223372036854775807) (h1 : ¬ 40 < l1) (h2 : 400 < l2) :
    Calls Tryd.prog 9 #[limV A, limV B, .slice r1 l1 cap1, .slice r2 l2 cap2] w fun e w' => e = .returned (.bool true) ∧ Below w.heap.size w w' := by
  have HS := Lib.hid hsen
  have HH := Lib.hid hh
  have HN := Lib.hid hne
  have HK1 := Lib.hid hk1
  have HK2 := Lib.hid hk2
  clear hsen hh hne hk1 hk2
  have g : Hid (Below w.heap.size w w) := Lib.hid (Below.refl _ _)
  have CD := Lib.hid (fun (k : Nat) (hk : k ≤ 10) (x : World) (hx : Below w.heap.size w x) => coded_same a k hk x (HS.out.below hx) (HH.out.below hx) HN.out)
  unfold limV
  go_enter Tryd.func9, Tryd.ntmps9
  go_wp2_with (go_at_call 22; refine (mounted_walk a _ ?_).mono ?_; exact (HS.out.below (grow_alloc (grow_alloc g.out _) _)).sub (by decide); rintro e w1 ⟨rfl, hB⟩; have HB := Lib.hid hB; clear hB)
  go_ret
  exact ⟨rfl, grow_trans (grow_alloc (grow_alloc g.out _) _) HB.out⟩

set_option maxRecDepth 100000 in
set_option maxHeartbeats 4000000 in
theorem hears_no (a : Nat → Addr) (A B : Lim) (r1 r2 : Option Addr) (l1 l2 cap1 cap2 : Nat) (z1 : Nat → Int) (z2 : Nat → Bool) (w : World) (hsen : Sen a allK w) (hh : Hand w) (hne : ∀ j ∈ allK, ∀ k ∈ allK, j ≠ k → a j ≠ a k) (hk1 : KindsAt w r1 l1 z1) (hk2 : LostAt w r2 l2 z2) (hl1 : l1 ≤ 9223372036854775807) (hl2 : l2 ≤ 9223372036854775807) (h1 : ¬ 40 < l1) (h2 : ¬ 400 < l2) (h0 : newE A B 1073741824 ≠ 0) :
    Calls Tryd.prog 9 #[limV A, limV B, .slice r1 l1 cap1, .slice r2 l2 cap2] w fun e w' => e = .returned (.bool true) ∧ Below w.heap.size w w' := by
  have HS := Lib.hid hsen
  have HH := Lib.hid hh
  have HN := Lib.hid hne
  have HK1 := Lib.hid hk1
  have HK2 := Lib.hid hk2
  clear hsen hh hne hk1 hk2
  have g : Hid (Below w.heap.size w w) := Lib.hid (Below.refl _ _)
  have CD := Lib.hid (fun (k : Nat) (hk : k ≤ 10) (x : World) (hx : Below w.heap.size w x) => coded_same a k hk x (HS.out.below hx) (HH.out.below hx) HN.out)
  have MO := Lib.hid (fun x => mountOf_no A B 1073741824 h0 x)
  have hpos : 0 < newE A B 1073741824 := by omega
  have H0 := Lib.hid h0
  clear h0
  unfold limV at *
  go_enter Tryd.func9, Tryd.ntmps9
  go_wp2_with (go_at_call 22; refine (mounted_walk a _ ?_).mono ?_; exact (HS.out.below (grow_alloc (grow_alloc g.out _) _)).sub (by decide); rintro e w1 ⟨rfl, hB⟩; have HB := Lib.hid hB; clear hB)
  have r4 : Known w1 w.heap.size _ := ((Known.new w _ _).alloc _).below HB.out
  have r5 : Known w1 (w.heap.size + 1) _ := (Known.new' (by simp)).below HB.out
  have g2 : Hid (Below w.heap.size w w1) := Lib.hid (grow_trans (grow_alloc (grow_alloc g.out _) _) HB.out)
  clear g HB
  have g := g2
  clear g2
  have hsz := Lib.hid (show w.heap.size + 1 < w1.heap.size from r5.lt)
  go_cut [10, 11] (fun s10 s11 wx => s10 = .pointer none ∧ s11 = .iface 261 (.pointer (some (a (newE A B 1073741824)))) ∧ Known wx w.heap.size #[.int .i64 A.low, .int .i64 A.high, .int .i64 A.fast, .int .i64 A.home] ∧ Known wx (w.heap.size + 1) #[.int .i64 B.low, .int .i64 B.high, .int .i64 B.fast, .int .i64 B.home] ∧ Below w.heap.size w wx)
  case first =>
    have LA := Lib.hid (fun x => limits_walk A x)
    have LB := Lib.hid (fun x => limits_walk B x)
    unfold limV at LA LB
    have c4 := r4.cell
    have f4 := r4.frozen
    have c5 := r5.cell
    have f5 := r5.frozen
    go_region_with (first
            | (go_at_call 24; (first | (with_reducible refine (LA.out _).mono ?_) | (with_reducible refine (LB.out _).mono ?_)); rintro e w2 ⟨rfl, hB2⟩; (first | (have r4' := (Known.drew r4).below hB2; have r5' := (Known.drew r5).below hB2; have g' : Hid (Below w.heap.size w w2) := Lib.hid (grow_trans (grow_drew g.out) hB2)) | (have r4' := r4.below hB2; have r5' := r5.below hB2; have g' : Hid (Below w.heap.size w w2) := Lib.hid (grow_trans g.out hB2))); clear r4 r5 g c4 f4 c5 f5 hB2; have r4 := r4'; have r5 := r5'; have g := g'; clear r4' r5' g'; have c4 := r4.cell; have f4 := r4.frozen; have c5 := r5.cell; have f5 := r5.frozen)
            | (go_at_call 23; (with_reducible refine (new_no a A B 1073741824 H0.out _ ?_).mono ?_); exact (HS.out.below g.out).sub (by decide); rintro e w3 ⟨rfl, hB3⟩; have r4' := r4.below hB3; have r5' := r5.below hB3; have g' : Hid (Below w.heap.size w w3) := Lib.hid (grow_trans g.out hB3); clear r4 r5 g c4 f4 c5 f5 hB3; have r4 := r4'; have r5 := r5'; have g := g'; clear r4' r5' g'))
    all_goals
      go_wp2_with fail
      go_meet
      exact ⟨rfl, rfl, r4, r5, g.out⟩
  case rest =>
    obtain ⟨rfl, rfl, r4', r5', g'⟩ := hcut
    clear r4 r5 g hsz
    have r4 := r4'
    have r5 := r5'
    have g := Lib.hid g'
    clear r4' r5' g'
    generalize newE A B 1073741824 = ne at *
    have c4 := r4.cell
    have f4 := r4.frozen
    have l4 := r4.lt
    have c5 := r5.cell
    have f5 := r5.frozen
    have l5 := r5.lt
    go_wp2_with (go_at_call 36; (with_reducible refine (MO.out _).mono ?_); rintro e w4 ⟨rfl, hB⟩; have g' : Hid (Below w.heap.size w w4) := Lib.hid (grow_trans g.out hB); clear r4 r5 c4 f4 l4 c5 f5 l5 g hB; have g := g'; clear g')
    go_ret
    exact ⟨by simp [hpos], g.out⟩

end Go.Proofs.YtlfpfeidaohjmaaDoor
