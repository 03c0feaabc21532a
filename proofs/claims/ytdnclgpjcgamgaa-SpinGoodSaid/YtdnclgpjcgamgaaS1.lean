/- The walks of the small functions on numbers: sums and differences of products, roots, whether a number is finite, the same bits. -/
import Derived.Test.YtdnclgpjcgamgaaChecked
import Derived.Test.YtdnclgpjcgamgaaFl
import Derived.Lib.Hide
namespace Go.Proofs.Ytdnclgpjcgamgaa
open Go.RowKit Go.Fl Go.Grow

def mns (s a b : Option Nat) : Option Nat := fsub s (fmul a b)
def pls (s a b : Option Nat) : Option Nat := fadd s (fmul a b)

theorem minus_walk (s a b : Nat) (w : World) :
    Calls Try.prog 54 #[.float .f64 s, .float .f64 a, .float .f64 b] w (PostD (IsF (mns (fl s) (fl a) (fl b))) w) := by
  go_enter Try.func54, Try.ntmps54
  go_wp2_with (refine wpList_arith rfl rfl (by rfl) rfl rfl ?_; intro b1 n1 H1)
  go_ret
  exact PostD.mk ⟨_, rfl, by simp only [Hid, fop] at *; simp only [mns, *]⟩
theorem plus_walk (s a b : Nat) (w : World) :
    Calls Try.prog 55 #[.float .f64 s, .float .f64 a, .float .f64 b] w (PostD (IsF (pls (fl s) (fl a) (fl b))) w) := by
  go_enter Try.func55, Try.ntmps55
  go_wp2_with (refine wpList_arith rfl rfl (by rfl) rfl rfl ?_; intro b1 n1 H1)
  go_ret
  exact PostD.mk ⟨_, rfl, by simp only [Hid, fop] at *; simp only [pls, *]⟩
theorem less_walk (s a b : Nat) (w : World) :
    Calls Try.prog 56 #[.float .f64 s, .float .f64 a, .float .f64 b] w (PostD (IsF (mns (fl s) (fl a) (fl b))) w) := by
  go_enter Try.func56, Try.ntmps56
  go_wp2_with (refine wpList_arith rfl rfl (by rfl) rfl rfl ?_; intro b1 n1 H1)
  go_ret
  exact PostD.mk ⟨_, rfl, by simp only [Hid, fop] at *; simp only [mns, *]⟩
theorem plusRef_walk (s a b : Nat) (w : World) :
    Calls Try.prog 57 #[.float .f64 s, .float .f64 a, .float .f64 b] w (PostD (IsF (pls (fl s) (fl a) (fl b))) w) := by
  go_enter Try.func57, Try.ntmps57
  go_wp2_with (refine wpList_arith rfl rfl (by rfl) rfl rfl ?_; intro b1 n1 H1)
  go_ret
  exact PostD.mk ⟨_, rfl, by simp only [Hid, fop] at *; simp only [pls, *]⟩

theorem run83 (args : Array Value) (w : World) : (callFunc 83 args).run Try.prog w = ((Extern.MathSqrt.sqrt args).run Try.prog w).andThen fun v w' => .ok (.value v) w' :=
  run_callFunc_extern Try.func83 (by kernel_rfl) (by kernel_rfl) (by kernel_rfl) (by kernel_rfl) args w
theorem run58 (args : Array Value) (w : World) : (callFunc 58 args).run Try.prog w = ((Extern.MathFloatBits.float64bits args).run Try.prog w).andThen fun v w' => .ok (.value v) w' :=
  run_callFunc_extern Try.func58 (by kernel_rfl) (by kernel_rfl) (by kernel_rfl) (by kernel_rfl) args w
theorem bits58 (b : Nat) (w : World) : (Extern.MathFloatBits.float64bits #[.float .f64 b]).run Try.prog w = .ok (.int .u64 b) w := rfl

theorem sqrt_walk (x : Nat) (w : World) : Calls Try.prog 60 #[.float .f64 x] w (PostD (IsF (fsqrt (fl x))) w) := by
  go_enter Try.func60, Try.ntmps60
  go_wp2_with (refine wpList_sqrt rfl rfl run83 rfl ?_; intro b1 n1 H1)
  go_ret
  exact PostD.mk ⟨_, rfl, by simp only [Hid] at *; simp only [*]⟩
theorem root_walk (x : Nat) (w : World) : Calls Try.prog 59 #[.float .f64 x] w (PostD (IsF (fsqrt (fl x))) w) := by
  go_enter Try.func59, Try.ntmps59
  go_wp2_with (go_at_call 60; refine (sqrt_walk _ _).mono ?_; rintro e w1 ⟨v, rfl, ⟨b, rfl, hb⟩, n, rfl⟩; have H := Lib.hid hb; clear hb)
  go_ret
  exact PostD.mk ⟨_, rfl, H.out⟩

/-- Is a number finite? -/
def fin (X : Option Nat) : Bool := feq (fsub X X) (some 0)
theorem fl_zero : fl 0 = some 0 := by decide +kernel

theorem finite_walk (x : Nat) (w : World) : Calls Try.prog 61 #[.float .f64 x] w (PostD (fun v => v = .bool (fin (fl x))) w) := by
  go_enter Try.func61, Try.ntmps61
  go_wp2_with (refine wpList_arith rfl rfl (by rfl) rfl rfl ?_; intro b1 n1 H1)
  go_ret
  exact PostD.mk (by simp only [Hid, fop] at *; show Value.bool (Ieee.double.order _ 0 == some .eq) = _; rw [order_fl, fl_zero, H1]; rfl)
theorem finiteRef_walk (x : Nat) (w : World) : Calls Try.prog 62 #[.float .f64 x] w (PostD (fun v => v = .bool (fin (fl x))) w) := by
  go_enter Try.func62, Try.ntmps62
  go_wp2_with (refine wpList_arith rfl rfl (by rfl) rfl rfl ?_; intro b1 n1 H1)
  go_ret
  exact PostD.mk (by simp only [Hid, fop] at *; show Value.bool (Ieee.double.order _ 0 == some .eq) = _; rw [order_fl, fl_zero, H1]; rfl)

theorem order_self (a : Nat) : FloatKind.f64.format.order a a = if fl a = none then none else some .eq := by
  show Ieee.double.order a a = _
  unfold Ieee.Format.order fl
  cases h : Ieee.double.read a with
  | number s m e => simp [Ieee.Datum.isNaN, Ieee.Datum.order]
  | infinity s => simp [Ieee.Datum.isNaN, Ieee.Datum.order]
  | nan s t => simp [Ieee.Datum.isNaN, Ieee.Datum.order]

/-- The same bits, or both no numbers: true where the two are one number. -/
theorem sameBits_walk (a b : Nat) (h : fl a = fl b) (w : World) : Calls Try.prog 17 #[.float .f64 a, .float .f64 b] w (PostD (fun v => v = .bool true) w) := by
  have oa := order_self a
  have ob := order_self b
  have r58 := run58
  have b58 := bits58
  cases ha : fl a with
  | none =>
    rw [ha, if_pos rfl] at oa
    rw [← h, ha, if_pos rfl] at ob
    clear h ha
    go_enter Try.func17, Try.ntmps17
    go_wp2
    go_ret
    exact PostD.mk0 rfl
  | some c =>
    have e : a = b := by
      have h1 := fl_some ha
      have h2 := fl_some (h.symm.trans ha)
      rw [h1, h2]
    subst e
    rw [ha, if_neg (by simp)] at oa
    clear h ha ob
    go_enter Try.func17, Try.ntmps17
    go_wp2
    go_ret
    exact PostD.mk0 rfl
end Go.Proofs.Ytdnclgpjcgamgaa
