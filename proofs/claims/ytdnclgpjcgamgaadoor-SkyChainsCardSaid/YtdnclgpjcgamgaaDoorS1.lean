/- The walks of the small functions on numbers: sums and differences of products, roots, whether a number is finite, the same bits. -/
import Derived.Test.YtdnclgpjcgamgaaDoorChecked
import Derived.Test.YtdnclgpjcgamgaaDoorFl
import Derived.Lib.Hide
namespace Go.Proofs.YtdnclgpjcgamgaaDoor
open Go.RowKit Go.Fl Go.Grow

def mns (s a b : Option Nat) : Option Nat := fsub s (fmul a b)
def pls (s a b : Option Nat) : Option Nat := fadd s (fmul a b)

theorem less_walk (s a b : Nat) (w : World) :
    Calls Tryd.prog 23 #[.float .f64 s, .float .f64 a, .float .f64 b] w (PostD (IsF (mns (fl s) (fl a) (fl b))) w) := by
  go_enter Tryd.func23, Tryd.ntmps23
  go_wp2_with (refine wpList_arith rfl rfl (by rfl) rfl rfl ?_; intro b1 n1 H1)
  go_ret
  exact PostD.mk ⟨_, rfl, by simp only [Hid, fop] at *; simp only [mns, *]⟩
theorem plusRef_walk (s a b : Nat) (w : World) :
    Calls Tryd.prog 29 #[.float .f64 s, .float .f64 a, .float .f64 b] w (PostD (IsF (pls (fl s) (fl a) (fl b))) w) := by
  go_enter Tryd.func29, Tryd.ntmps29
  go_wp2_with (refine wpList_arith rfl rfl (by rfl) rfl rfl ?_; intro b1 n1 H1)
  go_ret
  exact PostD.mk ⟨_, rfl, by simp only [Hid, fop] at *; simp only [pls, *]⟩

theorem run83 (args : Array Value) (w : World) : (callFunc 40 args).run Tryd.prog w = ((Extern.MathSqrt.sqrt args).run Tryd.prog w).andThen fun v w' => .ok (.value v) w' :=
  run_callFunc_extern Tryd.func40 (by kernel_rfl) (by kernel_rfl) (by kernel_rfl) (by kernel_rfl) args w
theorem run58 (args : Array Value) (w : World) : (callFunc 39 args).run Tryd.prog w = ((Extern.MathFloatBits.float64bits args).run Tryd.prog w).andThen fun v w' => .ok (.value v) w' :=
  run_callFunc_extern Tryd.func39 (by kernel_rfl) (by kernel_rfl) (by kernel_rfl) (by kernel_rfl) args w
theorem bits58 (b : Nat) (w : World) : (Extern.MathFloatBits.float64bits #[.float .f64 b]).run Tryd.prog w = .ok (.int .u64 b) w := rfl

theorem sqrt_walk (x : Nat) (w : World) : Calls Tryd.prog 31 #[.float .f64 x] w (PostD (IsF (fsqrt (fl x))) w) := by
  go_enter Tryd.func31, Tryd.ntmps31
  go_wp2_with (refine wpList_sqrt rfl rfl run83 rfl ?_; intro b1 n1 H1)
  go_ret
  exact PostD.mk ⟨_, rfl, by simp only [Hid] at *; simp only [*]⟩
/-- Is a number finite? -/
def fin (X : Option Nat) : Bool := feq (fsub X X) (some 0)
theorem fl_zero : fl 0 = some 0 := by decide +kernel

theorem order_self (a : Nat) : FloatKind.f64.format.order a a = if fl a = none then none else some .eq := by
  show Ieee.double.order a a = _
  unfold Ieee.Format.order fl
  cases h : Ieee.double.read a with
  | number s m e => simp [Ieee.Datum.isNaN, Ieee.Datum.order]
  | infinity s => simp [Ieee.Datum.isNaN, Ieee.Datum.order]
  | nan s t => simp [Ieee.Datum.isNaN, Ieee.Datum.order]

/-- The same bits, or both no numbers: true where the two are one number. -/
theorem sameBits_walk (a b : Nat) (h : fl a = fl b) (w : World) : Calls Tryd.prog 28 #[.float .f64 a, .float .f64 b] w (PostD (fun v => v = .bool true) w) := by
  have oa := order_self a
  have ob := order_self b
  have r58 := run58
  have b58 := bits58
  cases ha : fl a with
  | none =>
    rw [ha, if_pos rfl] at oa
    rw [← h, ha, if_pos rfl] at ob
    clear h ha
    go_enter Tryd.func28, Tryd.ntmps28
    go_wp2
    go_ret
    exact PostD.mk0 rfl
  | some c =>
    have e : a = b := by
      have h1 := fl_some ha
      have h2 := fl_some (h.symm.trans ha)
      rw [h1, h2]
    subst e
    rw [ha, if_neg (by simp)] at oa
    clear h ha ob
    go_enter Tryd.func28, Tryd.ntmps28
    go_wp2
    go_ret
    exact PostD.mk0 rfl
end Go.Proofs.YtdnclgpjcgamgaaDoor
