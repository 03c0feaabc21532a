/- The walks of the small functions on numbers: sums and differences of products, roots, whether a number is finite, the same bits. -/
import Derived.Test.YtaakbajhbmbhcaaDoorChecked
import Derived.Test.YtaakbajhbmbhcaaDoorFl
import Derived.Lib.Hide
namespace Go.Proofs.YtaakbajhbmbhcaaDoor
open Go.RowKit Go.Fl Go.Grow

def mns (s a b : Option Nat) : Option Nat := fsub s (fmul a b)
def pls (s a b : Option Nat) : Option Nat := fadd s (fmul a b)

theorem run58 (args : Array Value) (w : World) : (callFunc 58 args).run Tryd.prog w = ((Extern.MathFloatBits.float64bits args).run Tryd.prog w).andThen fun v w' => .ok (.value v) w' :=
  run_callFunc_extern Tryd.func58 (by kernel_rfl) (by kernel_rfl) (by kernel_rfl) (by kernel_rfl) args w
theorem bits58 (b : Nat) (w : World) : (Extern.MathFloatBits.float64bits #[.float .f64 b]).run Tryd.prog w = .ok (.int .u64 b) w := rfl

/-- Is a number finite? -/
def fin (X : Option Nat) : Bool := feq (fsub X X) (some 0)
theorem fl_zero : fl 0 = some 0 := by decide +kernel

theorem order_self (a : Nat) : FloatKind.f64.format.order a a = if fl a = none then none else some .eq := by
  show Ieee.double.order a a = _
  unfold Ieee.Format.order fl
  cases h : Ieee.double.read a with
  | number s m e => simp [Ieee.Datum.isNaN, Ieee.Datum.order]
  | infinity s => simp [Ieee.Datum.isNaN, Ieee.Datum.order]
  | nan s t => simp [Ieee.Datum.isNaN, Ieee.Datum.order]

/-- The same bits, or both no numbers: true where the two are one number. -/
theorem sameBits_walk (a b : Nat) (h : fl a = fl b) (w : World) : Calls Tryd.prog 43 #[.float .f64 a, .float .f64 b] w (PostD (fun v => v = .bool true) w) := by
  have oa := order_self a
  have ob := order_self b
  have r58 := run58
  have b58 := bits58
  cases ha : fl a with
  | none =>
    rw [ha, if_pos rfl] at oa
    rw [← h, ha, if_pos rfl] at ob
    clear h ha
    go_enter Tryd.func43, Tryd.ntmps43
    go_wp2
    go_ret
    exact PostD.mk0 rfl
  | some c =>
    have e : a = b := by
      have h1 := fl_some ha
      have h2 := fl_some (h.symm.trans ha)
      rw [h1, h2]
    subst e
    rw [ha, if_neg (by simp)] at oa
    clear h ha ob
    go_enter Tryd.func43, Tryd.ntmps43
    go_wp2
    go_ret
    exact PostD.mk0 rfl
end Go.Proofs.YtaakbajhbmbhcaaDoor
