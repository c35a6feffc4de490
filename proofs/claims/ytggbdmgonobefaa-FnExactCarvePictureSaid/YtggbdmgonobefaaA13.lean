/-
  The error of an overlap: the program's and the reference's.
  Conditions: the lights are rows of cells that read.
-/
import Derived.Test.YtggbdmgonobefaaA12
namespace Go.Proofs.Ytggbdmgonobefaa
open Go.RowKit
set_option linter.unusedVariables false
set_option linter.unusedSimpArgs false
attribute [local go_sem] Fl.run_fadd Fl.run_fsub Fl.run_fmul Fl.run_fquo Fl.run_wide Fl.run_store_float

def errV (W1 H : Nat) (x1 : List Nat) (W2 : Nat) (x2 : List Nat) (ov : Nat) : Nat := Fl.fop .quo .f32 (sumG 0 (grid ov H (apartV W1 x1 W2 x2 ov))) (floatOfInt .f32 (ov * H : Nat))

theorem grid_len (W H : Nat) (g : Nat → Nat → Nat) : (grid W H g).length = W * H := by simp [grid, cellsTo]

end Go.Proofs.Ytggbdmgonobefaa
