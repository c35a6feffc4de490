/-
  CutSeam by the program, whole.
  Conditions: the lights and the seam are rows of cells that read.
-/
import Derived.Test.YtggbdmgonobefaaA15
namespace Go.Proofs.Ytggbdmgonobefaa
open Go.RowKit
set_option linter.unusedVariables false
set_option linter.unusedSimpArgs false

end Go.Proofs.Ytggbdmgonobefaa
