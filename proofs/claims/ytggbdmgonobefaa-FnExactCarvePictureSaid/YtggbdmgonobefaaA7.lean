/-
  What a seam is: the program's test, and the reference's over a picture by value.
  Conditions: the lights and the seam are rows of cells that read.
-/
import Derived.Test.YtggbdmgonobefaaA6
namespace Go.Proofs.Ytggbdmgonobefaa
open Go.RowKit
set_option linter.unusedVariables false
set_option linter.unusedSimpArgs false

end Go.Proofs.Ytggbdmgonobefaa
