/-
  What the functions hand back, as the laws' walks take it.
  Conditions: none.
-/
import Derived.Test.YtggbdmgonobefaaLovererr
namespace Go.Proofs.Ytggbdmgonobefaa
open Go.RowKit
set_option linter.unusedVariables false
set_option linter.unusedSimpArgs false

/-- A number, a light and whether there are any. -/
def IntNumRes (w : World) (z : Int) (c : Nat) (ok : Bool) (e : Ending) (w' : World) : Prop := ∃ r, e = .returned (.tuple #[.int .i64 z, fv r, .bool ok]) ∧ Fl.nf .f32 r = c ∧ Below w.heap.size w w'

end Go.Proofs.Ytggbdmgonobefaa
