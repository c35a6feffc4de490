/-
  For all arguments the program's SeamOf returns what the reference's returns, in memory of its own, and leaves its arguments alone.
  Conditions: the lights are a row of cells that reads.
-/
import Derived.Test.YtggbdmgonobefaaA54
import Derived.Test.YtggbdmgonobefaaGseamOf
namespace Go.Proofs.Ytggbdmgonobefaa
open Go.RowKit
set_option linter.unusedVariables false
set_option linter.unusedSimpArgs false

theorem lawSeamOf_any (W H : Int) (v : Value) (xs : List Nat) (w : World) (hx : Sl w v (xs.map fv)) (hlen : xs.length ≤ 140737488351232) :
    Calls Try.prog 7 #[.agg #[.int .i64 W, .int .i64 H, v]] w fun e w' => e = .returned (.bool true) ∧ Below w.heap.size w w' :=
  lawSeamOf_gen W H v xs w hx hlen _ _ _ (seamOfR_len W H xs)
    (fun u0 w' h0 => (specSeamOf_any W H u0 xs w' h0 hlen).mono fun _ _ h => h.uni)
    (fun u0 w' h0 => (implSeamOf_any W H u0 xs w' h0 hlen).mono fun _ _ h => h.uni)

end Go.Proofs.Ytggbdmgonobefaa
