/-
  For all arguments the program's SeamCost returns what the reference's returns, and leaves its arguments alone.
  Conditions: the lights and the seam are rows of cells that read.
-/
import Derived.Test.YtjennldpjfeppaaA30
import Derived.Test.YtjennldpjfeppaaGseamCost
namespace Go.Proofs.Ytjennldpjfeppaa
open Go.RowKit
set_option linter.unusedVariables false
set_option linter.unusedSimpArgs false

theorem lawSeamCost_any (W H : Int) (v : Value) (xs : List Nat) (s : List Int) (sv : Value) (w : World) (hx : Sl w v (xs.map fv)) (hlen : xs.length ≤ 140737488351232) (hs : Sl w sv (s.map iv)) (hslen : s.length ≤ 140737488351232) :
    Calls Try.prog 14 #[.agg #[.int .i64 W, .int .i64 H, v], sv] w fun e w' => e = .returned (.bool true) ∧ Below w.heap.size w w' :=
  lawSeamCost_gen W H v xs s sv w hx hlen hs hslen _ _
    (fun u0 u1 w' h0 h1 => specSeamCost_any W H u0 xs s u1 w' h0 hlen h1 hslen)
    (fun u0 u1 w' h0 h1 => implSeamCost_any W H u0 xs s u1 w' h0 hlen h1 hslen)

end Go.Proofs.Ytjennldpjfeppaa
