/-
  For all arguments the program's EdgesOf returns what the reference's returns, in memory of its own, and leaves its arguments alone.
  Conditions: the lights are a row of cells that reads.
-/
import Derived.Test.YtjennldpjfeppaaA29
import Derived.Test.YtjennldpjfeppaaGedgesOf
namespace Go.Proofs.Ytjennldpjfeppaa
open Go.RowKit
set_option linter.unusedVariables false
set_option linter.unusedSimpArgs false

theorem lawEdgesOf_any (W H : Int) (v : Value) (xs : List Nat) (w : World) (hx : Sl w v (xs.map fv)) (hlen : xs.length ≤ 140737488351232) :
    Calls Try.prog 12 #[.agg #[.int .i64 W, .int .i64 H, v]] w fun e w' => e = .returned (.bool true) ∧ Below w.heap.size w w' :=
  lawEdgesOf_gen W H v xs w hx hlen _ _ _ _ (edgesR_len W H xs)
    (fun u0 w' h0 => (specEdgesOf_any W H u0 xs w' h0 hlen).mono fun _ _ h => h.uni)
    (fun u0 w' h0 => (implEdgesOf_any W H u0 xs w' h0 hlen).mono fun _ _ h => h.uni)

end Go.Proofs.Ytjennldpjfeppaa
