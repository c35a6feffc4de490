/-
  For all arguments the program's MeetSeam returns what the reference's returns, in memory of its own, and leaves its arguments alone.
  Conditions: the lights are rows of cells that read.
-/
import Derived.Test.YtggbdmgonobefaaA55
import Derived.Test.YtggbdmgonobefaaGmeetSeam
namespace Go.Proofs.Ytggbdmgonobefaa
open Go.RowKit
set_option linter.unusedVariables false
set_option linter.unusedSimpArgs false

theorem lawMeetSeam_any (W0 H0 : Int) (v0 : Value) (x0 : List Nat) (W1 H1 : Int) (v1 : Value) (x1 : List Nat) (over : Int) (w : World) (hx0 : Sl w v0 (x0.map fv)) (hl0 : x0.length ≤ 140737488351232) (hx1 : Sl w v1 (x1.map fv)) (hl1 : x1.length ≤ 140737488351232) :
    Calls Try.prog 8 #[.agg #[.int .i64 W0, .int .i64 H0, v0], .agg #[.int .i64 W1, .int .i64 H1, v1], .int .i64 over] w fun e w' => e = .returned (.bool true) ∧ Below w.heap.size w w' :=
  lawMeetSeam_gen W0 H0 v0 x0 W1 H1 v1 x1 over w hx0 hl0 hx1 hl1 _ _ _ (meetR_len W0 H0 x0 W1 H1 x1 over)
    (fun u0 u1 w' h0 h1 => (specMeetSeam_any W0 H0 u0 x0 W1 H1 u1 x1 over w' h0 h1 hl0 hl1).mono fun _ _ h => h.uni)
    (fun u0 u1 w' h0 h1 => (implMeetSeam_any W0 H0 u0 x0 W1 H1 u1 x1 over w' h0 h1 hl0 hl1).mono fun _ _ h => h.uni)

end Go.Proofs.Ytggbdmgonobefaa
