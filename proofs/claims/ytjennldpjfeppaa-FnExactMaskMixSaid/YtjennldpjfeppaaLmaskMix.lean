/-
  For all arguments the program's MaskMix returns what the reference's returns, in memory of its own, and leaves its arguments alone.
  Conditions: the lights are rows of cells that read.
-/
import Derived.Test.YtjennldpjfeppaaA41
import Derived.Test.YtjennldpjfeppaaGmaskMix
namespace Go.Proofs.Ytjennldpjfeppaa
open Go.RowKit
set_option linter.unusedVariables false
set_option linter.unusedSimpArgs false

theorem lawMaskMix_any (W1 H1 : Int) (v1 : Value) (xa : List Nat) (W2 H2 : Int) (v2 : Value) (xb : List Nat) (W3 H3 : Int) (v3 : Value) (xm : List Nat) (w : World) (hx1 : Sl w v1 (xa.map fv)) (hl1 : xa.length ≤ 140737488351232) (hx2 : Sl w v2 (xb.map fv)) (hl2 : xb.length ≤ 140737488351232) (hx3 : Sl w v3 (xm.map fv)) (hl3 : xm.length ≤ 140737488351232) :
    Calls Try.prog 9 #[.agg #[.int .i64 W1, .int .i64 H1, v1], .agg #[.int .i64 W2, .int .i64 H2, v2], .agg #[.int .i64 W3, .int .i64 H3, v3]] w fun e w' => e = .returned (.bool true) ∧ Below w.heap.size w w' :=
  lawMaskMix_gen W1 H1 v1 xa W2 H2 v2 xb W3 H3 v3 xm w hx1 hl1 hx2 hl2 hx3 hl3 _ _ _ _ (maskR_len W1 H1 xa W2 H2 xb W3 H3 xm)
    (fun u0 u1 u2 w' h0 h1 h2 => (specMaskMix_any W1 H1 u0 xa W2 H2 u1 xb W3 H3 u2 xm w' h0 h1 h2 hl1 hl2 hl3).mono fun _ _ h => h.uni)
    (fun u0 u1 u2 w' h0 h1 h2 => (implMaskMix_any W1 H1 u0 xa W2 H2 u1 xb W3 H3 u2 xm w' h0 h1 h2 hl1 hl2 hl3).mono fun _ _ h => h.uni)

end Go.Proofs.Ytjennldpjfeppaa
