/-
  For all arguments the program's GrowSeam returns what the reference's returns, in memory of its own, and leaves its arguments alone.
  Conditions: the lights and the seam are rows of cells that read.
-/
import Derived.Test.YtjennldpjfeppaaA24
import Derived.Test.YtjennldpjfeppaaGgrowSeam
namespace Go.Proofs.Ytjennldpjfeppaa
open Go.RowKit
set_option linter.unusedVariables false
set_option linter.unusedSimpArgs false

theorem growR_len (W H : Int) (xs : List Nat) (s : List Int) : ((growR W H xs s).getD ⟨0, 0, []⟩).L.length ≤ 1048576 := by
  cases hok : seamB W H xs s
  · simp [growR, hok]
  · obtain ⟨m, n, rfl, rfl, g1, g2, g3, g4, -⟩ := seam_nat hok
    by_cases h2 : (m : Int) < 16
    · simp only [growR, hok, h2, decide_true, Bool.and_self, if_true, Int.toNat_natCast]
      split
      · simp only [Option.getD_some, grid_len]
        have : (m + 1) * n ≤ 16 * 16 := Nat.mul_le_mul (by omega) g4
        omega
      · simp
    · simp [growR, h2]

theorem lawGrowSeam_any (W H : Int) (v : Value) (xs : List Nat) (s : List Int) (sv : Value) (w : World) (hx : Sl w v (xs.map fv)) (hlen : xs.length ≤ 140737488351232) (hs : Sl w sv (s.map iv)) (hslen : s.length ≤ 140737488351232) :
    Calls Try.prog 13 #[.agg #[.int .i64 W, .int .i64 H, v], sv] w fun e w' => e = .returned (.bool true) ∧ Below w.heap.size w w' :=
  lawGrowSeam_gen W H v xs s sv w hx hlen hs hslen _ _ _ _ (growR_len W H xs s)
    (fun u0 u1 w' h0 h1 => (specGrowSeam_any W H u0 xs s u1 w' h0 hlen h1 hslen).mono fun _ _ h => h.uni)
    (fun u0 u1 w' h0 h1 => (implGrowSeam_any W H u0 xs s u1 w' h0 hlen h1 hslen).mono fun _ _ h => h.uni)

end Go.Proofs.Ytjennldpjfeppaa
