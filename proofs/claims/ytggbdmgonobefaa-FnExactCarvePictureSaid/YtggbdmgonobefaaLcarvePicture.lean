/-
  For all arguments the program's CarvePicture returns what the reference's returns, in memory of its own, and leaves its arguments alone.
  Conditions: the lights are a row of cells that reads.
-/
import Derived.Test.YtggbdmgonobefaaA57
import Derived.Test.YtggbdmgonobefaaGcarvePicture
namespace Go.Proofs.Ytggbdmgonobefaa
open Go.RowKit
set_option linter.unusedVariables false
set_option linter.unusedSimpArgs false

theorem carveR_len (W H : Int) (xs : List Nat) (wide : Int) : ((carveR W H xs wide).getD ⟨0, 0, []⟩).L.length ≤ 1048576 := by
  unfold carveR
  split
  · rename_i h
    rw [Bool.and_eq_true] at h
    obtain ⟨m, n, rfl, rfl, g1, g2, g3, g4, g5⟩ := valid_nat h.1
    simp only [Int.toNat_natCast]
    cases hc : carve n (m - wide.toNat) m (nl xs) with
    | none => simp
    | some L =>
      have h1 := carve_len n _ _ _ _ (by rw [nl, List.length_map]; exact g5) hc
      have h2 : (m - (m - wide.toNat)) * n ≤ 16 * 16 := Nat.mul_le_mul (by omega) g4
      simp only [Option.map_some, Option.getD_some]
      omega
  · simp

theorem lawCarvePicture_any (W H : Int) (v : Value) (xs : List Nat) (wide : Int) (w : World) (hx : Sl w v (xs.map fv)) (hlen : xs.length ≤ 140737488351232) :
    Calls Try.prog 13 #[.agg #[.int .i64 W, .int .i64 H, v], .int .i64 wide] w fun e w' => e = .returned (.bool true) ∧ Below w.heap.size w w' :=
  lawCarvePicture_gen W H v xs wide w hx hlen _ _ _ _ (carveR_len W H xs wide)
    (fun u0 w' h0 => (specCarve_any W H u0 xs wide w' h0 hlen).mono fun _ _ h => h.uni)
    (fun u0 w' h0 => (implCarve_any W H u0 xs wide w' h0 hlen).mono fun _ _ h => h.uni)

end Go.Proofs.Ytggbdmgonobefaa
