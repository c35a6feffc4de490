/-
  EdgesOf by the program and by the reference.
  Conditions: the lights are a row of cells that reads.
-/
import Derived.Test.YtggbdmgonobefaaA28
namespace Go.Proofs.Ytggbdmgonobefaa
open Go.RowKit
set_option linter.unusedVariables false
set_option linter.unusedSimpArgs false

theorem valid_nat {W H : Int} {xs : List Nat} (h : validB W H xs = true) : ∃ m n : Nat, W = m ∧ H = n ∧ 1 ≤ m ∧ m ≤ 16 ∧ 1 ≤ n ∧ n ≤ 16 ∧ xs.length = m * n := by
  simp only [validB, Bool.and_eq_true, inB_spec, beq_iff_eq] at h
  obtain ⟨⟨⟨a1, a2⟩, a3⟩, -⟩ := h
  obtain ⟨m, rfl⟩ := Int.eq_ofNat_of_zero_le (show 0 ≤ W by omega)
  obtain ⟨n, rfl⟩ := Int.eq_ofNat_of_zero_le (show 0 ≤ H by omega)
  exact ⟨m, n, rfl, rfl, by omega, by omega, by omega, by omega, by exact_mod_cast a3⟩

def edgesR (W H : Int) (xs : List Nat) : Option Pic :=
  if validB W H xs then (if validB W H (grid W.toNat H.toNat (edgeV W.toNat H.toNat xs)) then some ⟨W, H, grid W.toNat H.toNat (edgeV W.toNat H.toNat xs)⟩ else none) else none

theorem edgesR_len (W H : Int) (xs : List Nat) : ((edgesR W H xs).getD ⟨0, 0, []⟩).L.length ≤ 1048576 := by
  cases hok : validB W H xs
  · simp [edgesR, hok]
  · obtain ⟨m, n, rfl, rfl, g1, g2, g3, g4, -⟩ := valid_nat hok
    simp only [edgesR, hok, if_true, Int.toNat_natCast]
    split
    · simp only [Option.getD_some, grid_len]
      have : m * n ≤ 16 * 16 := Nat.mul_le_mul g2 g4
      omega
    · simp

end Go.Proofs.Ytggbdmgonobefaa
