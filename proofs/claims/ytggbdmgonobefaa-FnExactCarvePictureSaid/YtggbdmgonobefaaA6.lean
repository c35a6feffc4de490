/-
  What a seam is: the program's test and the reference's.
  Conditions: the lights and the seam are rows of cells that read.
-/
import Derived.Test.YtggbdmgonobefaaL3
namespace Go.Proofs.Ytggbdmgonobefaa
open Go.RowKit
set_option linter.unusedVariables false
set_option linter.unusedSimpArgs false

def seamAt (W : Int) (s : List Int) (k : Nat) : Bool := inB (s.getD k 0) 0 (W - 1) && (k == 0 || inB (s.getD k 0 - s.getD (k - 1) 0) (-1) 1)
def seamOk (W : Int) (s : List Int) : Bool := (List.range s.length).all (seamAt W s)
def seamB (W H : Int) (xs : List Nat) (s : List Int) : Bool := validB W H xs && ((s.length : Int) == H) && seamOk W s

theorem seamOk_true {W : Int} {s : List Int} (h : ∀ k, k < s.length → seamAt W s k = true) : seamOk W s = true := by
  simpa [seamOk] using h
theorem seamOk_false {W : Int} {s : List Int} {k : Nat} (hk : k < s.length) (h : seamAt W s k = false) : seamOk W s = false := by
  rw [seamOk, List.all_eq_false]
  exact ⟨k, List.mem_range.2 hk, by simp [h]⟩
theorem validB_sides {W H : Int} {xs : List Nat} (h : validB W H xs = true) : (1 ≤ W ∧ W ≤ 16) ∧ 1 ≤ H ∧ H ≤ 16 := by
  simp only [validB, Bool.and_eq_true, inB_spec] at h
  exact ⟨h.1.1.1, h.1.1.2⟩

end Go.Proofs.Ytggbdmgonobefaa
