/-
  OverlapError: the program's and the reference's.
  Conditions: the lights are rows of cells that read.
-/
import Derived.Test.YtggbdmgonobefaaA13
namespace Go.Proofs.Ytggbdmgonobefaa
open Go.RowKit
set_option linter.unusedVariables false
set_option linter.unusedSimpArgs false
attribute [local go_sem] Fl.run_fadd Fl.run_fsub Fl.run_fmul Fl.run_fquo Fl.run_wide Fl.run_store_float

theorem meets_nat {W1 H1 : Int} {x1 : List Nat} {W2 H2 : Int} {x2 : List Nat} {over : Int} (h : meetsB W1 H1 x1 W2 H2 x2 over = true) :
    ∃ w1 hh w2 ov : Nat, W1 = w1 ∧ H1 = hh ∧ W2 = w2 ∧ H2 = hh ∧ over = ov ∧ x1.length = w1 * hh ∧ x2.length = w2 * hh ∧ w1 ≤ 16 ∧ w2 ≤ 16 ∧ hh ≤ 16 ∧ 1 ≤ ov ∧ ov ≤ w1 ∧ ov ≤ w2 := by
  simp only [meetsB, Bool.and_eq_true, validB, inB_spec, beq_iff_eq] at h
  obtain ⟨⟨⟨⟨⟨⟨a1, a2⟩, a3⟩, -⟩, ⟨⟨b1, b2⟩, b3⟩, -⟩, c⟩, d⟩ := h
  obtain ⟨w1, rfl⟩ := Int.eq_ofNat_of_zero_le (show 0 ≤ W1 by omega)
  obtain ⟨hh, rfl⟩ := Int.eq_ofNat_of_zero_le (show 0 ≤ H1 by omega)
  obtain ⟨w2, rfl⟩ := Int.eq_ofNat_of_zero_le (show 0 ≤ W2 by omega)
  obtain ⟨ov, rfl⟩ := Int.eq_ofNat_of_zero_le (show 0 ≤ over by omega)
  subst c
  refine ⟨w1, hh, w2, ov, rfl, rfl, rfl, rfl, rfl, ?_, ?_, by omega, by omega, by omega, by omega, by omega, by omega⟩
  · exact_mod_cast a3
  · exact_mod_cast b3

def ovOk (W1 H1 : Int) (x1 : List Nat) (W2 H2 : Int) (x2 : List Nat) (over : Int) : Bool := meetsB W1 H1 x1 W2 H2 x2 over && Fl.fin (errV W1.toNat H1.toNat x1 W2.toNat x2 over.toNat)
def ovV (W1 H1 : Int) (x1 : List Nat) (W2 H2 : Int) (x2 : List Nat) (over : Int) : Nat := if ovOk W1 H1 x1 W2 H2 x2 over then errV W1.toNat H1.toNat x1 W2.toNat x2 over.toNat else 0

/-- A light that may be none, and whether there is one. -/
def NumRes (w : World) (c : Nat) (ok : Bool) (e : Ending) (w' : World) : Prop := ∃ r, e = .returned (.tuple #[fv r, .bool ok]) ∧ Fl.nf .f32 r = c ∧ Below w.heap.size w w'

end Go.Proofs.Ytggbdmgonobefaa
