/-
  For all arguments the program's SamePages answers as the reference's, and leaves its arguments alone.
  Conditions: the lists read as pages; lengths and words fit.
-/
import Derived.Test.YtggbdmgonobefaaA36
import Derived.Test.YtggbdmgonobefaaA31
namespace Go.Proofs.Ytggbdmgonobefaa
open Go.RowKit
set_option linter.unusedVariables false
set_option linter.unusedSimpArgs false

theorem PgOwn.below {w0 w : World} {v : Value} {ps : List PgD} (h : PgOwn w0 w v ps) : Below w0.heap.size w0 w := by
  obtain ⟨B, lvs, -, -, hI⟩ := h
  exact hI.below

theorem PgD.eqv_refl (p : PgD) : p.eqv p := ⟨rfl, rfl, rfl, rfl⟩

/-- Two copies of one list are the same. -/
theorem eqPageS_self (ps : List PgD) (va vb : Value) (w : World) (ha : PgL w va ps) (hb : PgL w vb ps) (hl : ps.length ≤ 140737488351232) (f1 : ∀ p ∈ ps, p.xs.length ≤ 140737488351232) :
    Calls Try.prog 23 #[va, vb] w fun e w' => e = .returned (.bool true) ∧ Below w.heap.size w w' :=
  eqPageS_yes ps ps va vb w ha hb hl f1 rfl fun k _ _ => PgD.eqv_refl _

end Go.Proofs.Ytggbdmgonobefaa
