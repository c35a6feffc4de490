/-
  A desk's six cells.
  Conditions: none.
-/
import Derived.Test.YtggbdmgonobefaaDk
namespace Go.Proofs.Ytggbdmgonobefaa
open Go.RowKit
set_option linter.unusedVariables false
set_option linter.unusedSimpArgs false

theorem DkV.form {w : World} {v : Value} {d : DkD} (h : DkV w v d) : ∃ a1 c1 a2 c2 a3 c3 a4 c4, v = .agg #[.int .i64 d.W, .int .i64 d.H, .slice a1 d.xs.length c1, .slice a2 d.cx.length c2, .slice a3 d.cy.length c3, .slice a4 d.ps.length c4] := by
  obtain ⟨lv, xv, yv, pv, rfl, h1, h2, h3, h4⟩ := h
  obtain ⟨a1, c1, rfl⟩ := h1.form
  obtain ⟨a2, c2, rfl⟩ := h2.form
  obtain ⟨a3, c3, rfl⟩ := h3.form
  obtain ⟨a4, c4, rfl⟩ := h4.form
  rw [List.length_map, List.length_map, List.length_map]
  exact ⟨a1, c1, a2, c2, a3, c3, a4, c4, rfl⟩

end Go.Proofs.Ytggbdmgonobefaa
