/-
  A desk by value opened, out of a reading, with its lengths under the form's reach.
  Conditions: the reading, and each weight of it within the reach.
-/
import Derived.Test.YtggbdmgonobefaaOpenPS
import Derived.Test.YtggbdmgonobefaaDk
namespace Go.Proofs.Ytggbdmgonobefaa
open Go.RowKit
set_option linter.unusedVariables false
set_option linter.unusedSimpArgs false
open Go.ChangeShapes Go.WideShapes Go.ChangeAt Go.Joins Go.Deep

theorem Try.cellsCurve : Try.prog.cellsOf 26 = 2 := by kernel_rfl
theorem Try.cellsDesk : Try.prog.cellsOf 29 = 6 := by kernel_rfl
theorem Try.cellsPages : Try.prog.cellsOf 27 = 1 := by kernel_rfl

section
variable {H : Type} {enc : TypeId × Value → H} {w : World} {base : Nat} {spare : Nat → Bool} {held : Bool}

/-- Two cells that read as a curve. -/
theorem curve_cells {n : Nat} {c1 c2 : Value} {y : DataW H × List MemPlace} (h : DataW.trod enc Try.prog w base spare held n 26 [c1, c2] = some y) (hw : ∀ n ∈ y.1.weights Try.prog 26, n ≤ reachBytes) :
    ∃ (xs ys : List Nat), Sl w c1 (xs.map fv) ∧ xs.length ≤ 140737488351232 ∧ (∀ x ∈ xs, x < 4294967296) ∧ Sl w c2 (ys.map fv) ∧ ys.length ≤ 140737488351232 ∧ ∀ x ∈ ys, x < 4294967296 := by
  obtain ⟨y0, y1, k, rfl, -, h0, h1⟩ := trod_struct2 Try.underlying26 h
  obtain ⟨xs, hx, hl, ho⟩ := open_cells fv _ Try.underlying22 Try.cellsF (fun n u y h => trod_f32 Try.underlying52 h) Try.bytesF (show DataW.trod enc Try.prog w base spare held k 22 [c1] = some y0 from by simpa [Try.cellsS] using h0) (fun n hn => hw n (by
    simp only [DataW.weights, Try.underlying26]
    simp [DataW.weightsEach, hn]))
  obtain ⟨ys, hy, hm, hp⟩ := open_cells fv _ Try.underlying22 Try.cellsF (fun n u y h => trod_f32 Try.underlying52 h) Try.bytesF (show DataW.trod enc Try.prog w base spare held k 22 [c2] = some y1 from by simpa [Try.cellsS] using h1) (fun n hn => hw n (by
    simp only [DataW.weights, Try.underlying26]
    simp [DataW.weightsEach, hn]))
  exact ⟨xs, ys, hx, hl, fun x hx => wf_f32 (ho x hx), hy, hm, fun x hx => wf_f32 (hp x hx)⟩

set_option maxRecDepth 100000 in
/-- A desk by value. -/
theorem open_desk {r : Reach} {b0 : Nat} {v : Value} {d : DataW H} {p : List MemPlace} (hv : Value.okWide Try.prog w r b0 29 v) (h : DataW.Trod enc Try.prog w base spare held 29 v d p) (hw : ∀ n ∈ d.weights Try.prog 29, n ≤ reachBytes) :
    ∃ e : DkD, DkV w v e ∧ e.ok := by
  obtain ⟨cs, rfl, hsz⟩ := okWide_struct Try.underlying29 hv
  rw [Try.cellsDesk] at hsz
  obtain ⟨c0, c1, c2, c3, c4, c5, hcs⟩ : ∃ c0 c1 c2 c3 c4 c5, cs = #[c0, c1, c2, c3, c4, c5] := by
    obtain ⟨l⟩ := cs
    match l, hsz with
    | [c0, c1, c2, c3, c4, c5], _ => exact ⟨c0, c1, c2, c3, c4, c5, rfl⟩
  subst hcs
  obtain ⟨fuel, hf⟩ := h
  obtain ⟨y0, y1, y2, n, hx, -, h0, h1, h2⟩ := Go.Deep.trod_struct3 Try.underlying29 hf
  simp only [Prod.mk.injEq] at hx
  obtain ⟨rfl, -⟩ := hx
  obtain ⟨W, H', xs, rfl, rfl, s1, l1, f1⟩ := pic_cells_wf (show DataW.trod enc Try.prog w base spare held n 24 [c0, c1, c2] = some y0 from by simpa [Try.cellsPic, Value.cells] using h0) (fun n hn => hw n (by
    simp only [DataW.weights, Try.underlying29]
    simp [DataW.weightsEach, hn]))
  obtain ⟨cx, cy, s2, l2, f2, s3, l3, f3⟩ := curve_cells (show DataW.trod enc Try.prog w base spare held n 26 [c3, c4] = some y1 from by simpa [Try.cellsCurve, Value.cells] using h1) (fun n hn => hw n (by
    simp only [DataW.weights, Try.underlying29]
    simp [DataW.weightsEach, hn]))
  obtain ⟨ps, s4, l4, f4⟩ := open_pages_cell (show DataW.trod enc Try.prog w base spare held n 27 [c5] = some y2 from by simpa [Try.cellsPages, Value.cells] using h2) (fun n hn => hw n (by
    simp only [DataW.weights, Try.underlying29]
    simp [DataW.weightsEach, hn]))
  exact ⟨⟨W, H', xs, cx, cy, ps⟩, ⟨c2, c3, c4, c5, rfl, s1, s2, s3, s4⟩, ⟨l1, l2, l3, l4, f1, f2, f3, f4⟩⟩
end

end Go.Proofs.Ytggbdmgonobefaa
