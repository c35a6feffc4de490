/-
  A page by value opened, out of a reading, with its lengths under the form's reach.
  Conditions: the reading, and each weight of it within the reach.
-/
import Derived.Test.YtggbdmgonobefaaOpen
namespace Go.Proofs.Ytggbdmgonobefaa
open Go.RowKit
set_option linter.unusedVariables false
set_option linter.unusedSimpArgs false
open Go.ChangeShapes Go.WideShapes Go.ChangeAt Go.Joins Go.Deep

theorem Try.cellsS : Try.prog.cellsOf 22 = 1 := by kernel_rfl
theorem Try.cellsStr : Try.prog.cellsOf 9 = 1 := by kernel_rfl
theorem Try.cellsPage : Try.prog.cellsOf 92 = 4 := by kernel_rfl

section
variable {H : Type} {enc : TypeId × Value → H} {w : World} {base : Nat} {spare : Nat → Bool} {held : Bool}

/-- Three cells that read as a picture. -/
theorem pic_cells {n : Nat} {c1 c2 c3 : Value} {y : DataW H × List MemPlace} (h : DataW.trod enc Try.prog w base spare held n 24 [c1, c2, c3] = some y) (hw : ∀ n ∈ y.1.weights Try.prog 24, n ≤ reachBytes) :
    ∃ (W H' : Int) (xs : List Nat), c1 = .int .i64 W ∧ c2 = .int .i64 H' ∧ Sl w c3 (xs.map fv) ∧ xs.length ≤ 140737488351232 := by
  obtain ⟨y0, y1, y2, k, rfl, -, h0, h1, h2⟩ := Go.Deep.trod_struct3 Try.underlying24 h
  obtain ⟨W, rfl, hW⟩ := trod_i64 Try.underlying2 (show DataW.trod enc Try.prog w base spare held k 2 [c1] = some y0 from by simpa [Try.cellsI] using h0)
  obtain ⟨H', rfl, hH⟩ := trod_i64 Try.underlying2 (show DataW.trod enc Try.prog w base spare held k 2 [c2] = some y1 from by simpa [Try.cellsI] using h1)
  obtain ⟨xs, hx, hl, ho⟩ := open_cells fv _ Try.underlying22 Try.cellsF (fun n u y h => trod_f32 Try.underlying52 h) Try.bytesF (show DataW.trod enc Try.prog w base spare held k 22 [c3] = some y2 from by simpa [Try.cellsS] using h2) (fun n hn => hw n (by
    simp only [DataW.weights, Try.underlying24]
    simp [DataW.weightsEach, hn]))
  exact ⟨W, H', xs, rfl, rfl, hx, hl⟩

set_option maxRecDepth 100000 in
/-- A page by value. -/
theorem open_page {r : Reach} {b0 : Nat} {v : Value} {d : DataW H} {p : List MemPlace} (hv : Value.okWide Try.prog w r b0 92 v) (h : DataW.Trod enc Try.prog w base spare held 92 v d p) (hw : ∀ n ∈ d.weights Try.prog 92, n ≤ reachBytes) :
    ∃ (m : ByteArray) (W H' : Int) (lv : Value) (xs : List Nat), v = .agg #[.string m, .int .i64 W, .int .i64 H', lv] ∧ Sl w lv (xs.map fv) ∧ xs.length ≤ 140737488351232 ∧ m.size ≤ 140737488351232 := by
  obtain ⟨cs, rfl, hsz⟩ := okWide_struct Try.underlying92 hv
  obtain ⟨c0, c1, c2, c3, rfl⟩ := array4 (hsz.trans Try.cellsPage)
  obtain ⟨fuel, hf⟩ := h
  obtain ⟨y0, y1, n, hx, -, h0, h1⟩ := trod_struct2 Try.underlying92 hf
  simp only [Prod.mk.injEq] at hx
  obtain ⟨rfl, -⟩ := hx
  obtain ⟨m, hm, hy0, hml⟩ := DataW.trod_string Try.underlying9 (show DataW.trod enc Try.prog w base spare held n 9 [c0] = some y0 from by simpa [Try.cellsStr, Value.cells] using h0)
  simp only [List.cons.injEq, and_true] at hm
  subst hm
  obtain ⟨W, H', xs, rfl, rfl, hx, hl⟩ := pic_cells (show DataW.trod enc Try.prog w base spare held n 24 [c1, c2, c3] = some y1 from by simpa [Try.cellsPic, Value.cells] using h1) (fun n hn => hw n (by
    simp only [DataW.weights, Try.underlying92]
    simp [DataW.weightsEach, hn]))
  refine ⟨m, W, H', c3, xs, rfl, hx, hl, ?_⟩
  have := hw m.size (by
    simp only [DataW.weights, Try.underlying92]
    simp [DataW.weightsEach, hy0, DataW.weights])
  unfold reachBytes at this
  omega
end

end Go.Proofs.Ytggbdmgonobefaa
