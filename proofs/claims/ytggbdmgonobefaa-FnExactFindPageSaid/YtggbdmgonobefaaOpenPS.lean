/-
  A list of pages opened, out of a reading, with its lengths under the form's reach.
  Conditions: the reading, and each weight of it within the reach.
-/
import Derived.Test.YtggbdmgonobefaaOpenP
import Derived.Test.YtggbdmgonobefaaPg
namespace Go.Proofs.Ytggbdmgonobefaa
open Go.RowKit
set_option linter.unusedVariables false
set_option linter.unusedSimpArgs false
open Go.ChangeShapes Go.WideShapes Go.ChangeAt Go.Joins Go.Deep

theorem Try.bytesPage : 1 ≤ Try.prog.bytesOf 92 := of_decide_eq_true (by kernel_rfl)

theorem wf_f32 {a : Nat} (h : (Lit.float .f32 a).wf = true) : a < 4294967296 := by
  simpa [Lit.wf] using h

section
variable {H : Type} {enc : TypeId × Value → H} {w : World} {base : Nat} {spare : Nat → Bool} {held : Bool}

/-- Three cells that read as a picture, with its words. -/
theorem pic_cells_wf {n : Nat} {c1 c2 c3 : Value} {y : DataW H × List MemPlace} (h : DataW.trod enc Try.prog w base spare held n 24 [c1, c2, c3] = some y) (hw : ∀ n ∈ y.1.weights Try.prog 24, n ≤ reachBytes) :
    ∃ (W H' : Int) (xs : List Nat), c1 = .int .i64 W ∧ c2 = .int .i64 H' ∧ Sl w c3 (xs.map fv) ∧ xs.length ≤ 140737488351232 ∧ ∀ x ∈ xs, x < 4294967296 := by
  obtain ⟨y0, y1, y2, k, rfl, -, h0, h1, h2⟩ := Go.Deep.trod_struct3 Try.underlying24 h
  obtain ⟨W, rfl, hW⟩ := trod_i64 Try.underlying2 (show DataW.trod enc Try.prog w base spare held k 2 [c1] = some y0 from by simpa [Try.cellsI] using h0)
  obtain ⟨H', rfl, hH⟩ := trod_i64 Try.underlying2 (show DataW.trod enc Try.prog w base spare held k 2 [c2] = some y1 from by simpa [Try.cellsI] using h1)
  obtain ⟨xs, hx, hl, ho⟩ := open_cells fv _ Try.underlying22 Try.cellsF (fun n u y h => trod_f32 Try.underlying52 h) Try.bytesF (show DataW.trod enc Try.prog w base spare held k 22 [c3] = some y2 from by simpa [Try.cellsS] using h2) (fun n hn => hw n (by
    simp only [DataW.weights, Try.underlying24]
    simp [DataW.weightsEach, hn]))
  exact ⟨W, H', xs, rfl, rfl, hx, hl, fun x hx => wf_f32 (ho x hx)⟩

set_option maxRecDepth 100000 in
/-- Four cells that read as a page. -/
theorem page_cells {n : Nat} {cs : List Value} {y : DataW H × List MemPlace} (h : DataW.trod enc Try.prog w base spare held n 92 cs = some y) (hw : ∀ n ∈ y.1.weights Try.prog 92, n ≤ reachBytes) :
    ∃ (p : PgD) (lv : Value), cs = [.string p.m, .int .i64 p.W, .int .i64 p.H, lv] ∧ Sl w lv (p.xs.map fv) ∧ p.ok := by
  obtain ⟨y0, y1, n, rfl, hlen, h0, h1⟩ := trod_struct2 Try.underlying92 h
  rw [Try.cellsPage] at hlen
  obtain ⟨c0, c1, c2, c3, rfl⟩ : ∃ c0 c1 c2 c3, cs = [c0, c1, c2, c3] := by
    match cs, hlen with
    | [c0, c1, c2, c3], _ => exact ⟨c0, c1, c2, c3, rfl⟩
  obtain ⟨m, hm, hy0, hml⟩ := DataW.trod_string Try.underlying9 (show DataW.trod enc Try.prog w base spare held n 9 [c0] = some y0 from by simpa [Try.cellsStr] using h0)
  simp only [List.cons.injEq, and_true] at hm
  subst hm
  obtain ⟨W, H', xs, rfl, rfl, hx, hl, hwf⟩ := pic_cells_wf (show DataW.trod enc Try.prog w base spare held n 24 [c1, c2, c3] = some y1 from by simpa [Try.cellsPic] using h1) (fun n hn => hw n (by
    simp only [DataW.weights, Try.underlying92]
    simp [DataW.weightsEach, hn]))
  refine ⟨⟨m, W, H', xs⟩, c3, rfl, hx, ?_, hl, hwf⟩
  have := hw m.size (by
    simp only [DataW.weights, Try.underlying92]
    simp [DataW.weightsEach, hy0, DataW.weights])
  unfold reachBytes at this
  show m.size ≤ _
  omega

theorem weights_all {P : Program} {e : TypeId} : ∀ {ds : List (DataW H)} {d : DataW H}, d ∈ ds → ∀ n ∈ d.weights P e, n ∈ DataW.weightsAll P e ds
  | d' :: ds, d, hd, n, hn => by
    simp only [DataW.weightsAll]
    rcases List.mem_cons.1 hd with rfl | hd
    · exact List.mem_append_left _ hn
    · exact List.mem_append_right _ (weights_all hd n hn)

set_option maxRecDepth 100000 in
/-- One cell that reads as a list of pages. -/
theorem open_pages_cell {fuel : Nat} {v : Value} {x : DataW H × List MemPlace} (hf : DataW.trod enc Try.prog w base spare held fuel 27 [v] = some x) (hw : ∀ n ∈ x.1.weights Try.prog 27, n ≤ reachBytes) :
    ∃ ps : List PgD, PgL w v ps ∧ ps.length ≤ 140737488351232 ∧ ∀ p ∈ ps, p.ok := by
  rcases open_slice Try.underlying27 hf with ⟨hcs, -⟩ | ⟨a, len, cap, m, n, D, Pl, hcs, -, hlc, -, hm, hx0, hx⟩
  · simp only [List.cons.injEq, and_true] at hcs
    subst hcs
    exact ⟨[], ⟨none, 0, rfl, by simp⟩, by simp, by simp⟩
  · simp only [List.cons.injEq, and_true] at hcs
    subst hcs
    subst hx0
    have hlm : len ≤ m := by rw [hm]; split <;> omega
    rw [Try.cellsPage] at hx
    have hpg : ∀ i, i < len → ∃ (p : PgD) (lv : Value), w.cells? base (a.add (i * 4)) 4 = some [.string p.m, .int .i64 p.W, .int .i64 p.H, lv] ∧ Sl w lv (p.xs.map fv) ∧ p.ok := by
      intro i hi
      obtain ⟨cs', h1, h2⟩ := hx i (by omega)
      obtain ⟨p, lv, rfl, h3, h4⟩ := page_cells h2 (fun n hn => hw n (by
        simp only [DataW.weights, Try.underlying27]
        refine List.mem_cons_of_mem _ (List.mem_append_left _ (weights_all (d := D i) ?_ n hn))
        exact List.mem_map.2 ⟨i, List.mem_range.2 hi, rfl⟩))
      exact ⟨p, lv, h1, h3, h4⟩
    have hch : ∀ k, k ≤ len → ∃ ps : List PgD, ps.length = k ∧ (∀ i p, ps[i]? = some p → ∃ lv, w.cells? base (a.add (i * 4)) 4 = some [.string p.m, .int .i64 p.W, .int .i64 p.H, lv] ∧ Sl w lv (p.xs.map fv)) ∧ ∀ p ∈ ps, p.ok := by
      intro k
      induction k with
      | zero => exact fun _ => ⟨[], rfl, by simp, by simp⟩
      | succ k ih =>
        intro hk
        obtain ⟨ps, hl, hp, ho⟩ := ih (by omega)
        obtain ⟨p, lv, h1, h2, h3⟩ := hpg k (by omega)
        refine ⟨ps ++ [p], by simp [hl], fun i q hi => ?_, fun q hq => ?_⟩
        · by_cases hik : i < k
          · rw [List.getElem?_append_left (by omega)] at hi
            exact hp i q hi
          · have : i = k := by
              have := (List.getElem?_eq_some_iff.1 hi).1
              simp [hl] at this
              omega
            subst this
            rw [List.getElem?_append_right (by omega), hl, Nat.sub_self] at hi
            obtain rfl : p = q := by simpa using hi
            exact ⟨lv, h1, h2⟩
        · rcases List.mem_append.1 hq with h4 | h4
          · exact ho q h4
          · rw [List.mem_singleton.1 h4]; exact h3
    obtain ⟨ps, hl, hp, ho⟩ := hch len (Nat.le_refl _)
    have hb : len ≤ 140737488351232 := by
      have h1 := hw ((len + (m - len)) * Try.prog.bytesOf 92) (by simp [DataW.weights, Try.underlying27])
      have h2 : len * 1 ≤ (len + (m - len)) * Try.prog.bytesOf 92 := Nat.mul_le_mul (by omega) Try.bytesPage
      unfold reachBytes at h1
      omega
    refine ⟨ps, ⟨some a, cap, by rw [hl], fun i p hi => ?_⟩, by omega, ho⟩
    obtain ⟨lv, h1, h2⟩ := hp i p hi
    have hi0 : i < len := by have := (List.getElem?_eq_some_iff.1 hi).1; omega
    obtain ⟨p0, lv0, g1, -, -⟩ := hpg 0 (by omega)
    obtain ⟨b, off, sp⟩ := a
    obtain ⟨-, -, g2⟩ := World.cells?_some g1
    have g3 := g2 0 (by omega)
    rw [Nat.zero_mul, show ((⟨b, off, sp⟩ : Addr).add 0).add 0 = ⟨b, off, sp⟩ from rfl] at g3
    obtain rfl := cell_spot g3
    obtain ⟨-, -, g4⟩ := World.cells?_some h1
    have hadd : ∀ x y : Nat, ((⟨b, off, none⟩ : Addr).add x).add y = ⟨b, off + x + y, none⟩ := fun x y => by unfold Addr.add; split <;> split <;> simp_all [Nat.add_assoc]
    refine ⟨b, off, lv, rfl, ?_, ?_, ?_, ?_, h2⟩
    · have := g4 0 (by omega); rw [hadd] at this; exact this
    · have := g4 1 (by omega); rw [hadd] at this; exact this
    · have := g4 2 (by omega); rw [hadd] at this; exact this
    · have := g4 3 (by omega); rw [hadd] at this; exact this
set_option maxRecDepth 100000 in
/-- A list of pages. -/
theorem open_pages {r : Reach} {b0 : Nat} {v : Value} {d : DataW H} {p : List MemPlace} (hv : Value.okWide Try.prog w r b0 27 v) (h : DataW.Trod enc Try.prog w base spare held 27 v d p) (hw : ∀ n ∈ d.weights Try.prog 27, n ≤ reachBytes) :
    ∃ ps : List PgD, PgL w v ps ∧ ps.length ≤ 140737488351232 ∧ ∀ p ∈ ps, p.ok := by
  obtain ⟨fuel, hf⟩ := h
  have hc : v.cells.toList = [v] := by
    simp only [Value.okWide, Try.underlying27, Cell.okWide] at hv
    cases v <;> simp_all [Cell.ok, Value.cells]
  rw [hc] at hf
  exact open_pages_cell hf hw
end

end Go.Proofs.Ytggbdmgonobefaa
