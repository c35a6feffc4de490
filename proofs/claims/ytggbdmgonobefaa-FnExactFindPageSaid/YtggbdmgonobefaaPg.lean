/-
  Lists of pages as rows of cells: four cells a page.
  Conditions: none; plain lemmas.
-/
import Derived.Test.YtggbdmgonobefaaInvX
namespace Go.Proofs.Ytggbdmgonobefaa
open Go.RowKit
set_option linter.unusedVariables false
set_option linter.unusedSimpArgs false

structure PgD where
  m : ByteArray
  W : Int
  H : Int
  xs : List Nat

/-- A page's four cells at an address, and its lights. -/
structure PgAt (w : World) (b o : Nat) (p : PgD) (lv : Value) : Prop where
  c0 : w.cell? ⟨b, o, none⟩ = some (.string p.m)
  c1 : w.cell? ⟨b, o + 1, none⟩ = some (.int .i64 p.W)
  c2 : w.cell? ⟨b, o + 2, none⟩ = some (.int .i64 p.H)
  c3 : w.cell? ⟨b, o + 3, none⟩ = some lv
  sl : Sl w lv (p.xs.map fv)

theorem PgAt.lt {w : World} {b o : Nat} {p : PgD} {lv : Value} (h : PgAt w b o p lv) : b < w.heap.size := World.block_lt_of_cell? w _ h.c0
theorem PgAt.mono {w w' : World} {b o : Nat} {p : PgD} {lv : Value} (h : PgAt w b o p lv) (hb : Below w.heap.size w w') : PgAt w' b o p lv :=
  ⟨(hb.cell h.lt).trans h.c0, (hb.cell h.lt).trans h.c1, (hb.cell h.lt).trans h.c2, (hb.cell h.lt).trans h.c3, h.sl.mono hb⟩
theorem PgAt.pic {w : World} {b o : Nat} {p : PgD} {lv : Value} (h : PgAt w b o p lv) : PicAt w b (o + 1) p.W p.H lv p.xs := ⟨h.c1, h.c2, h.c3, h.sl⟩

/-- The slice value v reads as these pages. -/
def PgL (w : World) (v : Value) (ps : List PgD) : Prop :=
  ∃ ad cap, v = .slice ad ps.length cap ∧ ∀ (i : Nat) p, ps[i]? = some p → ∃ b off lv, ad = some ⟨b, off, none⟩ ∧ PgAt w b (off + i * 4) p lv

theorem PgL.mono {w w' : World} {v : Value} {ps : List PgD} (h : PgL w v ps) (hb : Below w.heap.size w w') : PgL w' v ps := by
  obtain ⟨ad, cap, hv, hc⟩ := h
  refine ⟨ad, cap, hv, fun i p hi => ?_⟩
  obtain ⟨b, off, lv, ha, hp⟩ := hc i p hi
  exact ⟨b, off, lv, ha, hp.mono hb⟩
theorem PgL.form {w : World} {v : Value} {ps : List PgD} (h : PgL w v ps) : ∃ ad cap, v = .slice ad ps.length cap := by
  obtain ⟨ad, cap, hv, _⟩ := h
  exact ⟨ad, cap, hv⟩
theorem PgL.at {w : World} {ad : Option Addr} {n cap : Nat} {ps : List PgD} (h : PgL w (.slice ad n cap) ps) (i : Nat) {p : PgD} (hi : ps[i]? = some p) :
    ∃ b off lv, ad = some ⟨b, off, none⟩ ∧ PgAt w b (off + i * 4) p lv := by
  obtain ⟨ad', cap', hv, hc⟩ := h
  simp only [Value.slice.injEq] at hv
  obtain ⟨rfl, rfl, rfl⟩ := hv
  exact hc i p hi

/-- What is left of a measure behind a page, and behind a list of pages; less than nought: too much. -/
def szPg (left : Int) (p : PgD) : Int := if left < p.m.size then -1 else szB (left - p.m.size) p.xs.length
def szPL : Int → List PgD → Int
  | left, [] => left
  | left, p :: ps => if szPg left p < 0 then -1 else szPL (szPg left p) ps
def szPS (left : Int) (ps : List PgD) : Int := if left < ps.length then -1 else szPL (left - ps.length) ps

theorem szPg_le {left : Int} {p : PgD} (h : ¬ szPg left p < 0) : szPg left p ≤ left ∧ (p.m.size : Int) ≤ left ∧ (p.xs.length : Int) ≤ left := by
  unfold szPg at *
  split at h
  · omega
  · rename_i h1
    rw [if_neg h1]
    unfold szB at *
    split at h
    · omega
    · rename_i h2
      rw [if_neg h2]
      omega

theorem szPL_le : ∀ {ps : List PgD} {left : Int}, 0 ≤ left → ¬ szPL left ps < 0 → szPL left ps ≤ left ∧ ∀ p ∈ ps, (p.m.size : Int) ≤ left ∧ (p.xs.length : Int) ≤ left
  | [], left, h0, h => ⟨Int.le_refl _, by simp⟩
  | p :: ps, left, h0, h => by
    unfold szPL at h ⊢
    by_cases h1 : szPg left p < 0
    · rw [if_pos h1] at h
      omega
    · rw [if_neg h1] at h ⊢
      obtain ⟨a, b, c⟩ := szPg_le h1
      obtain ⟨d, e⟩ := szPL_le (by omega) h
      refine ⟨by omega, fun q hq => ?_⟩
      rcases List.mem_cons.1 hq with rfl | hq
      · exact ⟨b, c⟩
      · have := e q hq
        omega

theorem szPS_le {ps : List PgD} {left : Int} (h0 : 0 ≤ left) (h : ¬ szPS left ps < 0) : szPS left ps ≤ left ∧ (ps.length : Int) ≤ left ∧ ∀ p ∈ ps, (p.m.size : Int) ≤ left ∧ (p.xs.length : Int) ≤ left := by
  unfold szPS at h ⊢
  by_cases h1 : left < ps.length
  · rw [if_pos h1] at h
    omega
  · rw [if_neg h1] at h ⊢
    obtain ⟨a, b⟩ := szPL_le (by omega) h
    refine ⟨by omega, by omega, fun p hp => ?_⟩
    have := b p hp
    omega

/-- The same lights, up to the NaN's bits. -/
def PgD.eqv (p q : PgD) : Prop := p.m = q.m ∧ p.W = q.W ∧ p.H = q.H ∧ nl p.xs = nl q.xs

/-- A page's words fit. -/
def PgD.fits (p : PgD) : Prop := p.m.size ≤ 140737488351232 ∧ p.xs.length ≤ 140737488351232

/-- A page's lengths and words fit. -/
def PgD.ok (p : PgD) : Prop := p.m.size ≤ 140737488351232 ∧ p.xs.length ≤ 140737488351232 ∧ ∀ x ∈ p.xs, x < 4294967296

end Go.Proofs.Ytggbdmgonobefaa
