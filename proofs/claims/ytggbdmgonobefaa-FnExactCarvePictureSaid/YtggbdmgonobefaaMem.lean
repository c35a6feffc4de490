/-
  Slices that read as a list of cells; worlds below a block; small words for the walks.
  Conditions: none; plain lemmas over whatever program.
-/
import Derived.Test.YtggbdmgonobefaaMix
import Derived.Test.YtggbdmgonobefaaFlt

namespace Go.Proofs.Ytggbdmgonobefaa
set_option linter.unusedVariables false
set_option linter.unusedSimpArgs false
open Go.RowKit

/-- A float32 in a cell. -/
abbrev fv (x : Nat) : Value := .float .f32 x

/-- The slice value v reads as these cells (elements of one cell each). -/
def Sl (w : World) (v : Value) (cs : List Value) : Prop :=
  ∃ ad cap, v = .slice ad cs.length cap ∧ ∀ (i : Nat) c, cs[i]? = some c → ∃ b off, ad = some ⟨b, off, none⟩ ∧ w.cell? ⟨b, off + i, none⟩ = some c

theorem Sl.nil (w : World) (cap : Nat) (ad : Option Addr) : Sl w (.slice ad 0 cap) [] := ⟨ad, cap, rfl, fun i c h => by simp at h⟩

theorem Sl.mono {w w' : World} {v : Value} {cs : List Value} (h : Sl w v cs) (hb : Below w.heap.size w w') : Sl w' v cs := by
  obtain ⟨ad, cap, hv, hc⟩ := h
  refine ⟨ad, cap, hv, fun i c hi => ?_⟩
  obtain ⟨b, off, ha, hcell⟩ := hc i c hi
  exact ⟨b, off, ha, (hb.cell (World.block_lt_of_cell? w _ hcell)).trans hcell⟩

theorem Sl.keep {w w' : World} {v : Value} {cs : List Value} (h : Sl w v cs) (hb : ∀ b o, b < w.heap.size → w'.cell? ⟨b, o, none⟩ = w.cell? ⟨b, o, none⟩) : Sl w' v cs := by
  obtain ⟨ad, cap, hv, hc⟩ := h
  refine ⟨ad, cap, hv, fun i c hi => ?_⟩
  obtain ⟨b, off, ha, hcell⟩ := hc i c hi
  exact ⟨b, off, ha, (hb b _ (World.block_lt_of_cell? w _ hcell)).trans hcell⟩

theorem Sl.drew {w : World} {v : Value} {cs : List Value} (h : Sl w v cs) : Sl w.drew v cs := h.keep fun _ _ _ => rfl
theorem Sl.drewN {w : World} {v : Value} {cs : List Value} (n : Nat) (h : Sl w v cs) : Sl (w.drewN n) v cs := h.keep fun _ _ _ => rfl
theorem Sl.alloc {w : World} {v : Value} {cs : List Value} (h : Sl w v cs) (o : Obj) : Sl (w.alloc o) v cs := h.keep fun b o' hb => World.cell?_alloc_past o _ _ hb

theorem Sl.at {w : World} {ad : Option Addr} {n cap : Nat} {cs : List Value} (h : Sl w (.slice ad n cap) cs) (i : Nat) (hi : i < n) :
    ∃ b off c, ad = some ⟨b, off, none⟩ ∧ cs[i]? = some c ∧ w.cell? ⟨b, off + i, none⟩ = some c ∧ b < w.heap.size := by
  obtain ⟨ad', cap', hv, hc⟩ := h
  simp only [Value.slice.injEq] at hv
  obtain ⟨rfl, rfl, rfl⟩ := hv
  obtain ⟨b, off, ha, hcell⟩ := hc i cs[i] (List.getElem?_eq_getElem hi)
  exact ⟨b, off, _, ha, List.getElem?_eq_getElem hi, hcell, World.block_lt_of_cell? w _ hcell⟩

theorem Sl.form {w : World} {v : Value} {cs : List Value} (h : Sl w v cs) : ∃ ad cap, v = .slice ad cs.length cap := by
  obtain ⟨ad, cap, hv, _⟩ := h
  exact ⟨ad, cap, hv⟩

theorem Sl.of_own {w : World} {base : Nat} {e : TypeId} {v : Value} {n : Nat} {cs : List Value} (h : w.ownsRow base e 1 v n cs) : Sl w v cs := by
  have hl : cs.length = n := by have := h.1; omega
  rcases h.2 with ⟨rfl, rfl⟩ | ⟨g, cap, cur, rfl, _⟩
  · have : cs = [] := List.eq_nil_of_length_eq_zero hl
    subst this
    exact Sl.nil _ _ _
  · refine ⟨some ⟨g, 0, none⟩, cap, by rw [hl], fun i c hi => ⟨g, 0, rfl, ?_⟩⟩
    have := h.cells (g := g) rfl i c hi
    rwa [show (⟨g, 0, none⟩ : Addr).add i = ⟨g, 0 + i, none⟩ by unfold Addr.add; split <;> simp_all] at this

/-- The old cells and marks, as rules for the walk. -/
theorem bcell {B : Nat} {W w1 : World} (hb : Below B W w1) : (∀ b o, b < B → w1.cell? ⟨b, o, none⟩ = W.cell? ⟨b, o, none⟩) ∧ (∀ b o, b < B → w1.frozen? ⟨b, o, none⟩ = W.frozen? ⟨b, o, none⟩) :=
  ⟨fun b o h => hb.cell (p := ⟨b, o, none⟩) h, fun b o h => hb.frozen (p := ⟨b, o, none⟩) h⟩

theorem Below.drewN' {B : Nat} {a w : World} (n : Nat) (h : Below B a w) : Below B a (w.drewN n) := ⟨h.os, h.tape, h.output, h.size, h.block⟩

/-- A fact behind a name. -/
theorem hid {p : Prop} (h : p) : Hid p := h

theorem ret_bool {a b : Bool} (h : a = b) : Ending.returned (.bool a) = .returned (.bool b) := by rw [h]
theorem ret_int {k : IntKind} {a b : Int} (h : a = b) : Ending.returned (.int k a) = .returned (.int k b) := by rw [h]

/-- The lights of a list, canonical. -/
def nl (xs : List Nat) : List Nat := xs.map (Fl.nf .f32)

end Go.Proofs.Ytggbdmgonobefaa
