/-
  A picture that grows by appends: its block, its row, and what lay before, as one fact.
  Conditions: none.
-/
import Derived.Test.YtjennldpjfeppaaA11
namespace Go.Proofs.Ytjennldpjfeppaa
open Go.RowKit
set_option linter.unusedVariables false
set_option linter.unusedSimpArgs false

structure AppS (w3 wr : World) (B6 : Nat) (A B : Value) (j : Nat) (ad : Option Addr) (cap : Nat) (ys : List Nat) : Prop where
  blk : Blk wr B6 [A, B, .slice ad j cap] 24
  own : wr.ownsRow (B6 + 1) 53 1 (.slice ad j cap) j (ys.map fv)
  below : Below B6 w3 wr
  size : B6 + 1 ≤ wr.heap.size

theorem AppS.call {w3 wr w' : World} {B6 : Nat} {A B : Value} {j : Nat} {ad : Option Addr} {cap : Nat} {ys : List Nat} (h : AppS w3 wr B6 A B j ad cap ys) (hb : Below wr.heap.size wr w') : AppS w3 w' B6 A B j ad cap ys :=
  ⟨h.blk.below hb h.blk.lt, own_below h.own hb, h.below.trans (hb.mono (Nat.le_trans (Nat.le_succ _) h.size)), Nat.le_trans h.size hb.size⟩

theorem AppS.cellA {w3 wr w' : World} {B6 : Nat} {A B : Value} {j : Nat} {ad : Option Addr} {cap : Nat} {ys : List Nat} {r : Nat} (h : AppS w3 wr B6 A B j ad cap ys) (hg : (wr.alloc (.cells #[fv r] 53)).grownBy w' (Value.slice ad j cap).ownBlock) :
    w'.cell? ⟨B6, 2, none⟩ = some (.slice ad j cap) ∧ w'.frozen? ⟨B6, 2, none⟩ = false := by
  have hb := (h.blk.alloc (.cells #[fv r] 53)).grown hg (own_block_ge (h.own.alloc (.cells #[fv r] 53)) (by omega))
  exact ⟨hb.cell 2, hb.frozen 2⟩

theorem AppS.belowA {w3 wr w' : World} {B6 : Nat} {A B : Value} {j : Nat} {ad : Option Addr} {cap : Nat} {ys : List Nat} {r : Nat} (h : AppS w3 wr B6 A B j ad cap ys) (hg : (wr.alloc (.cells #[fv r] 53)).grownBy w' (Value.slice ad j cap).ownBlock) : Below B6 w3 w' :=
  below_grown (h.below.alloc (Nat.le_trans (Nat.le_succ _) h.size) _) hg (h.own.alloc (.cells #[fv r] 53)) (by omega) (by have := h.size; simp; omega)

theorem AppS.app {w3 wr w' : World} {B6 : Nat} {A B : Value} {j : Nat} {ad ad' : Option Addr} {cap cap' : Nat} {ys : List Nat} {r : Nat} (h : AppS w3 wr B6 A B j ad cap ys) (hg : (wr.alloc (.cells #[fv r] 53)).grownBy w' (Value.slice ad j cap).ownBlock)
    (ho : w'.ownsRow (B6 + 1) 53 1 (.slice ad' (j + 1) cap') (j + 1) (ys.map fv ++ [fv r])) : AppS w3 (w'.setCell ⟨B6, 2, none⟩ (.slice ad' (j + 1) cap')) B6 A B (j + 1) ad' cap' (ys ++ [r]) := by
  have ho1 := h.own.alloc (.cells #[fv r] 53)
  have hs := h.size
  refine ⟨((h.blk.alloc _).grown hg (own_block_ge ho1 (by omega))).set 2 _, ?_, (h.belowA hg).setCell (Nat.le_refl _) _, ?_⟩
  · rw [List.map_append]; exact ownsRow_setCell_below ho (by simp) _
  · have := hg.size
    simp at this ⊢
    omega

end Go.Proofs.Ytjennldpjfeppaa
