/-
  Boxes and rows that lie apart: a store into the one leaves the other alone.
  Conditions: none.
-/
import Derived.Test.YtggbdmgonobefaaLInv
namespace Go.Proofs.Ytggbdmgonobefaa
open Go.RowKit
set_option linter.unusedVariables false
set_option linter.unusedSimpArgs false

theorem Inv.sepbox {w0 w : World} {bs : List BoxD} {os : List OwnD} (h : Inv w0 w bs os) (i j : Nat) {b : Nat} {cs : List Value} {t : TypeId} {v : Value} {e : TypeId} {ds : List Value} (hi : bs[i]? = some (b, cs, t)) (hj : os[j]? = some (v, e, ds)) : some b ≠ v.ownBlock :=
  h.apart (b, cs, t) (List.mem_of_getElem? hi) (v, e, ds) (List.mem_of_getElem? hj)

theorem own_setCell_ne {w : World} {base : Nat} {e : TypeId} {v : Value} {n : Nat} {cs : List Value} (h : w.ownsRow base e 1 v n cs) (b o : Nat) (u : Value) (hne : some b ≠ v.ownBlock) : (w.setCell ⟨b, o, none⟩ u).ownsRow base e 1 v n cs :=
  h.kept (row := some b) ⟨rfl, rfl, rfl, by simp, fun k _ hk => heap_setCell_other w ⟨b, o, none⟩ k u (fun e => hk (by simp [e]))⟩ (.inr fun h => hne h.symm)

/-- A light out of a list that reads. -/
theorem Sl.light {w : World} {ad : Option Addr} {n cap : Nat} {xs : List Nat} (h : Sl w (.slice ad n cap) (xs.map fv)) (k : Nat) (hk : k < n) (hkx : k < xs.length) : ∃ b off, ad = some ⟨b, off, none⟩ ∧ w.cell? ⟨b, off + k, none⟩ = some (fv xs[k]) ∧ b < w.heap.size := by
  obtain ⟨b, off, c, h1, h2, h3, h4⟩ := h.at k hk
  refine ⟨b, off, h1, ?_, h4⟩
  rw [h3, ← h2, List.getElem?_map, List.getElem?_eq_getElem hkx]
  rfl

theorem Inv.box_ne {w0 w : World} {bs : List BoxD} {os : List OwnD} (h : Inv w0 w bs os) : ∀ x ∈ bs, x.1 ≠ w.heap.size := fun x hx he => by
  have := (h.box x hx).1.lt
  omega

/-- A cell of the newest box is written over. -/
theorem Inv.sethead {w0 w : World} {b : Nat} {cs : List Value} {t : TypeId} {bs : List BoxD} {os : List OwnD} (h : Inv w0 w ((b, cs, t) :: bs) os) (hne : ∀ x ∈ bs, x.1 ≠ b) (j : Nat) (u : Value) : Inv w0 (w.setCell ⟨b, j, none⟩ u) ((b, cs.set j u, t) :: bs) os := by
  have hb := h.box (b, cs, t) (List.mem_cons_self ..)
  refine ⟨h.below.setCell hb.2 _, fun x hx => ?_, fun o ho => ?_, h.sep, fun x hx o ho => ?_⟩
  · rcases List.mem_cons.1 hx with rfl | hx
    · exact ⟨hb.1.set j u, hb.2⟩
    · have hx' := h.box x (List.mem_cons_of_mem _ hx)
      exact ⟨hx'.1.other _ _ (hne x hx), hx'.2⟩
  · exact own_setCell_ne (h.own o ho) b j u (h.apart (b, cs, t) (List.mem_cons_self ..) o ho)
  · rcases List.mem_cons.1 hx with rfl | hx
    · exact h.apart (b, cs, t) (List.mem_cons_self ..) o ho
    · exact h.apart x (List.mem_cons_of_mem _ hx) o ho

/-- Some rows are let go. -/
theorem Inv.rowsub {w0 w : World} {bs : List BoxD} {os os' : List OwnD} (h : Inv w0 w bs os) (hs : os'.Sublist os) : Inv w0 w bs os' :=
  ⟨h.below, h.box, fun o ho => h.own o (hs.subset ho), h.sep.sublist hs, fun b hb o ho => h.apart b hb o (hs.subset ho)⟩

end Go.Proofs.Ytggbdmgonobefaa
