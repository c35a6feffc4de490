/-
  Boxes and rows that lie apart: a store into the one leaves the other alone.
  Conditions: none.
-/
import Derived.Test.YtjennldpjfeppaaLInv
namespace Go.Proofs.Ytjennldpjfeppaa
open Go.RowKit
set_option linter.unusedVariables false
set_option linter.unusedSimpArgs false

theorem Inv.sepbox {w0 w : World} {bs : List BoxD} {os : List OwnD} (h : Inv w0 w bs os) (i j : Nat) {b : Nat} {cs : List Value} {t : TypeId} {v : Value} {e : TypeId} {ds : List Value} (hi : bs[i]? = some (b, cs, t)) (hj : os[j]? = some (v, e, ds)) : some b ≠ v.ownBlock :=
  h.apart (b, cs, t) (List.mem_of_getElem? hi) (v, e, ds) (List.mem_of_getElem? hj)

theorem own_setCell_ne {w : World} {base : Nat} {e : TypeId} {v : Value} {n : Nat} {cs : List Value} (h : w.ownsRow base e 1 v n cs) (b o : Nat) (u : Value) (hne : some b ≠ v.ownBlock) : (w.setCell ⟨b, o, none⟩ u).ownsRow base e 1 v n cs :=
  h.kept (row := some b) ⟨rfl, rfl, rfl, by simp, fun k _ hk => heap_setCell_other w ⟨b, o, none⟩ k u (fun e => hk (by simp [e]))⟩ (.inr fun h => hne h.symm)

end Go.Proofs.Ytjennldpjfeppaa
