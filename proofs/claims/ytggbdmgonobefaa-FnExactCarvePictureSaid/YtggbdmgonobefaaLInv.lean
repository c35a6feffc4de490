/-
  What a law holds while it goes: its boxes, and the rows of its own, all apart.
  Conditions: none.
-/
import Derived.Test.YtggbdmgonobefaaLfeather
import Derived.Test.YtggbdmgonobefaaL4
namespace Go.Proofs.Ytggbdmgonobefaa
open Go.RowKit
set_option linter.unusedVariables false
set_option linter.unusedSimpArgs false

abbrev BoxD := Nat × List Value × TypeId
abbrev OwnD := Value × TypeId × List Value

def Sep (a b : OwnD) : Prop := ∀ k, a.1.ownBlock = some k → b.1.ownBlock = some k → False

structure Inv (w0 w : World) (bs : List BoxD) (os : List OwnD) : Prop where
  below : Below w0.heap.size w0 w
  box : ∀ b ∈ bs, Blk w b.1 b.2.1 b.2.2 ∧ w0.heap.size ≤ b.1
  own : ∀ o ∈ os, w.ownsRow w0.heap.size o.2.1 1 o.1 o.2.2.length o.2.2
  sep : os.Pairwise Sep
  apart : ∀ b ∈ bs, ∀ o ∈ os, some b.1 ≠ o.1.ownBlock

theorem Sep.symm {a b : OwnD} (h : Sep a b) : Sep b a := fun k h1 h2 => h k h2 h1

theorem Inv.start (w : World) : Inv w w [] [] := ⟨Below.refl _ _, by simp, by simp, .nil, by simp⟩

theorem Inv.call {w0 w w' : World} {bs : List BoxD} {os : List OwnD} (h : Inv w0 w bs os) (hb : Below w.heap.size w w') : Inv w0 w' bs os :=
  ⟨h.below.trans (hb.mono h.below.size), fun b m => ⟨(h.box b m).1.below hb (h.box b m).1.lt, (h.box b m).2⟩, fun o m => own_below (h.own o m) hb, h.sep, h.apart⟩

theorem Inv.alloc {w0 w : World} {bs : List BoxD} {os : List OwnD} (h : Inv w0 w bs os) (cs : List Value) (t : TypeId) :
    Inv w0 (w.alloc (.cells cs.toArray t)) ((w.heap.size, cs, t) :: bs) os := by
  refine ⟨h.below.alloc h.below.size _, ?_, fun o m => (h.own o m).alloc _, h.sep, ?_⟩
  · intro b m
    rcases List.mem_cons.1 m with rfl | m
    · exact ⟨Blk.new _ _ _, h.below.size⟩
    · exact ⟨(h.box b m).1.alloc _, (h.box b m).2⟩
  · intro b m o mo
    rcases List.mem_cons.1 m with rfl | m
    · exact own_block_lt (h.own o mo)
    · exact h.apart b m o mo

theorem Inv.fresh {w0 w w' : World} {bs : List BoxD} {os : List OwnD} (h : Inv w0 w bs os) (hb : Below w.heap.size w w') {v : Value} {e : TypeId} {n : Nat} {cs : List Value} (ho : w'.ownsRow w.heap.size e 1 v n cs) :
    Inv w0 w' bs ((v, e, cs) :: os) := by
  have hn : cs.length = n := by have := ho.1; omega
  have h' := h.call hb
  refine ⟨h'.below, h'.box, ?_, ?_, ?_⟩
  · intro o m
    rcases List.mem_cons.1 m with rfl | m
    · show w'.ownsRow w0.heap.size e 1 v cs.length cs
      rw [hn]
      exact own_base h.below.size ho
    · exact h'.own o m
  · refine List.pairwise_cons.2 ⟨fun o m k h1 h2 => ?_, h.sep⟩
    have a := (h.own o m).lt k h2
    have b := ho.lt k h1
    omega
  · intro b m o mo
    rcases List.mem_cons.1 mo with rfl | mo
    · exact own_block_ge ho (h.box b m).1.lt
    · exact h.apart b m o mo

theorem Inv.blk {w0 w : World} {bs : List BoxD} {os : List OwnD} (h : Inv w0 w bs os) (i : Nat) {b : Nat} {cs : List Value} {t : TypeId} (hi : bs[i]? = some (b, cs, t)) : Blk w b cs t :=
  (h.box (b, cs, t) (List.mem_of_getElem? hi)).1
theorem Inv.row {w0 w : World} {bs : List BoxD} {os : List OwnD} (h : Inv w0 w bs os) (i : Nat) {v : Value} {e : TypeId} {cs : List Value} (hi : os[i]? = some (v, e, cs)) : w.ownsRow w0.heap.size e 1 v cs.length cs :=
  h.own (v, e, cs) (List.mem_of_getElem? hi)
theorem Inv.sl {w0 w : World} {bs : List BoxD} {os : List OwnD} (h : Inv w0 w bs os) (i : Nat) {v : Value} {e : TypeId} {cs : List Value} (hi : os[i]? = some (v, e, cs)) : Sl w v cs := Sl.of_own (h.row i hi)
theorem Inv.arg {w0 w : World} {bs : List BoxD} {os : List OwnD} (h : Inv w0 w bs os) {v : Value} {cs : List Value} (hs : Sl w0 v cs) : Sl w v cs := hs.mono h.below

theorem pairwise_apart {os : List OwnD} (h : os.Pairwise Sep) {i j : Nat} {a b : OwnD} (hi : os[i]? = some a) (hj : os[j]? = some b) (hne : i ≠ j) : Sep a b := by
  obtain ⟨li, rfl⟩ := List.getElem?_eq_some_iff.1 hi
  obtain ⟨lj, rfl⟩ := List.getElem?_eq_some_iff.1 hj
  rw [List.pairwise_iff_getElem] at h
  rcases Nat.lt_or_gt_of_ne hne with hlt | hlt
  · exact h i j li lj hlt
  · exact (h j i lj li hlt).symm

/-- A row of its own is written over: all else stays. -/
theorem Inv.mark {w0 w w' : World} {bs : List BoxD} {os : List OwnD} (h : Inv w0 w bs os) (i : Nat) {v : Value} {e : TypeId} {cs cs' : List Value} (hi : os[i]? = some (v, e, cs)) (hg : w.grownBy w' v.ownBlock)
    (ho : w'.ownsRow w0.heap.size e 1 v cs.length cs') : Inv w0 w' bs (os.set i (v, e, cs')) := by
  have hli := (List.getElem?_eq_some_iff.1 hi).1
  have hn : cs'.length = cs.length := by have := ho.1; omega
  have hget : ∀ (j : Nat) (o : OwnD), (os.set i (v, e, cs'))[j]? = some o → (j = i ∧ o = (v, e, cs')) ∨ (j ≠ i ∧ os[j]? = some o) := by
    intro j o hj
    by_cases hji : j = i
    · subst hji
      rw [List.getElem?_set_self hli] at hj
      exact .inl ⟨rfl, (Option.some.inj hj).symm⟩
    · rw [List.getElem?_set_ne (fun e => hji e.symm)] at hj
      exact .inr ⟨hji, hj⟩
  refine ⟨below_grown h.below hg (h.row i hi) (Nat.le_refl _) h.below.size, ?_, ?_, ?_, ?_⟩
  · intro b m
    exact ⟨(h.box b m).1.grown hg (h.apart b m _ (List.mem_of_getElem? hi)), (h.box b m).2⟩
  · intro o m
    obtain ⟨j, hj⟩ := List.mem_iff_getElem?.1 m
    rcases hget j o hj with ⟨rfl, rfl⟩ | ⟨hne, hj⟩
    · show w'.ownsRow w0.heap.size e 1 v cs'.length cs'
      rw [hn]; exact ho
    · refine own_grown (h.own o (List.mem_of_getElem? hj)) hg ?_
      have hs := pairwise_apart h.sep hj hi hne
      cases hv : o.1.ownBlock with
      | none => exact .inl rfl
      | some k => exact .inr fun hx => hs k hv hx.symm
  · rw [List.pairwise_iff_getElem]
    intro a b ha hb hab
    have ea : (os.set i (v, e, cs'))[a]? = some (os.set i (v, e, cs'))[a] := List.getElem?_eq_getElem ha
    have eb : (os.set i (v, e, cs'))[b]? = some (os.set i (v, e, cs'))[b] := List.getElem?_eq_getElem hb
    rcases hget a _ ea with ⟨h1, h2⟩ | ⟨h1, h2⟩ <;> rcases hget b _ eb with ⟨h3, h4⟩ | ⟨h3, h4⟩
    · omega
    · rw [h2]
      exact fun k => (pairwise_apart h.sep hi h4 (fun e => h3 e.symm)) k
    · rw [h4]
      exact fun k => (pairwise_apart h.sep h2 hi h1) k
    · exact pairwise_apart h.sep h2 h4 (by omega)
  · intro b m o mo
    obtain ⟨j, hj⟩ := List.mem_iff_getElem?.1 mo
    rcases hget j o hj with ⟨rfl, rfl⟩ | ⟨hne, hj⟩
    · have := h.apart b m (v, e, cs) (List.mem_of_getElem? hi)
      exact this
    · exact h.apart b m o (List.mem_of_getElem? hj)

end Go.Proofs.Ytggbdmgonobefaa
