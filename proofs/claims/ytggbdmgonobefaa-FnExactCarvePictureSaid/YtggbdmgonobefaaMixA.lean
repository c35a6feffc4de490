/-
  append of one element to a slice that the call owns, in a drawn region and in a plain one; blocks that are known whole.
  Conditions: none; plain lemmas over whatever program.
-/
import Derived.Test.YtggbdmgonobefaaMixF
namespace Go.Proofs.Ytggbdmgonobefaa
open Go.RowKit
set_option linter.unusedVariables false
set_option linter.unusedSimpArgs false

/-! ### A block that is known whole -/

def Blk (w : World) (b : Nat) (cs : List Value) (t : TypeId) : Prop := w.heap[b]? = some (.cells cs.toArray t (0, 0))

theorem Blk.cell {w : World} {b : Nat} {cs : List Value} {t : TypeId} (h : Blk w b cs t) (j : Nat) : w.cell? ⟨b, j, none⟩ = cs[j]? := by
  unfold World.cell?
  rw [show w.heap[b]? = _ from h]
  simp
theorem Blk.frozen {w : World} {b : Nat} {cs : List Value} {t : TypeId} (h : Blk w b cs t) (j : Nat) : w.frozen? ⟨b, j, none⟩ = false := by
  unfold World.frozen?
  rw [show w.heap[b]? = _ from h]
  simp
theorem Blk.lt {w : World} {b : Nat} {cs : List Value} {t : TypeId} (h : Blk w b cs t) : b < w.heap.size := (Array.getElem?_eq_some_iff.1 h).1
theorem Blk.below {w w' : World} {b B : Nat} {cs : List Value} {t : TypeId} (h : Blk w b cs t) (hb : Below B w w') (hB : b < B) : Blk w' b cs t := (hb.block b hB).trans h
theorem Blk.alloc {w : World} {b : Nat} {cs : List Value} {t : TypeId} (h : Blk w b cs t) (o : Obj) : Blk (w.alloc o) b cs t := (Below.heap_alloc w o b h.lt).trans h
theorem Blk.new (w : World) (cs : List Value) (t : TypeId) : Blk (w.alloc (.cells cs.toArray t)) w.heap.size cs t := heap_alloc_new w _
theorem Blk.grown {w w' : World} {b : Nat} {cs : List Value} {t : TypeId} {row : Option Nat} (h : Blk w b cs t) (hg : w.grownBy w' row) (hne : some b ≠ row) : Blk w' b cs t := (hg.block b h.lt hne).trans h
theorem Blk.other {w : World} {b : Nat} {cs : List Value} {t : TypeId} (h : Blk w b cs t) (p : Addr) (u : Value) (hne : b ≠ p.block) : Blk (w.setCell p u) b cs t := (Below.heap_setCell w p u b hne).trans h
theorem Blk.set {w : World} {b : Nat} {cs : List Value} {t : TypeId} (h : Blk w b cs t) (j : Nat) (u : Value) : Blk (w.setCell ⟨b, j, none⟩ u) b (cs.set j u) t := by
  have h' : w.heap[b]? = some (.cells cs.toArray t (0, 0)) := h
  unfold Blk World.setCell
  simp only [Array.getElem?_modify, h']
  simp
theorem Blk.drew {w : World} {b : Nat} {cs : List Value} {t : TypeId} (h : Blk w b cs t) : Blk w.drew b cs t := h
theorem Blk.drewN {w : World} {b : Nat} {cs : List Value} {t : TypeId} (n : Nat) (h : Blk w b cs t) : Blk (w.drewN n) b cs t := h

theorem own_form' {w : World} {base : Nat} {e : TypeId} {v : Value} {n : Nat} {cs : List Value} (h : w.ownsRow base e 1 v n cs) :
    ∃ ad cap, v = .slice ad n cap ∧ (0 < n → ∃ g, ad = some ⟨g, 0, none⟩ ∧ base ≤ g ∧ g < w.heap.size) := by
  rcases h.2 with ⟨rfl, rfl⟩ | ⟨g, cap, cur, rfl, hb, hg, _⟩
  · exact ⟨none, 0, rfl, fun h => absurd h (Nat.lt_irrefl _)⟩
  · exact ⟨_, _, rfl, fun _ => ⟨g, rfl, hb, (Array.getElem?_eq_some_iff.1 hg).1⟩⟩

theorem own_block_ge {w : World} {base : Nat} {e : TypeId} {v : Value} {n : Nat} {cs : List Value} (h : w.ownsRow base e 1 v n cs) {b : Nat} (hb : b < base) : some b ≠ v.ownBlock := by
  intro hx
  have := h.lt b hx.symm
  omega

/-- Behind an append the row lies where it lay, or it is new: below the first block of the call's own nothing has turned. -/
theorem below_grown {B : Nat} {W w w' : World} {base : Nat} {e : TypeId} {v : Value} {n : Nat} {cs : List Value} (h : Below B W w) (hg : w.grownBy w' v.ownBlock) (ho : w.ownsRow base e 1 v n cs) (hB : B ≤ base) (hs : B ≤ w.heap.size) : Below B W w' :=
  h.grown hg hs fun k hk => by have := ho.lt k hk; omega

theorem cell_new (w : World) (u : Value) (t : TypeId) : (w.alloc (.cells #[u] t)).cell? ⟨w.heap.size, 0, none⟩ = some u := (Blk.new w [u] t).cell 0
theorem cell_newN (w : World) (k : Nat) (u : Value) (t : TypeId) : ((w.drewN k).alloc (.cells #[u] t)).cell? ⟨w.heap.size, 0, none⟩ = some u := (Blk.new (w.drewN k) [u] t).cell 0
theorem size_new {B : Nat} (w : World) (o : Obj) (h : B ≤ w.heap.size) : B ≤ (w.alloc o).heap.size := by simp; omega
theorem size_newN {B : Nat} (w : World) (k : Nat) (o : Obj) (h : B ≤ w.heap.size) : B ≤ ((w.drewN k).alloc o).heap.size := size_new (w.drewN k) o h

/-- One cell holds this, and below B nothing has turned. -/
structure CellC (b o : Nat) (v : Value) (B : Nat) (w0 w' : World) : Prop where
  cell : w'.cell? ⟨b, o, none⟩ = some v
  below : Below B w0 w'

section
variable {P : Program} {w : World}

theorem run_app1 (base : Nat) (t ty e : TypeId) (i : TypeInfo) (z : Value) (bytes : Nat) (ht : P.underlying t = some (.slice e)) (hi : P.info? e = some i) (hz : i.zero = some z)
    (hsize : i.size = 1) (hby : i.bytes = bytes) (hzs : z.cells.size = 1) (v : Value) (n : Nat) (cs : List Value) (hown : w.ownsRow base e 1 v n cs) (b : Nat) (u : Value)
    (hu : w.cell? ⟨b, 0, none⟩ = some u) (h1 : u.oneCell' = true) (h63 : n + 1 ≤ maxLen) (hbytes : (n + 1) * bytes ≤ 140737488355328) (hbase : base ≤ w.heap.size) :
    ∃ ad' cap' w', (Builtin.append_ #[t, t] ty #[v, .slice (some ⟨b, 0, none⟩) 1 1]).run P w = .ok (.slice ad' (n + 1) cap') w' ∧ w'.ownsRow base e 1 (.slice ad' (n + 1) cap') (n + 1) (cs ++ [u]) ∧ w.grownBy w' v.ownBlock := by
  obtain ⟨v', w', hr, h2, h3, _⟩ := run_append_own (P := P) w base t ty e i z 1 bytes ht hi hz hsize hby hzs (by decide) v n cs hown ⟨b, 0, none⟩ 1 1 [u] rfl
    (fun j x hj => by match j, hj with | 0, hj => (simp at hj; subst hj; simpa [Addr.add] using hu)) (fun x hx => by simp at hx; subst hx; exact h1) h63 hbytes hbase
  obtain ⟨ad', cap', rfl, _⟩ := own_form' h2
  exact ⟨ad', cap', w', hr, h2, h3⟩

/-- In a plain region. -/
theorem wpList_app1 {ops : Array Oper} {rest : List Oper} {o : Oper} {a : Act} {Q : Exit → Act → World → Prop} (hgd : o.guard = none) (s x : Operand) (t : TypeId)
    (ho : o.op = .call { callee := .builtin .append, args := #[s, x], argTypes := #[t, t] })
    (base : Nat) (e : TypeId) (i : TypeInfo) (z : Value) (bytes : Nat) (ht : P.underlying t = some (.slice e)) (hi : P.info? e = some i) (hz : i.zero = some z)
    (hsize : i.size = 1) (hby : i.bytes = bytes) (hzs : z.cells.size = 1) (v : Value) (n : Nat) (cs : List Value) (hs : a.eval s = v) (hown : w.ownsRow base e 1 v n cs) (b : Nat) (u : Value)
    (hx : a.eval x = .slice (some ⟨b, 0, none⟩) 1 1) (hu : w.cell? ⟨b, 0, none⟩ = some u) (h1 : u.oneCell' = true) (h63 : n + 1 ≤ maxLen) (hbytes : (n + 1) * bytes ≤ 140737488355328) (hbase : base ≤ w.heap.size)
    (h : ∀ ad' cap' w', w'.ownsRow base e 1 (.slice ad' (n + 1) cap') (n + 1) (cs ++ [u]) → w.grownBy w' v.ownBlock → wpList P ops Q rest (a.put o.dst (.slice ad' (n + 1) cap')) w') : wpList P ops Q (o :: rest) a w := by
  refine wpList_plain hgd fun K hK => ?_
  obtain ⟨ad', cap', w', hr, h2, h3⟩ := run_app1 (P := P) base t o.type e i z bytes ht hi hz hsize hby hzs v n cs hown b u hu h1 h63 hbytes hbase
  unfold Oper.wp execOp
  simp only [ho, resolve, invoke, builtin, Sem.run_bind, Sem.run_pure, Result.andThen_ok, List.map_toArray, List.map_cons, List.map_nil, hs, hx, hr]
  exact hK _ _ (h ad' cap' w' h2 h3)

namespace Mix
variable {mk : Nat → Mk} {C : World → Prop} {l : List Oper} {i : Nat} {σ : List Nat} {a : Act} {o : Oper} {K0 : Act → World → Prop}

/-- In a drawn one, marked A. -/
theorem sf_Aapp1 {d : Tmp} {s x : Operand} {t : TypeId} (ho : nth l i = some o) (hm : mk i = .A) (hw : Region.wanted o (yielded l.toArray a.tmps) = true) (hdst : o.dst = some d)
    (hop : o.op = .call { callee := .builtin .append, args := #[s, x], argTypes := #[t, t] })
    (base : Nat) (e : TypeId) (i0 : TypeInfo) (z : Value) (bytes : Nat) (ht : P.underlying t = some (.slice e)) (hi : P.info? e = some i0) (hz : i0.zero = some z)
    (hsize : i0.size = 1) (hby : i0.bytes = bytes) (hzs : z.cells.size = 1) (v : Value) (n : Nat) (cs : List Value) (hs : a.eval s = v) (hown : w.ownsRow base e 1 v n cs) (b : Nat) (u : Value)
    (hx : a.eval x = .slice (some ⟨b, 0, none⟩) 1 1) (hu : w.cell? ⟨b, 0, none⟩ = some u) (h1 : u.oneCell' = true) (h63 : n + 1 ≤ maxLen) (hbytes : (n + 1) * bytes ≤ 140737488355328) (hbase : base ≤ w.heap.size)
    (hC : ∀ w', w.grownBy w' v.ownBlock → C w')
    (h : ∀ ad' cap' w', C w' → w'.ownsRow base e 1 (.slice ad' (n + 1) cap') (n + 1) (cs ++ [u]) → w.grownBy w' v.ownBlock →
      ∃ a' : Act, (∀ K : Act → World → Prop, K a' w' → Oper.wp P { dst := some d, op := .move (.const (.slice ad' (n + 1) cap')), type := 0, pos := "", after := #[], guard := none } a w' K Qf) ∧ wpSF P l.toArray mk C K0 σ a' w') :
    wpSF P l.toArray mk C K0 (i :: σ) a w := by
  obtain ⟨ad', cap', w', hr, h2, h3⟩ := run_app1 (P := P) base t o.type e i0 z bytes ht hi hz hsize hby hzs v n cs hown b u hu h1 h63 hbytes hbase
  refine sf_A ho hm hw fun K hK => ?_
  unfold Oper.wp execOp
  simp only [hop, resolve, invoke, builtin, Sem.run_bind, Sem.run_pure, Result.andThen_ok, List.map_toArray, List.map_cons, List.map_nil, hs, hx, hr]
  obtain ⟨a', h4, h5⟩ := h ad' cap' w' (hC w' h3) h2 h3
  show K (a.put o.dst _) w'
  rw [hdst, of_put h4]
  exact hK _ _ (hC w' h3) h5
end Mix
end
end Go.Proofs.Ytggbdmgonobefaa
