/-
  append of a whole slice to a slice that the call owns, in a drawn region.
  Conditions: none; plain lemmas over whatever program.
-/
import Derived.Test.YtggbdmgonobefaaMixA
namespace Go.Proofs.Ytggbdmgonobefaa
open Go.RowKit
set_option linter.unusedVariables false
set_option linter.unusedSimpArgs false

theorem addr_add (b off j : Nat) : (⟨b, off, none⟩ : Addr).add j = ⟨b, off + j, none⟩ := by unfold Addr.add; split <;> simp_all

section
variable {P : Program} {w : World}

theorem run_appN (base : Nat) (t ty e : TypeId) (i : TypeInfo) (z : Value) (bytes : Nat) (ht : P.underlying t = some (.slice e)) (hi : P.info? e = some i) (hz : i.zero = some z)
    (hsize : i.size = 1) (hby : i.bytes = bytes) (hzs : z.cells.size = 1) (v : Value) (n : Nat) (cs : List Value) (hown : w.ownsRow base e 1 v n cs) (b off m c : Nat) (news : List Value) (hl : news.length = m)
    (hu : ∀ j u, news[j]? = some u → w.cell? ⟨b, off + j, none⟩ = some u) (h1 : ∀ u ∈ news, u.oneCell' = true) (h63 : n + m ≤ maxLen) (hbytes : (n + m) * bytes ≤ 140737488355328) (hbase : base ≤ w.heap.size) :
    ∃ ad' cap' w', (Builtin.append_ #[t, t] ty #[v, .slice (some ⟨b, off, none⟩) m c]).run P w = .ok (.slice ad' (n + m) cap') w' ∧ w'.ownsRow base e 1 (.slice ad' (n + m) cap') (n + m) (cs ++ news) ∧ w.grownBy w' v.ownBlock := by
  obtain ⟨v', w', hr, h2, h3, _⟩ := run_append_own (P := P) w base t ty e i z 1 bytes ht hi hz hsize hby hzs (by decide) v n cs hown ⟨b, off, none⟩ m c news (by omega)
    (fun j x hj => by rw [addr_add]; exact hu j x hj) h1 h63 hbytes hbase
  obtain ⟨ad', cap', rfl, _⟩ := own_form' h2
  exact ⟨ad', cap', w', hr, h2, h3⟩

namespace Mix
variable {mk : Nat → Mk} {C : World → Prop} {l : List Oper} {i : Nat} {σ : List Nat} {a : Act} {o : Oper} {K0 : Act → World → Prop}

/-- In a drawn region, marked A. -/
theorem sf_AappN {d : Tmp} {s x : Operand} {t : TypeId} (ho : nth l i = some o) (hm : mk i = .A) (hw : Region.wanted o (yielded l.toArray a.tmps) = true) (hdst : o.dst = some d)
    (hop : o.op = .call { callee := .builtin .append, args := #[s, x], argTypes := #[t, t] })
    (base : Nat) (e : TypeId) (i0 : TypeInfo) (z : Value) (bytes : Nat) (ht : P.underlying t = some (.slice e)) (hi : P.info? e = some i0) (hz : i0.zero = some z)
    (hsize : i0.size = 1) (hby : i0.bytes = bytes) (hzs : z.cells.size = 1) (v : Value) (n : Nat) (cs : List Value) (hs : a.eval s = v) (hown : w.ownsRow base e 1 v n cs) (b off m c : Nat) (news : List Value) (hl : news.length = m)
    (hx : a.eval x = .slice (some ⟨b, off, none⟩) m c) (hu : ∀ j u, news[j]? = some u → w.cell? ⟨b, off + j, none⟩ = some u) (h1 : ∀ u ∈ news, u.oneCell' = true) (h63 : n + m ≤ maxLen) (hbytes : (n + m) * bytes ≤ 140737488355328) (hbase : base ≤ w.heap.size)
    (hC : ∀ w', w.grownBy w' v.ownBlock → C w')
    (h : ∀ ad' cap' w', C w' → w'.ownsRow base e 1 (.slice ad' (n + m) cap') (n + m) (cs ++ news) → w.grownBy w' v.ownBlock →
      ∃ a' : Act, (∀ K : Act → World → Prop, K a' w' → Oper.wp P { dst := some d, op := .move (.const (.slice ad' (n + m) cap')), type := 0, pos := "", after := #[], guard := none } a w' K Qf) ∧ wpSF P l.toArray mk C K0 σ a' w') :
    wpSF P l.toArray mk C K0 (i :: σ) a w := by
  obtain ⟨ad', cap', w', hr, h2, h3⟩ := run_appN (P := P) base t o.type e i0 z bytes ht hi hz hsize hby hzs v n cs hown b off m c news hl hu h1 h63 hbytes hbase
  refine sf_A ho hm hw fun K hK => ?_
  unfold Oper.wp execOp
  simp only [hop, resolve, invoke, builtin, Sem.run_bind, Sem.run_pure, Result.andThen_ok, List.map_toArray, List.map_cons, List.map_nil, hs, hx, hr]
  obtain ⟨a', h4, h5⟩ := h ad' cap' w' (hC w' h3) h2 h3
  show K (a.put o.dst _) w'
  rw [hdst, of_put h4]
  exact hK _ _ (hC w' h3) h5
end Mix
end
end Go.Proofs.Ytggbdmgonobefaa
