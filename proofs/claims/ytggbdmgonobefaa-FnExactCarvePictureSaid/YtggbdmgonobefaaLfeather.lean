/-
  For all arguments the program's FeatherMask returns what the reference's returns, in memory of its own.
  Conditions: none.
-/
import Derived.Test.YtggbdmgonobefaaA4
import Derived.ProofKit
import Derived.OpenShut
namespace Go.Proofs.Ytggbdmgonobefaa
open Go.RowKit
set_option linter.unusedVariables false
set_option linter.unusedSimpArgs false
attribute [local go_sem] Fl.run_fadd Fl.run_fsub Fl.run_fmul Fl.run_fquo Fl.run_wide Fl.run_store_float

/-- A picture, a Bool and new memory. -/
def Uni (w : World) (A B : Int) (ok : Bool) (L : List Nat) (e : Ending) (w' : World) : Prop :=
  ∃ ad cap ys, e = .returned (.tuple #[.agg #[.int .i64 A, .int .i64 B, .slice ad L.length cap], .bool ok]) ∧ w'.ownsRow w.heap.size 52 1 (.slice ad L.length cap) L.length (ys.map fv) ∧ nl ys = L ∧ Below w.heap.size w w'

theorem nl_len {ys L : List Nat} (h : nl ys = L) : ys.length = L.length := by rw [← h, nl, List.length_map]

theorem PicRes.uni {w : World} {r : Option Pic} {e : Ending} {w' : World} (h : PicRes w r e w') : Uni w (r.getD ⟨0, 0, []⟩).W (r.getD ⟨0, 0, []⟩).H r.isSome (r.getD ⟨0, 0, []⟩).L e w' := by
  cases r with
  | none => exact ⟨none, 0, [], h.1, World.ownsRow_nil _ _ _ _, rfl, h.2⟩
  | some p =>
    obtain ⟨v, ys, he, ho, hl, hb⟩ := h
    obtain ⟨ad, cap, rfl, _⟩ := own_form ho
    have hn := nl_len hl
    rw [hn] at he ho
    exact ⟨ad, cap, ys, he, ho, hl, hb⟩

theorem featherR_len (W H at' over : Int) : ((featherR W H at' over).getD ⟨0, 0, []⟩).L.length ≤ 256 := by
  unfold featherR
  split
  · rename_i h
    have h' : ((inB W 1 16 = true ∧ inB H 1 16 = true) ∧ inB at' 0 16 = true) ∧ inB over 0 16 = true := by simpa using h
    have hW := inB_spec.1 h'.1.1.1
    have hH := inB_spec.1 h'.1.1.2
    simp only [Option.getD_some, grid, cellsTo, List.length_map, List.length_range]
    have : W.toNat * H.toNat ≤ 16 * 16 := Nat.mul_le_mul (by omega) (by omega)
    omega
  · simp

theorem own_sep {w1 w2 : World} {b1 b2 : Nat} {e : TypeId} {v1 v2 : Value} {n1 n2 : Nat} {c1 c2 : List Value} (h1 : w1.ownsRow b1 e 1 v1 n1 c1) (h2 : w2.ownsRow b2 e 1 v2 n2 c2) (h : w1.heap.size ≤ b2) :
    v1.ownBlock = none ∨ v1.ownBlock ≠ v2.ownBlock := by
  cases hv : v1.ownBlock with
  | none => exact .inl rfl
  | some k =>
    refine .inr fun hx => ?_
    have a := h1.lt k hv
    have b := h2.lt k hx.symm
    omega

theorem own_block_lt {w : World} {b : Nat} {e : TypeId} {v : Value} {n : Nat} {cs : List Value} (h : w.ownsRow b e 1 v n cs) : some w.heap.size ≠ v.ownBlock := fun hx => Nat.lt_irrefl _ (h.lt _ hx.symm).2

theorem own_grown {w w' : World} {b : Nat} {e : TypeId} {v : Value} {n : Nat} {cs : List Value} {row : Option Nat} (h : w.ownsRow b e 1 v n cs) (hg : w.grownBy w' row) (hne : v.ownBlock = none ∨ v.ownBlock ≠ row) : w'.ownsRow b e 1 v n cs :=
  h.kept hg hne

end Go.Proofs.Ytggbdmgonobefaa
