/-
  The steps of a drawn region over floats, up to the bits of a NaN.
  Conditions: none; plain lemmas over whatever program.
-/
import Derived.Test.YtggbdmgonobefaaMem
import Derived.Test.YtggbdmgonobefaaFlt2
namespace Go.Proofs.Ytggbdmgonobefaa
open Go.RowKit
set_option linter.unusedVariables false
set_option linter.unusedSimpArgs false

namespace Mix
section
variable {P : Program} {mk : Nat → Mk} {C : World → Prop} {l : List Oper} {i : Nat} {σ : List Nat} {a : Act} {w : World} {o : Oper} {K0 : Act → World → Prop}

theorem of_put {d : Tmp} {a' : Act} {v : Value} {w : World} (h : ∀ K : Act → World → Prop, K a' w → Oper.wp P { dst := some d, op := .move (.const v), type := 0, pos := "", after := #[], guard := none } a w K Qf) : a.put (some d) v = a' := by
  have := h (fun x _ => x = a') rfl
  simpa [Oper.wp, execOp, Oper.upon, Act.eval] using this

theorem exec_wide {src dst : TypeId} {x : Operand} {b : Nat} {ρ : Operand → Value} (hop : o.op = .convert src dst x) (hx : ρ x = .float .f32 b)
    (hs : (P.underlying src).isSome = true) (hd : P.underlying dst = some (.float .f64)) :
    (execOp ρ o).run P w = .ok (.value (.float .f64 (Fl.cres w .f32 .f64 b))) (w.drewN (Fl.cdr .f32 .f64 b)) := by
  unfold execOp
  rw [hop]
  simp [hx, Fl.run_wide w src dst b hs hd]

theorem exec_farith {op : BinOp} {t t' : TypeId} {k : FloatKind} {x y : Operand} {bx by' : Nat} {ρ : Operand → Value} (hop : o.op = .binOp op t x y t') (hx : ρ x = .float k bx) (hy : ρ y = .float k by')
    (ho : op = .add ∨ op = .sub ∨ op = .mul ∨ op = .quo) :
    (execOp ρ o).run P w = .ok (.value (.float k (Fl.fres w op k bx by'))) (w.drewN (Fl.fdr op k bx by')) := by
  unfold execOp
  rw [hop]
  rcases ho with rfl | rfl | rfl | rfl <;> simp [hx, hy, eqGuard, Fl.run_fadd, Fl.run_fsub, Fl.run_fmul, Fl.run_fquo]

/-- Marked L: a float32 made a float64. -/
theorem sf_Lwide {src dst : TypeId} {x : Operand} {b : Nat} {d : Tmp} (ho : nth l i = some o) (hm : mk i = .L) (hw : Region.wanted o (yielded l.toArray a.tmps) = true) (hop : o.op = .convert src dst x) (hx : a.eval x = .float .f32 b)
    (hs : (P.underlying src).isSome = true) (hd : P.underlying dst = some (.float .f64)) (hdst : o.dst = some d) (hCd : ∀ w n, C w → C (w.drewN n))
    (h : ∀ r, Fl.nf .f64 r = Fl.wide b → ∀ w', C w' → ∃ a' : Act, (∀ K : Act → World → Prop, K a' w' → Oper.wp P { dst := some d, op := .move (.const (.float .f64 r)), type := 0, pos := "", after := #[], guard := none } a w' K Qf) ∧ wpSF P l.toArray mk C K0 σ a' w') :
    wpSF P l.toArray mk C K0 (i :: σ) a w := by
  refine sf_L (V := fun v => ∃ r, v = .float .f64 r ∧ Fl.nf .f64 r = Fl.wide b) ho hm hw (fun w' hC => ⟨_, _, exec_wide hop hx hs hd, ⟨_, rfl, Fl.nf_wide⟩, hCd _ _ hC⟩) ?_
  rintro v w' ⟨r, rfl, hr⟩ hC
  obtain ⟨a', h1, h2⟩ := h r hr w' hC
  rw [hdst, of_put h1]
  exact h2

/-- Marked L: + - * / of floats. -/
theorem sf_Larith {op : BinOp} {t t' : TypeId} {k : FloatKind} {x y : Operand} {bx by' : Nat} {d : Tmp} (ho : nth l i = some o) (hm : mk i = .L) (hw : Region.wanted o (yielded l.toArray a.tmps) = true)
    (hop : o.op = .binOp op t x y t') (hx : a.eval x = .float k bx) (hy : a.eval y = .float k by') (hk : op = .add ∨ op = .sub ∨ op = .mul ∨ op = .quo) (hdst : o.dst = some d) (hCd : ∀ w n, C w → C (w.drewN n))
    (h : ∀ r, Fl.nf k r = Fl.fop op k bx by' → ∀ w', C w' → ∃ a' : Act, (∀ K : Act → World → Prop, K a' w' → Oper.wp P { dst := some d, op := .move (.const (.float k r)), type := 0, pos := "", after := #[], guard := none } a w' K Qf) ∧ wpSF P l.toArray mk C K0 σ a' w') :
    wpSF P l.toArray mk C K0 (i :: σ) a w := by
  refine sf_L (V := fun v => ∃ r, v = .float k r ∧ Fl.nf k r = Fl.fop op k bx by') ho hm hw (fun w' hC => ⟨_, _, exec_farith hop hx hy hk, ⟨_, rfl, Fl.nf_fres _ _ _ _ _⟩, hCd _ _ hC⟩) ?_
  rintro v w' ⟨r, rfl, hr⟩ hC
  obtain ⟨a', h1, h2⟩ := h r hr w' hC
  rw [hdst, of_put h1]
  exact h2
end
end Mix

theorem below_draws {W : World} {B : Nat} : ∀ (w : World) (n : Nat), Below B W w → Below B W (w.drewN n) := fun _ n h => Below.drewN' n h

end Go.Proofs.Ytggbdmgonobefaa
