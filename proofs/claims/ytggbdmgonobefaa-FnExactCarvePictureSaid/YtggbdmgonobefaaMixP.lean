/-
  A region that draws its order and in which one operation f (the making of a variable) waits for no other: walked once for each place at which f may come up.
  Conditions: none; plain lemmas over whatever program.
-/
import Derived.Test.YtggbdmgonobefaaMem
namespace Go.Proofs.Ytggbdmgonobefaa
open Go.RowKit
set_option linter.unusedVariables false
set_option linter.unusedSimpArgs false
namespace Mix

section
variable {P : Program} {md : Region.Mode} {ops : Array Oper} {mk : Nat → Mk} {C : World → Prop} {Q : Exit → Act → World → Prop}

/-- The walk in that order, f still to come. -/
def wpPF (P : Program) (ops : Array Oper) (mk : Nat → Mk) (C : World → Prop) (Q : Act → World → Prop) (f : Nat) : List Nat → Act → World → Prop
  | [], _, _ => False
  | i :: σ, a, w => ∃ o, ops[i]? = some o ∧ (if i = f then (Region.wanted o (yielded ops a.tmps) = true ∧ o.wp P a w (fun a' w' => C w' ∧ wpSF P ops mk C Q σ a' w') Qf) else match mk i with
      | .S => ∃ v, Still P ops C o a v ∧ wpPF P ops mk C Q f σ (a.put o.dst v) w
      | .A => ((Region.wanted o (yielded ops a.tmps) = true → o.wp P a w (fun a' w' => C w' ∧ wpPF P ops mk C Q f σ a' w') Qf) ∧ (Region.wanted o (yielded ops a.tmps) = false → wpPF P ops mk C Q f σ (a.put o.dst undef) w)) ∧
          (∃ of, ops[f]? = some of ∧ Region.wanted of (yielded ops a.tmps) = true ∧ of.wp P a w (fun a' w' => C w' ∧ wpSF P ops mk C Q (i :: σ.erase f) a' w') Qf)
      | _ => False)

def sfPB (md : Region.Mode) (ops : Array Oper) (mk : Nat → Mk) (f : Nat) : List Nat → Array Bool → Bool
  | [], _ => false
  | i :: σ, listed => (Region.ready md ops listed).contains i &&
      (if i = f then Region.ready md ops listed == [i] && sfB md ops mk σ (listed.setIfInBounds i true) else match mk i with
       | .S => freeB md ops mk listed false i && sfPB md ops mk f σ (listed.setIfInBounds i true)
       | .A => (Region.ready md ops listed).all (fun j => j == i || j == f) && σ.contains f && sfPB md ops mk f σ (listed.setIfInBounds i true) && sfB md ops mk (i :: σ.erase f) (listed.setIfInBounds f true)
       | _ => false)

theorem wpM_of_PF {f : Nat} (hs : Region.noSelect ops = true) (hf : mk f = .A) : ∀ (σ : List Nat) (listed : Array Bool) (a : Act) (w : World), DC md ops listed →
    C w → sfPB md ops mk f σ listed = true → wpPF P ops mk C (Q .normal) f σ a w → wpM P md ops mk C Q σ.length listed a w
  | [], _, _, _, _, _, hB, _ => by simp [sfPB] at hB
  | i :: σ, listed, a, w, hd, hC, hB, h => by
    obtain ⟨o, ho, h⟩ := h
    simp only [sfPB, Bool.and_eq_true] at hB
    obtain ⟨hr, hB⟩ := hB
    have hr : i ∈ Region.ready md ops listed := by simpa using hr
    have hd' := hd.set hr
    have hsel := Region.noSelect_spec hs
    by_cases hif : i = f
    · rw [if_pos hif] at h hB
      simp only [Bool.and_eq_true] at hB
      have hr1 : Region.ready md ops listed = [i] := by simpa using hB.1
      refine ⟨fun hx => (by rw [hr1] at hx; cases hx), fun j hj oj hoj => ?_⟩
      rw [hr1] at hj
      have hj : j = i := by simpa using hj
      subst hj
      rw [ho] at hoj
      cases hoj
      rw [hif, hf]
      rw [hif] at hd' hB
      exact ⟨fun _ => Oper.wp_mono (fun a' w' hx => ⟨hx.1, wpM_of_SF hs σ _ _ _ hd' (.inl hx.1) hB.2 hx.2⟩) h.2, fun hq => (by rw [h.1] at hq; cases hq)⟩
    · rw [if_neg hif] at h hB
      cases hm : mk i <;> simp only [hm] at h hB
      · simp only [Bool.and_eq_true] at hB
        obtain ⟨v, hv, hk⟩ := h
        exact first_S ho hm hsel _ listed a w hd (fun j oj h1 h2 h3 h4 => ⟨(freeB_spec ho hB.1 j oj h1 h2 h3 h4).1, (freeB_spec ho hB.1 j oj h1 h2 h3 h4).2.1⟩) hr hC hv
          (wpM_of_PF hs hf σ _ _ _ hd' hC hB.2 hk)
      · simp only [Bool.and_eq_true] at hB
        obtain ⟨⟨⟨hall, hmem⟩, hB1⟩, hB2⟩ := hB
        obtain ⟨⟨hA1, hA2⟩, of, hof, hfw, hF⟩ := h
        have hmem : f ∈ σ := by simpa using hmem
        refine ⟨fun hx => (by rw [hx] at hr; cases hr), fun j hj oj hoj => ?_⟩
        have hjj := List.all_eq_true.1 hall j hj
        simp only [Bool.or_eq_true, beq_iff_eq] at hjj
        by_cases hji : j = i
        · subst hji
          rw [ho] at hoj
          cases hoj
          rw [hm]
          exact ⟨fun hq => Oper.wp_mono (fun a' w' hx => ⟨hx.1, wpM_of_PF hs hf σ _ _ _ hd' hx.1 hB1 hx.2⟩) (hA1 hq), fun hq => wpM_of_PF hs hf σ _ _ _ hd' hC hB1 (hA2 hq)⟩
        · have hjf : j = f := hjj.resolve_left hji
          subst hjf
          rw [hof] at hoj
          cases hoj
          rw [hf]
          have hlen : (i :: σ.erase j).length = σ.length := by
            have h1 := List.length_erase_of_mem hmem
            have h2 := List.length_pos_of_mem hmem
            rw [List.length_cons, h1]
            omega
          refine ⟨fun _ => Oper.wp_mono (fun a' w' hx => ⟨hx.1, ?_⟩) hF, fun hq => (by rw [hfw] at hq; cases hq)⟩
          have := wpM_of_SF hs (i :: σ.erase j) _ _ _ (hd.set hj) (.inl hx.1) hB2 hx.2
          rw [hlen] at this
          exact this

def mixPB (ops : Array Oper) (mk : Nat → Mk) (f : Nat) (σ : List Nat) : Bool :=
  Region.noSelect ops && σ.length == ops.size && (mk f).isA && sfPB .any ops mk f σ (Array.replicate ops.size false)

/-- A REGION THAT DRAWS ITS ORDER, f AT ANY PLACE. -/
theorem wp_mixP {id : Nat} {l : List Oper} {a : Act} {w : World} (ms : List Mk) (σ : List Nat) (f : Nat) (C : World → Prop) (hm : P.follows .mixedOrders = true)
    (hB : mixPB l.toArray (fun i => ms.getD i .A) f σ = true) (hC : C w.drew)
    (h : wpPF P l.toArray (fun i => ms.getD i .A) C (Q .normal) f σ a w.drew) : (Code.region id l.toArray true).wp P Q a w := by
  simp only [mixPB, Bool.and_eq_true, beq_iff_eq] at hB
  obtain ⟨⟨⟨hn, hl⟩, hA⟩, hB⟩ := hB
  have hf : (fun i => ms.getD i Mk.A) f = .A := by
    revert hA
    dsimp only
    cases ms.getD f .A <;> simp [Mk.isA]
  refine wp_region_any hm (wpM_sound (mk := fun i => ms.getD i .A) (C := C) _ _ _ _ ?_)
  have := wpM_of_PF (md := .any) hn hf σ (Array.replicate l.toArray.size false) a w.drew (DC.start _) hC hB h
  rw [hl] at this
  exact this

/-! ### The steps -/
section steps
variable {l : List Oper} {i f : Nat} {σ : List Nat} {a : Act} {w : World} {o : Oper} {K0 : Act → World → Prop}

/-- What a step marked S shows: one value in every world of the class. -/
theorem still_of {d : Tmp} (hw : Region.wanted o (yielded l.toArray a.tmps) = true) (hd : o.dst = some d) (hlt' : decide (d < a.tmps.size) = true)
    (hne : ∀ ρ w' n w'', (execOp ρ o).run P w' = .ok n w'' → ∃ u, n = .value u) (hC : C w) {a' : Act}
    (hs : ∀ w', C w' → ∀ K : Act → World → Prop, K a' w' → o.wp P a w' K Qf) : ∃ u, Still P l.toArray C o a u ∧ a.put o.dst u = a' := by
  have hlt : d < a.tmps.size := of_decide_eq_true hlt'
  have hx : ∀ w', C w' → ∃ u, (execOp a.eval o).run P w' = .ok (.value u) w' ∧ a.put o.dst u = a' := fun w' hw' => by
    have h1 := hs w' hw' (fun x y => x = a' ∧ y = w') ⟨rfl, rfl⟩
    unfold Oper.wp at h1
    cases hr : (execOp a.eval o).run P w' with
    | ok n w'' =>
      obtain ⟨u, rfl⟩ := hne _ _ _ _ hr
      rw [hr] at h1
      obtain ⟨h2, h3⟩ := h1
      exact ⟨u, by rw [h3], h2⟩
    | halt x w'' => rw [hr] at h1; cases x <;> exact h1.elim
  obtain ⟨u, hu, hua⟩ := hx w hC
  refine ⟨u, .inl ⟨hw, fun w' hw' => ?_⟩, hua⟩
  obtain ⟨u', hu', hua'⟩ := hx w' hw'
  have : u' = u := by
    have h4 := hua'.trans hua.symm
    have h5 : (a.put o.dst u').tmps[d]? = (a.put o.dst u).tmps[d]? := by rw [h4]
    simp [Act.put, hd, hlt] at h5
    exact h5
  rw [this] at hu'
  exact hu'

theorem pf_S {d : Tmp} (hif : decide (i = f) = false) (ho : nth l i = some o) (hm : mk i = .S) (hw : Region.wanted o (yielded l.toArray a.tmps) = true) (hd : o.dst = some d) (hlt' : decide (d < a.tmps.size) = true)
    (hne : ∀ ρ w' n w'', (execOp ρ o).run P w' = .ok n w'' → ∃ u, n = .value u)
    (hC : C w) (h : ∃ a' : Act, (∀ w', C w' → ∀ K : Act → World → Prop, K a' w' → o.wp P a w' K Qf) ∧ wpPF P l.toArray mk C K0 f σ a' w) : wpPF P l.toArray mk C K0 f (i :: σ) a w := by
  obtain ⟨a', hs, h⟩ := h
  obtain ⟨u, h1, h2⟩ := still_of hw hd hlt' hne hC hs
  refine ⟨o, (nth_eq l i).symm.trans ho, ?_⟩
  rw [if_neg (of_decide_eq_false hif)]
  simp only [hm]
  exact ⟨u, h1, by rw [h2]; exact h⟩

/-- Marked A: the walk goes on behind a variable; or f comes up ahead of it. -/
theorem pf_A (hif : decide (i = f) = false) (ho : nth l i = some o) (hm : mk i = .A) (hw : Region.wanted o (yielded l.toArray a.tmps) = true)
    (h : ∀ K : Act → World → Prop, (∀ a' w', C w' → wpPF P l.toArray mk C K0 f σ a' w' → K a' w') → o.wp P a w K Qf)
    {of : Oper} {σ' : List Nat} (hof : nth l f = some of) (hfw : Region.wanted of (yielded l.toArray a.tmps) = true) (hσ : (i :: σ.erase f) = σ')
    (h2 : ∀ K : Act → World → Prop, (∀ a' w', C w' → wpSF P l.toArray mk C K0 σ' a' w' → K a' w') → of.wp P a w K Qf) : wpPF P l.toArray mk C K0 f (i :: σ) a w := by
  refine ⟨o, (nth_eq l i).symm.trans ho, ?_⟩
  rw [if_neg (of_decide_eq_false hif)]
  simp only [hm]
  subst hσ
  exact ⟨⟨fun _ => h _ fun a' w' h1 h2 => ⟨h1, h2⟩, fun hq => by rw [hw] at hq; cases hq⟩, of, (nth_eq l f).symm.trans hof, hfw, h2 _ fun a' w' h1 h2 => ⟨h1, h2⟩⟩

/-- f comes up at its last place. -/
theorem pf_F (hif : decide (i = f) = true) (ho : nth l i = some o) (hw : Region.wanted o (yielded l.toArray a.tmps) = true)
    (h : ∀ K : Act → World → Prop, (∀ a' w', C w' → wpSF P l.toArray mk C K0 σ a' w' → K a' w') → o.wp P a w K Qf) : wpPF P l.toArray mk C K0 f (i :: σ) a w := by
  refine ⟨o, (nth_eq l i).symm.trans ho, ?_⟩
  rw [if_pos (of_decide_eq_true hif)]
  exact ⟨hw, h _ fun a' w' h1 h2 => ⟨h1, h2⟩⟩
end steps
end
end Mix
end Go.Proofs.Ytggbdmgonobefaa
