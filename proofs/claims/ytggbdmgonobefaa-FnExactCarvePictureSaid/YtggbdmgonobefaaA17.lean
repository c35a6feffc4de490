/-
  CutSeam by the reference: first the plain law of what is left when a seam goes.
  Conditions: the lights and the seam are rows of cells that read.
-/
import Derived.Test.YtggbdmgonobefaaA16
namespace Go.Proofs.Ytggbdmgonobefaa
open Go.RowKit
set_option linter.unusedVariables false
set_option linter.unusedSimpArgs false

def cutKeep (W : Nat) (s : List Int) (i : Nat) : Bool := !decide ((i % W : Nat) = s.getD (i / W) 0)
def cutP (W : Nat) (xs : List Nat) (s : List Int) (i : Nat) : List Nat := ((List.range i).filter (cutKeep W s)).map fun i => Fl.nf .f32 (xs.getD i 0)

theorem row_filter : ∀ (W c : Nat), c < W → (List.range W).filter (fun x => !decide (x = c)) = (List.range (W - 1)).map fun x => if c ≤ x then x + 1 else x
  | 0, c, h => absurd h (Nat.not_lt_zero _)
  | W + 1, c, h => by
    rw [List.range_succ, List.filter_append]
    by_cases hc : c = W
    · subst hc
      have h1 : (List.range c).filter (fun x => !decide (x = c)) = List.range c := by
        rw [List.filter_eq_self]
        intro a ha
        have := List.mem_range.1 ha
        simp; omega
      rw [h1]
      simp only [Nat.add_sub_cancel, decide_true, Bool.not_true, Bool.false_eq_true, not_false_eq_true, List.filter_cons_of_neg, List.filter_nil, List.append_nil]
      symm
      have : (List.range c).map (fun x => if c ≤ x then x + 1 else x) = (List.range c).map id := by
        apply List.map_congr_left
        intro a ha
        have := List.mem_range.1 ha
        rw [if_neg (by omega)]; rfl
      rw [this, List.map_id]
    · have hlt : c < W := by omega
      rw [row_filter W c hlt]
      obtain ⟨V, rfl⟩ : ∃ V, W = V + 1 := ⟨W - 1, by omega⟩
      simp only [Nat.add_sub_cancel]
      rw [List.range_succ, List.map_append, List.map_cons, List.map_nil, if_pos (by omega)]
      congr 1
      simp
      omega

theorem cellsTo_row (W : Nat) (g : Nat → Nat → Nat) (y : Nat) (hW : 0 < W ∨ W = 0) : cellsTo W g (W * (y + 1)) = cellsTo W g (W * y) ++ (List.range W).map fun x => g x y := by
  rw [cellsTo, cellsTo, Nat.mul_succ, List.range_add, List.map_append]
  congr 1
  rw [List.map_map]
  apply List.map_congr_left
  intro x hx
  have hx := List.mem_range.1 hx
  show g ((W * y + x) % W) ((W * y + x) / W) = g x y
  rw [Nat.mul_add_mod, Nat.mod_eq_of_lt hx, Nat.mul_add_div (by omega), Nat.div_eq_of_lt hx, Nat.add_zero]

theorem cut_rows (W : Nat) (xs : List Nat) (s : List Int) : ∀ H, (∀ k, k < H → 0 ≤ s.getD k 0 ∧ s.getD k 0 < W) → cutP W xs s (W * H) = cellsTo (W - 1) (cutV W xs s) ((W - 1) * H)
  | 0, _ => rfl
  | H + 1, h => by
    have ih := cut_rows W xs s H fun k hk => h k (by omega)
    obtain ⟨h1, h2⟩ := h H (by omega)
    obtain ⟨c, hc⟩ := Int.eq_ofNat_of_zero_le h1
    have hcW : c < W := by omega
    rw [cellsTo_row (W - 1) _ H (by omega), ← ih, cutP, cutP, Nat.mul_succ, List.range_add, List.filter_append, List.map_append]
    congr 1
    rw [List.filter_map, List.map_map]
    have hf : (cutKeep W s ∘ fun x => W * H + x) = cutKeep W s ∘ fun x => W * H + x := rfl
    have e1 : (List.range W).filter (cutKeep W s ∘ fun x => W * H + x) = (List.range W).filter (fun x => !decide (x = c)) := by
      apply List.filter_congr
      intro x hx
      have hx := List.mem_range.1 hx
      show cutKeep W s (W * H + x) = _
      rw [cutKeep, Nat.mul_add_mod, Nat.mod_eq_of_lt hx, Nat.mul_add_div (by omega), Nat.div_eq_of_lt hx, Nat.add_zero, hc]
      congr 1
      by_cases hxc : x = c
      · simp [hxc]
      · simp [hxc]
        omega
    rw [e1, row_filter W c hcW, List.map_map]
    apply List.map_congr_left
    intro x hx
    show Fl.nf .f32 (xs.getD (W * H + if c ≤ x then x + 1 else x) 0) = cutV W xs s x H
    rw [cutV, hc, Nat.mul_comm W H]
    by_cases hcx : c ≤ x
    · rw [if_pos hcx, if_pos (by simpa using hcx)]
    · rw [if_neg hcx, if_neg (by simpa using hcx)]

theorem cutP_succ_keep {W : Nat} {xs : List Nat} {s : List Int} {i : Nat} (h : cutKeep W s i = true) : cutP W xs s (i + 1) = cutP W xs s i ++ [Fl.nf .f32 (xs.getD i 0)] := by
  simp [cutP, List.range_succ, List.filter_append, h]
theorem cutP_succ_drop {W : Nat} {xs : List Nat} {s : List Int} {i : Nat} (h : cutKeep W s i = false) : cutP W xs s (i + 1) = cutP W xs s i := by
  simp [cutP, List.range_succ, List.filter_append, h]
theorem cutP_len (W : Nat) (xs : List Nat) (s : List Int) (i : Nat) : (cutP W xs s i).length ≤ i := by
  rw [cutP, List.length_map]
  exact Nat.le_trans (List.length_filter_le _ _) (by simp)

end Go.Proofs.Ytggbdmgonobefaa
