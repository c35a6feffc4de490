/-
  A seam doubled, pixel by pixel: the plain law that it is the picture that the program draws.
  Conditions: the seam lies within the picture.
-/
import Derived.Test.YtjennldpjfeppaaA22
import Derived.Test.YtjennldpjfeppaaA17
namespace Go.Proofs.Ytjennldpjfeppaa
open Go.RowKit
set_option linter.unusedVariables false
set_option linter.unusedSimpArgs false

/-- The light beside the seam's own. -/
def growE (W : Nat) (xs : List Nat) (i : Nat) : Nat := if i % W + 1 < W then Fl.fop .mul .f32 1056964608 (Fl.fop .add .f32 (xs.getD i 0) (xs.getD (i + 1) 0)) else Fl.nf .f32 (xs.getD i 0)
def growP (W : Nat) (xs : List Nat) (s : List Int) (i : Nat) : List Nat :=
  (List.range i).flatMap fun i => if cutKeep W s i = false then [Fl.nf .f32 (xs.getD i 0), growE W xs i] else [Fl.nf .f32 (xs.getD i 0)]

theorem row_double (a : Nat → Nat) (e : Nat) : ∀ (W c : Nat), c < W →
    ((List.range W).flatMap fun x => if x = c then [a x, e] else [a x]) = (List.range (W + 1)).map fun x => if x ≤ c then a x else if c + 1 < x then a (x - 1) else e
  | 0, c, h => absurd h (Nat.not_lt_zero _)
  | W + 1, c, h => by
    rw [List.range_succ, List.flatMap_append]
    by_cases hc : c = W
    · subst hc
      have h1 : ((List.range c).flatMap fun x => if x = c then [a x, e] else [a x]) = (List.range c).map a := by
        have : ((List.range c).flatMap fun x => if x = c then [a x, e] else [a x]) = (List.range c).flatMap fun x => [a x] := by
          simp only [List.flatMap]
          congr 1
          apply List.map_congr_left
          intro x hx
          have := List.mem_range.1 hx
          rw [if_neg (by omega)]
        rw [this, ← List.map_eq_flatMap]
      rw [h1, List.range_succ, List.map_append, List.range_succ, List.map_append, List.append_assoc]
      congr 1
      · apply List.map_congr_left
        intro x hx
        have := List.mem_range.1 hx
        rw [if_pos (by omega)]
      · simp
        intro hbad
        omega
    · have hlt : c < W := by omega
      rw [row_double a e W c hlt, List.range_succ (n := W + 1), List.map_append]
      congr 1
      simp only [List.flatMap_cons, List.flatMap_nil, List.append_nil, List.map_cons, List.map_nil]
      rw [if_neg (by omega), if_neg (by omega), if_pos (by omega)]
      simp

theorem grow_rows (W : Nat) (xs : List Nat) (s : List Int) : ∀ H, (∀ k, k < H → 0 ≤ s.getD k 0 ∧ s.getD k 0 < W) → growP W xs s (W * H) = cellsTo (W + 1) (growV W xs s) ((W + 1) * H)
  | 0, _ => rfl
  | H + 1, h => by
    have ih := grow_rows W xs s H fun k hk => h k (by omega)
    obtain ⟨h1, h2⟩ := h H (by omega)
    obtain ⟨c, hc⟩ := Int.eq_ofNat_of_zero_le h1
    have hcW : c < W := by omega
    rw [cellsTo_row (W + 1) _ H (by omega), ← ih, growP, growP, Nat.mul_succ, List.range_add, List.flatMap_append]
    congr 1
    have e1 : ((List.range W).map (fun x => W * H + x)).flatMap (fun i => if cutKeep W s i = false then [Fl.nf .f32 (xs.getD i 0), growE W xs i] else [Fl.nf .f32 (xs.getD i 0)]) =
        (List.range W).flatMap fun x => if x = c then [Fl.nf .f32 (xs.getD (W * H + x) 0), growE W xs (W * H + c)] else [Fl.nf .f32 (xs.getD (W * H + x) 0)] := by
      rw [List.flatMap_map]
      simp only [List.flatMap]
      congr 1
      apply List.map_congr_left
      intro x hx
      have hx := List.mem_range.1 hx
      have hk : cutKeep W s (W * H + x) = !decide (x = c) := by
        rw [cutKeep, Nat.mul_add_mod, Nat.mod_eq_of_lt hx, Nat.mul_add_div (by omega), Nat.div_eq_of_lt hx, Nat.add_zero, hc]
        congr 1
        by_cases hxc : x = c
        · simp [hxc]
        · simp [hxc]
          omega
      rw [hk]
      by_cases hxc : x = c
      · simp [hxc]
      · simp [hxc]
    rw [e1, row_double (fun x => Fl.nf .f32 (xs.getD (W * H + x) 0)) _ W c hcW]
    apply List.map_congr_left
    intro x hx
    have hx := List.mem_range.1 hx
    show (if x ≤ c then Fl.nf .f32 (xs.getD (W * H + x) 0) else if c + 1 < x then Fl.nf .f32 (xs.getD (W * H + (x - 1)) 0) else growE W xs (W * H + c)) = growV W xs s x H
    rw [growV, hc, Nat.mul_comm W H]
    by_cases k1 : x ≤ c
    · rw [if_pos k1, if_pos (show (x : Int) ≤ (c : Int) by omega)]
    · rw [if_neg k1, if_neg (show ¬ (x : Int) ≤ (c : Int) by omega)]
      by_cases k2 : c + 1 < x
      · rw [if_pos k2, if_pos (show (c : Int) + 1 < (x : Int) by omega)]
      · rw [if_neg k2, if_neg (show ¬ (c : Int) + 1 < (x : Int) by omega), growE, Nat.mul_comm H W, Nat.mul_add_mod, Nat.mod_eq_of_lt hcW, Int.toNat_natCast]
        by_cases k3 : c + 1 < W
        · rw [if_pos k3, if_neg (show ¬ (c : Int) = (W : Int) - 1 by omega), half_two, Nat.add_assoc]
        · rw [if_neg k3, if_pos (show (c : Int) = (W : Int) - 1 by omega)]

theorem growP_succ_keep {W : Nat} {xs : List Nat} {s : List Int} {i : Nat} (h : cutKeep W s i = true) : growP W xs s (i + 1) = growP W xs s i ++ [Fl.nf .f32 (xs.getD i 0)] := by
  simp [growP, List.range_succ, h]
theorem growP_succ_two {W : Nat} {xs : List Nat} {s : List Int} {i : Nat} (h : cutKeep W s i = false) : growP W xs s (i + 1) = growP W xs s i ++ [Fl.nf .f32 (xs.getD i 0)] ++ [growE W xs i] := by
  simp [growP, List.range_succ, h]

end Go.Proofs.Ytjennldpjfeppaa
