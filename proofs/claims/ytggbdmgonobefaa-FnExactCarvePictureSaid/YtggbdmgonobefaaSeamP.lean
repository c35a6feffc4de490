/-
  Seams of the least cost: what the sums of costs are, and which way a seam goes.
  Conditions: none; no program in sight.
-/
import Derived.Test.YtggbdmgonobefaaA29
namespace Go.Proofs.Ytggbdmgonobefaa
open Go.RowKit
set_option linter.unusedVariables false
set_option linter.unusedSimpArgs false

def ltB (x y : Nat) : Bool := FloatKind.f32.format.order x y == some .lt
theorem ltB_nf (x y : Nat) : ltB (Fl.nf .f32 x) (Fl.nf .f32 y) = ltB x y := by unfold ltB; rw [Fl.order_nf]
theorem ltB_self (x : Nat) : ltB x x = false := by
  unfold ltB
  have h := Fl.order_self' .f32 x
  cases hn : Fl.isnan .f32 x
  · rw [hn] at h
    simp at h
    rw [h]
    rfl
  · rw [Fl.ford_nan_l hn]
    rfl

/-- The first one of the least in a row, from column k0 on over j more. -/
def best (row : Nat → Nat) (k0 : Nat) : Nat → Nat
  | 0 => k0
  | j + 1 => if ltB (row (k0 + (j + 1))) (row (best row k0 j)) then k0 + (j + 1) else best row k0 j

theorem best_in (row : Nat → Nat) (k0 : Nat) : ∀ j, k0 ≤ best row k0 j ∧ best row k0 j ≤ k0 + j
  | 0 => ⟨Nat.le_refl _, Nat.le_refl _⟩
  | j + 1 => by
    have := best_in row k0 j
    unfold best
    split <;> omega

theorem best_congr {row row' : Nat → Nat} {k0 : Nat} : ∀ j, (∀ k, k0 ≤ k → k ≤ k0 + j → Fl.nf .f32 (row k) = Fl.nf .f32 (row' k)) → best row k0 j = best row' k0 j
  | 0, _ => rfl
  | j + 1, h => by
    have ih := best_congr j fun k h1 h2 => h k h1 (by omega)
    have hb := best_in row' k0 j
    unfold best
    rw [ih, ← ltB_nf, h _ (by omega) (by omega), h (best row' k0 j) (by omega) (by omega), ltB_nf]

def above (W : Nat) (row : Nat → Nat) (x : Nat) : Nat := best row (x - 1) (min (W - 1) (x + 1) - (x - 1))
theorem above_lt {W : Nat} {row : Nat → Nat} {x : Nat} (hx : x < W) : above W row x < W := by
  have := best_in row (x - 1) (min (W - 1) (x + 1) - (x - 1))
  unfold above
  omega
theorem above_congr {W : Nat} {row row' : Nat → Nat} {x : Nat} (hx : x < W) (h : ∀ k, k < W → Fl.nf .f32 (row k) = Fl.nf .f32 (row' k)) : above W row x = above W row' x :=
  best_congr _ fun k _ h2 => h k (by omega)

def rowOf (W : Nat) (C : List Nat) (y : Nat) : Nat → Nat := fun k => C.getD (y * W + k) 0

/-- The least sums of costs down to each pixel. -/
def costC (W : Nat) (es : List Nat) : Nat → List Nat
  | 0 => []
  | i + 1 => costC W es i ++ [if i < W then Fl.nf .f32 (es.getD i 0) else Fl.fop .add .f32 (es.getD i 0) ((costC W es i).getD ((i / W - 1) * W + above W (rowOf W (costC W es i) (i / W - 1)) (i % W)) 0)]

theorem costC_len (W : Nat) (es : List Nat) : ∀ i, (costC W es i).length = i
  | 0 => rfl
  | i + 1 => by rw [costC, List.length_append, costC_len W es i]; rfl

theorem getD_nl (ys : List Nat) (i : Nat) : (nl ys).getD i 0 = Fl.nf .f32 (ys.getD i 0) := by
  simp only [nl, List.getD_eq_getElem?_getD, List.getElem?_map]
  cases ys[i]?
  · simp [nf_zero]
  · rfl

theorem costC_nl {W : Nat} {es es' : List Nat} (h : nl es = nl es') : ∀ i, costC W es i = costC W es' i
  | 0 => rfl
  | i + 1 => by
    have hi : Fl.nf .f32 (es.getD i 0) = Fl.nf .f32 (es'.getD i 0) := by rw [← getD_nl, ← getD_nl, h]
    rw [costC, costC, costC_nl h i, hi, ← Fl.fop_nf_l, hi, Fl.fop_nf_l]

/-- The costs while they are summed: i of them are done. -/
structure CostSt (W : Nat) (es : List Nat) (q i : Nat) (ys : List Nat) : Prop where
  len : ys.length = q
  done : nl (ys.take i) = costC W es i
  left : ∀ p, i ≤ p → Fl.nf .f32 (ys.getD p 0) = Fl.nf .f32 (es.getD p 0)

theorem take_getD {ys : List Nat} {i p : Nat} (h : p < i) : (ys.take i).getD p 0 = ys.getD p 0 := by
  simp only [List.getD_eq_getElem?_getD, List.getElem?_take]
  rw [if_pos h]

theorem CostSt.at {W : Nat} {es : List Nat} {q i : Nat} {ys : List Nat} (h : CostSt W es q i ys) {p : Nat} (hp : p < i) : Fl.nf .f32 (ys.getD p 0) = (costC W es i).getD p 0 := by
  rw [← h.done, getD_nl, take_getD hp]

theorem costC_first {W : Nat} {es : List Nat} : ∀ {i : Nat}, i ≤ W → i ≤ es.length → nl (es.take i) = costC W es i
  | 0, _, _ => rfl
  | i + 1, h, hl => by
    rw [costC, if_pos (show i < W by omega), ← costC_first (i := i) (by omega) (by omega), List.take_succ_eq_append_getElem (show i < es.length by omega)]
    have e : es.getD i 0 = es[i]'(by omega) := by rw [List.getD_eq_getElem?_getD, List.getElem?_eq_getElem (show i < es.length by omega)]; rfl
    rw [e, nl, List.map_append]
    rfl

theorem CostSt.start {W : Nat} {es ys : List Nat} (hn : nl ys = nl es) (h : W ≤ es.length) : CostSt W es es.length W ys := by
  have hl : ys.length = es.length := by have := congrArg List.length hn; simpa [nl] using this
  refine ⟨hl, ?_, fun p _ => by rw [← getD_nl, ← getD_nl, hn]⟩
  rw [← costC_nl hn, costC_first (Nat.le_refl _) (by omega)]

theorem mul_pred {W y : Nat} (hy : 0 < y) : (y - 1) * W + W = y * W := by
  obtain ⟨z, rfl⟩ : ∃ z, y = z + 1 := ⟨y - 1, by omega⟩
  rw [Nat.add_sub_cancel, Nat.succ_mul]

theorem CostSt.step {W : Nat} {es : List Nat} {q i : Nat} {ys : List Nat} (h : CostSt W es q i ys) (hi : i < q) (hW : W ≤ i) (hW0 : 0 < W) {r : Nat}
    (hr : Fl.nf .f32 r = Fl.fop .add .f32 (ys.getD i 0) (ys.getD ((i / W - 1) * W + above W (rowOf W ys (i / W - 1)) (i % W)) 0)) : CostSt W es q (i + 1) (ys.set i r) := by
  have hx : i % W < W := Nat.mod_lt _ hW0
  have hy : 0 < i / W := Nat.div_pos hW hW0
  have hm := Nat.div_add_mod i W
  rw [Nat.mul_comm] at hm
  have hp := mul_pred (W := W) hy
  have hrow : above W (rowOf W ys (i / W - 1)) (i % W) = above W (rowOf W (costC W es i) (i / W - 1)) (i % W) := above_congr hx fun k hk => by
    unfold rowOf
    rw [h.at (by omega), ← h.done, getD_nl, Fl.nf_nf]
  have hab := above_lt (row := rowOf W (costC W es i) (i / W - 1)) hx
  refine ⟨by rw [List.length_set, h.len], ?_, fun p hp2 => ?_⟩
  · rw [take_set_snoc ys i r (by rw [h.len]; exact hi), costC, if_neg (by omega)]
    refine nl_snoc h.done ?_
    rw [hr, hrow, ← Fl.fop_nf, h.left i (Nat.le_refl _), h.at (by omega), Fl.fop_nf_l]
  · rw [List.getD_eq_getElem?_getD, List.getElem?_set_ne (by omega), ← List.getD_eq_getElem?_getD]
    exact h.left p (by omega)

def costAll (W H : Nat) (es : List Nat) : List Nat := costC W es (W * H)
theorem CostSt.end {W H : Nat} {es : List Nat} {ys : List Nat} (h : CostSt W es (W * H) (W * H) ys) : nl ys = costAll W H es := by
  have := h.done
  rwa [List.take_of_length_le (by rw [h.len]; exact Nat.le_refl _)] at this

def lastX (W H : Nat) (C : List Nat) : Nat := best (rowOf W C (H - 1)) 0 (W - 1)
def backX (W H : Nat) (C : List Nat) : Nat → Nat
  | 0 => lastX W H C
  | t + 1 => above W (rowOf W C (H - 1 - t - 1)) (backX W H C t)
theorem lastX_lt {W H : Nat} {C : List Nat} (hW : 0 < W) : lastX W H C < W := by
  have := best_in (rowOf W C (H - 1)) 0 (W - 1)
  unfold lastX
  omega
theorem backX_lt {W H : Nat} {C : List Nat} (hW : 0 < W) : ∀ t, backX W H C t < W
  | 0 => lastX_lt hW
  | t + 1 => above_lt (backX_lt hW t)
def seamL (W H : Nat) (C : List Nat) : List Int := (List.range H).map fun y => ((backX W H C (H - 1 - y) : Nat) : Int)
theorem seamL_len (W H : Nat) (C : List Nat) : (seamL W H C).length = H := by simp [seamL]
def seamN (W H : Nat) (C : List Nat) : Nat := C.getD ((H - 1) * W + lastX W H C) 0

theorem row_at {W H : Nat} {ys C : List Nat} (hn : nl ys = C) (y k : Nat) : Fl.nf .f32 (rowOf W ys y k) = Fl.nf .f32 (rowOf W C y k) := by
  unfold rowOf
  rw [← hn, getD_nl, Fl.nf_nf]

/-- One more entry of the seam. -/
theorem seam_set {W H : Nat} {C : List Nat} {s : List Int} {t : Nat} (ht : t < H) (hl : s.length = H) (hs : s.drop (H - t) = (seamL W H C).drop (H - t)) :
    (s.set (H - 1 - t) ((backX W H C t : Nat) : Int)).drop (H - (t + 1)) = (seamL W H C).drop (H - (t + 1)) := by
  have e : H - (t + 1) = H - 1 - t := by omega
  have e2 : H - 1 - t + 1 = H - t := by omega
  rw [e, List.drop_eq_getElem_cons (by rw [List.length_set, hl]; omega), List.drop_eq_getElem_cons (l := seamL W H C) (by rw [seamL_len]; omega), e2, List.getElem_set_self, List.drop_set_of_lt (by omega), hs]
  congr 1
  simp only [seamL, List.getElem_map, List.getElem_range]
  rw [show H - 1 - (H - 1 - t) = t by omega]

theorem fin_inf (s : Bool) : Fl.fin (Fl.nf .f32 (FloatKind.f32.format.write (.infinity s))) = false := by cases s <;> decide +kernel
theorem fin_nan : Fl.fin (Fl.nf .f32 (Fl.NAN .f32)) = false := by decide +kernel
theorem fin_add {x y : Nat} (h : Fl.fin (Fl.fop .add .f32 x y) = true) : Fl.fin x = true := by
  cases hr : FloatKind.f32.format.read x with
  | nan s f =>
    have : floatBits .add .f32 x y = none := by
      cases hy : FloatKind.f32.format.read y <;> simp [floatBits, Ieee.Format.add, hr, hy, Ieee.Datum.sum]
    rw [Fl.fop, this, Option.getD_none, fin_nan] at h
    cases h
  | infinity s =>
    have : floatBits .add .f32 x y = none ∨ floatBits .add .f32 x y = some (FloatKind.f32.format.write (.infinity s)) := by
      cases hy : FloatKind.f32.format.read y with
      | nan s2 f2 => simp [floatBits, Ieee.Format.add, hr, hy, Ieee.Datum.sum]
      | number s2 m2 p2 => simp [floatBits, Ieee.Format.add, hr, hy, Ieee.Datum.sum]
      | infinity s2 => cases s <;> cases s2 <;> simp [floatBits, Ieee.Format.add, hr, hy, Ieee.Datum.sum]
    rcases this with h2 | h2
    · rw [Fl.fop, h2, Option.getD_none, fin_nan] at h
      cases h
    · rw [Fl.fop, h2, Option.getD_some, fin_inf] at h
      cases h
  | number s m e =>
    have : floatBits .sub .f32 x x = some 0 := by
      cases s <;> simp [floatBits, Ieee.Format.sub, hr, Ieee.Datum.sum, Ieee.Datum.opposite, Ieee.signed, Int.add_right_neg, Int.add_left_neg, Ieee.Format.write, Ieee.Format.nearest, Ieee.Format.word]
    unfold Fl.fin
    rw [Fl.fop, this]
    decide +kernel

theorem costC_fin {W : Nat} {es : List Nat} : ∀ i, allFin (costC W es i) = true → ∀ p, p < i → Fl.fin (es.getD p 0) = true
  | 0, _, _, hp => absurd hp (Nat.not_lt_zero _)
  | i + 1, h, p, hp => by
    rw [costC, allFin, List.all_append, Bool.and_eq_true] at h
    rcases Nat.lt_or_ge p i with h1 | h1
    · exact costC_fin i h.1 p h1
    · have e : p = i := by omega
      subst e
      have h2 := h.2
      simp only [List.all_cons, List.all_nil, Bool.and_true] at h2
      split at h2
      · rwa [Fl.fin_nf] at h2
      · exact fin_add h2

theorem costAll_fin {W H : Nat} {es : List Nat} (hl : es.length = W * H) (h : allFin (costAll W H es) = true) : allFin es = true := by
  have := costC_fin _ h
  rw [allFin, List.all_eq_true]
  intro x hx
  obtain ⟨i, hi, rfl⟩ := List.getElem_of_mem hx
  have := this i (by omega)
  rwa [List.getD_eq_getElem?_getD, List.getElem?_eq_getElem hi] at this

end Go.Proofs.Ytggbdmgonobefaa
