/-
  A number's nearest word does not ask how its mantissa and its place share the twos; half of a number, said in two ways.
  Conditions: none.
-/
import Derived.Test.YtggbdmgonobefaaA9
namespace Go.Proofs.Ytggbdmgonobefaa
open Go.RowKit
set_option linter.unusedVariables false
set_option linter.unusedSimpArgs false
open Ieee

theorem log2_shl {m : Nat} (hm : m ≠ 0) (k : Nat) : (m <<< k).log2 = m.log2 + k := by
  rw [Nat.shiftLeft_eq]
  have h1 := Nat.log2_self_le hm
  have h2 : m < 2 ^ (m.log2 + 1) := Nat.lt_log2_self
  have h0 : m * 2 ^ k ≠ 0 := Nat.mul_ne_zero hm (Nat.pos_iff_ne_zero.1 (Nat.two_pow_pos k))
  have ha : 2 ^ (m.log2 + k) ≤ m * 2 ^ k := by rw [Nat.pow_add]; exact Nat.mul_le_mul_right _ h1
  have hb : m * 2 ^ k < 2 ^ (m.log2 + k + 1) := by
    have : 2 ^ (m.log2 + k + 1) = 2 ^ (m.log2 + 1) * 2 ^ k := by rw [← Nat.pow_add]; congr 1; omega
    rw [this]
    exact Nat.mul_lt_mul_of_pos_right h2 (Nat.two_pow_pos k)
  have c := (Nat.le_log2 h0).2 ha
  have d := (Nat.log2_lt h0).2 hb
  omega

theorem cut_zero (way : Toward) (neg : Bool) (n : Nat) : way.cut neg n 0 = n := by
  unfold Toward.cut
  cases way <;> simp [Nat.mod_one]

theorem cut_shl (neg : Bool) (m k d : Nat) (hm : m ≠ 0) : Toward.even.cut neg (m <<< k) (d + k) = Toward.even.cut neg m d := by
  have hpos : 0 < 2 ^ k := Nat.two_pow_pos k
  have hmin : min (d + k) ((m <<< k).log2 + 2) = min d (m.log2 + 2) + k := by rw [log2_shl hm]; omega
  unfold Toward.cut
  simp only [hmin]
  generalize min d (m.log2 + 2) = g
  have hgap : (1 <<< (g + k) : Nat) = 1 <<< g * 2 ^ k := by simp only [Nat.shiftLeft_eq, Nat.one_mul, Nat.pow_add]
  have hmk : (m <<< k : Nat) = m * 2 ^ k := Nat.shiftLeft_eq _ _
  rw [hgap, hmk]
  generalize (1 <<< g : Nat) = G
  have h1 : m * 2 ^ k / (G * 2 ^ k) = m / G := Nat.mul_div_mul_right _ _ hpos
  have h2 : m * 2 ^ k % (G * 2 ^ k) = m % G * 2 ^ k := Nat.mul_mod_mul_right _ _ _
  rw [h1, h2]
  have h3 : decide (G * 2 ^ k < 2 * (m % G * 2 ^ k)) = decide (G < 2 * (m % G)) := by
    rw [← Nat.mul_assoc]
    exact decide_eq_decide.2 ⟨fun h => Nat.lt_of_mul_lt_mul_right h, fun h => Nat.mul_lt_mul_of_pos_right h hpos⟩
  have h4 : (G * 2 ^ k == 2 * (m % G * 2 ^ k)) = (G == 2 * (m % G)) := by
    rw [← Nat.mul_assoc]
    rw [Bool.eq_iff_iff]
    simp only [beq_iff_eq]
    exact ⟨fun h => Nat.eq_of_mul_eq_mul_right hpos h, fun h => congrArg (· * 2 ^ k) h⟩
  rw [h3, h4]

theorem cut_shl_le (neg : Bool) (m k d : Nat) (hm : m ≠ 0) (h : d ≤ k) : Toward.even.cut neg (m <<< k) d = m <<< (k - d) := by
  have h1 := cut_shl neg (m <<< (k - d)) d 0 (by rw [Nat.shiftLeft_eq]; exact Nat.mul_ne_zero hm (Nat.pos_iff_ne_zero.1 (Nat.two_pow_pos _)))
  rw [cut_zero, Nat.zero_add, ← Nat.shiftLeft_add, Nat.sub_add_cancel h] at h1
  exact h1

theorem nearest_shl (f : Format) (neg : Bool) (m k : Nat) (p : Int) : f.nearest neg (m <<< k) p = f.nearest neg m (p + k) := by
  by_cases hm : m = 0
  · subst hm
    simp [Format.nearest]
  · have hm' : m <<< k ≠ 0 := by rw [Nat.shiftLeft_eq]; exact Nat.mul_ne_zero hm (Nat.pos_iff_ne_zero.1 (Nat.two_pow_pos _))
    unfold Format.nearest
    rw [if_neg hm, if_neg hm', log2_shl hm]
    have hlast : p + ((m.log2 + k : Nat) : Int) - f.fractionBits = p + k + (m.log2 : Int) - f.fractionBits := by omega
    simp only [hlast]
    generalize max (p + k + (m.log2 : Int) - f.fractionBits) f.leastPlace = last
    have hc : Toward.even.cut neg ((m <<< k) <<< (p - last).toNat) (last - p).toNat = Toward.even.cut neg (m <<< (p + k - last).toNat) (last - (p + k)).toNat := by
      by_cases h1 : last ≤ p
      · have e1 : (last - p).toNat = 0 := by omega
        have e2 : (last - (p + k)).toNat = 0 := by omega
        have e3 : (p + k - last).toNat = k + (p - last).toNat := by omega
        rw [e1, e2, e3, cut_zero, cut_zero, Nat.shiftLeft_add]
      · have e0 : (p - last).toNat = 0 := by omega
        rw [e0, Nat.shiftLeft_zero]
        by_cases h2 : last ≤ p + k
        · have e2 : (last - (p + k)).toNat = 0 := by omega
          have e3 : (p + k - last).toNat = k - (last - p).toNat := by omega
          rw [e2, cut_zero, e3]
          exact cut_shl_le neg m k _ hm (by omega)
        · have e2 : (last - p).toNat = (last - (p + k)).toNat + k := by omega
          have e3 : (p + k - last).toNat = 0 := by omega
          rw [e2, e3, Nat.shiftLeft_zero]
          exact cut_shl neg m k _ hm
    rw [hc]

theorem read_half : FloatKind.f32.format.read 1056964608 = .number false 8388608 (-24) := by decide +kernel
theorem read_two : FloatKind.f32.format.read 1073741824 = .number false 8388608 (-22) := by decide +kernel

/-- Half of a number, said in two ways. -/
theorem half_two (x : Nat) : Fl.fop .mul .f32 1056964608 x = Fl.fop .quo .f32 x 1073741824 := by
  have : floatBits .mul .f32 1056964608 x = floatBits .quo .f32 x 1073741824 := by
    cases hr : FloatKind.f32.format.read x with
    | nan s f => simp [floatBits, Format.mul, Format.div, hr, read_half, read_two, Datum.product, Datum.quotient]
    | infinity s => simp [floatBits, Format.mul, Format.div, hr, read_half, read_two, Datum.product, Datum.quotient]
    | number s m p =>
      obtain ⟨h1, -, -⟩ := Fl.read32 x hr
      simp only [floatBits, Format.mul, Format.div, hr, read_half, read_two, Datum.product, Datum.quotient, Option.map_some, Format.write]
      congr 1
      by_cases hm : m = 0
      · subst hm
        simp [Format.write, Format.nearest]
      · have hl := Fl.log2_lt_24 hm h1
        have hl2 : (8388608 : Nat).log2 = 23 := by decide +kernel
        simp only [show ¬ ((8388608 : Nat) = 0) by decide, if_false, hl2]
        obtain ⟨k, hk⟩ : ∃ k, FloatKind.f32.format.fractionBits + 2 + 23 - m.log2 = k + 23 := ⟨25 - m.log2, by have : FloatKind.f32.format.fractionBits = 23 := rfl; omega⟩
        rw [hk]
        have e1 : m <<< (k + 23) = (m <<< k) * 8388608 := by rw [Nat.shiftLeft_add, Nat.shiftLeft_eq _ 23]
        have e2 : m <<< (k + 23) / 8388608 = m <<< k := by rw [e1]; exact Nat.mul_div_cancel _ (by decide)
        have e3 : m <<< (k + 23) % 8388608 = 0 := by rw [e1]; exact Nat.mul_mod_left _ _
        rw [e2, e3]
        have e4 : 2 * (m <<< k) + (0 != 0).toNat = m <<< (k + 1) := by rw [Nat.shiftLeft_succ]; simp
        have e5 : (8388608 * m : Nat) = m <<< 23 := by rw [Nat.shiftLeft_eq, Nat.mul_comm]
        rw [e4, e5]
        show FloatKind.f32.format.nearest _ _ _ = FloatKind.f32.format.nearest _ _ _
        rw [nearest_shl, nearest_shl]
        congr 1
        · simp
        · omega
  unfold Fl.fop
  rw [this]

end Go.Proofs.Ytggbdmgonobefaa
