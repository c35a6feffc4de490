/-
  Words read and written: what 'nearest' gives where the number fits; a float32 as a float64 and back.
  Conditions: none; plain lemmas.
-/
import Derived.Test.YtggbdmgonobefaaFlt
namespace Go.Proofs.Ytggbdmgonobefaa.Fl
set_option linter.unusedVariables false
set_option linter.unusedSimpArgs false
open Ieee

theorem word_mod (f : Format) (neg : Bool) {r : Nat} (h : r < f.signWeight) : f.word neg r % f.signWeight = r := by
  unfold Format.word
  split
  · rw [Nat.add_mod_left, Nat.mod_eq_of_lt h]
  · exact Nat.mod_eq_of_lt h
theorem word_div (f : Format) (neg : Bool) {r : Nat} (h : r < f.signWeight) : (f.word neg r / f.signWeight % 2 == 1) = neg := by
  unfold Format.word
  have h0 : 0 < f.signWeight := by omega
  cases neg
  · simp [Nat.div_eq_of_lt h]
  · simp [Nat.add_div_left, h0, Nat.div_eq_of_lt h]

theorem read_word (f : Format) (neg : Bool) {r : Nat} (h : r < f.signWeight) : f.read (f.word neg r) =
    (if r < f.binade then .number neg r f.leastPlace
     else if r < f.infRung then .number neg (f.binade + r % f.binade) (f.leastPlace + (r / f.binade - 1 : Nat))
     else if r = f.infRung then .infinity neg else .nan neg (r - f.infRung)) := by
  unfold Format.read
  dsimp only
  rw [word_div f neg h, word_mod f neg h]

theorem isnan_word {k : FloatKind} (neg : Bool) {r : Nat} (h : r ≤ k.format.infRung) : isnan k (k.format.word neg r) = false := by
  have h1 := k.format.infRung_lt
  unfold isnan
  rw [read_word _ _ (by omega)]
  split
  · rfl
  · split
    · rfl
    · rw [if_pos (by omega)]; rfl

theorem isnan_nearest (k : FloatKind) (neg : Bool) (m : Nat) (p : Int) : isnan k (k.format.nearest neg m p) = false := by
  unfold Format.nearest
  dsimp only
  split
  · exact isnan_word _ (Nat.zero_le _)
  · exact isnan_word _ (Nat.min_le_right _ _)

theorem isnan_ofInt (k : FloatKind) (n : Int) : isnan k (floatOfInt k n) = false := isnan_nearest k _ _ _

/-- A number whose digits fit is written as it is: the rung. -/
theorem nearest_fits (f : Format) (neg : Bool) {m : Nat} {p : Int} (hm : m ≠ 0) (he : m.log2 ≤ f.fractionBits) (hlo : f.leastPlace ≤ p + m.log2 - f.fractionBits) :
    f.nearest neg m p = f.word neg (min ((p + m.log2 - f.fractionBits - f.leastPlace).toNat * f.binade + m <<< (f.fractionBits - m.log2)) f.infRung) := by
  unfold Format.nearest
  rw [if_neg hm]
  dsimp only
  have h1 : max (p + (m.log2 : Int) - (f.fractionBits : Int)) f.leastPlace = p + m.log2 - f.fractionBits := by omega
  rw [h1]
  have h2 : (p - (p + (m.log2 : Int) - (f.fractionBits : Int))).toNat = f.fractionBits - m.log2 := by omega
  have h3 : (p + (m.log2 : Int) - (f.fractionBits : Int) - p).toNat = 0 := by omega
  rw [h2, h3]
  congr 2
  simp [Toward.cut, Nat.mod_one]

theorem log2_bounds {m : Nat} (hm : m ≠ 0) : 2 ^ m.log2 ≤ m ∧ m < 2 ^ (m.log2 + 1) := ⟨Nat.log2_self_le hm, Nat.lt_log2_self⟩

/-- Such a number's word reads as the number, its digits pushed to the front. -/
theorem read_nearest_fits (f : Format) (neg : Bool) {m : Nat} {p : Int} (hm : m ≠ 0) (he : m.log2 ≤ f.fractionBits) (hlo : f.leastPlace ≤ p + m.log2 - f.fractionBits)
    (hhi : (p + m.log2 - f.fractionBits - f.leastPlace).toNat + 2 < 2 ^ f.exponentBits) :
    f.read (f.nearest neg m p) = .number neg (m <<< (f.fractionBits - m.log2)) (p + m.log2 - f.fractionBits) := by
  rw [nearest_fits f neg hm he hlo]
  have hb : 0 < f.binade := Nat.two_pow_pos _
  obtain ⟨q, hq⟩ : ∃ q, q = (p + (m.log2 : Int) - (f.fractionBits : Int) - f.leastPlace).toNat := ⟨_, rfl⟩
  rw [← hq] at hhi ⊢
  obtain ⟨s, hs⟩ : ∃ s, s = m <<< (f.fractionBits - m.log2) := ⟨_, rfl⟩
  rw [← hs]
  have hs1 : f.binade ≤ s ∧ s < 2 * f.binade := by
    rw [hs, Nat.shiftLeft_eq]
    have hx := log2_bounds hm
    have e1 : f.binade = 2 ^ m.log2 * 2 ^ (f.fractionBits - m.log2) := by rw [← Nat.pow_add]; unfold Format.binade; congr 1; omega
    have e2 : 2 * f.binade = 2 ^ (m.log2 + 1) * 2 ^ (f.fractionBits - m.log2) := by rw [← Nat.pow_add, show m.log2 + 1 + (f.fractionBits - m.log2) = f.fractionBits + 1 by omega, Nat.pow_succ, Nat.mul_comm]; rfl
    rw [e2, e1]
    exact ⟨Nat.mul_le_mul_right _ hx.1, Nat.mul_lt_mul_of_pos_right hx.2 (Nat.two_pow_pos _)⟩
  have hr : q * f.binade + s < f.infRung := by
    unfold Format.infRung
    have : (q + 2) * f.binade ≤ (2 ^ f.exponentBits - 1) * f.binade := Nat.mul_le_mul_right _ (by omega)
    rw [Nat.add_mul] at this
    omega
  rw [Nat.min_eq_left (Nat.le_of_lt hr)]
  have hsw := f.infRung_lt
  rw [read_word f neg (by omega)]
  have hnb : ¬ (q * f.binade + s < f.binade) := by
    have := Nat.zero_le (q * f.binade)
    omega
  rw [if_neg hnb, if_pos hr]
  have e1 : q * f.binade + s = (s - f.binade) + f.binade * (q + 1) := by
    rw [Nat.mul_comm q, Nat.mul_add, Nat.mul_one]
    omega
  have e2 : (q * f.binade + s) % f.binade = s - f.binade := by
    rw [e1, Nat.add_mul_mod_self_left, Nat.mod_eq_of_lt (by omega)]
  have e3 : (q * f.binade + s) / f.binade = q + 1 := by
    rw [e1, Nat.add_mul_div_left _ _ hb, Nat.div_eq_of_lt (by omega)]
    omega
  rw [e2, e3]
  congr 1
  · omega
  · rw [hq]; omega

/-- What a float32 reads as: its digits and its place. -/
theorem read32 (b : Nat) {s : Bool} {m : Nat} {p : Int} (h : FloatKind.f32.format.read b = .number s m p) : m < 16777216 ∧ -149 ≤ p ∧ p ≤ 104 := by
  have hle : single.leastPlace = -149 := by decide
  have hbi : single.binade = 8388608 := by decide +kernel
  have hin : single.infRung = 2139095040 := by decide +kernel
  change single.read b = _ at h
  unfold Format.read at h
  dsimp only at h
  rw [hle, hbi, hin] at h
  split at h
  · simp only [Datum.number.injEq] at h; omega
  · split at h
    · simp only [Datum.number.injEq] at h; omega
    · split at h <;> cases h

theorem read64 (b : Nat) {s : Bool} {m : Nat} {p : Int} (h : FloatKind.f64.format.read b = .number s m p) : m < 9007199254740992 ∧ -1074 ≤ p ∧ p ≤ 971 := by
  have hle : double.leastPlace = -1074 := by decide
  have hbi : double.binade = 4503599627370496 := by decide +kernel
  have hin : double.infRung = 9218868437227405312 := by decide +kernel
  change double.read b = _ at h
  unfold Format.read at h
  dsimp only at h
  rw [hle, hbi, hin] at h
  split at h
  · simp only [Datum.number.injEq] at h; omega
  · split at h
    · simp only [Datum.number.injEq] at h; omega
    · split at h <;> cases h

theorem log2_lt_24 {m : Nat} (hm : m ≠ 0) (h : m < 16777216) : m.log2 ≤ 23 := by
  have := log2_bounds hm
  have h2 : 2 ^ m.log2 < 2 ^ 24 := Nat.lt_of_le_of_lt this.1 h
  have := (Nat.pow_lt_pow_iff_right (by omega)).1 h2
  omega

/-- A float32's number as a float64: exact. -/
theorem wide_read (s : Bool) {m : Nat} {p : Int} (hm : m ≠ 0) (h : m < 16777216) (h1 : -149 ≤ p) (h2 : p ≤ 104) :
    double.read (double.nearest s m p) = .number s (m <<< (52 - m.log2)) (p + m.log2 - 52) := by
  have hl := log2_lt_24 hm h
  have hle : double.leastPlace = -1074 := by decide
  have hfb : double.fractionBits = 52 := rfl
  have heb : 2 ^ double.exponentBits = 2048 := by decide
  exact read_nearest_fits double s hm (by rw [hfb]; omega) (by rw [hfb, hle]; omega) (by rw [hfb, hle, heb]; omega)

theorem tooGreat_wide (b : Nat) : tooGreat .f32 .f64 b = false := by
  unfold tooGreat
  cases hn : isnan .f32 b
  · have : (floatToFloatBits .f32 b .f64).isSome = true := by
      unfold floatToFloatBits
      rw [if_neg (by decide)]
      unfold isnan at hn
      unfold FloatKind.decode
      cases hr : FloatKind.f32.format.read b with
      | nan s f => rw [hr] at hn; cases hn
      | infinity s => rfl
      | number s m p =>
        obtain ⟨h1, h2, h3⟩ := read32 b hr
        dsimp only
        have : (FloatKind.f64.format.read (FloatKind.f64.encode (.number s m p))).isInfinity = false := by
          change (double.read (double.nearest s m p)).isInfinity = false
          by_cases hm : m = 0
          · subst hm
            unfold Format.nearest
            rw [if_pos rfl, read_word _ _ (by decide +kernel)]
            rfl
          · rw [wide_read s hm h1 h2 h3]; rfl
        rw [if_neg (by rw [this]; exact Bool.false_ne_true)]
        rfl
    rw [this]; rfl
  · simp

theorem run_wide {P : Program} (w : World) (src dst : TypeId) (b : Nat) (hs : (P.underlying src).isSome = true) (hd : P.underlying dst = some (.float .f64)) :
    (convert src dst (.float .f32 b)).run P w = .ok (.float .f64 (cres w .f32 .f64 b)) (w.drewN (cdr .f32 .f64 b)) :=
  run_fconv w src dst .f32 .f64 b hs hd (by decide) (tooGreat_wide b)

/-- The canonical float64 of a canonical float32. -/
def wide (b : Nat) : Nat := fconv .f32 .f64 b
theorem nf_wide {w : World} {b : Nat} : nf .f64 (cres w .f32 .f64 b) = wide b := nf_cres
theorem wide_nf (b : Nat) : wide (nf .f32 b) = wide b := fconv_nf (by decide) b

end Go.Proofs.Ytggbdmgonobefaa.Fl
