/-
  The absolute value of a float32, made by a float64 without its sign, and made by a difference from nought.
  Conditions: none.
-/
import Derived.Test.YtggbdmgonobefaaScale
namespace Go.Proofs.Ytggbdmgonobefaa
open Go.RowKit
set_option linter.unusedVariables false
set_option linter.unusedSimpArgs false
open Ieee

theorem log2_of_bounds {m e : Nat} (h1 : 2 ^ e ≤ m) (h2 : m < 2 ^ (e + 1)) : m.log2 = e := by
  have h0 : m ≠ 0 := by
    have := Nat.two_pow_pos e
    omega
  have a := (Nat.le_log2 h0).2 h1
  have b := (Nat.log2_lt h0).2 h2
  omega

/-- What a word reads as is written as the word, whatever its sign. -/
theorem nearest_rung (f : Format) {x m : Nat} {s : Bool} {p : Int} (h : f.read x = .number s m p) (neg : Bool) (hb : f.binade ≤ f.infRung) :
    f.nearest neg m p = f.word neg (x % f.signWeight) := by
  obtain ⟨r, hr⟩ : ∃ r, r = x % f.signWeight := ⟨_, rfl⟩
  unfold Format.read at h
  dsimp only at h
  rw [← hr] at h ⊢
  have hbp : 0 < f.binade := Nat.two_pow_pos _
  split at h
  · rename_i hlt
    simp only [Datum.number.injEq] at h
    obtain ⟨-, rfl, rfl⟩ := h
    by_cases hm : r = 0
    · subst hm
      simp [Format.nearest]
    · have hl := Fl.log2_bounds hm
      have h2 : 2 ^ r.log2 < 2 ^ f.fractionBits := Nat.lt_of_le_of_lt hl.1 hlt
      have h3 := (Nat.pow_lt_pow_iff_right (by omega)).1 h2
      unfold Format.nearest
      rw [if_neg hm]
      dsimp only
      have e1 : max (f.leastPlace + (r.log2 : Int) - (f.fractionBits : Int)) f.leastPlace = f.leastPlace := by omega
      rw [e1]
      simp only [Int.sub_self, Int.toNat_zero, Nat.shiftLeft_zero, cut_zero, Nat.zero_mul, Nat.zero_add]
      rw [Nat.min_eq_left (by omega)]
  · rename_i hge
    split at h
    · rename_i hlt
      simp only [Datum.number.injEq] at h
      obtain ⟨-, rfl, rfl⟩ := h
      have hmod : r % f.binade < f.binade := Nat.mod_lt _ hbp
      have hl : (f.binade + r % f.binade).log2 = f.fractionBits := log2_of_bounds (Nat.le_add_right _ _) (by
        rw [Nat.pow_succ]
        show f.binade + r % f.binade < f.binade * 2
        omega)
      rw [Fl.nearest_fits f neg (by omega) (by rw [hl]; exact Nat.le_refl _) (by rw [hl]; omega), hl]
      have e1 : (f.leastPlace + ((r / f.binade - 1 : Nat) : Int) + (f.fractionBits : Int) - (f.fractionBits : Int) - f.leastPlace).toNat = r / f.binade - 1 := by omega
      rw [e1, Nat.sub_self, Nat.shiftLeft_zero]
      have hq : 1 ≤ r / f.binade := (Nat.one_le_div_iff hbp).2 (by omega)
      have e2 : (r / f.binade - 1) * f.binade + (f.binade + r % f.binade) = r := by
        obtain ⟨q, hq'⟩ : ∃ q, r / f.binade = q + 1 := ⟨r / f.binade - 1, by omega⟩
        have hd := Nat.div_add_mod r f.binade
        rw [hq', Nat.mul_add, Nat.mul_one, Nat.mul_comm] at hd
        rw [hq', Nat.add_sub_cancel]
        omega
      rw [e2, Nat.min_eq_left (by omega)]
    · split at h <;> cases h

theorem read_zero_rung {x m : Nat} {s : Bool} {p : Int} (h : FloatKind.f32.format.read x = .number s m p) (hm : m = 0) : x % 2147483648 = 0 := by
  have := nearest_rung _ h false (Fl.binade_le _)
  subst hm
  rw [Fl.signWeight32] at this
  simp [Format.nearest, Format.word] at this
  exact this.symm

/-- A word of 64 bits without its first one. -/
def absW (b : Nat) : Nat := b % 9223372036854775808
/-- The absolute value. -/
def absF (x : Nat) : Nat := if Fl.isnan .f32 x then Fl.NAN .f32 else x % 2147483648
/-- The absolute value, by a difference. -/
def sizeF (x : Nat) : Nat := if FloatKind.f32.format.order x 0 == some .lt || FloatKind.f32.format.order x 0 == some .eq then Fl.fop .sub .f32 0 x else Fl.nf .f32 x

theorem signW64 : double.signWeight = 9223372036854775808 := Fl.signWeight64
theorem signW32 : single.signWeight = 2147483648 := Fl.signWeight32

theorem rung_of_isnan {b : Nat} (h : Fl.isnan .f64 b = true) : FloatKind.f64.format.infRung < b % FloatKind.f64.format.signWeight := by
  refine Classical.byContradiction fun hn => ?_
  unfold Fl.isnan Format.read at h
  dsimp only at h
  by_cases g1 : b % FloatKind.f64.format.signWeight < FloatKind.f64.format.binade
  · rw [if_pos g1] at h
    cases h
  · rw [if_neg g1] at h
    by_cases g2 : b % FloatKind.f64.format.signWeight < FloatKind.f64.format.infRung
    · rw [if_pos g2] at h
      cases h
    · rw [if_neg g2, if_pos (by omega)] at h
      cases h

theorem isnan_absW {b : Nat} (h : Fl.isnan .f64 b = true) : Fl.isnan .f64 (absW b) = true := by
  have h1 := rung_of_isnan h
  refine Fl.isnan_of_rung ?_
  have : absW b % FloatKind.f64.format.signWeight = b % FloatKind.f64.format.signWeight := by
    rw [Fl.signWeight64]
    unfold absW
    omega
  rw [this]
  exact h1

theorem wide_some {x m : Nat} {s : Bool} {p : Int} (h : FloatKind.f32.format.read x = .number s m p) : floatToFloatBits .f32 x .f64 = some (double.nearest s m p) := by
  obtain ⟨h1, h2, h3⟩ := Fl.read32 x h
  unfold floatToFloatBits
  rw [if_neg (by decide)]
  unfold FloatKind.decode
  rw [h]
  dsimp only
  have : (FloatKind.f64.format.read (FloatKind.f64.encode (.number s m p))).isInfinity = false := by
    change (double.read (double.nearest s m p)).isInfinity = false
    by_cases hm : m = 0
    · subst hm
      unfold Format.nearest
      rw [if_pos rfl, Fl.read_word _ _ (by decide +kernel)]
      rfl
    · rw [Fl.wide_read s hm h1 h2 h3]; rfl
  rw [if_neg (by rw [this]; exact Bool.false_ne_true)]
  rfl

theorem rung_lt_inf {x m : Nat} {s : Bool} {p : Int} (h : FloatKind.f32.format.read x = .number s m p) : x % single.signWeight < single.infRung := by
  change single.read x = _ at h
  unfold Format.read at h
  dsimp only at h
  have hb : single.binade ≤ single.infRung := Fl.binade_le .f32
  split at h
  · omega
  · split at h
    · assumption
    · split at h <;> cases h

theorem word_of_nearest (neg : Bool) (m : Nat) (p : Int) : ∃ r, r ≤ double.infRung ∧ double.nearest neg m p = double.word neg r ∧ double.nearest false m p = double.word false r := by
  by_cases hm : m = 0
  · exact ⟨0, Nat.zero_le _, by simp [Format.nearest, hm], by simp [Format.nearest, hm]⟩
  · simp only [Format.nearest, hm, if_false]
    exact ⟨_, Nat.min_le_right _ _, rfl, rfl⟩

theorem narrow_abs {x m : Nat} {s : Bool} {p : Int} (h : FloatKind.f32.format.read x = .number s m p) : floatToFloatBits .f64 (absW (double.nearest s m p)) .f32 = some (x % 2147483648) := by
  obtain ⟨h1, h2, h3⟩ := Fl.read32 x h
  obtain ⟨r, hr, e1, e2⟩ := word_of_nearest s m p
  have hinf : double.infRung < double.signWeight := double.infRung_lt
  have e3 : absW (double.nearest s m p) = double.nearest false m p := by
    rw [e1, e2]
    have := Fl.word_mod double s (r := r) (by omega)
    rw [signW64] at this
    unfold absW
    rw [this]
    rfl
  rw [e3]
  have hn : FloatKind.f32.encode (.number false m p) = x % 2147483648 := by
    change single.nearest false m p = _
    have := nearest_rung single h false (Fl.binade_le .f32)
    rw [this, signW32]
    rfl
  have hd : ∃ m' p', double.read (double.nearest false m p) = .number false m' p' ∧ single.nearest false m' p' = single.nearest false m p := by
    by_cases hm : m = 0
    · subst hm
      refine ⟨0, double.leastPlace, ?_, ?_⟩
      · unfold Format.nearest
        rw [if_pos rfl, Fl.read_word _ _ (by decide +kernel)]
        decide +kernel
      · simp [Format.nearest]
    · refine ⟨_, _, Fl.wide_read false hm h1 h2 h3, ?_⟩
      rw [nearest_shl]
      have := Fl.log2_lt_24 hm h1
      congr 1
      omega
  obtain ⟨m', p', hd1, hd2⟩ := hd
  unfold floatToFloatBits
  rw [if_neg (by decide)]
  unfold FloatKind.decode
  rw [show FloatKind.f64.format.read (double.nearest false m p) = .number false m' p' from hd1]
  dsimp only
  have he : FloatKind.f32.encode (.number false m' p') = x % 2147483648 := by
    rw [← hn]
    exact hd2
  rw [he]
  have hnot : (FloatKind.f32.format.read (x % 2147483648)).isInfinity = false := by
    have hlt := rung_lt_inf h
    rw [signW32] at hlt
    change (single.read (x % 2147483648)).isInfinity = false
    unfold Format.read
    dsimp only
    have e4 : x % 2147483648 % single.signWeight = x % 2147483648 := by rw [signW32]; omega
    rw [e4]
    by_cases g1 : x % 2147483648 < single.binade
    · rw [if_pos g1]
      rfl
    · rw [if_neg g1, if_pos hlt]
      rfl
  rw [if_neg (by rw [hnot]; exact Bool.false_ne_true)]

theorem absW_inf (s : Bool) : floatToFloatBits .f64 (absW (double.word s double.infRung)) .f32 = some 2139095040 := by
  cases s <;> decide +kernel

theorem inf_rung {x : Nat} {s : Bool} (h : FloatKind.f32.format.read x = .infinity s) : x % 2147483648 = 2139095040 ∧ (x / 2147483648 % 2 == 1) = s := by
  unfold Format.read at h
  dsimp only at h
  rw [Fl.signWeight32, Fl.infRung32] at h
  split at h
  · cases h
  · split at h
    · cases h
    · split at h
      · simp only [Datum.infinity.injEq] at h
        exact ⟨by assumption, h⟩
      · cases h

/-- The absolute value by a float64. -/
theorem abs_nf (w : World) (x : Nat) : Fl.tooGreat .f64 .f32 (absW (Fl.cres w .f32 .f64 x)) = false ∧ Fl.fconv .f64 .f32 (absW (Fl.cres w .f32 .f64 x)) = absF x := by
  cases hr : FloatKind.f32.format.read x with
  | nan s f =>
    have hx : Fl.isnan .f32 x = true := by simp [Fl.isnan, hr, Datum.isNaN]
    have hc : Fl.isnan .f64 (Fl.cres w .f32 .f64 x) = true := by
      unfold Fl.cres
      rw [Fl.conv_nan (by decide) hx]
      exact Fl.isnan_conv _ _ _
    have ha := isnan_absW hc
    refine ⟨by unfold Fl.tooGreat; rw [ha]; simp, ?_⟩
    unfold Fl.fconv absF
    rw [Fl.conv_nan (by decide) ha, hx]
    exact Fl.nf_NAN _
  | infinity s =>
    have hx : Fl.isnan .f32 x = false := by simp [Fl.isnan, hr, Datum.isNaN]
    have hw : floatToFloatBits .f32 x .f64 = some (double.word s double.infRung) := by
      unfold floatToFloatBits
      rw [if_neg (by decide)]
      unfold FloatKind.decode
      rw [hr]
      rfl
    have ha := absW_inf s
    unfold Fl.cres
    rw [hw]
    simp only [Option.getD_some]
    unfold Fl.tooGreat Fl.fconv absF
    rw [ha, hx, (inf_rung hr).1]
    exact ⟨rfl, by decide +kernel⟩
  | number s m p =>
    have hx : Fl.isnan .f32 x = false := by simp [Fl.isnan, hr, Datum.isNaN]
    unfold Fl.cres
    rw [wide_some hr]
    simp only [Option.getD_some]
    unfold Fl.tooGreat Fl.fconv absF
    rw [narrow_abs hr, hx]
    refine ⟨rfl, ?_⟩
    simp only [Option.getD_some, Bool.false_eq_true, if_false]
    have hlt := rung_lt_inf hr
    rw [signW32, show single.infRung = 2139095040 from Fl.infRung32] at hlt
    refine Fl.nf_of_not ?_
    have := Fl.isnan_word (k := .f32) false (r := x % 2147483648) (by rw [Fl.infRung32]; omega)
    exact this

theorem neg_of_read {x m : Nat} {s : Bool} {p : Int} (h : FloatKind.f32.format.read x = .number s m p) : (x / 2147483648 % 2 == 1) = s := by
  unfold Format.read at h
  dsimp only at h
  rw [Fl.signWeight32] at h
  split at h
  · simp only [Datum.number.injEq] at h; exact h.1
  · split at h
    · simp only [Datum.number.injEq] at h; exact h.1
    · split at h <;> cases h

theorem read_nought : FloatKind.f32.format.read 0 = .number false 0 (-149) := by decide +kernel

/-- The absolute value by a difference. -/
theorem size_abs {x : Nat} (hx : x < 4294967296) : sizeF x = absF x := by
  unfold sizeF absF
  cases hr : FloatKind.f32.format.read x with
  | nan s f =>
    have hn : Fl.isnan .f32 x = true := by simp [Fl.isnan, hr, Datum.isNaN]
    rw [Fl.ford_nan_l hn, hn, Fl.nf_of_nan hn]
    rfl
  | infinity s =>
    have hn : Fl.isnan .f32 x = false := by simp [Fl.isnan, hr, Datum.isNaN]
    obtain ⟨h1, h2⟩ := inf_rung hr
    rw [hn]
    cases s
    · have : FloatKind.f32.format.order x 0 = some .gt := by simp [Format.order, hr, read_nought, Datum.order]
      rw [this, Fl.nf_of_not hn]
      simp only [beq_eq_false_iff_ne, ne_eq] at h2
      simp
      omega
    · have h3 : FloatKind.f32.format.order x 0 = some .lt := by simp [Format.order, hr, read_nought, Datum.order]
      have h4 : floatBits .sub .f32 0 x = some (FloatKind.f32.format.word false FloatKind.f32.format.infRung) := by
        simp [floatBits, Format.sub, hr, read_nought, Datum.sum, Datum.opposite, Format.write]
      rw [h3, h1, if_pos (by rfl)]
      unfold Fl.fop
      rw [h4]
      decide +kernel
  | number s m p =>
    have hn : Fl.isnan .f32 x = false := by simp [Fl.isnan, hr, Datum.isNaN]
    have hs := neg_of_read hr
    obtain ⟨g1, g2, g3⟩ := Fl.read32 x hr
    rw [hn]
    simp only [Bool.false_eq_true, if_false]
    have hmin : min p (-149) = (-149 : Int) := by omega
    have hmin' : min (-149 : Int) p = (-149 : Int) := by omega
    have hord : FloatKind.f32.format.order x 0 = some (compare (signed s m (p - (-149)).toNat) 0) := by
      simp only [Format.order, hr, read_nought, Datum.order, hmin]
      congr 2
    have hsub : floatBits .sub .f32 0 x = some (FloatKind.f32.format.nearest (if signed (!s) m (p - (-149)).toNat = 0 then false else decide (signed (!s) m (p - (-149)).toNat < 0)) (signed (!s) m (p - (-149)).toNat).natAbs (-149)) := by
      simp only [floatBits, Format.sub, hr, read_nought, Datum.sum, Datum.opposite, Option.map_some, hmin', Format.write]
      have : signed false 0 ((-149 : Int) - (-149)).toNat = 0 := by simp [signed]
      rw [this, Int.zero_add]
      simp
    obtain ⟨k, hk⟩ : ∃ k : Nat, (p - (-149)).toNat = k := ⟨_, rfl⟩
    have hpk : p = -149 + (k : Int) := by omega
    rw [hk] at hord hsub
    have hpos : 0 < 2 ^ k := Nat.two_pow_pos k
    have hsh : m <<< k = m * 2 ^ k := Nat.shiftLeft_eq _ _
    have hnr := nearest_rung _ hr false (Fl.binade_le _)
    rw [Fl.signWeight32] at hnr
    have hword : FloatKind.f32.format.word false (x % 2147483648) = x % 2147483648 := rfl
    rw [hword] at hnr
    have hnf : Fl.nf .f32 (x % 2147483648) = x % 2147483648 := by
      have hlt := rung_lt_inf hr
      rw [signW32, show single.infRung = 2139095040 from Fl.infRung32] at hlt
      refine Fl.nf_of_not ?_
      exact Fl.isnan_word (k := .f32) false (r := x % 2147483648) (by rw [Fl.infRung32]; omega)
    by_cases hm : m = 0
    · have h0 := read_zero_rung hr hm
      subst hm
      have e1 : ∀ g, signed g 0 k = 0 := by intro g; cases g <;> simp [signed]
      rw [e1] at hord hsub
      rw [hord, if_pos (by rfl)]
      unfold Fl.fop
      rw [hsub, h0]
      decide +kernel
    · have hmk : 0 < m <<< k := by rw [hsh]; exact Nat.mul_pos (Nat.pos_of_ne_zero hm) hpos
      cases s
      · have e1 : compare (signed false m k) 0 = .gt := by
          have : (0 : Int) < signed false m k := by simp only [signed, Bool.false_eq_true, if_false]; omega
          exact Int.compare_eq_gt.2 this
        rw [hord, e1, Fl.nf_of_not hn]
        have : ¬ (x / 2147483648 % 2 = 1) := by simpa using hs
        simp
        omega
      · have e1 : compare (signed true m k) 0 = .lt := by
          have : signed true m k < (0 : Int) := by simp only [signed, if_true]; omega
          exact Int.compare_eq_lt.2 this
        have e2 : signed (!true) m k = ((m <<< k : Nat) : Int) := by simp [signed]
        have e3 : (if ((m <<< k : Nat) : Int) = 0 then false else decide (((m <<< k : Nat) : Int) < 0)) = false := by
          rw [if_neg (by exact_mod_cast Nat.ne_of_gt hmk)]
          exact decide_eq_false (Int.not_lt.2 (Int.natCast_nonneg _))
        rw [e2, e3, Int.natAbs_natCast, nearest_shl, ← hpk, hnr] at hsub
        rw [hord, e1, if_pos (by rfl)]
        unfold Fl.fop
        rw [hsub]
        simp only [Option.getD_some]
        exact hnf

theorem fop_lt (op : BinOp) (x y : Nat) : Fl.fop op .f32 x y < 4294967296 := by
  unfold Fl.fop Fl.nf
  split
  · decide
  · have hw : 2 ^ FloatKind.f32.format.width = 4294967296 := by decide +kernel
    cases h : floatBits op .f32 x y with
    | none => decide
    | some r =>
      rw [← hw]
      simp only [Option.getD_some]
      unfold floatBits at h
      cases op <;> simp only at h <;> first | exact Format.add_lt _ h | exact Format.sub_lt _ h | exact Format.mul_lt _ h | exact Format.div_lt _ h | cases h

end Go.Proofs.Ytggbdmgonobefaa
