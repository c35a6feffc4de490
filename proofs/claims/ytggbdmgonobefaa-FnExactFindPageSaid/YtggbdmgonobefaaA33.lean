/-
  When two numbers are the same: by their order and their signs, and by their words.
  Conditions: the words are of 32 bits.
-/
import Derived.Test.YtggbdmgonobefaaA25
namespace Go.Proofs.Ytggbdmgonobefaa
open Go.RowKit
set_option linter.unusedVariables false
set_option linter.unusedSimpArgs false
open Ieee
attribute [local go_sem] Fl.run_fadd Fl.run_fsub Fl.run_fmul Fl.run_fquo Fl.run_wide Fl.run_store_float

theorem wide_word {x : Nat} (h : Fl.isnan .f32 x = false) (w : World) : ∃ r, r ≤ double.infRung ∧ Fl.cres w .f32 .f64 x = double.word (x / 2147483648 % 2 == 1) r := by
  cases hr : FloatKind.f32.format.read x with
  | nan s f => simp [Fl.isnan, hr, Datum.isNaN] at h
  | infinity s =>
    refine ⟨double.infRung, Nat.le_refl _, ?_⟩
    rw [(inf_rung hr).2]
    unfold Fl.cres floatToFloatBits
    rw [if_neg (by decide)]
    unfold FloatKind.decode
    rw [hr]
    rfl
  | number s m p =>
    obtain ⟨r, h1, h2, -⟩ := word_of_nearest s m p
    refine ⟨r, h1, ?_⟩
    rw [neg_of_read hr]
    unfold Fl.cres
    rw [wide_some hr, Option.getD_some, h2]

theorem word_sign {s : Bool} {r : Nat} (h : r ≤ double.infRung) : double.word s r < 18446744073709551616 ∧ decide (9223372036854775808 ≤ double.word s r) = s := by
  have h1 : double.infRung = 9218868437227405312 := Fl.infRung64
  have h2 := signW64
  unfold Format.word
  cases s
  · simp only [Bool.false_eq_true, if_false]
    exact ⟨by omega, by simp; omega⟩
  · simp only [if_true]
    exact ⟨by omega, by simp; omega⟩

theorem sign_wide {x : Nat} (h : Fl.isnan .f32 x = false) (w : World) : Fl.cres w .f32 .f64 x < 18446744073709551616 ∧ decide (9223372036854775808 ≤ Fl.cres w .f32 .f64 x) = (x / 2147483648 % 2 == 1) := by
  obtain ⟨r, h1, h2⟩ := wide_word h w
  rw [h2]
  exact word_sign h1

theorem same_word {x y : Nat} (hx : x < 4294967296) (hy : y < 4294967296) (nx : Fl.isnan .f32 x = false) (ny : Fl.isnan .f32 y = false) :
    ((FloatKind.f32.format.order x y == some .eq) && ((x / 2147483648 % 2 == 1) == (y / 2147483648 % 2 == 1))) = decide (x = y) := by
  by_cases he : x = y
  · subst he
    rw [Fl.order_self', nx]
    simp
  rw [decide_eq_false he]
  cases hs : ((x / 2147483648 % 2 == 1) == (y / 2147483648 % 2 == 1))
  · rw [Bool.and_false]
  rw [Bool.and_true]
  have hss : (x / 2147483648 % 2 == 1) = (y / 2147483648 % 2 == 1) := by simpa using hs
  have hrung : x % 2147483648 ≠ y % 2147483648 := by
    intro h
    have h1 : x / 2147483648 < 2 := by omega
    have h2 : y / 2147483648 < 2 := by omega
    have h3 : x / 2147483648 = y / 2147483648 := by
      have a : x / 2147483648 % 2 = 1 ↔ y / 2147483648 % 2 = 1 := by
        constructor
        · intro h; have := hss; simp [h] at this; exact this
        · intro h; have := hss; simp [h] at this; exact this
      omega
    omega
  cases hr : FloatKind.f32.format.read x with
  | nan s f => simp [Fl.isnan, hr, Datum.isNaN] at nx
  | infinity s =>
    have hi := inf_rung hr
    cases hq : FloatKind.f32.format.read y with
    | nan s f => simp [Fl.isnan, hq, Datum.isNaN] at ny
    | infinity t => exact absurd (hi.1.trans (inf_rung hq).1.symm) hrung
    | number t m p => cases s <;> simp [Format.order, hr, hq, Datum.order]
  | number s m p =>
    cases hq : FloatKind.f32.format.read y with
    | nan s f => simp [Fl.isnan, hq, Datum.isNaN] at ny
    | infinity t => cases t <;> simp [Format.order, hr, hq, Datum.order]
    | number t n q =>
      have hst : s = t := by rw [← neg_of_read hr, ← neg_of_read hq, hss]
      subst hst
      simp only [Format.order, hr, hq, Datum.order]
      obtain ⟨k, hk⟩ : ∃ k : Nat, (p - min p q).toNat = k := ⟨_, rfl⟩
      obtain ⟨l, hl⟩ : ∃ l : Nat, (q - min p q).toNat = l := ⟨_, rfl⟩
      rw [hk, hl]
      have hp : min p q + (k : Int) = p := by omega
      have hq' : min p q + (l : Int) = q := by omega
      have hne : ¬ (signed s m k = signed s n l) := by
        intro h
        have hmn : m <<< k = n <<< l := by
          cases s
          · simp only [signed, Bool.false_eq_true, if_false] at h
            exact_mod_cast h
          · simp only [signed, if_true] at h
            exact_mod_cast Int.neg_inj.1 h
        have a := nearest_rung _ hr false (Fl.binade_le _)
        have b := nearest_rung _ hq false (Fl.binade_le _)
        rw [← hp, ← nearest_shl, hmn, nearest_shl, hq', b, Fl.signWeight32] at a
        exact hrung a.symm
      have : compare (signed s m k) (signed s n l) ≠ .eq := fun h => hne (Int.compare_eq_eq.1 h)
      cases hc : compare (signed s m k) (signed s n l) <;> simp_all

/-- Whether two words are the same number. -/
def sameN (x y : Nat) : Bool := decide (Fl.nf .f32 x = Fl.nf .f32 y)

set_option maxHeartbeats 1000000 in
set_option maxRecDepth 100000 in
theorem mathSignbit_any (b : Nat) (hb : b < 18446744073709551616) (w : World) : Calls Try.prog 186 #[.float .f64 b] w fun e w' => e = .returned (.bool (decide (9223372036854775808 ≤ b))) ∧ w = w' := by
  have h1 := run_bits64 b
  by_cases h : 9223372036854775808 ≤ b
  · have h2 : IntKind.i64.wrap (b : Int) = (b : Int) - 18446744073709551616 := by
      simp [IntKind.wrap, IntKind.bits, IntKind.signed]
      omega
    go_enter Try.func186, Try.ntmps186
    go_wp2
    go_ret
    exact ⟨ret_bool (by simp; omega), rfl⟩
  · have h2 : IntKind.i64.wrap (b : Int) = (b : Int) := by
      simp [IntKind.wrap, IntKind.bits, IntKind.signed]
      omega
    go_enter Try.func186, Try.ntmps186
    go_wp2
    go_ret
    exact ⟨ret_bool (by simp; omega), rfl⟩

set_option maxHeartbeats 1000000 in
set_option maxRecDepth 100000 in
theorem sign_any (x : Nat) (w : World) (hx : Fl.isnan .f32 x = false) : Calls Try.prog 175 #[fv x] w fun e w' => e = .returned (.bool (x / 2147483648 % 2 == 1)) ∧ ∃ n, w' = w.drewN n := by
  obtain ⟨h1, h2⟩ := sign_wide hx w
  have hcall := fun w2 => mathSignbit_any _ h1 w2
  rw [h2] at hcall
  go_enter Try.func175, Try.ntmps175
  go_wp2_with fail
  refine (hcall _).mono ?_
  rintro e w2 ⟨rfl, rfl⟩
  go_wp2
  go_ret
  exact ⟨rfl, _, rfl⟩

theorem run_bits32 (b : Nat) (w : World) : (callFunc 190 #[.float .f32 b]).run Try.prog w = .ok (.value (.int .u32 b)) w := by
  rw [run_callFunc_extern (e := Extern.MathFloatBits.float32bits) Try.func190 (by kernel_rfl) (by kernel_rfl) (by kernel_rfl) (by kernel_rfl)]
  rfl

set_option maxHeartbeats 1000000 in
set_option maxRecDepth 100000 in
theorem l01Bits_any (x : Nat) (w : World) (hx : x < 4294967296) : Calls Try.prog 185 #[fv x] w fun e w' => e = .returned (.int .i64 (Fl.nf .f32 x : Nat)) ∧ w = w' := by
  have hs := Fl.order_self .f32 x
  have h1 := run_bits32 x
  cases hn : Fl.isnan .f32 x
  · rw [hn] at hs
    rw [Fl.nf_of_not hn]
    clear hn
    go_enter Try.func185, Try.ntmps185
    go_wp2
    go_ret
    exact ⟨rfl, rfl⟩
  · rw [hn] at hs
    rw [Fl.nf_of_nan hn]
    clear hn
    go_enter Try.func185, Try.ntmps185
    go_wp2
    go_ret
    exact ⟨rfl, rfl⟩

set_option maxHeartbeats 1000000 in
theorem l01Same_any (x y : Nat) (w : World) (hx : x < 4294967296) (hy : y < 4294967296) : Calls Try.prog 174 #[fv x, fv y] w fun e w' => e = .returned (.bool (sameN x y)) ∧ w = w' := by
  go_enter Try.func174, Try.ntmps174
  go_wp2_with fail
  refine (l01Bits_any x _ hx).mono ?_
  rintro e w2 ⟨rfl, rfl⟩
  go_wp2_with fail
  refine (l01Bits_any y _ hy).mono ?_
  rintro e w2 ⟨rfl, rfl⟩
  go_wp2
  go_ret
  exact ⟨ret_bool (by rw [sameN]; rw [Bool.eq_iff_iff]; simp; omega), rfl⟩

set_option maxHeartbeats 2000000 in
set_option maxRecDepth 100000 in
theorem SameNumber_any (x y : Nat) (w : World) (hx : x < 4294967296) (hy : y < 4294967296) : Calls Try.prog 132 #[fv x, fv y] w fun e w' => e = .returned (.bool (sameN x y)) ∧ ∃ n, w' = w.drewN n := by
  rcases (show (Fl.isnan .f32 x = true ∧ Fl.isnan .f32 y = true) ∨ (Fl.isnan .f32 x = true ∧ Fl.isnan .f32 y = false) ∨ (Fl.isnan .f32 x = false ∧ Fl.isnan .f32 y = true) ∨ (Fl.isnan .f32 x = false ∧ Fl.isnan .f32 y = false) by
    cases Fl.isnan .f32 x <;> cases Fl.isnan .f32 y <;> simp) with ⟨h1, h2⟩ | ⟨h1, h2⟩ | ⟨h1, h2⟩ | ⟨h1, h2⟩
  · have hr : sameN x y = true := by rw [sameN, Fl.nf_of_nan h1, Fl.nf_of_nan h2]; simp
    have Hr := hid hr
    have n1 := fun w2 => isNaN_any x w2
    have n2 := fun w2 => isNaN_any y w2
    rw [h1] at n1
    rw [h2] at n2
    clear hr h1 h2
    go_enter Try.func132, Try.ntmps132
    go_wp2_with fail
    refine (n1 _).mono ?_
    rintro e w2 ⟨rfl, rfl⟩
    go_wp2_with fail
    refine (n2 _).mono ?_
    rintro e w2 ⟨rfl, rfl⟩
    go_wp2
    go_ret
    exact ⟨ret_bool Hr.out.symm, 0, rfl⟩
  · have hr : sameN x y = false := by
      rw [sameN, Fl.nf_of_nan h1, Fl.nf_of_not h2]
      refine decide_eq_false fun h => ?_
      rw [← h, Fl.isnan_NAN] at h2
      cases h2
    have ho : FloatKind.f32.format.order x y = none := Fl.ford_nan_l h1
    have Hr := hid hr
    have n1 := fun w2 => isNaN_any x w2
    have n2 := fun w2 => isNaN_any y w2
    rw [h1] at n1
    rw [h2] at n2
    clear hr h1 h2
    go_enter Try.func132, Try.ntmps132
    go_wp2_with fail
    refine (n1 _).mono ?_
    rintro e w2 ⟨rfl, rfl⟩
    go_wp2_with fail
    refine (n2 _).mono ?_
    rintro e w2 ⟨rfl, rfl⟩
    go_wp2
    go_ret
    exact ⟨ret_bool Hr.out.symm, 0, rfl⟩
  · have hr : sameN x y = false := by
      rw [sameN, Fl.nf_of_nan h2, Fl.nf_of_not h1]
      refine decide_eq_false fun h => ?_
      rw [h, Fl.isnan_NAN] at h1
      cases h1
    have ho : FloatKind.f32.format.order x y = none := Fl.ford_nan_r h2
    have Hr := hid hr
    have n1 := fun w2 => isNaN_any x w2
    rw [h1] at n1
    clear hr h1 h2
    go_enter Try.func132, Try.ntmps132
    go_wp2_with fail
    refine (n1 _).mono ?_
    rintro e w2 ⟨rfl, rfl⟩
    go_wp2
    go_ret
    exact ⟨ret_bool Hr.out.symm, 0, rfl⟩
  · have hw := same_word hx hy h1 h2
    have hr : sameN x y = decide (x = y) := by rw [sameN, Fl.nf_of_not h1, Fl.nf_of_not h2]
    rw [← hr] at hw
    have n1 := fun w2 => isNaN_any x w2
    have s1 := fun w2 => sign_any x w2 h1
    have s2 := fun w2 => sign_any y w2 h2
    rw [h1] at n1
    obtain ⟨a, ha⟩ : ∃ a, a = (x / 2147483648 % 2 == 1) := ⟨_, rfl⟩
    obtain ⟨b, hb⟩ : ∃ b, b = (y / 2147483648 % 2 == 1) := ⟨_, rfl⟩
    rw [← ha] at s1 hw
    rw [← hb] at s2 hw
    clear h1 h2 hr ha hb
    cases hc : (FloatKind.f32.format.order x y == some .eq)
    · rw [hc, Bool.false_and] at hw
      have Hw := hid hw
      clear hw
      go_enter Try.func132, Try.ntmps132
      go_wp2_with fail
      refine (n1 _).mono ?_
      rintro e w2 ⟨rfl, rfl⟩
      go_wp2
      go_ret
      exact ⟨ret_bool Hw.out, 0, rfl⟩
    · rw [hc, Bool.true_and] at hw
      have Hw := hid hw
      clear hw
      go_enter Try.func132, Try.ntmps132
      go_wp2_with fail
      refine (n1 _).mono ?_
      rintro e w2 ⟨rfl, rfl⟩
      go_wp2_with fail
      refine (s1 _).mono ?_
      rintro e w2 ⟨rfl, k1, rfl⟩
      go_wp2_with fail
      refine (s2 _).mono ?_
      rintro e w2 ⟨rfl, k2, rfl⟩
      go_wp2
      go_ret
      exact ⟨ret_bool Hw.out, k1 + k2, rfl⟩

end Go.Proofs.Ytggbdmgonobefaa
