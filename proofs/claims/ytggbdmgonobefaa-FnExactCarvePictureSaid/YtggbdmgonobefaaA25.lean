/-
  Small functions of the edges: the nearest place, the absolute value, the light at a place that is held back to the picture.
  Conditions: the lights are a row of cells that reads; sides are at most 16.
-/
import Derived.Test.YtggbdmgonobefaaA20
import Derived.Test.YtggbdmgonobefaaAbsF
import Derived.Laws.Externs
namespace Go.Proofs.Ytggbdmgonobefaa
open Go.RowKit
set_option linter.unusedVariables false
set_option linter.unusedSimpArgs false
attribute [local go_sem] Fl.run_fadd Fl.run_fsub Fl.run_fmul Fl.run_fquo Fl.run_wide Fl.run_store_float

set_option maxHeartbeats 400000 in
theorem l00Max_any (a b : Int) (w : World) :
    Calls Try.prog 183 #[.int .i64 a, .int .i64 b] w fun e w' => e = .returned (.int .i64 (max a b)) ∧ w = w' := by
  by_cases h : a > b
  · have hm : max a b = a := by omega
    rw [hm]
    clear hm
    go_enter Try.func183, Try.ntmps183
    go_wp2
    go_ret
    exact ⟨rfl, rfl⟩
  · have hm : max a b = b := by omega
    rw [hm]
    clear hm
    go_enter Try.func183, Try.ntmps183
    go_wp2
    go_ret
    exact ⟨rfl, rfl⟩

set_option maxHeartbeats 400000 in
theorem near_any (x n : Int) (w : World) (h0 : 0 ≤ n) (h1 : n ≤ 16) :
    Calls Try.prog 154 #[.int .i64 x, .int .i64 n] w fun e w' => e = .returned (.int .i64 (min (max x 0) (n - 1))) ∧ w = w' := by
  go_enter Try.func154, Try.ntmps154
  go_wp2
  all_goals
    go_ret
    exact ⟨ret_int (by omega), rfl⟩

theorem run_bits64 (b : Nat) (w : World) : (callFunc 189 #[.float .f64 b]).run Try.prog w = .ok (.value (.int .u64 b)) w := by
  rw [run_callFunc_extern (e := Extern.MathFloatBits.float64bits) Try.func189 (by kernel_rfl) (by kernel_rfl) (by kernel_rfl) (by kernel_rfl)]
  rfl
theorem run_frombits64 (n : Nat) (w : World) : (callFunc 188 #[.int .u64 (n : Int)]).run Try.prog w = .ok (.value (.float .f64 n)) w := by
  rw [run_callFunc_extern (e := Extern.MathFloatBits.float64frombits) Try.func188 (by kernel_rfl) (by kernel_rfl) (by kernel_rfl) (by kernel_rfl)]
  rfl

theorem bits_nosign (b : Nat) : bits .andNot .u64 (b : Int) 9223372036854775808 = (absW b : Nat) := by
  have h1 : (BitVec.ofInt 64 (b : Int) &&& ~~~ BitVec.ofInt 64 9223372036854775808).toNat = absW b := by
    have e : (BitVec.ofInt 64 (b : Int)) = BitVec.ofNat 64 b := by simp
    rw [e]
    have : ~~~ BitVec.ofInt 64 9223372036854775808 = BitVec.ofNat 64 (2 ^ 63 - 1) := by decide +kernel
    rw [this, BitVec.toNat_and, BitVec.toNat_ofNat, BitVec.toNat_ofNat, Nat.mod_eq_of_lt (show 2 ^ 63 - 1 < 2 ^ 64 by decide), Nat.and_two_pow_sub_one_eq_mod]
    unfold absW
    omega
  have h2 : absW b < 9223372036854775808 := by unfold absW; omega
  have h3 : IntKind.u64.wrap (absW b : Int) = (absW b : Int) := by
    simp [IntKind.wrap, IntKind.bits, IntKind.signed]
    omega
  change IntKind.u64.wrap ((BitVec.ofInt 64 (b : Int) &&& ~~~ BitVec.ofInt 64 9223372036854775808).toNat : Nat) = _
  rw [h1, h3]

set_option maxHeartbeats 1000000 in
set_option maxRecDepth 100000 in
theorem mathAbs_any (b : Nat) (w : World) : Calls Try.prog 182 #[.float .f64 b] w fun e w' => e = .returned (.float .f64 (absW b)) ∧ w = w' := by
  have h1 := run_bits64 b
  have h2 := bits_nosign b
  have h3 := run_frombits64 (absW b)
  go_enter Try.func182, Try.ntmps182
  go_wp2
  go_ret
  exact ⟨rfl, rfl⟩

set_option maxHeartbeats 1000000 in
set_option maxRecDepth 100000 in
theorem abs_any (x : Nat) (w : World) : Calls Try.prog 155 #[fv x] w fun e w' => ∃ r, e = .returned (fv r) ∧ Fl.nf .f32 r = absF x ∧ Below w.heap.size w w' := by
  obtain ⟨hg, hv⟩ := abs_nf w x
  have hcall := fun w2 => mathAbs_any (Fl.cres w .f32 .f64 x) w2
  have Hv := hid hv
  have hconv := fun w2 => Fl.run_fconv (P := Try.prog) w2 58 52 .f64 .f32 (absW (Fl.cres w .f32 .f64 x)) rfl rfl (by decide) hg
  clear hv hg
  go_enter Try.func155, Try.ntmps155
  go_wp2_with fail
  refine (hcall _).mono ?_
  rintro e w2 ⟨rfl, rfl⟩
  go_wp2
  go_ret
  exact ⟨_, rfl, by rw [← Hv.out]; exact Fl.nf_cres, Below.drewN' _ (Below.refl _ _)⟩

set_option maxHeartbeats 1000000 in
theorem l07Size_any (x : Nat) (w : World) : Calls Try.prog 170 #[fv x] w fun e w' => ∃ r, e = .returned (fv r) ∧ Fl.nf .f32 r = sizeF x ∧ Below w.heap.size w w' := by
  obtain ⟨c, hc⟩ : ∃ c, c = (FloatKind.f32.format.order x 0 == some .lt || FloatKind.f32.format.order x 0 == some .eq) := ⟨_, rfl⟩
  cases c
  · have hs : sizeF x = Fl.nf .f32 x := by rw [sizeF, ← hc]; rfl
    have Hs := hid hs
    clear hs
    replace hc := hc.symm
    go_enter Try.func170, Try.ntmps170
    go_wp2
    go_ret
    exact ⟨_, rfl, Hs.out.symm, Below.refl _ _⟩
  · have hs : sizeF x = Fl.fop .sub .f32 0 x := by rw [sizeF, ← hc]; rfl
    have Hs := hid hs
    clear hs
    replace hc := hc.symm
    go_enter Try.func170, Try.ntmps170
    go_wp2
    go_ret
    exact ⟨_, rfl, by rw [Hs.out, Fl.nf_fres], Below.drewN' _ (Below.refl _ _)⟩

end Go.Proofs.Ytggbdmgonobefaa
