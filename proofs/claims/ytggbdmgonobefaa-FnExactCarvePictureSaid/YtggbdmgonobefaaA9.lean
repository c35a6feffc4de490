/-
  Small functions over lights: a pixel, a square, a sum, a mean, a number or none.
  Conditions: the lights a row of cells that reads.
-/
import Derived.Test.YtggbdmgonobefaaA7
namespace Go.Proofs.Ytggbdmgonobefaa
open Go.RowKit
set_option linter.unusedVariables false
set_option linter.unusedSimpArgs false
attribute [local go_sem] Fl.run_fadd Fl.run_fsub Fl.run_fmul Fl.run_fquo Fl.run_wide Fl.run_store_float

set_option maxHeartbeats 1000000 in
theorem at_any (W : Nat) (H : Int) (v : Value) (xs : List Nat) (x y : Nat) (w : World) (hx : Sl w v (xs.map fv)) (hi : y * W + x < xs.length) (hW : W ≤ 16) (hy : y ≤ 16) (hx16 : x ≤ 16) :
    Calls Try.prog 126 #[.agg #[.int .i64 W, .int .i64 H, v], .int .i64 x, .int .i64 y] w fun e w' => e = .returned (fv (xs.getD (y * W + x) 0)) ∧ Below w.heap.size w w' := by
  obtain ⟨ad, cap, hv⟩ := hx.form
  rw [List.length_map] at hv
  obtain ⟨n, hn⟩ : ∃ n, n = xs.length := ⟨_, rfl⟩
  rw [← hn] at hv hi
  subst hv
  obtain ⟨j, hj⟩ : ∃ j, j = y * W + x := ⟨_, rfl⟩
  have hjI : (y : Int) * (W : Int) + x = j := by rw [hj]; simp
  obtain ⟨b, off, c, rfl, hc, hcell, hlt⟩ := (hx.alloc (.cells #[.int .i64 W, .int .i64 H, .slice ad n cap] 32)).at j (by rw [hj]; exact hi)
  rw [← hj] at hi ⊢
  have hcv : c = fv (xs.getD j 0) := by
    rw [List.getElem?_map, List.getElem?_eq_getElem (by omega)] at hc
    rw [← Option.some.inj hc]
    simp [show j < xs.length by omega]
  rw [hcv] at hcell
  have hmul : y * W ≤ 16 * 16 := Nat.mul_le_mul hy hW
  have hyW : (0 : Int) ≤ (y : Int) * W ∧ (y : Int) * W ≤ 256 := by
    have e : (y : Int) * (W : Int) = ((y * W : Nat) : Int) := by simp
    omega
  clear hmul
  clear hc hcv hx hn hj
  go_enter Try.func126, Try.ntmps126
  go_wp2
  go_ret
  exact ⟨by simp, (Below.refl _ _).alloc (Nat.le_refl _) _⟩

theorem fop_nf_l (op : BinOp) (x y : Nat) : Fl.fop op .f32 (Fl.nf .f32 x) y = Fl.fop op .f32 x y := by
  rw [← Fl.fop_nf, Fl.nf_nf, Fl.fop_nf]
theorem fop_nf_r (op : BinOp) (x y : Nat) : Fl.fop op .f32 x (Fl.nf .f32 y) = Fl.fop op .f32 x y := by
  rw [← Fl.fop_nf, Fl.nf_nf, Fl.fop_nf]

def sumG (a : Nat) (xs : List Nat) : Nat := xs.foldl (fun a x => Fl.fop .add .f32 a x) a
theorem sumG_nl : ∀ (xs : List Nat) (a : Nat), sumG a (nl xs) = sumG a xs
  | [], _ => rfl
  | x :: xs, a => by
    show sumG (Fl.fop .add .f32 a (Fl.nf .f32 x)) (nl xs) = sumG (Fl.fop .add .f32 a x) xs
    rw [fop_nf_r, sumG_nl xs]

set_option maxHeartbeats 1000000 in
theorem square_any (x : Nat) (w : World) :
    Calls Try.prog 160 #[fv x] w fun e w' => ∃ r, e = .returned (fv r) ∧ Fl.nf .f32 r = Fl.fop .mul .f32 x x ∧ Below w.heap.size w w' := by
  go_enter Try.func160, Try.ntmps160
  go_wp2
  go_ret
  exact ⟨_, rfl, Fl.nf_fres _ _ _ _ _, Below.drewN' _ (Below.refl _ _)⟩

set_option maxHeartbeats 1000000 in
theorem sum_any (xs : List Nat) (v : Value) (w : World) (hx : Sl w v (xs.map fv)) (hlen : xs.length ≤ 140737488351232) :
    Calls Try.prog 184 #[v] w fun e w' => ∃ r, e = .returned (fv r) ∧ Fl.nf .f32 r = sumG 0 xs ∧ Below w.heap.size w w' := by
  obtain ⟨ad, cp, hv⟩ := hx.form
  rw [List.length_map] at hv
  rw [hv] at hx ⊢
  clear hv
  obtain ⟨n, hn⟩ : ∃ n, n = xs.length := ⟨_, rfl⟩
  rw [← hn] at hlen hx ⊢
  have Hn := hid hn
  clear hn
  go_enter Try.func184, Try.ntmps184
  go_wp2
  go_loopw [3, 5, 8] (fun o _ i wr => ∃ (k r : Nat), k ≤ n ∧ i = .int .i64 k ∧ o = fv r ∧ sumG 0 xs = sumG (Fl.nf .f32 r) (xs.drop k) ∧ Below w.heap.size w wr) (fun _ _ i _ => n - (intOf i).toNat)
  case atStart => exact ⟨0, 0, Nat.zero_le _, rfl, rfl, by rw [nf_zero]; rfl, Below.refl _ _⟩
  case round =>
    obtain ⟨k, r, hk, rfl, rfl, hidx, hb⟩ := hrel
    have Hidx := hid hidx
    clear hidx
    by_cases hlt : k < n
    · obtain ⟨b, off, c, rfl, hci, hcell, hbs⟩ := (hx.mono hb).at k hlt
      have hkx : k < xs.length := by rw [← Hn.out]; exact hlt
      have hdrop : xs.drop k = xs[k] :: xs.drop (k + 1) := List.drop_eq_getElem_cons hkx
      have hc : c = fv xs[k] := by
        rw [List.getElem?_map, List.getElem?_eq_getElem hkx] at hci
        exact (Option.some.inj hci).symm
      rw [hc] at hcell
      obtain ⟨x, hxk⟩ : ∃ x, x = xs[k] := ⟨_, rfl⟩
      rw [← hxk] at hdrop hcell
      have hstep : ∀ q, Fl.nf .f32 q = Fl.fop .add .f32 r x → sumG 0 xs = sumG (Fl.nf .f32 q) (xs.drop (k + 1)) := by
        intro q hq
        rw [Hidx.out, hdrop, hq, ← fop_nf_l]
        rfl
      have Hstep := hid hstep
      clear hdrop hc hci hxk hstep
      go_wp2
      go_roundw
      case rel => exact ⟨k + 1, _, by omega, by go_num, rfl, Hstep.out _ (Fl.nf_fres _ _ _ _ _), Below.drewN' _ hb⟩
      case measure => simp [intOf]; omega
    · have hke : k = n := by omega
      have hz : Fl.nf .f32 r = sumG 0 xs := by rw [Hidx.out, hke, Hn.out, List.drop_length]; rfl
      have Hz := hid hz
      clear hz hke
      go_wp2
      go_ret
      exact ⟨_, rfl, Hz.out, hb⟩

set_option maxHeartbeats 1000000 in
theorem mean_any (xs : List Nat) (v : Value) (w : World) (hx : Sl w v (xs.map fv)) (hlen : xs.length ≤ 1024) :
    Calls Try.prog 163 #[v] w fun e w' => ∃ r, e = .returned (fv r) ∧ Fl.nf .f32 r = Fl.fop .quo .f32 (sumG 0 xs) (floatOfInt .f32 xs.length) ∧ Below w.heap.size w w' := by
  have hcall := sum_any xs v w hx (by omega)
  obtain ⟨ad, cp, hv⟩ := hx.form
  rw [List.length_map] at hv
  obtain ⟨n, hn⟩ : ∃ n, n = xs.length := ⟨_, rfl⟩
  rw [← hn] at hlen hv ⊢
  subst hv
  have Hn := hid hn
  clear hx hn
  go_enter Try.func163, Try.ntmps163
  go_wp2_with fail
  refine hcall.mono ?_
  rintro e w1 ⟨r, rfl, hr, hb⟩
  have Hr := hid hr
  clear hr
  go_wp2
  go_ret
  exact ⟨_, rfl, by rw [Fl.nf_fres, ← fop_nf_l, Hr.out], Below.drewN' _ hb⟩

end Go.Proofs.Ytggbdmgonobefaa
