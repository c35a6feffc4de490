/-
  The column above whose cost is the least, by the reference and by the program.
  Conditions: the costs read as a row of cells; sides fit.
-/
import Derived.Test.YtggbdmgonobefaaSeamP
import Derived.Test.YtggbdmgonobefaaA27
import Derived.Test.YtggbdmgonobefaaInvX
import Derived.Deep.CutRange
import Derived.Deep.Cut
namespace Go.Proofs.Ytggbdmgonobefaa
open Go.RowKit
set_option linter.unusedVariables false
set_option linter.unusedSimpArgs false

theorem Sl.two {w : World} {ad : Option Addr} {n cap : Nat} {xs : List Nat} (h : Sl w (.slice ad n cap) (xs.map fv)) (hn : n = xs.length) (i j : Nat) (hi : i < n) (hj : j < n) :
    ∃ b off, ad = some ⟨b, off, none⟩ ∧ w.cell? ⟨b, off + i, none⟩ = some (fv (xs.getD i 0)) ∧ w.cell? ⟨b, off + j, none⟩ = some (fv (xs.getD j 0)) ∧ b < w.heap.size := by
  obtain ⟨b, off, e, c, hb⟩ := h.light i hi (by omega)
  obtain ⟨b', off', e', c', -⟩ := h.light j hj (by omega)
  rw [e] at e'
  simp only [Option.some.injEq, Addr.mk.injEq, and_true] at e'
  obtain ⟨rfl, rfl⟩ := e'
  refine ⟨b, off, e, ?_, ?_, hb⟩
  · rw [c, List.getD_eq_getElem?_getD, List.getElem?_eq_getElem (by omega)]; rfl
  · rw [c', List.getD_eq_getElem?_getD, List.getElem?_eq_getElem (by omega)]; rfl

set_option maxHeartbeats 8000000 in
set_option maxRecDepth 100000 in
theorem l07Above_any (W x p : Nat) (v : Value) (ys : List Nat) (w : World) (hs : Sl w v (ys.map fv)) (hW : W ≤ 16) (hx : x < W) (hp : p ≤ 16) (hl : p * W + W ≤ ys.length) :
    Calls Try.prog 181 #[v, .int .i64 W, .int .i64 x, .int .i64 ((p : Int) + 1)] w fun e w' => e = .returned (.int .i64 (above W (rowOf W ys p) x : Nat)) ∧ Below w.heap.size w w' := by
  obtain ⟨ad, cap, hv⟩ := hs.form
  rw [List.length_map] at hv
  obtain ⟨n, hn⟩ : ∃ n, n = ys.length := ⟨_, rfl⟩
  rw [← hn] at hv hl
  subst hv
  obtain ⟨k0, hk0⟩ : ∃ k0, k0 = x - 1 := ⟨_, rfl⟩
  obtain ⟨m, hm⟩ : ∃ m, m = min (W - 1) (x + 1) := ⟨_, rfl⟩
  obtain ⟨J, hJ⟩ : ∃ J, J = m - k0 := ⟨_, rfl⟩
  have hab : above W (rowOf W ys p) x = best (rowOf W ys p) k0 J := by rw [above, hJ, hm, hk0]
  rw [hab]
  have hmx : max 0 ((x : Int) - 1) = k0 := by omega
  have hmn : min ((W : Int) - 1) ((x : Int) + 1) = m := by omega
  have hkm : k0 ≤ m := by omega
  have hmW : m < W := by omega
  have hmJ : m = k0 + J := by omega
  have n1 := fun w3 => l00Max_any 0 ((x : Int) - 1) w3
  have n2 := fun w3 => l00Min_any ((W : Int) - 1) ((x : Int) + 1) w3
  rw [hmx] at n1
  rw [hmn] at n2
  have hpW : (0 : Int) ≤ (p : Int) * W ∧ (p : Int) * W ≤ 256 := by
    have h0 : p * W ≤ 16 * 16 := Nat.mul_le_mul hp hW
    have e : (p : Int) * (W : Int) = ((p * W : Nat) : Int) := by simp
    omega
  have Hrow := hid (show ∀ k, rowOf W ys p k = ys.getD (p * W + k) 0 from fun k => rfl)
  have hin := best_in (rowOf W ys p) k0
  have hstep : ∀ j, best (rowOf W ys p) k0 (j + 1) = if ltB (rowOf W ys p (k0 + (j + 1))) (rowOf W ys p (best (rowOf W ys p) k0 j)) then k0 + (j + 1) else best (rowOf W ys p) k0 j := fun j => rfl
  have hzero : best (rowOf W ys p) k0 0 = k0 := rfl
  obtain ⟨row, hrow⟩ : ∃ r, r = rowOf W ys p := ⟨_, rfl⟩
  rw [← hrow] at Hrow hin hstep hzero ⊢
  have Hin := hid hin
  have Hstep := hid hstep
  have Hzero := hid hzero
  have Hs := hid hs
  have Hn := hid hn
  have Hm := hid hmJ
  clear hab hmx hmn hk0 hm hJ hrow hin hstep hzero hs hn hmJ
  go_enter Try.func181, Try.ntmps181
  go_wp2_with fail
  refine (n1 _).mono ?_
  rintro e w' ⟨rfl, rfl⟩
  go_wp2
  go_loopw [9, 10] (fun bb k wr => ∃ j : Nat, j ≤ J ∧ k = .int .i64 ((k0 + j + 1 : Nat) : Int) ∧ bb = .int .i64 ((best row k0 j : Nat) : Int) ∧ Below w.heap.size w wr) (fun _ k _ => k0 + J + 1 - (intOf k).toNat)
  case atStart => exact ⟨0, Nat.zero_le _, by simp, by rw [Hzero.out], Below.refl _ _⟩
  case round =>
    obtain ⟨j, hj, rfl, rfl, hbw⟩ := hrel
    obtain ⟨t, ht⟩ : ∃ t, t = k0 + j + 1 := ⟨_, rfl⟩
    obtain ⟨e, he⟩ : ∃ e, e = best row k0 j := ⟨_, rfl⟩
    rw [← ht, ← he]
    have hin := Hin.out j
    rw [← he] at hin
    have Ht := hid ht
    have He := hid he
    clear ht he
    have hle1 : t ≤ k0 + j + 1 := by have := Ht.out; omega
    have hle2 : k0 + j + 1 ≤ t := by have := Ht.out; omega
    by_cases hlt : j < J
    · have htm : (t : Int) ≤ m := by have := Hm.out; omega
      have htW : t < W := by have := Hm.out; omega
      have heW : e < W := by have := Hm.out; omega
      obtain ⟨j1, hj1⟩ : ∃ j1, j1 = p * W + t := ⟨_, rfl⟩
      obtain ⟨j2, hj2⟩ : ∃ j2, j2 = p * W + e := ⟨_, rfl⟩
      have hj1I : (p : Int) * (W : Int) + t = j1 := by rw [hj1]; simp
      have hj2I : (p : Int) * (W : Int) + e = j2 := by rw [hj2]; simp
      have hj1n : j1 < n := by omega
      have hj2n : j2 < n := by omega
      obtain ⟨b, off, rfl, c1, c2, hbl⟩ := (Hs.out.mono hbw).two Hn.out j1 j2 hj1n hj2n
      obtain ⟨A, hA⟩ : ∃ A, A = ys.getD j1 0 := ⟨_, rfl⟩
      obtain ⟨B, hB⟩ : ∃ B, B = ys.getD j2 0 := ⟨_, rfl⟩
      rw [← hA] at c1
      rw [← hB] at c2
      have hst : best row k0 (j + 1) = if ltB A B then t else e := by
        rw [Hstep.out, ← He.out, Hrow.out, Hrow.out, hA, hB, hj1, hj2, Ht.out, Nat.add_assoc]
      have hlb : ltB A B = (FloatKind.f32.format.order A B == some .lt) := rfl
      have Hst := hid hst
      obtain ⟨c, hc⟩ : ∃ c, c = ltB A B := ⟨_, rfl⟩
      rw [← hc] at hlb Hst
      clear hj1 hj2 hA hB hst hc
      cases c
      · have hcmp := hlb.symm
        have Hst := hid (show best row k0 (j + 1) = e from Hst.out)
        clear hlb
        go_wp2_with fail
        refine (n2 _).mono ?_
        rintro e' w' ⟨rfl, rfl⟩
        go_wp2
        refine Mix.wp_mix [.S, .S, .S, .S, .S, .S, .S, .S, .S, .S, .S, .S, .S, .S, .S, .S, .S, .S, .S] [0, 1, 2, 3, 4, 5, 6, 7, 8, 9, 10, 11, 12, 13, 14, 15, 16, 17, 18] (Below wr.heap.size wr) (by kernel_rfl) (by kernel_rfl) ((Below.refl _ _).drew) ?_
        have hC : Below wr.heap.size wr wr.drew := (Below.refl _ _).drew
        generalize wr.drew = w2 at hC ⊢
        repeat (first | (refine Mix.sf_S rfl rfl rfl rfl rfl (Mix.valOp_spec rfl) hC ?_; apply Exists.intro; refine ⟨?_, ?_⟩; · (intro w' hC' K hK; have hk := (bcell hC').1; go_step; exact hK)) | (refine Mix.sf_skipS rfl rfl rfl rfl ?_; apply Exists.intro; refine ⟨?_, ?_⟩; · (intro K hK; go_step; exact hK)) | (refine Mix.sf_skipA rfl rfl rfl rfl ?_; apply Exists.intro; refine ⟨?_, ?_⟩; · (intro K hK; go_step; exact hK)) | (refine Mix.sf_skipL rfl rfl rfl rfl ?_ hC; apply Exists.intro; refine ⟨?_, ?_⟩; · (intro K hK; go_step; exact hK); clear hC; intro wL hC))
        refine Mix.sf_nil ?_
        clear c1 c2
        go_wp2
        go_roundw
        case rel => exact ⟨j + 1, by omega, by have := Ht.out; simp only [Value.int.injEq, true_and]; omega, congrArg (fun q : Nat => Value.int .i64 (q : Int)) Hst.out.symm, hbw.trans (hC.mono hbw.size)⟩
        case measure => simp [intOf]; omega
      · have hcmp := hlb.symm
        have Hst := hid (show best row k0 (j + 1) = t from Hst.out.trans (if_pos rfl))
        clear hlb
        go_wp2_with fail
        refine (n2 _).mono ?_
        rintro e' w' ⟨rfl, rfl⟩
        go_wp2
        refine Mix.wp_mix [.S, .S, .S, .S, .S, .S, .S, .S, .S, .S, .S, .S, .S, .S, .S, .S, .S, .S, .S] [0, 1, 2, 3, 4, 5, 6, 7, 8, 9, 10, 11, 12, 13, 14, 15, 16, 17, 18] (Below wr.heap.size wr) (by kernel_rfl) (by kernel_rfl) ((Below.refl _ _).drew) ?_
        have hC : Below wr.heap.size wr wr.drew := (Below.refl _ _).drew
        generalize wr.drew = w2 at hC ⊢
        repeat (first | (refine Mix.sf_S rfl rfl rfl rfl rfl (Mix.valOp_spec rfl) hC ?_; apply Exists.intro; refine ⟨?_, ?_⟩; · (intro w' hC' K hK; have hk := (bcell hC').1; go_step; exact hK)) | (refine Mix.sf_skipS rfl rfl rfl rfl ?_; apply Exists.intro; refine ⟨?_, ?_⟩; · (intro K hK; go_step; exact hK)) | (refine Mix.sf_skipA rfl rfl rfl rfl ?_; apply Exists.intro; refine ⟨?_, ?_⟩; · (intro K hK; go_step; exact hK)) | (refine Mix.sf_skipL rfl rfl rfl rfl ?_ hC; apply Exists.intro; refine ⟨?_, ?_⟩; · (intro K hK; go_step; exact hK); clear hC; intro wL hC))
        refine Mix.sf_nil ?_
        clear c1 c2
        go_wp2
        go_roundw
        case rel => exact ⟨j + 1, by omega, by have := Ht.out; simp only [Value.int.injEq, true_and]; omega, congrArg (fun q : Nat => Value.int .i64 (q : Int)) Hst.out.symm, hbw.trans (hC.mono hbw.size)⟩
        case measure => simp [intOf]; omega
    · have hjJ : j = J := by omega
      have htm : (m : Int) < t := by have := Hm.out; omega
      have He2 := hid (show best row k0 J = e by rw [← hjJ, He.out])
      clear hjJ
      go_wp2_with fail
      refine (n2 _).mono ?_
      rintro e' w' ⟨rfl, rfl⟩
      go_wp2
      go_ret
      exact ⟨by rw [He2.out]; rfl, hbw⟩

theorem best_step (row : Nat → Nat) (k0 : Nat) : ∀ j, best row k0 j = if ltB (row (k0 + j)) (row (best row k0 (j - 1))) then k0 + j else best row k0 (j - 1)
  | 0 => by
    show k0 = if ltB (row (k0 + 0)) (row k0) then k0 + 0 else k0
    rw [Nat.add_zero, ltB_self, if_neg (by simp)]
  | j + 1 => rfl

set_option maxHeartbeats 8000000 in
set_option maxRecDepth 100000 in
theorem leastSeam1_any (W H x p b1 b2 : Nat) (v : Value) (ys : List Nat) (w : World) (c0 : w.cell? ⟨b1, 0, none⟩ = some (.int .i64 W)) (hp : PicAt w b2 0 W H v ys) (hW : W ≤ 16) (hx : x < W) (hy : p ≤ 16) (hl : p * W + W ≤ ys.length) :
    Calls Try.prog 156 #[.int .i64 x, .int .i64 p, .pointer (some ⟨b1, 0, none⟩), .pointer (some ⟨b2, 0, none⟩)] w fun e w' => e = .returned (.int .i64 (above W (rowOf W ys p) x : Nat)) ∧ Below w.heap.size w w' := by
  obtain ⟨k0, hk0⟩ : ∃ k0, k0 = x - 1 := ⟨_, rfl⟩
  obtain ⟨m, hm⟩ : ∃ m, m = min (W - 1) (x + 1) := ⟨_, rfl⟩
  obtain ⟨J, hJ⟩ : ∃ J, J = m - k0 := ⟨_, rfl⟩
  have hab : above W (rowOf W ys p) x = best (rowOf W ys p) k0 J := by rw [above, hJ, hm, hk0]
  rw [hab]
  have hmx : max 0 ((x : Int) - 1) = k0 := by omega
  have hmn : min ((W : Int) - 1) ((x : Int) + 1) = m := by omega
  have hkm : k0 ≤ m := by omega
  have hmW : m < W := by omega
  have hmJ : m = k0 + J := by omega
  have hat := fun (z : Nat) (hz : z < W) (w2 : World) (hb : Below w.heap.size w w2) => at_any W H v ys z p w2 ((hp.mono hb).sl) (by omega) hW hy (by omega)
  have Hrow := hid (show ∀ k, rowOf W ys p k = ys.getD (p * W + k) 0 from fun k => rfl)
  have hin := best_in (rowOf W ys p) k0
  have hstep := best_step (rowOf W ys p) k0
  obtain ⟨row, hrow⟩ : ∃ r, r = rowOf W ys p := ⟨_, rfl⟩
  rw [← hrow] at Hrow hin hstep ⊢
  have d0 := hp.c0
  have d1 := hp.c1
  have d2 := hp.c2
  rw [Nat.zero_add] at d1 d2
  have hB1 := World.block_lt_of_cell? w _ c0
  have hB2 := hp.lt
  have Hin := hid hin
  have Hstep := hid hstep
  have Hat := hid hat
  have Hmn := hid hmn
  have Hmx := hid hmx
  have Hm := hid hmJ
  have Hc := hid (And.intro c0 (And.intro d0 (And.intro d1 d2)))
  clear hab hk0 hm hJ hrow hin hstep hmJ hat hmn hp hl hmx c0 d0 d1 d2
  go_enter Try.func156, Try.ntmps156
  go_upto_region 1 with fail
  go_cut [7] from 9 to 11 (fun o wx => o = .int .i64 k0 ∧ wx = w)
  case first =>
    go_wp2
    all_goals (go_meet; exact ⟨by have := Hmx.out; simp only [Value.int.injEq, true_and]; omega, rfl⟩)
  case rest =>
  obtain ⟨rfl, hwc⟩ := hcut
  rw [hwc]
  clear hwc
  go_wp2
  go_loopw [7, 8] (fun bb k wr => ∃ j : Nat, j ≤ J + 1 ∧ k = .int .i64 ((k0 + j : Nat) : Int) ∧ bb = .int .i64 ((best row k0 (j - 1) : Nat) : Int) ∧ Below w.heap.size w wr) (fun _ k _ => k0 + J + 1 - (intOf k).toNat)
  case atStart => exact ⟨0, Nat.zero_le _, by simp, rfl, Below.refl _ _⟩
  case round =>
    obtain ⟨j, hj, rfl, rfl, hbw⟩ := hrel
    obtain ⟨t, ht⟩ : ∃ t, t = k0 + j := ⟨_, rfl⟩
    obtain ⟨e, he⟩ : ∃ e, e = best row k0 (j - 1) := ⟨_, rfl⟩
    have hst : best row k0 j = if ltB (row t) (row e) then t else e := by rw [Hstep.out, ← he, ← ht]
    rw [← ht, ← he]
    have hin := Hin.out (j - 1)
    rw [← he] at hin
    have Ht := hid ht
    have He := hid he
    clear ht he
    have hle1 : t ≤ k0 + j := by have := Ht.out; omega
    have hle2 : k0 + j ≤ t := by have := Ht.out; omega
    have e0 := (hbw.cell hB1).trans Hc.out.1
    have hBw : b1 < wr.heap.size := Nat.lt_of_lt_of_le hB1 hbw.size
    by_cases hlt : j < J + 1
    · have htm : (t : Int) ≤ m := by have := Hm.out; omega
      have htW : t < W := by have := Hm.out; omega
      have heW : e < W := by have := Hm.out; omega
      have g0 := (hbw.cell hB2).trans Hc.out.2.1
      have g1 := (hbw.cell hB2).trans Hc.out.2.2.1
      have g2 := (hbw.cell hB2).trans Hc.out.2.2.2
      have hBw2 : b2 < wr.heap.size := Nat.lt_of_lt_of_le hB2 hbw.size
      rw [Hrow.out, Hrow.out] at hst
      have a1 := Hat.out t htW
      have a2 := Hat.out e heW
      obtain ⟨A, hA⟩ : ∃ A, A = ys.getD (p * W + t) 0 := ⟨_, rfl⟩
      obtain ⟨B, hB⟩ : ∃ B, B = ys.getD (p * W + e) 0 := ⟨_, rfl⟩
      rw [← hA] at hst a1
      rw [← hB] at hst a2
      have hlb : ltB A B = (FloatKind.f32.format.order A B == some .lt) := rfl
      have Hst := hid hst
      obtain ⟨c, hc⟩ : ∃ c, c = ltB A B := ⟨_, rfl⟩
      rw [← hc] at hlb Hst
      have Ha1 := hid a1
      have Ha2 := hid a2
      clear hA hB hst hc a1 a2
      go_upto_region 3 with fail
      go_cut [20] from 13 to 32 (fun o wx => o = .bool (decide (j < J + 1)) ∧ wx = wr)
      case first =>
        go_wp2
        all_goals (go_meet; exact ⟨by have := Hmn.out; simp only [Value.bool.injEq]; rw [decide_eq_decide]; omega, rfl⟩)
      case rest =>
      obtain ⟨rfl, hwc⟩ := hcut
      rw [hwc]
      clear hwc
      cases c
      · have hcmp := hlb.symm
        have Hst := hid (show best row k0 j = e from Hst.out)
        clear hlb
        go_wp2
        refine Mix.wp_mix [.S, .S, .S, .A, .S, .S, .S, .A, .S] [0, 1, 2, 4, 5, 6, 3, 7, 8] (Below wr.heap.size wr) (by kernel_rfl) (by kernel_rfl) ((Below.refl _ _).drew) ?_
        have hC : Below wr.heap.size wr wr.drew := (Below.refl _ _).drew
        generalize wr.drew = w2 at hC ⊢
        repeat (first | (refine Mix.sf_S rfl rfl rfl rfl rfl (Mix.valOp_spec rfl) hC ?_; apply Exists.intro; refine ⟨?_, ?_⟩; · (intro w' hC' K hK; have hk := (bcell hC').1; go_step; exact hK)) | (refine Mix.sf_skipS rfl rfl rfl rfl ?_; apply Exists.intro; refine ⟨?_, ?_⟩; · (intro K hK; go_step; exact hK)) | (refine Mix.sf_skipA rfl rfl rfl rfl ?_; apply Exists.intro; refine ⟨?_, ?_⟩; · (intro K hK; go_step; exact hK)) | (refine Mix.sf_skipL rfl rfl rfl rfl ?_ hC; apply Exists.intro; refine ⟨?_, ?_⟩; · (intro K hK; go_step; exact hK); clear hC; intro wL hC))
        have s0 := (hC.cell hBw2).trans g0
        have s1 := (hC.cell hBw2).trans g1
        have s2 := (hC.cell hBw2).trans g2
        refine Mix.sf_A rfl rfl rfl ?_; intro K hK; go_step
        refine (Ha1.out _ (hbw.trans (hC.mono hbw.size))).mono ?_
        rintro e' w3 ⟨rfl, hb3⟩
        refine hK _ _ (hC.trans (hb3.mono hC.size)) ?_
        replace hC := hC.trans (hb3.mono hC.size)
        clear hK K hb3 s0 s1 s2
        repeat (first | (refine Mix.sf_S rfl rfl rfl rfl rfl (Mix.valOp_spec rfl) hC ?_; apply Exists.intro; refine ⟨?_, ?_⟩; · (intro w' hC' K hK; have hk := (bcell hC').1; go_step; exact hK)) | (refine Mix.sf_skipS rfl rfl rfl rfl ?_; apply Exists.intro; refine ⟨?_, ?_⟩; · (intro K hK; go_step; exact hK)) | (refine Mix.sf_skipA rfl rfl rfl rfl ?_; apply Exists.intro; refine ⟨?_, ?_⟩; · (intro K hK; go_step; exact hK)) | (refine Mix.sf_skipL rfl rfl rfl rfl ?_ hC; apply Exists.intro; refine ⟨?_, ?_⟩; · (intro K hK; go_step; exact hK); clear hC; intro wL hC))
        have s0 := (hC.cell hBw2).trans g0
        have s1 := (hC.cell hBw2).trans g1
        have s2 := (hC.cell hBw2).trans g2
        refine Mix.sf_A rfl rfl rfl ?_; intro K hK; go_step
        refine (Ha2.out _ (hbw.trans (hC.mono hbw.size))).mono ?_
        rintro e' w4 ⟨rfl, hb4⟩
        refine hK _ _ (hC.trans (hb4.mono hC.size)) ?_
        replace hC := hC.trans (hb4.mono hC.size)
        clear hK K hb4 s0 s1 s2
        repeat (first | (refine Mix.sf_S rfl rfl rfl rfl rfl (Mix.valOp_spec rfl) hC ?_; apply Exists.intro; refine ⟨?_, ?_⟩; · (intro w' hC' K hK; have hk := (bcell hC').1; go_step; exact hK)) | (refine Mix.sf_skipS rfl rfl rfl rfl ?_; apply Exists.intro; refine ⟨?_, ?_⟩; · (intro K hK; go_step; exact hK)) | (refine Mix.sf_skipA rfl rfl rfl rfl ?_; apply Exists.intro; refine ⟨?_, ?_⟩; · (intro K hK; go_step; exact hK)) | (refine Mix.sf_skipL rfl rfl rfl rfl ?_ hC; apply Exists.intro; refine ⟨?_, ?_⟩; · (intro K hK; go_step; exact hK); clear hC; intro wL hC))
        refine Mix.sf_nil ?_
        clear g0 g1 g2
        go_wp2
        go_roundw
        case rel => exact ⟨j + 1, by omega, by have := Ht.out; simp only [Value.int.injEq, true_and]; omega, congrArg (fun q : Nat => Value.int .i64 (q : Int)) Hst.out.symm, hbw.trans (hC.mono hbw.size)⟩
        case measure => simp [intOf]; omega
      · have hcmp := hlb.symm
        have Hst := hid (show best row k0 j = t from Hst.out.trans (if_pos rfl))
        clear hlb
        go_wp2
        refine Mix.wp_mix [.S, .S, .S, .A, .S, .S, .S, .A, .S] [0, 1, 2, 4, 5, 6, 3, 7, 8] (Below wr.heap.size wr) (by kernel_rfl) (by kernel_rfl) ((Below.refl _ _).drew) ?_
        have hC : Below wr.heap.size wr wr.drew := (Below.refl _ _).drew
        generalize wr.drew = w2 at hC ⊢
        repeat (first | (refine Mix.sf_S rfl rfl rfl rfl rfl (Mix.valOp_spec rfl) hC ?_; apply Exists.intro; refine ⟨?_, ?_⟩; · (intro w' hC' K hK; have hk := (bcell hC').1; go_step; exact hK)) | (refine Mix.sf_skipS rfl rfl rfl rfl ?_; apply Exists.intro; refine ⟨?_, ?_⟩; · (intro K hK; go_step; exact hK)) | (refine Mix.sf_skipA rfl rfl rfl rfl ?_; apply Exists.intro; refine ⟨?_, ?_⟩; · (intro K hK; go_step; exact hK)) | (refine Mix.sf_skipL rfl rfl rfl rfl ?_ hC; apply Exists.intro; refine ⟨?_, ?_⟩; · (intro K hK; go_step; exact hK); clear hC; intro wL hC))
        have s0 := (hC.cell hBw2).trans g0
        have s1 := (hC.cell hBw2).trans g1
        have s2 := (hC.cell hBw2).trans g2
        refine Mix.sf_A rfl rfl rfl ?_; intro K hK; go_step
        refine (Ha1.out _ (hbw.trans (hC.mono hbw.size))).mono ?_
        rintro e' w3 ⟨rfl, hb3⟩
        refine hK _ _ (hC.trans (hb3.mono hC.size)) ?_
        replace hC := hC.trans (hb3.mono hC.size)
        clear hK K hb3 s0 s1 s2
        repeat (first | (refine Mix.sf_S rfl rfl rfl rfl rfl (Mix.valOp_spec rfl) hC ?_; apply Exists.intro; refine ⟨?_, ?_⟩; · (intro w' hC' K hK; have hk := (bcell hC').1; go_step; exact hK)) | (refine Mix.sf_skipS rfl rfl rfl rfl ?_; apply Exists.intro; refine ⟨?_, ?_⟩; · (intro K hK; go_step; exact hK)) | (refine Mix.sf_skipA rfl rfl rfl rfl ?_; apply Exists.intro; refine ⟨?_, ?_⟩; · (intro K hK; go_step; exact hK)) | (refine Mix.sf_skipL rfl rfl rfl rfl ?_ hC; apply Exists.intro; refine ⟨?_, ?_⟩; · (intro K hK; go_step; exact hK); clear hC; intro wL hC))
        have s0 := (hC.cell hBw2).trans g0
        have s1 := (hC.cell hBw2).trans g1
        have s2 := (hC.cell hBw2).trans g2
        refine Mix.sf_A rfl rfl rfl ?_; intro K hK; go_step
        refine (Ha2.out _ (hbw.trans (hC.mono hbw.size))).mono ?_
        rintro e' w4 ⟨rfl, hb4⟩
        refine hK _ _ (hC.trans (hb4.mono hC.size)) ?_
        replace hC := hC.trans (hb4.mono hC.size)
        clear hK K hb4 s0 s1 s2
        repeat (first | (refine Mix.sf_S rfl rfl rfl rfl rfl (Mix.valOp_spec rfl) hC ?_; apply Exists.intro; refine ⟨?_, ?_⟩; · (intro w' hC' K hK; have hk := (bcell hC').1; go_step; exact hK)) | (refine Mix.sf_skipS rfl rfl rfl rfl ?_; apply Exists.intro; refine ⟨?_, ?_⟩; · (intro K hK; go_step; exact hK)) | (refine Mix.sf_skipA rfl rfl rfl rfl ?_; apply Exists.intro; refine ⟨?_, ?_⟩; · (intro K hK; go_step; exact hK)) | (refine Mix.sf_skipL rfl rfl rfl rfl ?_ hC; apply Exists.intro; refine ⟨?_, ?_⟩; · (intro K hK; go_step; exact hK); clear hC; intro wL hC))
        refine Mix.sf_nil ?_
        clear g0 g1 g2
        go_wp2
        go_roundw
        case rel => exact ⟨j + 1, by omega, by have := Ht.out; simp only [Value.int.injEq, true_and]; omega, congrArg (fun q : Nat => Value.int .i64 (q : Int)) Hst.out.symm, hbw.trans (hC.mono hbw.size)⟩
        case measure => simp [intOf]; omega
    · have hjJ : j = J + 1 := by omega
      have htm : (m : Int) < t := by have := Hm.out; omega
      have He2 := hid (show best row k0 J = e by rw [He.out, hjJ]; rfl)
      clear hjJ
      go_upto_region 3 with fail
      go_cut [20] from 13 to 32 (fun o wx => o = .bool (decide (j < J + 1)) ∧ wx = wr)
      case first =>
        go_wp2
        all_goals (go_meet; exact ⟨by have := Hmn.out; simp only [Value.bool.injEq]; rw [decide_eq_decide]; omega, rfl⟩)
      case rest =>
      obtain ⟨rfl, hwc⟩ := hcut
      rw [hwc]
      clear hwc
      go_wp2
      go_ret
      exact ⟨by rw [He2.out]; rfl, hbw⟩

end Go.Proofs.Ytggbdmgonobefaa
