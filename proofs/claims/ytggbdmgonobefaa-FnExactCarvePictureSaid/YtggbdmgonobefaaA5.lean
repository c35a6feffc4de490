/-
  The reference's test of a picture behind a pointer.
  Conditions: the lights are a row of cells that reads.
-/
import Derived.Test.YtggbdmgonobefaaA4
namespace Go.Proofs.Ytggbdmgonobefaa
open Go.RowKit
set_option linter.unusedVariables false
set_option linter.unusedSimpArgs false
attribute [local go_sem] Fl.run_fadd Fl.run_fsub Fl.run_fmul Fl.run_fquo Fl.run_wide Fl.run_store_float

theorem fop_self (x : Nat) : Fl.fop .sub .f32 x x = if Fl.fin x then 0 else Fl.NAN .f32 := by
  have h : Fl.fop .sub .f32 x x = 0 ∨ Fl.fop .sub .f32 x x = Fl.NAN .f32 := by
    unfold Fl.fop
    cases hr : FloatKind.f32.format.read x with
    | nan s f =>
      right
      have : floatBits .sub .f32 x x = none := by simp [floatBits, Ieee.Format.sub, hr, Ieee.Datum.sum, Ieee.Datum.opposite]
      rw [this]
      exact Fl.nf_NAN _
    | infinity s =>
      right
      have : floatBits .sub .f32 x x = none := by simp [floatBits, Ieee.Format.sub, hr, Ieee.Datum.sum, Ieee.Datum.opposite]
      rw [this]
      exact Fl.nf_NAN _
    | number s m e =>
      left
      have : floatBits .sub .f32 x x = some 0 := by
        cases s <;> simp [floatBits, Ieee.Format.sub, hr, Ieee.Datum.sum, Ieee.Datum.opposite, Ieee.signed, Int.add_right_neg, Int.add_left_neg, Ieee.Format.write, Ieee.Format.nearest, Ieee.Format.word]
      rw [this]
      decide +kernel
  unfold Fl.fin
  rcases h with h | h
  · rw [h, if_pos (by decide +kernel)]
  · rw [h, Fl.isnan_NAN, if_neg (by simp)]

theorem fin_order (x : Nat) : (FloatKind.f32.format.order (Fl.fop .sub .f32 x x) 0 == some Ordering.eq) = Fl.fin x := by
  rw [fop_self]
  cases Fl.fin x
  · decide +kernel
  · decide +kernel

set_option maxHeartbeats 400000 in
theorem l01Finite_any (x : Nat) (w : World) :
    Calls Try.prog 145 #[fv x] w fun e w' => e = .returned (.bool (Fl.fin x)) ∧ ∃ n, w' = w.drewN n := by
  go_enter Try.func145, Try.ntmps145
  go_wp2
  go_ret
  refine ⟨ret_bool ?_, _, rfl⟩
  rw [← fin_order x, ← Fl.nf_fres w .sub .f32 x x]
  conv => lhs; rw [← Fl.order_nf]
  rw [show Fl.nf .f32 0 = 0 by decide +kernel]

set_option maxHeartbeats 800000 in
theorem l02Finite_any (xs : List Nat) (v : Value) (w : World) (hx : Sl w v (xs.map fv)) (hlen : xs.length ≤ 140737488351232) :
    Calls Try.prog 150 #[v] w fun e w' => e = .returned (.bool (allFin xs)) ∧ Below w.heap.size w w' := by
  obtain ⟨ad, cp, hv⟩ := hx.form
  rw [List.length_map] at hv
  rw [hv] at hx ⊢
  clear hv
  obtain ⟨n, hn⟩ : ∃ n, n = xs.length := ⟨_, rfl⟩
  rw [← hn] at hlen hx ⊢
  have Hn := hid hn
  clear hn
  go_enter Try.func150, Try.ntmps150
  go_wp2
  go_loopw [3] (fun i wr => ∃ k : Nat, k ≤ n ∧ i = .int .i64 k ∧ allFin xs = allFin (xs.drop k) ∧ Below w.heap.size w wr) (fun i _ => n - (intOf i).toNat)
  case atStart => exact ⟨0, Nat.zero_le _, rfl, rfl, Below.refl _ _⟩
  case round =>
    obtain ⟨k, hk, rfl, hidx, hb⟩ := hrel
    have Hidx := hid hidx
    clear hidx
    by_cases hlt : k < n
    · obtain ⟨b, off, c, rfl, hci, hcell, hbs⟩ := (hx.mono hb).at k hlt
      have hkx : k < xs.length := by rw [← Hn.out]; exact hlt
      have hdrop : xs.drop k = xs[k] :: xs.drop (k + 1) := List.drop_eq_getElem_cons hkx
      have hc : c = fv xs[k] := by
        rw [List.getElem?_map, List.getElem?_eq_getElem hkx] at hci
        exact (Option.some.inj hci).symm
      rw [hc] at hcell
      obtain ⟨x, hxk⟩ : ∃ x, x = xs[k] := ⟨_, rfl⟩
      rw [← hxk] at hdrop hcell
      have Hdrop := hid hdrop
      clear hdrop hc hci hxk
      cases hg : Fl.fin x
      · have hz : allFin xs = false := by rw [Hidx.out, Hdrop.out]; simp [allFin, hg]
        have Hz := hid hz
        clear hz
        go_wp2_with fail
        refine (l01Finite_any x wr).mono ?_
        rintro e w1 ⟨rfl, m, rfl⟩
        rw [hg]
        go_wp2
        go_ret
        exact ⟨ret_bool Hz.out.symm, Below.drewN' _ hb⟩
      · have hstep : allFin xs = allFin (xs.drop (k + 1)) := by rw [Hidx.out, Hdrop.out]; simp [allFin, hg]
        have Hstep := hid hstep
        clear hstep
        go_wp2_with fail
        refine (l01Finite_any x wr).mono ?_
        rintro e w1 ⟨rfl, m, rfl⟩
        rw [hg]
        go_wp2
        go_roundw
        case rel => exact ⟨k + 1, by omega, by go_num, Hstep.out, Below.drewN' _ hb⟩
        case measure => simp [intOf]; omega
    · have hke : k = n := by omega
      have hz : allFin xs = true := by rw [Hidx.out, hke, Hn.out, List.drop_length]; rfl
      have Hz := hid hz
      clear hz hke
      go_wp2
      go_ret
      exact ⟨ret_bool Hz.out.symm, hb⟩

set_option maxHeartbeats 400000 in
theorem l02Sides_any (W H : Int) (w : World) :
    Calls Try.prog 144 #[.int .i64 W, .int .i64 H] w fun e w' => e = .returned (.bool (inB W 1 16 && inB H 1 16)) ∧ w = w' := by
  cases h : inB W 1 16
  · go_enter Try.func144, Try.ntmps144
    go_wp2_with fail
    refine (l00In_any _ _ _ _).mono ?_
    rintro e w' ⟨rfl, rfl⟩
    rw [h]
    go_wp2
    go_ret
    exact ⟨rfl, rfl⟩
  · go_enter Try.func144, Try.ntmps144
    go_wp2_with fail
    refine (l00In_any _ _ _ _).mono ?_
    rintro e w' ⟨rfl, rfl⟩
    rw [h]
    go_wp2_with fail
    refine (l00In_any _ _ _ _).mono ?_
    rintro e w' ⟨rfl, rfl⟩
    go_wp2
    go_ret
    exact ⟨rfl, rfl⟩

/-- A picture's three cells at an address, and its lights. -/
structure PicAt (w : World) (b o : Nat) (W H : Int) (v : Value) (xs : List Nat) : Prop where
  c0 : w.cell? ⟨b, o, none⟩ = some (.int .i64 W)
  c1 : w.cell? ⟨b, o + 1, none⟩ = some (.int .i64 H)
  c2 : w.cell? ⟨b, o + 2, none⟩ = some v
  sl : Sl w v (xs.map fv)

theorem PicAt.lt {w : World} {b o : Nat} {W H : Int} {v : Value} {xs : List Nat} (h : PicAt w b o W H v xs) : b < w.heap.size := World.block_lt_of_cell? w _ h.c0
theorem PicAt.mono {w w' : World} {b o : Nat} {W H : Int} {v : Value} {xs : List Nat} (h : PicAt w b o W H v xs) (hb : Below w.heap.size w w') : PicAt w' b o W H v xs :=
  ⟨(hb.cell h.lt).trans h.c0, (hb.cell h.lt).trans h.c1, (hb.cell h.lt).trans h.c2, h.sl.mono hb⟩
theorem PicAt.box (w : World) (W H : Int) (v : Value) (xs : List Nat) (t : TypeId) (hx : Sl w v (xs.map fv)) : PicAt (w.alloc (.cells #[.int .i64 W, .int .i64 H, v] t)) w.heap.size 0 W H v xs :=
  have b := Blk.new w [.int .i64 W, .int .i64 H, v] t
  ⟨b.cell 0, b.cell 1, b.cell 2, hx.alloc _⟩

set_option maxHeartbeats 1000000 in
set_option maxRecDepth 100000 in
theorem l02Is_any (b o : Nat) (W H : Int) (v : Value) (xs : List Nat) (w : World) (hp : PicAt w b o W H v xs) (hlen : xs.length ≤ 140737488351232) :
    Calls Try.prog 85 #[.pointer (some ⟨b, o, none⟩)] w fun e w' => e = .returned (.bool (validB W H xs)) ∧ Below w.heap.size w w' := by
  obtain ⟨ad, cap, hv⟩ := hp.sl.form
  rw [List.length_map] at hv
  obtain ⟨n, hn⟩ : ∃ n, n = xs.length := ⟨_, rfl⟩
  rw [← hn] at hv hlen
  rw [hv] at hp
  have hvb : validB W H xs = (inB W 1 16 && inB H 1 16 && ((n : Int) == W * H) && allFin xs) := by rw [validB, hn]
  have Hvb := hid hvb
  have Hn := hid hn
  clear hv hvb hn
  have hc0 := hp.c0
  have hc1 := hp.c1
  have hc2 := hp.c2
  have hB := hp.lt
  have hfin := fun w3 (h : Below w.heap.size w w3) => l02Finite_any xs (.slice ad n cap) w3 (hp.sl.mono h) (by rw [← Hn.out]; exact hlen)
  clear hp
  go_enter Try.func85, Try.ntmps85
  go_wp2
  refine Mix.wp_mix [.S, .S, .S, .S, .S, .S, .S, .S, .A, .S, .S, .S, .S, .S, .S, .S, .S, .S, .S, .S, .S, .S, .S, .S, .S, .S, .S, .S, .S, .S, .S, .A, .S, .S] [0, 1, 2, 3, 4, 5, 6, 7, 8, 9, 10, 11, 12, 13, 14, 15, 16, 17, 18, 19, 20, 21, 22, 23, 24, 25, 26, 27, 28, 29, 30, 31, 32, 33] (Below w.heap.size w) (by kernel_rfl) (by kernel_rfl) ((Below.refl _ _).drew) ?_
  have hC : Below w.heap.size w w.drew := (Below.refl _ _).drew
  generalize w.drew = w2 at hC ⊢
  rcases (show (inB W 1 16 && inB H 1 16) = false ∨ ((inB W 1 16 && inB H 1 16) = true ∧ ((n : Int) == W * H) = false) ∨ ((inB W 1 16 && inB H 1 16) = true ∧ ((n : Int) == W * H) = true) by
    cases (inB W 1 16 && inB H 1 16) <;> cases ((n : Int) == W * H) <;> simp) with h1 | ⟨h1, h3⟩ | ⟨h1, h3⟩
  all_goals try have hWH := side_mul (Bool.and_eq_true _ _ ▸ h1).1 (Bool.and_eq_true _ _ ▸ h1).2
  all_goals
    repeat (first | (refine Mix.sf_S rfl rfl rfl rfl rfl (Mix.valOp_spec rfl) hC ?_; apply Exists.intro; refine ⟨?_, ?_⟩; · (intro w' hC' K hK; have hk := (bcell hC').1; go_step; exact hK)) | (refine Mix.sf_skipS rfl rfl rfl rfl ?_; apply Exists.intro; refine ⟨?_, ?_⟩; · (intro K hK; go_step; exact hK)) | (refine Mix.sf_skipA rfl rfl rfl rfl ?_; apply Exists.intro; refine ⟨?_, ?_⟩; · (intro K hK; go_step; exact hK)) | (refine Mix.sf_skipL rfl rfl rfl rfl ?_ hC; apply Exists.intro; refine ⟨?_, ?_⟩; · (intro K hK; go_step; exact hK); clear hC; intro wL hC))
    refine Mix.sf_A rfl rfl rfl ?_; intro K hK; go_step
    refine (l02Sides_any _ _ _).mono ?_
    rintro e w' ⟨rfl, rfl⟩
    rw [h1]
    refine hK _ _ hC ?_
    clear hK K
    repeat (first | (refine Mix.sf_S rfl rfl rfl rfl rfl (Mix.valOp_spec rfl) hC ?_; apply Exists.intro; refine ⟨?_, ?_⟩; · (intro w' hC' K hK; have hk := (bcell hC').1; go_step; exact hK)) | (refine Mix.sf_skipS rfl rfl rfl rfl ?_; apply Exists.intro; refine ⟨?_, ?_⟩; · (intro K hK; go_step; exact hK)) | (refine Mix.sf_skipA rfl rfl rfl rfl ?_; apply Exists.intro; refine ⟨?_, ?_⟩; · (intro K hK; go_step; exact hK)) | (refine Mix.sf_skipL rfl rfl rfl rfl ?_ hC; apply Exists.intro; refine ⟨?_, ?_⟩; · (intro K hK; go_step; exact hK); clear hC; intro wL hC))
    try (refine Mix.sf_A rfl rfl rfl ?_; intro K hK; go_step
         refine (hfin _ hC).mono ?_
         rintro e w' ⟨rfl, hb3⟩
         refine hK _ _ (hC.trans (hb3.mono hC.size)) ?_
         replace hC := hC.trans (hb3.mono hC.size)
         clear hK K hb3
         repeat (first | (refine Mix.sf_S rfl rfl rfl rfl rfl (Mix.valOp_spec rfl) hC ?_; apply Exists.intro; refine ⟨?_, ?_⟩; · (intro w' hC' K hK; have hk := (bcell hC').1; go_step; exact hK)) | (refine Mix.sf_skipS rfl rfl rfl rfl ?_; apply Exists.intro; refine ⟨?_, ?_⟩; · (intro K hK; go_step; exact hK)) | (refine Mix.sf_skipA rfl rfl rfl rfl ?_; apply Exists.intro; refine ⟨?_, ?_⟩; · (intro K hK; go_step; exact hK)) | (refine Mix.sf_skipL rfl rfl rfl rfl ?_ hC; apply Exists.intro; refine ⟨?_, ?_⟩; · (intro K hK; go_step; exact hK); clear hC; intro wL hC)))
    refine Mix.sf_nil ?_
    go_wp2
    go_ret
    refine ⟨ret_bool ?_, hC⟩
    rw [Hvb.out]
    simp [*]

end Go.Proofs.Ytggbdmgonobefaa
