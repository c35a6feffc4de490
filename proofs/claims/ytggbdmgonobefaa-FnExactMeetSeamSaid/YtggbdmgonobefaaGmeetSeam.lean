/-
  The walk of the law FnExactMeetSeam: where both functions answer alike, so does the law.
  Conditions: the contracts of both, given.
-/
import Derived.Test.YtggbdmgonobefaaLInv
import Derived.Test.YtggbdmgonobefaaLRes
import Derived.Test.YtggbdmgonobefaaL6
import Derived.Test.YtggbdmgonobefaaMixP
import Derived.Test.YtggbdmgonobefaaInvX
import Derived.Deep.CutRange
namespace Go.Proofs.Ytggbdmgonobefaa
open Go.RowKit
set_option linter.unusedVariables false
set_option linter.unusedSimpArgs false
attribute [local go_sem] Fl.run_fadd Fl.run_fsub Fl.run_fmul Fl.run_fquo Fl.run_wide Fl.run_store_float

set_option maxHeartbeats 16000000 in
set_option maxRecDepth 100000 in
theorem lawMeetSeam_gen (W0 H0 : Int) (v0 : Value) (x0 : List Nat) (W1 H1 : Int) (v1 : Value) (x1 : List Nat) (a2 : Int) (w : World) (hx0 : Sl w v0 (x0.map fv)) (hl0 : x0.length ≤ 140737488351232) (hx1 : Sl w v1 (x1.map fv)) (hl1 : x1.length ≤ 140737488351232) (s : List Int) (c : Nat) (ok : Bool) (hs : s.length ≤ 1048576)
    (hspec : ∀ (u0 u1 : Value) (w' : World), Sl w' u0 (x0.map fv) → Sl w' u1 (x1.map fv) → Calls Try.prog 40 #[.agg #[.int .i64 W0, .int .i64 H0, u0], .agg #[.int .i64 W1, .int .i64 H1, u1], .int .i64 a2] w' (SeamUni w' s c ok))
    (himpl : ∀ (u0 u1 : Value) (w' : World), Sl w' u0 (x0.map fv) → Sl w' u1 (x1.map fv) → Calls Try.prog 41 #[.agg #[.int .i64 W0, .int .i64 H0, u0], .agg #[.int .i64 W1, .int .i64 H1, u1], .int .i64 a2] w' (SeamUni w' s c ok)) :
    Calls Try.prog 8 #[.agg #[.int .i64 W0, .int .i64 H0, v0], .agg #[.int .i64 W1, .int .i64 H1, v1], .int .i64 a2] w fun e w' => e = .returned (.bool true) ∧ Below w.heap.size w w' := by
  have Hs := hid hs
  have Hs' := hid (show s.length ≤ 140737488351232 by omega)
  clear hs
  obtain ⟨d0, p0, hv0⟩ := hx0.form
  rw [List.length_map] at hv0
  obtain ⟨n0, hn0⟩ : ∃ n, n = x0.length := ⟨_, rfl⟩
  rw [← hn0] at hv0 hl0
  subst hv0
  have Hn0 := hid hn0.symm
  clear hn0
  obtain ⟨d1, p1, hv1⟩ := hx1.form
  rw [List.length_map] at hv1
  obtain ⟨n1, hn1⟩ : ∃ n, n = x1.length := ⟨_, rfl⟩
  rw [← hn1] at hv1 hl1
  subst hv1
  have Hn1 := hid hn1.symm
  clear hn1
  have hI := Inv.start w
  replace hI := hI.alloc [.int .i64 W0, .int .i64 H0, .slice d0 n0 p0] 24
  replace hI := hI.alloc [.int .i64 W1, .int .i64 H1, .slice d1 n1 p1] 24
  obtain ⟨b0, hb0⟩ : ∃ b, b = w.heap.size := ⟨_, rfl⟩
  obtain ⟨b1, hb1⟩ : ∃ b, b = w.heap.size + 1 := ⟨_, rfl⟩
  try simp only [size_alloc1] at hI
  have r00 := (hI.blk 1 rfl).cell 0
  have r01 := (hI.blk 1 rfl).cell 1
  have r02 := (hI.blk 1 rfl).cell 2
  have lt0 := (hI.blk 1 rfl).lt
  go_enter Try.func8, Try.ntmps8
  go_wp2_with fail
  clear r00 r01 r02 lt0
  generalize ((w.alloc (.cells #[.int .i64 W0, .int .i64 H0, .slice d0 n0 p0] 24)).alloc (.cells #[.int .i64 W1, .int .i64 H1, .slice d1 n1 p1] 24)) = w0 at hI ⊢
  rw [← hb1] at hI ⊢
  have Hb1 := hid hb1
  clear hb1
  rw [← hb0] at hI ⊢
  have Hb0 := hid hb0
  clear hb0
  refine (szPicture_any _ _ _ _ _ _ _ (by omega) (by omega) hl0).mono ?_
  rintro e w1 ⟨rfl, hb⟩
  replace hI := hI.call hb
  clear hb
  by_cases hbx0 : (1048576 : Int) < n0
  · rw [szB, if_pos hbx0]
    go_wp2
    go_ret
    exact ⟨rfl, hI.below⟩
  rw [szB, if_neg hbx0]
  obtain ⟨left0, hleft0⟩ : ∃ l : Int, l = 1048576 - n0 := ⟨_, rfl⟩
  have hlo0 : 0 ≤ left0 := by omega
  have hhi0 : left0 ≤ 1048576 := by omega
  rw [← hleft0]
  have Hx0 := hid (show x0.length ≤ 1048576 from by rw [Hn0.out]; omega)
  have Hx0' := hid (show x0.length ≤ 140737488351232 from by have := Hx0.out; omega)
  clear hleft0
  have r00 := (hI.blk 0 rfl).cell 0
  have r01 := (hI.blk 0 rfl).cell 1
  have r02 := (hI.blk 0 rfl).cell 2
  have lt0 := (hI.blk 0 rfl).lt
  go_wp2_with fail
  clear r00 r01 r02 lt0
  refine (szPicture_any _ _ _ _ _ _ _ (by omega) (by omega) hl1).mono ?_
  rintro e w2 ⟨rfl, hb⟩
  replace hI := hI.call hb
  clear hb
  by_cases hbx1 : (left0 : Int) < n1
  · rw [szB, if_pos hbx1]
    go_wp2
    go_ret
    exact ⟨rfl, hI.below⟩
  rw [szB, if_neg hbx1]
  obtain ⟨left1, hleft1⟩ : ∃ l : Int, l = left0 - n1 := ⟨_, rfl⟩
  have hlo1 : 0 ≤ left1 := by omega
  have hhi1 : left1 ≤ 1048576 := by omega
  rw [← hleft1]
  have Hx1 := hid (show x1.length ≤ 1048576 from by rw [Hn1.out]; omega)
  have Hx1' := hid (show x1.length ≤ 140737488351232 from by have := Hx1.out; omega)
  clear hleft1
  have r00 := (hI.blk 1 rfl).cell 0
  have r01 := (hI.blk 1 rfl).cell 1
  have r02 := (hI.blk 1 rfl).cell 2
  have lt0 := (hI.blk 1 rfl).lt
  have r10 := (hI.blk 0 rfl).cell 0
  have r11 := (hI.blk 0 rfl).cell 1
  have r12 := (hI.blk 0 rfl).cell 2
  have lt1 := (hI.blk 0 rfl).lt
  go_wp2
  refine Mix.wp_mix [.S, .A, .S, .A, .S, .A, .S, .S, .S, .S, .S, .S, .S] [0, 2, 4, 1, 3, 5, 6, 7, 8, 9, 10, 11, 12] (Below w2.heap.size w2) (by kernel_rfl) (by kernel_rfl) ((Below.refl _ _).drew) ?_
  have hC : Below w2.heap.size w2 w2.drew := (Below.refl _ _).drew
  have hJ := hI.call hC
  generalize w2.drew = w3 at hC hJ ⊢
  repeat (first | (refine Mix.sf_S rfl rfl rfl rfl rfl (Mix.valOp_spec rfl) hC ?_; apply Exists.intro; refine ⟨?_, ?_⟩; · (intro w' hC' K hK; have hk := (bcell hC').1; go_step; exact hK)) | (refine Mix.sf_skipS rfl rfl rfl rfl ?_; apply Exists.intro; refine ⟨?_, ?_⟩; · (intro K hK; go_step; exact hK)) | (refine Mix.sf_skipA rfl rfl rfl rfl ?_; apply Exists.intro; refine ⟨?_, ?_⟩; · (intro K hK; go_step; exact hK)) | (refine Mix.sf_skipL rfl rfl rfl rfl ?_ hC; apply Exists.intro; refine ⟨?_, ?_⟩; · (intro K hK; go_step; exact hK); clear hC; intro wL hC))
  refine Mix.sf_A rfl rfl rfl ?_; intro K hK; go_step
  refine (toPicture_any _ _ _ _ rfl _ _ (hJ.arg hx0) Hx0.out).mono ?_
  rintro e w4 ⟨uo0, rfl, huo0, hb⟩
  obtain ⟨ao0, co0, rfl, -⟩ := own_form huo0
  refine hK _ _ (hC.trans (hb.mono hC.size)) ?_
  replace hC := hC.trans (hb.mono hC.size)
  replace hJ := hJ.fresh hb huo0
  clear hK K
  repeat (first | (refine Mix.sf_S rfl rfl rfl rfl rfl (Mix.valOp_spec rfl) hC ?_; apply Exists.intro; refine ⟨?_, ?_⟩; · (intro w' hC' K hK; have hk := (bcell hC').1; go_step; exact hK)) | (refine Mix.sf_skipS rfl rfl rfl rfl ?_; apply Exists.intro; refine ⟨?_, ?_⟩; · (intro K hK; go_step; exact hK)) | (refine Mix.sf_skipA rfl rfl rfl rfl ?_; apply Exists.intro; refine ⟨?_, ?_⟩; · (intro K hK; go_step; exact hK)) | (refine Mix.sf_skipL rfl rfl rfl rfl ?_ hC; apply Exists.intro; refine ⟨?_, ?_⟩; · (intro K hK; go_step; exact hK); clear hC; intro wL hC))
  clear hb huo0
  refine Mix.sf_A rfl rfl rfl ?_; intro K hK; go_step
  refine (toPicture_any _ _ _ _ rfl _ _ (hJ.arg hx1) Hx1.out).mono ?_
  rintro e w5 ⟨uo1, rfl, huo1, hb⟩
  obtain ⟨ao1, co1, rfl, -⟩ := own_form huo1
  refine hK _ _ (hC.trans (hb.mono hC.size)) ?_
  replace hC := hC.trans (hb.mono hC.size)
  replace hJ := hJ.fresh hb huo1
  clear hK K
  repeat (first | (refine Mix.sf_S rfl rfl rfl rfl rfl (Mix.valOp_spec rfl) hC ?_; apply Exists.intro; refine ⟨?_, ?_⟩; · (intro w' hC' K hK; have hk := (bcell hC').1; go_step; exact hK)) | (refine Mix.sf_skipS rfl rfl rfl rfl ?_; apply Exists.intro; refine ⟨?_, ?_⟩; · (intro K hK; go_step; exact hK)) | (refine Mix.sf_skipA rfl rfl rfl rfl ?_; apply Exists.intro; refine ⟨?_, ?_⟩; · (intro K hK; go_step; exact hK)) | (refine Mix.sf_skipL rfl rfl rfl rfl ?_ hC; apply Exists.intro; refine ⟨?_, ?_⟩; · (intro K hK; go_step; exact hK); clear hC; intro wL hC))
  clear hb huo1
  refine Mix.sf_A rfl rfl rfl ?_; intro K hK; go_step
  refine (hspec _ _ _ (hJ.sl 1 rfl) (hJ.sl 0 rfl)).mono ?_
  rintro e w6 ⟨ag0, cg0, qg0, rfl, hqg0, hug0, hb⟩
  have Hqg0 := hid hqg0
  refine hK _ _ (hC.trans (hb.mono hC.size)) ?_
  replace hC := hC.trans (hb.mono hC.size)
  replace hJ := hJ.fresh hb hug0
  clear hK K
  repeat (first | (refine Mix.sf_S rfl rfl rfl rfl rfl (Mix.valOp_spec rfl) hC ?_; apply Exists.intro; refine ⟨?_, ?_⟩; · (intro w' hC' K hK; have hk := (bcell hC').1; go_step; exact hK)) | (refine Mix.sf_skipS rfl rfl rfl rfl ?_; apply Exists.intro; refine ⟨?_, ?_⟩; · (intro K hK; go_step; exact hK)) | (refine Mix.sf_skipA rfl rfl rfl rfl ?_; apply Exists.intro; refine ⟨?_, ?_⟩; · (intro K hK; go_step; exact hK)) | (refine Mix.sf_skipL rfl rfl rfl rfl ?_ hC; apply Exists.intro; refine ⟨?_, ?_⟩; · (intro K hK; go_step; exact hK); clear hC; intro wL hC))
  clear hb hug0 hqg0
  refine Mix.sf_nil ?_
  clear r00 r01 r02 lt0 r10 r11 r12 lt1
  replace hI := hJ
  clear hJ hC
  have r00 := (hI.blk 1 rfl).cell 0
  have r01 := (hI.blk 1 rfl).cell 1
  have r02 := (hI.blk 1 rfl).cell 2
  have lt0 := (hI.blk 1 rfl).lt
  go_wp2_with fail
  clear r00 r01 r02 lt0
  refine (toPicture_any _ _ _ _ rfl _ _ (hI.arg hx0) Hx0.out).mono ?_
  rintro e w7 ⟨uo2, rfl, huo2, hb⟩
  obtain ⟨ao2, co2, rfl, -⟩ := own_form huo2
  replace hI := hI.fresh hb huo2
  clear hb huo2
  replace hI := hI.alloc [.int .i64 W0, .int .i64 H0, .slice ao2 x0.length co2] 32
  have r00 := (hI.blk 1 rfl).cell 0
  have r01 := (hI.blk 1 rfl).cell 1
  have r02 := (hI.blk 1 rfl).cell 2
  have lt0 := (hI.blk 1 rfl).lt
  go_wp2_with fail
  clear r00 r01 r02 lt0
  obtain ⟨B2, hB2⟩ : ∃ b, b = w7.heap.size := ⟨_, rfl⟩
  rw [← hB2] at hI  ⊢
  clear hB2
  generalize w7.alloc (.cells #[.int .i64 W0, .int .i64 H0, .slice ao2 x0.length co2] 32) = w8 at hI  ⊢
  clear w7
  refine (toPicture_any _ _ _ _ rfl _ _ (hI.arg hx1) Hx1.out).mono ?_
  rintro e w9 ⟨uo3, rfl, huo3, hb⟩
  obtain ⟨ao3, co3, rfl, -⟩ := own_form huo3
  replace hI := hI.fresh hb huo3
  clear hb huo3
  replace hI := hI.alloc [.int .i64 W1, .int .i64 H1, .slice ao3 x1.length co3] 32
  have r00 := (hI.blk 1 rfl).cell 0
  have r01 := (hI.blk 1 rfl).cell 1
  have r02 := (hI.blk 1 rfl).cell 2
  have lt0 := (hI.blk 1 rfl).lt
  have r10 := (hI.blk 0 rfl).cell 0
  have r11 := (hI.blk 0 rfl).cell 1
  have r12 := (hI.blk 0 rfl).cell 2
  have lt1 := (hI.blk 0 rfl).lt
  go_wp2_with fail
  clear r00 r01 r02 lt0 r10 r11 r12 lt1
  obtain ⟨B3, hB3⟩ : ∃ b, b = w9.heap.size := ⟨_, rfl⟩
  rw [← hB3] at hI  ⊢
  clear hB3
  generalize w9.alloc (.cells #[.int .i64 W1, .int .i64 H1, .slice ao3 x1.length co3] 32) = w10 at hI  ⊢
  clear w9
  refine (himpl _ _ _ (hI.sl 1 rfl) (hI.sl 0 rfl)).mono ?_
  rintro e w11 ⟨ag1, cg1, qg1, rfl, hqg1, hug1, hb⟩
  have Hqg1 := hid hqg1
  replace hI := hI.fresh hb hug1
  clear hb hug1 hqg1
  go_wp2_with fail
  refine (eqInt64S_yes _ _ _ _ (hI.sl 0 rfl) (hI.sl 3 rfl) Hs'.out).mono ?_
  rintro e w12 ⟨rfl, hb⟩
  replace hI := hI.call hb
  clear hb
  go_wp2_with fail
  refine (sameFloat_any _ _ _).mono ?_
  rintro e w13 ⟨rfl, hb⟩
  rw [same_wide (Hqg1.out.trans Hqg0.out.symm)]
  replace hb : Below w12.heap.size w12 w13 := (Below.drewN' _ (Below.refl _ _)).trans hb
  replace hI := hI.call hb
  clear hb
  have r00 := (hI.blk 1 rfl).cell 0
  have r01 := (hI.blk 1 rfl).cell 1
  have r02 := (hI.blk 1 rfl).cell 2
  have lt0 := (hI.blk 1 rfl).lt
  have r10 := (hI.blk 3 rfl).cell 0
  have r11 := (hI.blk 3 rfl).cell 1
  have r12 := (hI.blk 3 rfl).cell 2
  have lt1 := (hI.blk 3 rfl).lt
  go_wp2
  refine Mix.wp_mix [.S, .S, .A, .A, .S] [0, 1, 2, 3, 4] (Below w13.heap.size w13) (by kernel_rfl) (by kernel_rfl) ((Below.refl _ _).drew) ?_
  have hC : Below w13.heap.size w13 w13.drew := (Below.refl _ _).drew
  have hJ := hI.call hC
  generalize w13.drew = w14 at hC hJ ⊢
  repeat (first | (refine Mix.sf_S rfl rfl rfl rfl rfl (Mix.valOp_spec rfl) hC ?_; apply Exists.intro; refine ⟨?_, ?_⟩; · (intro w' hC' K hK; have hk := (bcell hC').1; go_step; exact hK)) | (refine Mix.sf_skipS rfl rfl rfl rfl ?_; apply Exists.intro; refine ⟨?_, ?_⟩; · (intro K hK; go_step; exact hK)) | (refine Mix.sf_skipA rfl rfl rfl rfl ?_; apply Exists.intro; refine ⟨?_, ?_⟩; · (intro K hK; go_step; exact hK)) | (refine Mix.sf_skipL rfl rfl rfl rfl ?_ hC; apply Exists.intro; refine ⟨?_, ?_⟩; · (intro K hK; go_step; exact hK); clear hC; intro wL hC))
  refine Mix.sf_A rfl rfl rfl ?_; intro K hK; go_step
  refine (toPicture_any _ _ _ _ rfl _ _ (hJ.arg hx0) Hx0.out).mono ?_
  rintro e w15 ⟨uo4, rfl, huo4, hb⟩
  obtain ⟨ao4, co4, rfl, -⟩ := own_form huo4
  refine hK _ _ (hC.trans (hb.mono hC.size)) ?_
  replace hC := hC.trans (hb.mono hC.size)
  replace hJ := hJ.fresh hb huo4
  clear hK K
  repeat (first | (refine Mix.sf_S rfl rfl rfl rfl rfl (Mix.valOp_spec rfl) hC ?_; apply Exists.intro; refine ⟨?_, ?_⟩; · (intro w' hC' K hK; have hk := (bcell hC').1; go_step; exact hK)) | (refine Mix.sf_skipS rfl rfl rfl rfl ?_; apply Exists.intro; refine ⟨?_, ?_⟩; · (intro K hK; go_step; exact hK)) | (refine Mix.sf_skipA rfl rfl rfl rfl ?_; apply Exists.intro; refine ⟨?_, ?_⟩; · (intro K hK; go_step; exact hK)) | (refine Mix.sf_skipL rfl rfl rfl rfl ?_ hC; apply Exists.intro; refine ⟨?_, ?_⟩; · (intro K hK; go_step; exact hK); clear hC; intro wL hC))
  clear hb huo4
  refine Mix.sf_A rfl rfl rfl ?_; intro K hK; go_step
  refine (eqPicture_yes _ _ _ _ _ _ _ (hJ.sl 3 rfl) (hJ.sl 0 rfl) Hx0'.out rfl).mono ?_
  rintro e w16 ⟨rfl, hb⟩
  refine hK _ _ (hC.trans (hb.mono hC.size)) ?_
  replace hC := hC.trans (hb.mono hC.size)
  replace hJ := hJ.call hb
  clear hK K
  repeat (first | (refine Mix.sf_S rfl rfl rfl rfl rfl (Mix.valOp_spec rfl) hC ?_; apply Exists.intro; refine ⟨?_, ?_⟩; · (intro w' hC' K hK; have hk := (bcell hC').1; go_step; exact hK)) | (refine Mix.sf_skipS rfl rfl rfl rfl ?_; apply Exists.intro; refine ⟨?_, ?_⟩; · (intro K hK; go_step; exact hK)) | (refine Mix.sf_skipA rfl rfl rfl rfl ?_; apply Exists.intro; refine ⟨?_, ?_⟩; · (intro K hK; go_step; exact hK)) | (refine Mix.sf_skipL rfl rfl rfl rfl ?_ hC; apply Exists.intro; refine ⟨?_, ?_⟩; · (intro K hK; go_step; exact hK); clear hC; intro wL hC))
  clear hb
  refine Mix.sf_nil ?_
  clear r00 r01 r02 lt0 r10 r11 r12 lt1
  replace hI := hJ
  clear hJ hC
  have r00 := (hI.blk 0 rfl).cell 0
  have r01 := (hI.blk 0 rfl).cell 1
  have r02 := (hI.blk 0 rfl).cell 2
  have lt0 := (hI.blk 0 rfl).lt
  have r10 := (hI.blk 2 rfl).cell 0
  have r11 := (hI.blk 2 rfl).cell 1
  have r12 := (hI.blk 2 rfl).cell 2
  have lt1 := (hI.blk 2 rfl).lt
  go_wp2
  refine Mix.wp_mix [.S, .S, .A, .A, .S] [0, 1, 2, 3, 4] (Below w16.heap.size w16) (by kernel_rfl) (by kernel_rfl) ((Below.refl _ _).drew) ?_
  have hC : Below w16.heap.size w16 w16.drew := (Below.refl _ _).drew
  have hJ := hI.call hC
  generalize w16.drew = w17 at hC hJ ⊢
  repeat (first | (refine Mix.sf_S rfl rfl rfl rfl rfl (Mix.valOp_spec rfl) hC ?_; apply Exists.intro; refine ⟨?_, ?_⟩; · (intro w' hC' K hK; have hk := (bcell hC').1; go_step; exact hK)) | (refine Mix.sf_skipS rfl rfl rfl rfl ?_; apply Exists.intro; refine ⟨?_, ?_⟩; · (intro K hK; go_step; exact hK)) | (refine Mix.sf_skipA rfl rfl rfl rfl ?_; apply Exists.intro; refine ⟨?_, ?_⟩; · (intro K hK; go_step; exact hK)) | (refine Mix.sf_skipL rfl rfl rfl rfl ?_ hC; apply Exists.intro; refine ⟨?_, ?_⟩; · (intro K hK; go_step; exact hK); clear hC; intro wL hC))
  refine Mix.sf_A rfl rfl rfl ?_; intro K hK; go_step
  refine (toPicture_any _ _ _ _ rfl _ _ (hJ.arg hx1) Hx1.out).mono ?_
  rintro e w18 ⟨uo5, rfl, huo5, hb⟩
  obtain ⟨ao5, co5, rfl, -⟩ := own_form huo5
  refine hK _ _ (hC.trans (hb.mono hC.size)) ?_
  replace hC := hC.trans (hb.mono hC.size)
  replace hJ := hJ.fresh hb huo5
  clear hK K
  repeat (first | (refine Mix.sf_S rfl rfl rfl rfl rfl (Mix.valOp_spec rfl) hC ?_; apply Exists.intro; refine ⟨?_, ?_⟩; · (intro w' hC' K hK; have hk := (bcell hC').1; go_step; exact hK)) | (refine Mix.sf_skipS rfl rfl rfl rfl ?_; apply Exists.intro; refine ⟨?_, ?_⟩; · (intro K hK; go_step; exact hK)) | (refine Mix.sf_skipA rfl rfl rfl rfl ?_; apply Exists.intro; refine ⟨?_, ?_⟩; · (intro K hK; go_step; exact hK)) | (refine Mix.sf_skipL rfl rfl rfl rfl ?_ hC; apply Exists.intro; refine ⟨?_, ?_⟩; · (intro K hK; go_step; exact hK); clear hC; intro wL hC))
  clear hb huo5
  refine Mix.sf_A rfl rfl rfl ?_; intro K hK; go_step
  refine (eqPicture_yes _ _ _ _ _ _ _ (hJ.sl 3 rfl) (hJ.sl 0 rfl) Hx1'.out rfl).mono ?_
  rintro e w19 ⟨rfl, hb⟩
  refine hK _ _ (hC.trans (hb.mono hC.size)) ?_
  replace hC := hC.trans (hb.mono hC.size)
  replace hJ := hJ.call hb
  clear hK K
  repeat (first | (refine Mix.sf_S rfl rfl rfl rfl rfl (Mix.valOp_spec rfl) hC ?_; apply Exists.intro; refine ⟨?_, ?_⟩; · (intro w' hC' K hK; have hk := (bcell hC').1; go_step; exact hK)) | (refine Mix.sf_skipS rfl rfl rfl rfl ?_; apply Exists.intro; refine ⟨?_, ?_⟩; · (intro K hK; go_step; exact hK)) | (refine Mix.sf_skipA rfl rfl rfl rfl ?_; apply Exists.intro; refine ⟨?_, ?_⟩; · (intro K hK; go_step; exact hK)) | (refine Mix.sf_skipL rfl rfl rfl rfl ?_ hC; apply Exists.intro; refine ⟨?_, ?_⟩; · (intro K hK; go_step; exact hK); clear hC; intro wL hC))
  clear hb
  refine Mix.sf_nil ?_
  clear r00 r01 r02 lt0 r10 r11 r12 lt1
  replace hI := hJ
  clear hJ hC
  have r00 := (hI.blk 1 rfl).cell 0
  have r01 := (hI.blk 1 rfl).cell 1
  have r02 := (hI.blk 1 rfl).cell 2
  have lt0 := (hI.blk 1 rfl).lt
  go_wp2_with fail
  clear r00 r01 r02 lt0
  refine (markPicture_any _ _ _ _ _ _ _ _ (hI.row 4 rfl) (by have := Hx0.out; have := Hx1.out; have := Hs.out; first | omega | (simp; done) | (simp; omega)) (by have := Hx0.out; have := Hx1.out; have := Hs.out; first | omega | (simp; done) | (simp; omega)) hI.below.size).mono ?_
  rintro e w20 ⟨rfl, ho, hg⟩
  replace hI := hI.mark 4 rfl hg ho
  clear ho hg
  have r00 := (hI.blk 0 rfl).cell 0
  have r01 := (hI.blk 0 rfl).cell 1
  have r02 := (hI.blk 0 rfl).cell 2
  have lt0 := (hI.blk 0 rfl).lt
  go_wp2_with fail
  clear r00 r01 r02 lt0
  refine (markPicture_any _ _ _ _ _ _ _ _ (hI.row 3 rfl) (by have := Hx0.out; have := Hx1.out; have := Hs.out; first | omega | (simp; done) | (simp; omega)) (by have := Hx0.out; have := Hx1.out; have := Hs.out; first | omega | (simp; done) | (simp; omega)) hI.below.size).mono ?_
  rintro e w21 ⟨rfl, ho, hg⟩
  replace hI := hI.mark 3 rfl hg ho
  clear ho hg
  go_wp2_with fail
  refine (eqInt64S_yes _ _ _ _ (hI.sl 2 rfl) (hI.sl 5 rfl) Hs'.out).mono ?_
  rintro e w22 ⟨rfl, hb⟩
  replace hI := hI.call hb
  clear hb
  go_wp2_with fail
  refine (sameFloat_any _ _ _).mono ?_
  rintro e w23 ⟨rfl, hb⟩
  rw [same_wide (Hqg1.out.trans Hqg0.out.symm)]
  replace hb : Below w22.heap.size w22 w23 := (Below.drewN' _ (Below.refl _ _)).trans hb
  replace hI := hI.call hb
  clear hb
  go_wp2_with fail
  refine (markInt64S_any _ _ _ _ _ _ (hI.row 2 rfl) (by have := Hx0.out; have := Hx1.out; have := Hs.out; first | omega | (simp; done) | (simp; omega)) (by have := Hx0.out; have := Hx1.out; have := Hs.out; first | omega | (simp; done) | (simp; omega))).mono ?_
  rintro e w24 ⟨rfl, ho, hg⟩
  replace hI := hI.mark 2 rfl hg ho
  clear ho hg
  go_wp2_with fail
  refine (heldInt64S_any _ _ _ _ (hI.sl 2 rfl) (by have := Hx0.out; have := Hx1.out; have := Hs.out; first | omega | (simp; done) | (simp; omega)) (by have := Hx0.out; have := Hx1.out; have := Hs.out; first | omega | (simp; done) | (simp; omega))).mono ?_
  rintro e w25 ⟨rfl, hb⟩
  replace hI := hI.call hb
  clear hb
  have r00 := (hI.blk 3 rfl).cell 0
  have r01 := (hI.blk 3 rfl).cell 1
  have r02 := (hI.blk 3 rfl).cell 2
  have lt0 := (hI.blk 3 rfl).lt
  have r10 := (hI.blk 2 rfl).cell 0
  have r11 := (hI.blk 2 rfl).cell 1
  have r12 := (hI.blk 2 rfl).cell 2
  have lt1 := (hI.blk 2 rfl).lt
  go_wp2
  refine Mix.wp_mix [.S, .A, .S, .A, .S, .A, .S, .S, .S, .S, .S, .S, .S] [0, 2, 4, 1, 3, 5, 6, 7, 8, 9, 10, 11, 12] (Below w25.heap.size w25) (by kernel_rfl) (by kernel_rfl) ((Below.refl _ _).drew) ?_
  have hC : Below w25.heap.size w25 w25.drew := (Below.refl _ _).drew
  have hJ := hI.call hC
  generalize w25.drew = w26 at hC hJ ⊢
  repeat (first | (refine Mix.sf_S rfl rfl rfl rfl rfl (Mix.valOp_spec rfl) hC ?_; apply Exists.intro; refine ⟨?_, ?_⟩; · (intro w' hC' K hK; have hk := (bcell hC').1; go_step; exact hK)) | (refine Mix.sf_skipS rfl rfl rfl rfl ?_; apply Exists.intro; refine ⟨?_, ?_⟩; · (intro K hK; go_step; exact hK)) | (refine Mix.sf_skipA rfl rfl rfl rfl ?_; apply Exists.intro; refine ⟨?_, ?_⟩; · (intro K hK; go_step; exact hK)) | (refine Mix.sf_skipL rfl rfl rfl rfl ?_ hC; apply Exists.intro; refine ⟨?_, ?_⟩; · (intro K hK; go_step; exact hK); clear hC; intro wL hC))
  refine Mix.sf_A rfl rfl rfl ?_; intro K hK; go_step
  refine (toPicture_any _ _ _ _ rfl _ _ (hJ.arg hx0) Hx0.out).mono ?_
  rintro e w27 ⟨uo6, rfl, huo6, hb⟩
  obtain ⟨ao6, co6, rfl, -⟩ := own_form huo6
  refine hK _ _ (hC.trans (hb.mono hC.size)) ?_
  replace hC := hC.trans (hb.mono hC.size)
  replace hJ := hJ.fresh hb huo6
  clear hK K
  repeat (first | (refine Mix.sf_S rfl rfl rfl rfl rfl (Mix.valOp_spec rfl) hC ?_; apply Exists.intro; refine ⟨?_, ?_⟩; · (intro w' hC' K hK; have hk := (bcell hC').1; go_step; exact hK)) | (refine Mix.sf_skipS rfl rfl rfl rfl ?_; apply Exists.intro; refine ⟨?_, ?_⟩; · (intro K hK; go_step; exact hK)) | (refine Mix.sf_skipA rfl rfl rfl rfl ?_; apply Exists.intro; refine ⟨?_, ?_⟩; · (intro K hK; go_step; exact hK)) | (refine Mix.sf_skipL rfl rfl rfl rfl ?_ hC; apply Exists.intro; refine ⟨?_, ?_⟩; · (intro K hK; go_step; exact hK); clear hC; intro wL hC))
  clear hb huo6
  refine Mix.sf_A rfl rfl rfl ?_; intro K hK; go_step
  refine (toPicture_any _ _ _ _ rfl _ _ (hJ.arg hx1) Hx1.out).mono ?_
  rintro e w28 ⟨uo7, rfl, huo7, hb⟩
  obtain ⟨ao7, co7, rfl, -⟩ := own_form huo7
  refine hK _ _ (hC.trans (hb.mono hC.size)) ?_
  replace hC := hC.trans (hb.mono hC.size)
  replace hJ := hJ.fresh hb huo7
  clear hK K
  repeat (first | (refine Mix.sf_S rfl rfl rfl rfl rfl (Mix.valOp_spec rfl) hC ?_; apply Exists.intro; refine ⟨?_, ?_⟩; · (intro w' hC' K hK; have hk := (bcell hC').1; go_step; exact hK)) | (refine Mix.sf_skipS rfl rfl rfl rfl ?_; apply Exists.intro; refine ⟨?_, ?_⟩; · (intro K hK; go_step; exact hK)) | (refine Mix.sf_skipA rfl rfl rfl rfl ?_; apply Exists.intro; refine ⟨?_, ?_⟩; · (intro K hK; go_step; exact hK)) | (refine Mix.sf_skipL rfl rfl rfl rfl ?_ hC; apply Exists.intro; refine ⟨?_, ?_⟩; · (intro K hK; go_step; exact hK); clear hC; intro wL hC))
  clear hb huo7
  refine Mix.sf_A rfl rfl rfl ?_; intro K hK; go_step
  refine (himpl _ _ _ (hJ.sl 1 rfl) (hJ.sl 0 rfl)).mono ?_
  rintro e w29 ⟨ag2, cg2, qg2, rfl, hqg2, hug2, hb⟩
  have Hqg2 := hid hqg2
  refine hK _ _ (hC.trans (hb.mono hC.size)) ?_
  replace hC := hC.trans (hb.mono hC.size)
  replace hJ := hJ.fresh hb hug2
  clear hK K
  repeat (first | (refine Mix.sf_S rfl rfl rfl rfl rfl (Mix.valOp_spec rfl) hC ?_; apply Exists.intro; refine ⟨?_, ?_⟩; · (intro w' hC' K hK; have hk := (bcell hC').1; go_step; exact hK)) | (refine Mix.sf_skipS rfl rfl rfl rfl ?_; apply Exists.intro; refine ⟨?_, ?_⟩; · (intro K hK; go_step; exact hK)) | (refine Mix.sf_skipA rfl rfl rfl rfl ?_; apply Exists.intro; refine ⟨?_, ?_⟩; · (intro K hK; go_step; exact hK)) | (refine Mix.sf_skipL rfl rfl rfl rfl ?_ hC; apply Exists.intro; refine ⟨?_, ?_⟩; · (intro K hK; go_step; exact hK); clear hC; intro wL hC))
  clear hb hug2 hqg2
  refine Mix.sf_nil ?_
  clear r00 r01 r02 lt0 r10 r11 r12 lt1
  replace hI := hJ
  clear hJ hC
  go_wp2_with fail
  refine (eqInt64S_yes _ _ _ _ (hI.sl 0 rfl) (hI.sl 8 rfl) Hs'.out).mono ?_
  rintro e w30 ⟨rfl, hb⟩
  replace hI := hI.call hb
  clear hb
  go_wp2_with fail
  refine (sameFloat_any _ _ _).mono ?_
  rintro e w31 ⟨rfl, hb⟩
  rw [same_wide (Hqg2.out.trans Hqg0.out.symm)]
  replace hb : Below w30.heap.size w30 w31 := (Below.drewN' _ (Below.refl _ _)).trans hb
  replace hI := hI.call hb
  clear hb
  go_wp2_with fail
  refine (heldInt64S_any _ _ _ _ (hI.sl 5 rfl) (by have := Hx0.out; have := Hx1.out; have := Hs.out; first | omega | (simp; done) | (simp; omega)) (by have := Hx0.out; have := Hx1.out; have := Hs.out; first | omega | (simp; done) | (simp; omega))).mono ?_
  rintro e w32 ⟨rfl, hb⟩
  replace hI := hI.call hb
  clear hb
  go_wp2
  go_ret
  exact ⟨rfl, hI.below⟩

end Go.Proofs.Ytggbdmgonobefaa
