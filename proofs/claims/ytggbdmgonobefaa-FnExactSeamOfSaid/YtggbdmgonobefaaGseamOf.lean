/-
  The walk of the law FnExactSeamOf: where both functions answer alike, so does the law.
  Conditions: the contracts of both, given.
-/
import Derived.Test.YtggbdmgonobefaaLInv
import Derived.Test.YtggbdmgonobefaaLRes
import Derived.Test.YtggbdmgonobefaaL6
import Derived.Test.YtggbdmgonobefaaMixP
import Derived.Test.YtggbdmgonobefaaInvX
import Derived.Deep.CutRange
namespace Go.Proofs.Ytggbdmgonobefaa
open Go.RowKit
set_option linter.unusedVariables false
set_option linter.unusedSimpArgs false
attribute [local go_sem] Fl.run_fadd Fl.run_fsub Fl.run_fmul Fl.run_fquo Fl.run_wide Fl.run_store_float

set_option maxHeartbeats 16000000 in
set_option maxRecDepth 100000 in
theorem lawSeamOf_gen (W0 H0 : Int) (v0 : Value) (x0 : List Nat) (w : World) (hx0 : Sl w v0 (x0.map fv)) (hl0 : x0.length ≤ 140737488351232) (s : List Int) (c : Nat) (ok : Bool) (hs : s.length ≤ 1048576)
    (hspec : ∀ (u0 : Value) (w' : World), Sl w' u0 (x0.map fv) → Calls Try.prog 31 #[.agg #[.int .i64 W0, .int .i64 H0, u0]] w' (SeamUni w' s c ok))
    (himpl : ∀ (u0 : Value) (w' : World), Sl w' u0 (x0.map fv) → Calls Try.prog 33 #[.agg #[.int .i64 W0, .int .i64 H0, u0]] w' (SeamUni w' s c ok)) :
    Calls Try.prog 7 #[.agg #[.int .i64 W0, .int .i64 H0, v0]] w fun e w' => e = .returned (.bool true) ∧ Below w.heap.size w w' := by
  have Hs := hid hs
  have Hs' := hid (show s.length ≤ 140737488351232 by omega)
  clear hs
  obtain ⟨d0, p0, hv0⟩ := hx0.form
  rw [List.length_map] at hv0
  obtain ⟨n0, hn0⟩ : ∃ n, n = x0.length := ⟨_, rfl⟩
  rw [← hn0] at hv0 hl0
  subst hv0
  have Hn0 := hid hn0.symm
  clear hn0
  have hI := Inv.start w
  replace hI := hI.alloc [.int .i64 W0, .int .i64 H0, .slice d0 n0 p0] 24
  obtain ⟨b0, hb0⟩ : ∃ b, b = w.heap.size := ⟨_, rfl⟩
  try simp only [size_alloc1] at hI
  have r00 := (hI.blk 0 rfl).cell 0
  have r01 := (hI.blk 0 rfl).cell 1
  have r02 := (hI.blk 0 rfl).cell 2
  have lt0 := (hI.blk 0 rfl).lt
  go_enter Try.func7, Try.ntmps7
  go_wp2_with fail
  clear r00 r01 r02 lt0
  generalize (w.alloc (.cells #[.int .i64 W0, .int .i64 H0, .slice d0 n0 p0] 24)) = w0 at hI ⊢
  rw [← hb0] at hI ⊢
  have Hb0 := hid hb0
  clear hb0
  refine (szPicture_any _ _ _ _ _ _ _ (by omega) (by omega) hl0).mono ?_
  rintro e w1 ⟨rfl, hb⟩
  replace hI := hI.call hb
  clear hb
  by_cases hbx0 : (1048576 : Int) < n0
  · rw [szB, if_pos hbx0]
    go_wp2
    go_ret
    exact ⟨rfl, hI.below⟩
  rw [szB, if_neg hbx0]
  obtain ⟨left0, hleft0⟩ : ∃ l : Int, l = 1048576 - n0 := ⟨_, rfl⟩
  have hlo0 : 0 ≤ left0 := by omega
  have hhi0 : left0 ≤ 1048576 := by omega
  rw [← hleft0]
  have Hx0 := hid (show x0.length ≤ 1048576 from by rw [Hn0.out]; omega)
  have Hx0' := hid (show x0.length ≤ 140737488351232 from by have := Hx0.out; omega)
  clear hleft0
  have r00 := (hI.blk 0 rfl).cell 0
  have r01 := (hI.blk 0 rfl).cell 1
  have r02 := (hI.blk 0 rfl).cell 2
  have lt0 := (hI.blk 0 rfl).lt
  go_wp2_with fail
  clear r00 r01 r02 lt0
  refine (toPicture_any _ _ _ _ rfl _ _ (hI.arg hx0) Hx0.out).mono ?_
  rintro e w2 ⟨uo0, rfl, huo0, hb⟩
  obtain ⟨ao0, co0, rfl, -⟩ := own_form huo0
  replace hI := hI.fresh hb huo0
  clear hb huo0
  go_wp2_with fail
  refine (hspec _ _ (hI.sl 0 rfl)).mono ?_
  rintro e w3 ⟨ag0, cg0, qg0, rfl, hqg0, hug0, hb⟩
  have Hqg0 := hid hqg0
  replace hI := hI.fresh hb hug0
  clear hb hug0 hqg0
  have r00 := (hI.blk 0 rfl).cell 0
  have r01 := (hI.blk 0 rfl).cell 1
  have r02 := (hI.blk 0 rfl).cell 2
  have lt0 := (hI.blk 0 rfl).lt
  go_wp2_with fail
  clear r00 r01 r02 lt0
  refine (toPicture_any _ _ _ _ rfl _ _ (hI.arg hx0) Hx0.out).mono ?_
  rintro e w4 ⟨uo1, rfl, huo1, hb⟩
  obtain ⟨ao1, co1, rfl, -⟩ := own_form huo1
  replace hI := hI.fresh hb huo1
  clear hb huo1
  replace hI := hI.alloc [.int .i64 W0, .int .i64 H0, .slice ao1 x0.length co1] 32
  have r00 := (hI.blk 0 rfl).cell 0
  have r01 := (hI.blk 0 rfl).cell 1
  have r02 := (hI.blk 0 rfl).cell 2
  have lt0 := (hI.blk 0 rfl).lt
  go_wp2_with fail
  clear r00 r01 r02 lt0
  obtain ⟨B1, hB1⟩ : ∃ b, b = w4.heap.size := ⟨_, rfl⟩
  rw [← hB1] at hI  ⊢
  clear hB1
  generalize w4.alloc (.cells #[.int .i64 W0, .int .i64 H0, .slice ao1 x0.length co1] 32) = w5 at hI  ⊢
  clear w4
  refine (himpl _ _ (hI.sl 0 rfl)).mono ?_
  rintro e w6 ⟨ag1, cg1, qg1, rfl, hqg1, hug1, hb⟩
  have Hqg1 := hid hqg1
  replace hI := hI.fresh hb hug1
  clear hb hug1 hqg1
  go_wp2_with fail
  refine (eqInt64S_yes _ _ _ _ (hI.sl 0 rfl) (hI.sl 2 rfl) Hs'.out).mono ?_
  rintro e w7 ⟨rfl, hb⟩
  replace hI := hI.call hb
  clear hb
  go_wp2_with fail
  refine (sameFloat_any _ _ _).mono ?_
  rintro e w8 ⟨rfl, hb⟩
  rw [same_wide (Hqg1.out.trans Hqg0.out.symm)]
  replace hb : Below w7.heap.size w7 w8 := (Below.drewN' _ (Below.refl _ _)).trans hb
  replace hI := hI.call hb
  clear hb
  have r00 := (hI.blk 0 rfl).cell 0
  have r01 := (hI.blk 0 rfl).cell 1
  have r02 := (hI.blk 0 rfl).cell 2
  have lt0 := (hI.blk 0 rfl).lt
  have r10 := (hI.blk 1 rfl).cell 0
  have r11 := (hI.blk 1 rfl).cell 1
  have r12 := (hI.blk 1 rfl).cell 2
  have lt1 := (hI.blk 1 rfl).lt
  go_wp2
  refine Mix.wp_mix [.S, .S, .A, .A, .S] [0, 1, 2, 3, 4] (Below w8.heap.size w8) (by kernel_rfl) (by kernel_rfl) ((Below.refl _ _).drew) ?_
  have hC : Below w8.heap.size w8 w8.drew := (Below.refl _ _).drew
  have hJ := hI.call hC
  generalize w8.drew = w9 at hC hJ ⊢
  repeat (first | (refine Mix.sf_S rfl rfl rfl rfl rfl (Mix.valOp_spec rfl) hC ?_; apply Exists.intro; refine ⟨?_, ?_⟩; · (intro w' hC' K hK; have hk := (bcell hC').1; go_step; exact hK)) | (refine Mix.sf_skipS rfl rfl rfl rfl ?_; apply Exists.intro; refine ⟨?_, ?_⟩; · (intro K hK; go_step; exact hK)) | (refine Mix.sf_skipA rfl rfl rfl rfl ?_; apply Exists.intro; refine ⟨?_, ?_⟩; · (intro K hK; go_step; exact hK)) | (refine Mix.sf_skipL rfl rfl rfl rfl ?_ hC; apply Exists.intro; refine ⟨?_, ?_⟩; · (intro K hK; go_step; exact hK); clear hC; intro wL hC))
  refine Mix.sf_A rfl rfl rfl ?_; intro K hK; go_step
  refine (toPicture_any _ _ _ _ rfl _ _ (hJ.arg hx0) Hx0.out).mono ?_
  rintro e w10 ⟨uo2, rfl, huo2, hb⟩
  obtain ⟨ao2, co2, rfl, -⟩ := own_form huo2
  refine hK _ _ (hC.trans (hb.mono hC.size)) ?_
  replace hC := hC.trans (hb.mono hC.size)
  replace hJ := hJ.fresh hb huo2
  clear hK K
  repeat (first | (refine Mix.sf_S rfl rfl rfl rfl rfl (Mix.valOp_spec rfl) hC ?_; apply Exists.intro; refine ⟨?_, ?_⟩; · (intro w' hC' K hK; have hk := (bcell hC').1; go_step; exact hK)) | (refine Mix.sf_skipS rfl rfl rfl rfl ?_; apply Exists.intro; refine ⟨?_, ?_⟩; · (intro K hK; go_step; exact hK)) | (refine Mix.sf_skipA rfl rfl rfl rfl ?_; apply Exists.intro; refine ⟨?_, ?_⟩; · (intro K hK; go_step; exact hK)) | (refine Mix.sf_skipL rfl rfl rfl rfl ?_ hC; apply Exists.intro; refine ⟨?_, ?_⟩; · (intro K hK; go_step; exact hK); clear hC; intro wL hC))
  clear hb huo2
  refine Mix.sf_A rfl rfl rfl ?_; intro K hK; go_step
  refine (eqPicture_yes _ _ _ _ _ _ _ (hJ.sl 2 rfl) (hJ.sl 0 rfl) Hx0'.out rfl).mono ?_
  rintro e w11 ⟨rfl, hb⟩
  refine hK _ _ (hC.trans (hb.mono hC.size)) ?_
  replace hC := hC.trans (hb.mono hC.size)
  replace hJ := hJ.call hb
  clear hK K
  repeat (first | (refine Mix.sf_S rfl rfl rfl rfl rfl (Mix.valOp_spec rfl) hC ?_; apply Exists.intro; refine ⟨?_, ?_⟩; · (intro w' hC' K hK; have hk := (bcell hC').1; go_step; exact hK)) | (refine Mix.sf_skipS rfl rfl rfl rfl ?_; apply Exists.intro; refine ⟨?_, ?_⟩; · (intro K hK; go_step; exact hK)) | (refine Mix.sf_skipA rfl rfl rfl rfl ?_; apply Exists.intro; refine ⟨?_, ?_⟩; · (intro K hK; go_step; exact hK)) | (refine Mix.sf_skipL rfl rfl rfl rfl ?_ hC; apply Exists.intro; refine ⟨?_, ?_⟩; · (intro K hK; go_step; exact hK); clear hC; intro wL hC))
  clear hb
  refine Mix.sf_nil ?_
  clear r00 r01 r02 lt0 r10 r11 r12 lt1
  replace hI := hJ
  clear hJ hC
  have r00 := (hI.blk 0 rfl).cell 0
  have r01 := (hI.blk 0 rfl).cell 1
  have r02 := (hI.blk 0 rfl).cell 2
  have lt0 := (hI.blk 0 rfl).lt
  go_wp2_with fail
  clear r00 r01 r02 lt0
  refine (markPicture_any _ _ _ _ _ _ _ _ (hI.row 2 rfl) (by have := Hx0.out; have := Hs.out; first | omega | (simp; done) | (simp; omega)) (by have := Hx0.out; have := Hs.out; first | omega | (simp; done) | (simp; omega)) hI.below.size).mono ?_
  rintro e w12 ⟨rfl, ho, hg⟩
  replace hI := hI.mark 2 rfl hg ho
  clear ho hg
  go_wp2_with fail
  refine (eqInt64S_yes _ _ _ _ (hI.sl 1 rfl) (hI.sl 3 rfl) Hs'.out).mono ?_
  rintro e w13 ⟨rfl, hb⟩
  replace hI := hI.call hb
  clear hb
  go_wp2_with fail
  refine (sameFloat_any _ _ _).mono ?_
  rintro e w14 ⟨rfl, hb⟩
  rw [same_wide (Hqg1.out.trans Hqg0.out.symm)]
  replace hb : Below w13.heap.size w13 w14 := (Below.drewN' _ (Below.refl _ _)).trans hb
  replace hI := hI.call hb
  clear hb
  go_wp2_with fail
  refine (markInt64S_any _ _ _ _ _ _ (hI.row 1 rfl) (by have := Hx0.out; have := Hs.out; first | omega | (simp; done) | (simp; omega)) (by have := Hx0.out; have := Hs.out; first | omega | (simp; done) | (simp; omega))).mono ?_
  rintro e w15 ⟨rfl, ho, hg⟩
  replace hI := hI.mark 1 rfl hg ho
  clear ho hg
  go_wp2_with fail
  refine (heldInt64S_any _ _ _ _ (hI.sl 1 rfl) (by have := Hx0.out; have := Hs.out; first | omega | (simp; done) | (simp; omega)) (by have := Hx0.out; have := Hs.out; first | omega | (simp; done) | (simp; omega))).mono ?_
  rintro e w16 ⟨rfl, hb⟩
  replace hI := hI.call hb
  clear hb
  have r00 := (hI.blk 1 rfl).cell 0
  have r01 := (hI.blk 1 rfl).cell 1
  have r02 := (hI.blk 1 rfl).cell 2
  have lt0 := (hI.blk 1 rfl).lt
  go_wp2_with fail
  clear r00 r01 r02 lt0
  refine (toPicture_any _ _ _ _ rfl _ _ (hI.arg hx0) Hx0.out).mono ?_
  rintro e w17 ⟨uo3, rfl, huo3, hb⟩
  obtain ⟨ao3, co3, rfl, -⟩ := own_form huo3
  replace hI := hI.fresh hb huo3
  clear hb huo3
  go_wp2_with fail
  refine (himpl _ _ (hI.sl 0 rfl)).mono ?_
  rintro e w18 ⟨ag2, cg2, qg2, rfl, hqg2, hug2, hb⟩
  have Hqg2 := hid hqg2
  replace hI := hI.fresh hb hug2
  clear hb hug2 hqg2
  go_wp2_with fail
  refine (eqInt64S_yes _ _ _ _ (hI.sl 0 rfl) (hI.sl 5 rfl) Hs'.out).mono ?_
  rintro e w19 ⟨rfl, hb⟩
  replace hI := hI.call hb
  clear hb
  go_wp2_with fail
  refine (sameFloat_any _ _ _).mono ?_
  rintro e w20 ⟨rfl, hb⟩
  rw [same_wide (Hqg2.out.trans Hqg0.out.symm)]
  replace hb : Below w19.heap.size w19 w20 := (Below.drewN' _ (Below.refl _ _)).trans hb
  replace hI := hI.call hb
  clear hb
  go_wp2_with fail
  refine (heldInt64S_any _ _ _ _ (hI.sl 3 rfl) (by have := Hx0.out; have := Hs.out; first | omega | (simp; done) | (simp; omega)) (by have := Hx0.out; have := Hs.out; first | omega | (simp; done) | (simp; omega))).mono ?_
  rintro e w21 ⟨rfl, hb⟩
  replace hI := hI.call hb
  clear hb
  go_wp2
  go_ret
  exact ⟨rfl, hI.below⟩

end Go.Proofs.Ytggbdmgonobefaa
