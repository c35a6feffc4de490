/-
  The walk of the law FnExactCarvePicture: where both functions answer alike, so does the law.
  Conditions: the contracts of both, given.
-/
import Derived.Test.YtggbdmgonobefaaLInv
import Derived.Test.YtggbdmgonobefaaLRes
import Derived.Test.YtggbdmgonobefaaL5
import Derived.Test.YtggbdmgonobefaaMixP
import Derived.Test.YtggbdmgonobefaaInvX
import Derived.Deep.CutRange
namespace Go.Proofs.Ytggbdmgonobefaa
open Go.RowKit
set_option linter.unusedVariables false
set_option linter.unusedSimpArgs false
attribute [local go_sem] Fl.run_fadd Fl.run_fsub Fl.run_fmul Fl.run_fquo Fl.run_wide Fl.run_store_float

set_option maxHeartbeats 16000000 in
set_option maxRecDepth 100000 in
theorem lawCarvePicture_gen (W0 H0 : Int) (v0 : Value) (x0 : List Nat) (a1 : Int) (w : World) (hx0 : Sl w v0 (x0.map fv)) (hl0 : x0.length ≤ 140737488351232) (A B : Int) (ok : Bool) (L : List Nat) (hL : L.length ≤ 1048576)
    (hspec : ∀ (u0 : Value) (w' : World), Sl w' u0 (x0.map fv) → Calls Try.prog 57 #[.agg #[.int .i64 W0, .int .i64 H0, u0], .int .i64 a1] w' (Uni w' A B ok L))
    (himpl : ∀ (u0 : Value) (w' : World), Sl w' u0 (x0.map fv) → Calls Try.prog 58 #[.agg #[.int .i64 W0, .int .i64 H0, u0], .int .i64 a1] w' (Uni w' A B ok L)) :
    Calls Try.prog 13 #[.agg #[.int .i64 W0, .int .i64 H0, v0], .int .i64 a1] w fun e w' => e = .returned (.bool true) ∧ Below w.heap.size w w' := by
  obtain ⟨d0, p0, hv0⟩ := hx0.form
  rw [List.length_map] at hv0
  obtain ⟨n0, hn0⟩ : ∃ n, n = x0.length := ⟨_, rfl⟩
  rw [← hn0] at hv0 hl0
  subst hv0
  have Hn0 := hid hn0.symm
  clear hn0
  have hI := Inv.start w
  replace hI := hI.alloc [.int .i64 W0, .int .i64 H0, .slice d0 n0 p0] 24
  obtain ⟨b0, hb0⟩ : ∃ b, b = w.heap.size := ⟨_, rfl⟩
  try simp only [size_alloc1] at hI
  have r00 := (hI.blk 0 rfl).cell 0
  have r01 := (hI.blk 0 rfl).cell 1
  have r02 := (hI.blk 0 rfl).cell 2
  have lt0 := (hI.blk 0 rfl).lt
  go_enter Try.func13, Try.ntmps13
  go_wp2_with fail
  clear r00 r01 r02 lt0
  generalize (w.alloc (.cells #[.int .i64 W0, .int .i64 H0, .slice d0 n0 p0] 24)) = w0 at hI ⊢
  rw [← hb0] at hI ⊢
  have Hb0 := hid hb0
  clear hb0
  refine (szPicture_any _ _ _ _ _ _ _ (by omega) (by omega) hl0).mono ?_
  rintro e w1 ⟨rfl, hb⟩
  replace hI := hI.call hb
  clear hb
  by_cases hbx0 : (1048576 : Int) < n0
  · rw [szB, if_pos hbx0]
    go_wp2
    go_ret
    exact ⟨rfl, hI.below⟩
  rw [szB, if_neg hbx0]
  obtain ⟨left0, hleft0⟩ : ∃ l : Int, l = 1048576 - n0 := ⟨_, rfl⟩
  have hlo0 : 0 ≤ left0 := by omega
  have hhi0 : left0 ≤ 1048576 := by omega
  rw [← hleft0]
  have Hx0 := hid (show x0.length ≤ 1048576 from by rw [Hn0.out]; omega)
  have Hx0' := hid (show x0.length ≤ 140737488351232 from by have := Hx0.out; omega)
  clear hleft0
  have r00 := (hI.blk 0 rfl).cell 0
  have r01 := (hI.blk 0 rfl).cell 1
  have r02 := (hI.blk 0 rfl).cell 2
  have lt0 := (hI.blk 0 rfl).lt
  go_wp2_with fail
  clear r00 r01 r02 lt0
  refine (toPicture_any _ _ _ _ rfl _ _ (hI.arg hx0) Hx0.out).mono ?_
  rintro e w2 ⟨uo0, rfl, huo0, hb⟩
  obtain ⟨ao0, co0, rfl, -⟩ := own_form huo0
  replace hI := hI.fresh hb huo0
  clear hb huo0
  go_wp2_with fail
  refine (hspec _ _ (hI.sl 0 rfl)).mono ?_
  rintro e w3 ⟨ag0, cg0, yg0, rfl, hug0, hng0, hb⟩
  have Hyg0 := hid (show yg0.length ≤ 1048576 from by rw [nl_len hng0]; exact hL)
  have Hng0 := hid hng0
  replace hI := hI.fresh hb hug0
  clear hb hug0 hng0
  replace hI := hI.alloc [.int .i64 A, .int .i64 B, .slice ag0 L.length cg0] 32
  have r00 := (hI.blk 1 rfl).cell 0
  have r01 := (hI.blk 1 rfl).cell 1
  have r02 := (hI.blk 1 rfl).cell 2
  have lt0 := (hI.blk 1 rfl).lt
  go_wp2_with fail
  clear r00 r01 r02 lt0
  obtain ⟨B1, hB1⟩ : ∃ b, b = w3.heap.size := ⟨_, rfl⟩
  rw [← hB1] at hI  ⊢
  clear hB1
  generalize w3.alloc (.cells #[.int .i64 A, .int .i64 B, .slice ag0 L.length cg0] 32) = w4 at hI  ⊢
  clear w3
  refine (toPicture_any _ _ _ _ rfl _ _ (hI.arg hx0) Hx0.out).mono ?_
  rintro e w5 ⟨uo1, rfl, huo1, hb⟩
  obtain ⟨ao1, co1, rfl, -⟩ := own_form huo1
  replace hI := hI.fresh hb huo1
  clear hb huo1
  replace hI := hI.alloc [.int .i64 W0, .int .i64 H0, .slice ao1 x0.length co1] 32
  have r00 := (hI.blk 0 rfl).cell 0
  have r01 := (hI.blk 0 rfl).cell 1
  have r02 := (hI.blk 0 rfl).cell 2
  have lt0 := (hI.blk 0 rfl).lt
  go_wp2_with fail
  clear r00 r01 r02 lt0
  obtain ⟨B2, hB2⟩ : ∃ b, b = w5.heap.size := ⟨_, rfl⟩
  rw [← hB2] at hI  ⊢
  clear hB2
  generalize w5.alloc (.cells #[.int .i64 W0, .int .i64 H0, .slice ao1 x0.length co1] 32) = w6 at hI  ⊢
  clear w5
  refine (himpl _ _ (hI.sl 0 rfl)).mono ?_
  rintro e w7 ⟨ag1, cg1, yg1, rfl, hug1, hng1, hb⟩
  have Hyg1 := hid (show yg1.length ≤ 1048576 from by rw [nl_len hng1]; exact hL)
  have Hng1 := hid hng1
  replace hI := hI.fresh hb hug1
  clear hb hug1 hng1
  replace hI := hI.alloc [.int .i64 A, .int .i64 B, .slice ag1 L.length cg1] 32
  have r00 := (hI.blk 0 rfl).cell 0
  have r01 := (hI.blk 0 rfl).cell 1
  have r02 := (hI.blk 0 rfl).cell 2
  have lt0 := (hI.blk 0 rfl).lt
  have r10 := (hI.blk 2 rfl).cell 0
  have r11 := (hI.blk 2 rfl).cell 1
  have r12 := (hI.blk 2 rfl).cell 2
  have lt1 := (hI.blk 2 rfl).lt
  go_wp2_with fail
  clear r00 r01 r02 lt0 r10 r11 r12 lt1
  obtain ⟨B3, hB3⟩ : ∃ b, b = w7.heap.size := ⟨_, rfl⟩
  rw [← hB3] at hI  ⊢
  clear hB3
  generalize w7.alloc (.cells #[.int .i64 A, .int .i64 B, .slice ag1 L.length cg1] 32) = w8 at hI  ⊢
  clear w7
  refine (eqPicture_yes _ _ _ _ _ _ _ (hI.sl 0 rfl) (hI.sl 2 rfl) (by have := Hyg1.out; omega) (Hng1.out.trans Hng0.out.symm)).mono ?_
  rintro e w9 ⟨rfl, hb⟩
  replace hI := hI.call hb
  clear hb
  have r00 := (hI.blk 1 rfl).cell 0
  have r01 := (hI.blk 1 rfl).cell 1
  have r02 := (hI.blk 1 rfl).cell 2
  have lt0 := (hI.blk 1 rfl).lt
  have r10 := (hI.blk 3 rfl).cell 0
  have r11 := (hI.blk 3 rfl).cell 1
  have r12 := (hI.blk 3 rfl).cell 2
  have lt1 := (hI.blk 3 rfl).lt
  go_wp2
  refine Mix.wp_mix [.S, .S, .A, .A, .S] [0, 1, 2, 3, 4] (Below w9.heap.size w9) (by kernel_rfl) (by kernel_rfl) ((Below.refl _ _).drew) ?_
  have hC : Below w9.heap.size w9 w9.drew := (Below.refl _ _).drew
  have hJ := hI.call hC
  generalize w9.drew = w10 at hC hJ ⊢
  repeat (first | (refine Mix.sf_S rfl rfl rfl rfl rfl (Mix.valOp_spec rfl) hC ?_; apply Exists.intro; refine ⟨?_, ?_⟩; · (intro w' hC' K hK; have hk := (bcell hC').1; go_step; exact hK)) | (refine Mix.sf_skipS rfl rfl rfl rfl ?_; apply Exists.intro; refine ⟨?_, ?_⟩; · (intro K hK; go_step; exact hK)) | (refine Mix.sf_skipA rfl rfl rfl rfl ?_; apply Exists.intro; refine ⟨?_, ?_⟩; · (intro K hK; go_step; exact hK)) | (refine Mix.sf_skipL rfl rfl rfl rfl ?_ hC; apply Exists.intro; refine ⟨?_, ?_⟩; · (intro K hK; go_step; exact hK); clear hC; intro wL hC))
  refine Mix.sf_A rfl rfl rfl ?_; intro K hK; go_step
  refine (toPicture_any _ _ _ _ rfl _ _ (hJ.arg hx0) Hx0.out).mono ?_
  rintro e w11 ⟨uo2, rfl, huo2, hb⟩
  obtain ⟨ao2, co2, rfl, -⟩ := own_form huo2
  refine hK _ _ (hC.trans (hb.mono hC.size)) ?_
  replace hC := hC.trans (hb.mono hC.size)
  replace hJ := hJ.fresh hb huo2
  clear hK K
  repeat (first | (refine Mix.sf_S rfl rfl rfl rfl rfl (Mix.valOp_spec rfl) hC ?_; apply Exists.intro; refine ⟨?_, ?_⟩; · (intro w' hC' K hK; have hk := (bcell hC').1; go_step; exact hK)) | (refine Mix.sf_skipS rfl rfl rfl rfl ?_; apply Exists.intro; refine ⟨?_, ?_⟩; · (intro K hK; go_step; exact hK)) | (refine Mix.sf_skipA rfl rfl rfl rfl ?_; apply Exists.intro; refine ⟨?_, ?_⟩; · (intro K hK; go_step; exact hK)) | (refine Mix.sf_skipL rfl rfl rfl rfl ?_ hC; apply Exists.intro; refine ⟨?_, ?_⟩; · (intro K hK; go_step; exact hK); clear hC; intro wL hC))
  clear hb huo2
  refine Mix.sf_A rfl rfl rfl ?_; intro K hK; go_step
  refine (eqPicture_yes _ _ _ _ _ _ _ (hJ.sl 2 rfl) (hJ.sl 0 rfl) Hx0'.out rfl).mono ?_
  rintro e w12 ⟨rfl, hb⟩
  refine hK _ _ (hC.trans (hb.mono hC.size)) ?_
  replace hC := hC.trans (hb.mono hC.size)
  replace hJ := hJ.call hb
  clear hK K
  repeat (first | (refine Mix.sf_S rfl rfl rfl rfl rfl (Mix.valOp_spec rfl) hC ?_; apply Exists.intro; refine ⟨?_, ?_⟩; · (intro w' hC' K hK; have hk := (bcell hC').1; go_step; exact hK)) | (refine Mix.sf_skipS rfl rfl rfl rfl ?_; apply Exists.intro; refine ⟨?_, ?_⟩; · (intro K hK; go_step; exact hK)) | (refine Mix.sf_skipA rfl rfl rfl rfl ?_; apply Exists.intro; refine ⟨?_, ?_⟩; · (intro K hK; go_step; exact hK)) | (refine Mix.sf_skipL rfl rfl rfl rfl ?_ hC; apply Exists.intro; refine ⟨?_, ?_⟩; · (intro K hK; go_step; exact hK); clear hC; intro wL hC))
  clear hb
  refine Mix.sf_nil ?_
  clear r00 r01 r02 lt0 r10 r11 r12 lt1
  replace hI := hJ
  clear hJ hC
  have r00 := (hI.blk 1 rfl).cell 0
  have r01 := (hI.blk 1 rfl).cell 1
  have r02 := (hI.blk 1 rfl).cell 2
  have lt0 := (hI.blk 1 rfl).lt
  go_wp2_with fail
  clear r00 r01 r02 lt0
  refine (markPicture_any _ _ _ _ _ _ _ _ (hI.row 2 rfl) (by have := Hx0.out; have := Hyg0.out; have := Hyg1.out; first | omega | (simp; done) | (simp; omega)) (by have := Hx0.out; have := Hyg0.out; have := Hyg1.out; first | omega | (simp; done) | (simp; omega)) hI.below.size).mono ?_
  rintro e w13 ⟨rfl, ho, hg⟩
  replace hI := hI.mark 2 rfl hg ho
  clear ho hg
  have r00 := (hI.blk 0 rfl).cell 0
  have r01 := (hI.blk 0 rfl).cell 1
  have r02 := (hI.blk 0 rfl).cell 2
  have lt0 := (hI.blk 0 rfl).lt
  have r10 := (hI.blk 2 rfl).cell 0
  have r11 := (hI.blk 2 rfl).cell 1
  have r12 := (hI.blk 2 rfl).cell 2
  have lt1 := (hI.blk 2 rfl).lt
  go_wp2_with fail
  clear r00 r01 r02 lt0 r10 r11 r12 lt1
  refine (eqPicture_yes _ _ _ _ _ _ _ (hI.sl 1 rfl) (hI.sl 3 rfl) (by have := Hyg1.out; omega) (Hng1.out.trans Hng0.out.symm)).mono ?_
  rintro e w14 ⟨rfl, hb⟩
  replace hI := hI.call hb
  clear hb
  have r00 := (hI.blk 0 rfl).cell 0
  have r01 := (hI.blk 0 rfl).cell 1
  have r02 := (hI.blk 0 rfl).cell 2
  have lt0 := (hI.blk 0 rfl).lt
  go_wp2_with fail
  clear r00 r01 r02 lt0
  refine (markPicture_any _ _ _ _ _ _ _ _ (hI.row 1 rfl) (by have := Hx0.out; have := Hyg0.out; have := Hyg1.out; first | omega | (simp; done) | (simp; omega)) (by have := Hx0.out; have := Hyg0.out; have := Hyg1.out; first | omega | (simp; done) | (simp; omega)) hI.below.size).mono ?_
  rintro e w15 ⟨rfl, ho, hg⟩
  replace hI := hI.mark 1 rfl hg ho
  clear ho hg
  have r00 := (hI.blk 0 rfl).cell 0
  have r01 := (hI.blk 0 rfl).cell 1
  have r02 := (hI.blk 0 rfl).cell 2
  have lt0 := (hI.blk 0 rfl).lt
  go_wp2_with fail
  clear r00 r01 r02 lt0
  refine (heldPicture_any _ _ _ _ _ _ (hI.sl 1 rfl) (by have := Hx0.out; have := Hyg0.out; have := Hyg1.out; first | omega | (simp; done) | (simp; omega)) (by have := Hx0.out; have := Hyg0.out; have := Hyg1.out; first | omega | (simp; done) | (simp; omega))).mono ?_
  rintro e w16 ⟨rfl, hb⟩
  replace hI := hI.call hb
  clear hb
  have r00 := (hI.blk 3 rfl).cell 0
  have r01 := (hI.blk 3 rfl).cell 1
  have r02 := (hI.blk 3 rfl).cell 2
  have lt0 := (hI.blk 3 rfl).lt
  go_wp2_with fail
  clear r00 r01 r02 lt0
  refine (toPicture_any _ _ _ _ rfl _ _ (hI.arg hx0) Hx0.out).mono ?_
  rintro e w17 ⟨uo3, rfl, huo3, hb⟩
  obtain ⟨ao3, co3, rfl, -⟩ := own_form huo3
  replace hI := hI.fresh hb huo3
  clear hb huo3
  go_wp2_with fail
  refine (himpl _ _ (hI.sl 0 rfl)).mono ?_
  rintro e w18 ⟨ag2, cg2, yg2, rfl, hug2, hng2, hb⟩
  have Hyg2 := hid (show yg2.length ≤ 1048576 from by rw [nl_len hng2]; exact hL)
  have Hng2 := hid hng2
  replace hI := hI.fresh hb hug2
  clear hb hug2 hng2
  replace hI := hI.alloc [.int .i64 A, .int .i64 B, .slice ag2 L.length cg2] 32
  have r00 := (hI.blk 0 rfl).cell 0
  have r01 := (hI.blk 0 rfl).cell 1
  have r02 := (hI.blk 0 rfl).cell 2
  have lt0 := (hI.blk 0 rfl).lt
  have r10 := (hI.blk 3 rfl).cell 0
  have r11 := (hI.blk 3 rfl).cell 1
  have r12 := (hI.blk 3 rfl).cell 2
  have lt1 := (hI.blk 3 rfl).lt
  go_wp2_with fail
  clear r00 r01 r02 lt0 r10 r11 r12 lt1
  obtain ⟨B4, hB4⟩ : ∃ b, b = w18.heap.size := ⟨_, rfl⟩
  rw [← hB4] at hI  ⊢
  clear hB4
  generalize w18.alloc (.cells #[.int .i64 A, .int .i64 B, .slice ag2 L.length cg2] 32) = w19 at hI  ⊢
  clear w18
  refine (eqPicture_yes _ _ _ _ _ _ _ (hI.sl 0 rfl) (hI.sl 5 rfl) (by have := Hyg2.out; omega) (Hng2.out.trans Hng0.out.symm)).mono ?_
  rintro e w20 ⟨rfl, hb⟩
  replace hI := hI.call hb
  clear hb
  have r00 := (hI.blk 1 rfl).cell 0
  have r01 := (hI.blk 1 rfl).cell 1
  have r02 := (hI.blk 1 rfl).cell 2
  have lt0 := (hI.blk 1 rfl).lt
  go_wp2_with fail
  clear r00 r01 r02 lt0
  refine (heldPicture_any _ _ _ _ _ _ (hI.sl 3 rfl) (by have := Hx0.out; have := Hyg0.out; have := Hyg1.out; have := Hyg2.out; first | omega | (simp; done) | (simp; omega)) (by have := Hx0.out; have := Hyg0.out; have := Hyg1.out; have := Hyg2.out; first | omega | (simp; done) | (simp; omega))).mono ?_
  rintro e w21 ⟨rfl, hb⟩
  replace hI := hI.call hb
  clear hb
  go_wp2
  go_ret
  exact ⟨rfl, hI.below⟩

end Go.Proofs.Ytggbdmgonobefaa
