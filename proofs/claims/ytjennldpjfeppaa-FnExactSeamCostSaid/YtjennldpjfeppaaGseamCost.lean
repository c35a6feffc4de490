/-
  The walk of the law FnExactSeamCost: where both functions answer alike, so does the law.
  Conditions: the contracts of both, given.
-/
import Derived.Test.YtjennldpjfeppaaLInv
import Derived.Test.YtjennldpjfeppaaLRes
import Derived.Test.YtjennldpjfeppaaL5
namespace Go.Proofs.Ytjennldpjfeppaa
open Go.RowKit
set_option linter.unusedVariables false
set_option linter.unusedSimpArgs false
attribute [local go_sem] Fl.run_fadd Fl.run_fsub Fl.run_fmul Fl.run_fquo Fl.run_wide Fl.run_store_float

set_option maxHeartbeats 16000000 in
set_option maxRecDepth 100000 in
theorem lawSeamCost_gen (W0 H0 : Int) (v0 : Value) (x0 : List Nat) (x1 : List Int) (v1 : Value) (w : World) (hx0 : Sl w v0 (x0.map fv)) (hl0 : x0.length ≤ 140737488351232) (hx1 : Sl w v1 (x1.map iv)) (hl1 : x1.length ≤ 140737488351232) (c : Nat) (ok : Bool)
    (hspec : ∀ (u0 u1 : Value) (w' : World), Sl w' u0 (x0.map fv) → Sl w' u1 (x1.map iv) → Calls Try.prog 52 #[.agg #[.int .i64 W0, .int .i64 H0, u0], u1] w' (NumRes w' c ok))
    (himpl : ∀ (u0 u1 : Value) (w' : World), Sl w' u0 (x0.map fv) → Sl w' u1 (x1.map iv) → Calls Try.prog 53 #[.agg #[.int .i64 W0, .int .i64 H0, u0], u1] w' (NumRes w' c ok)) :
    Calls Try.prog 14 #[.agg #[.int .i64 W0, .int .i64 H0, v0], v1] w fun e w' => e = .returned (.bool true) ∧ Below w.heap.size w w' := by
  obtain ⟨d0, p0, hv0⟩ := hx0.form
  rw [List.length_map] at hv0
  obtain ⟨n0, hn0⟩ : ∃ n, n = x0.length := ⟨_, rfl⟩
  rw [← hn0] at hv0 hl0
  subst hv0
  have Hn0 := hid hn0.symm
  clear hn0
  obtain ⟨d1, p1, hv1⟩ := hx1.form
  rw [List.length_map] at hv1
  obtain ⟨n1, hn1⟩ : ∃ n, n = x1.length := ⟨_, rfl⟩
  rw [← hn1] at hv1 hl1
  subst hv1
  have Hn1 := hid hn1.symm
  clear hn1
  by_cases hbig1 : (1048576 : Int) < n1
  · go_enter Try.func14, Try.ntmps14
    go_wp2
    go_ret
    exact ⟨rfl, ((Below.refl _ _).alloc (Nat.le_refl _) _)⟩
  have hI := Inv.start w
  replace hI := hI.alloc [.int .i64 W0, .int .i64 H0, .slice d0 n0 p0] 30
  obtain ⟨b0, hb0⟩ : ∃ b, b = w.heap.size := ⟨_, rfl⟩
  try simp only [size_alloc1] at hI
  have r00 := (hI.blk 0 rfl).cell 0
  have r01 := (hI.blk 0 rfl).cell 1
  have r02 := (hI.blk 0 rfl).cell 2
  have lt0 := (hI.blk 0 rfl).lt
  go_enter Try.func14, Try.ntmps14
  go_wp2_with fail
  clear r00 r01 r02 lt0
  generalize (w.alloc (.cells #[.int .i64 W0, .int .i64 H0, .slice d0 n0 p0] 30)) = w0 at hI ⊢
  rw [← hb0] at hI ⊢
  have Hb0 := hid hb0
  clear hb0
  refine (szPicture_any _ _ _ _ _ _ _ (by omega) (by omega) hl0).mono ?_
  rintro e w1 ⟨rfl, hb⟩
  replace hI := hI.call hb
  clear hb
  by_cases hbx0 : (1048576 : Int) < n0
  · rw [szB, if_pos hbx0]
    go_wp2
    go_ret
    exact ⟨rfl, hI.below⟩
  rw [szB, if_neg hbx0]
  obtain ⟨left0, hleft0⟩ : ∃ l : Int, l = 1048576 - n0 := ⟨_, rfl⟩
  have hlo0 : 0 ≤ left0 := by omega
  have hhi0 : left0 ≤ 1048576 := by omega
  rw [← hleft0]
  have Hx0 := hid (show x0.length ≤ 1048576 from by rw [Hn0.out]; omega)
  have Hx0' := hid (show x0.length ≤ 140737488351232 from by have := Hx0.out; omega)
  clear hleft0
  have r00 := (hI.blk 0 rfl).cell 0
  have r01 := (hI.blk 0 rfl).cell 1
  have r02 := (hI.blk 0 rfl).cell 2
  have lt0 := (hI.blk 0 rfl).lt
  go_wp2_with fail
  clear r00 r01 r02 lt0
  refine (toPicture_any _ _ _ _ rfl _ _ (hI.arg hx0) Hx0.out).mono ?_
  rintro e w2 ⟨uo0, rfl, huo0, hb⟩
  obtain ⟨ao0, co0, rfl, -⟩ := own_form huo0
  replace hI := hI.fresh hb huo0
  clear hb huo0
  go_wp2_with fail
  have Hx1 := hid (show x1.length ≤ 1048576 from by rw [Hn1.out]; omega)
  have Hx1' := hid (show x1.length ≤ 140737488351232 from by have := Hx1.out; omega)
  refine (toInt64S_any _ _ rfl _ _ (hI.arg hx1) Hx1.out).mono ?_
  rintro e w3 ⟨uo1, rfl, huo1, hb⟩
  obtain ⟨ao1, co1, rfl, -⟩ := own_form huo1
  replace hI := hI.fresh hb huo1
  clear hb huo1
  go_wp2_with fail
  refine (hspec _ _ _ (hI.sl 1 rfl) (hI.sl 0 rfl)).mono ?_
  rintro e w4 ⟨qg0, rfl, hqg0, hb⟩
  have Hqg0 := hid hqg0
  replace hI := hI.call hb
  clear hb hqg0
  have r00 := (hI.blk 0 rfl).cell 0
  have r01 := (hI.blk 0 rfl).cell 1
  have r02 := (hI.blk 0 rfl).cell 2
  have lt0 := (hI.blk 0 rfl).lt
  go_wp2_with fail
  clear r00 r01 r02 lt0
  refine (toPicture_any _ _ _ _ rfl _ _ (hI.arg hx0) Hx0.out).mono ?_
  rintro e w5 ⟨uo2, rfl, huo2, hb⟩
  obtain ⟨ao2, co2, rfl, -⟩ := own_form huo2
  replace hI := hI.fresh hb huo2
  clear hb huo2
  replace hI := hI.alloc [.int .i64 W0, .int .i64 H0, .slice ao2 x0.length co2] 24
  go_wp2_with fail
  obtain ⟨B1, hB1⟩ : ∃ b, b = w5.heap.size := ⟨_, rfl⟩
  rw [← hB1] at hI  ⊢
  clear hB1
  generalize w5.alloc (.cells #[.int .i64 W0, .int .i64 H0, .slice ao2 x0.length co2] 24) = w6 at hI  ⊢
  clear w5
  refine (toInt64S_any _ _ rfl _ _ (hI.arg hx1) Hx1.out).mono ?_
  rintro e w7 ⟨uo3, rfl, huo3, hb⟩
  obtain ⟨ao3, co3, rfl, -⟩ := own_form huo3
  replace hI := hI.fresh hb huo3
  clear hb huo3
  have r00 := (hI.blk 0 rfl).cell 0
  have r01 := (hI.blk 0 rfl).cell 1
  have r02 := (hI.blk 0 rfl).cell 2
  have lt0 := (hI.blk 0 rfl).lt
  go_wp2_with fail
  clear r00 r01 r02 lt0
  refine (himpl _ _ _ (hI.sl 1 rfl) (hI.sl 0 rfl)).mono ?_
  rintro e w8 ⟨qg1, rfl, hqg1, hb⟩
  have Hqg1 := hid hqg1
  replace hI := hI.call hb
  clear hb hqg1
  go_wp2_with fail
  refine (sameFloat_any _ _ _).mono ?_
  rintro e w9 ⟨rfl, hb⟩
  rw [same_wide (Hqg1.out.trans Hqg0.out.symm)]
  replace hb : Below w8.heap.size w8 w9 := (Below.drewN' _ (Below.refl _ _)).trans hb
  replace hI := hI.call hb
  clear hb
  have r00 := (hI.blk 0 rfl).cell 0
  have r01 := (hI.blk 0 rfl).cell 1
  have r02 := (hI.blk 0 rfl).cell 2
  have lt0 := (hI.blk 0 rfl).lt
  have r10 := (hI.blk 1 rfl).cell 0
  have r11 := (hI.blk 1 rfl).cell 1
  have r12 := (hI.blk 1 rfl).cell 2
  have lt1 := (hI.blk 1 rfl).lt
  go_wp2
  refine Mix.wp_mix [.S, .S, .A, .A, .S] [0, 1, 2, 3, 4] (Below w9.heap.size w9) (by kernel_rfl) (by kernel_rfl) ((Below.refl _ _).drew) ?_
  have hC : Below w9.heap.size w9 w9.drew := (Below.refl _ _).drew
  have hJ := hI.call hC
  generalize w9.drew = w10 at hC hJ ⊢
  repeat (first | (refine Mix.sf_S rfl rfl rfl rfl rfl (Mix.valOp_spec rfl) hC ?_; apply Exists.intro; refine ⟨?_, ?_⟩; · (intro w' hC' K hK; have hk := (bcell hC').1; go_step; exact hK)) | (refine Mix.sf_skipS rfl rfl rfl rfl ?_; apply Exists.intro; refine ⟨?_, ?_⟩; · (intro K hK; go_step; exact hK)) | (refine Mix.sf_skipA rfl rfl rfl rfl ?_; apply Exists.intro; refine ⟨?_, ?_⟩; · (intro K hK; go_step; exact hK)) | (refine Mix.sf_skipL rfl rfl rfl rfl ?_ hC; apply Exists.intro; refine ⟨?_, ?_⟩; · (intro K hK; go_step; exact hK); clear hC; intro wL hC))
  refine Mix.sf_A rfl rfl rfl ?_; intro K hK; go_step
  refine (toPicture_any _ _ _ _ rfl _ _ (hJ.arg hx0) Hx0.out).mono ?_
  rintro e w11 ⟨uo4, rfl, huo4, hb⟩
  obtain ⟨ao4, co4, rfl, -⟩ := own_form huo4
  refine hK _ _ (hC.trans (hb.mono hC.size)) ?_
  replace hC := hC.trans (hb.mono hC.size)
  replace hJ := hJ.fresh hb huo4
  clear hK K
  repeat (first | (refine Mix.sf_S rfl rfl rfl rfl rfl (Mix.valOp_spec rfl) hC ?_; apply Exists.intro; refine ⟨?_, ?_⟩; · (intro w' hC' K hK; have hk := (bcell hC').1; go_step; exact hK)) | (refine Mix.sf_skipS rfl rfl rfl rfl ?_; apply Exists.intro; refine ⟨?_, ?_⟩; · (intro K hK; go_step; exact hK)) | (refine Mix.sf_skipA rfl rfl rfl rfl ?_; apply Exists.intro; refine ⟨?_, ?_⟩; · (intro K hK; go_step; exact hK)) | (refine Mix.sf_skipL rfl rfl rfl rfl ?_ hC; apply Exists.intro; refine ⟨?_, ?_⟩; · (intro K hK; go_step; exact hK); clear hC; intro wL hC))
  clear hb huo4
  refine Mix.sf_A rfl rfl rfl ?_; intro K hK; go_step
  refine (eqPicture_yes _ _ _ _ _ _ _ (hJ.sl 2 rfl) (hJ.sl 0 rfl) Hx0'.out rfl).mono ?_
  rintro e w12 ⟨rfl, hb⟩
  refine hK _ _ (hC.trans (hb.mono hC.size)) ?_
  replace hC := hC.trans (hb.mono hC.size)
  replace hJ := hJ.call hb
  clear hK K
  repeat (first | (refine Mix.sf_S rfl rfl rfl rfl rfl (Mix.valOp_spec rfl) hC ?_; apply Exists.intro; refine ⟨?_, ?_⟩; · (intro w' hC' K hK; have hk := (bcell hC').1; go_step; exact hK)) | (refine Mix.sf_skipS rfl rfl rfl rfl ?_; apply Exists.intro; refine ⟨?_, ?_⟩; · (intro K hK; go_step; exact hK)) | (refine Mix.sf_skipA rfl rfl rfl rfl ?_; apply Exists.intro; refine ⟨?_, ?_⟩; · (intro K hK; go_step; exact hK)) | (refine Mix.sf_skipL rfl rfl rfl rfl ?_ hC; apply Exists.intro; refine ⟨?_, ?_⟩; · (intro K hK; go_step; exact hK); clear hC; intro wL hC))
  clear hb
  refine Mix.sf_nil ?_
  clear r00 r01 r02 lt0 r10 r11 r12 lt1
  replace hI := hJ
  clear hJ hC
  go_wp2_with fail
  refine (toInt64S_any _ _ rfl _ _ (hI.arg hx1) Hx1.out).mono ?_
  rintro e w13 ⟨uo5, rfl, huo5, hb⟩
  obtain ⟨ao5, co5, rfl, -⟩ := own_form huo5
  replace hI := hI.fresh hb huo5
  clear hb huo5
  go_wp2_with fail
  refine (eqInt64S_yes _ _ _ _ (hI.sl 2 rfl) (hI.sl 0 rfl) Hx1'.out).mono ?_
  rintro e w14 ⟨rfl, hb⟩
  replace hI := hI.call hb
  clear hb
  go_wp2
  go_ret
  exact ⟨rfl, hI.below⟩

end Go.Proofs.Ytjennldpjfeppaa
