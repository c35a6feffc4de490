/-
  The walk of the law FnExactMaskMix: where both functions answer alike, so does the law.
  Conditions: the contracts of both, given.
-/
import Derived.Test.YtjennldpjfeppaaLInv
import Derived.Test.YtjennldpjfeppaaLRes
import Derived.Test.YtjennldpjfeppaaL5
import Derived.Test.YtjennldpjfeppaaMixP
import Derived.Test.YtjennldpjfeppaaInvX
import Derived.Deep.CutRange
namespace Go.Proofs.Ytjennldpjfeppaa
open Go.RowKit
set_option linter.unusedVariables false
set_option linter.unusedSimpArgs false
attribute [local go_sem] Fl.run_fadd Fl.run_fsub Fl.run_fmul Fl.run_fquo Fl.run_wide Fl.run_store_float

set_option maxHeartbeats 16000000 in
set_option maxRecDepth 100000 in
theorem lawMaskMix_gen (W0 H0 : Int) (v0 : Value) (x0 : List Nat) (W1 H1 : Int) (v1 : Value) (x1 : List Nat) (W2 H2 : Int) (v2 : Value) (x2 : List Nat) (w : World) (hx0 : Sl w v0 (x0.map fv)) (hl0 : x0.length ≤ 140737488351232) (hx1 : Sl w v1 (x1.map fv)) (hl1 : x1.length ≤ 140737488351232) (hx2 : Sl w v2 (x2.map fv)) (hl2 : x2.length ≤ 140737488351232) (A B : Int) (ok : Bool) (L : List Nat) (hL : L.length ≤ 1048576)
    (hspec : ∀ (u0 u1 u2 : Value) (w' : World), Sl w' u0 (x0.map fv) → Sl w' u1 (x1.map fv) → Sl w' u2 (x2.map fv) → Calls Try.prog 41 #[.agg #[.int .i64 W0, .int .i64 H0, u0], .agg #[.int .i64 W1, .int .i64 H1, u1], .agg #[.int .i64 W2, .int .i64 H2, u2]] w' (Uni w' A B ok L))
    (himpl : ∀ (u0 u1 u2 : Value) (w' : World), Sl w' u0 (x0.map fv) → Sl w' u1 (x1.map fv) → Sl w' u2 (x2.map fv) → Calls Try.prog 42 #[.agg #[.int .i64 W0, .int .i64 H0, u0], .agg #[.int .i64 W1, .int .i64 H1, u1], .agg #[.int .i64 W2, .int .i64 H2, u2]] w' (Uni w' A B ok L)) :
    Calls Try.prog 9 #[.agg #[.int .i64 W0, .int .i64 H0, v0], .agg #[.int .i64 W1, .int .i64 H1, v1], .agg #[.int .i64 W2, .int .i64 H2, v2]] w fun e w' => e = .returned (.bool true) ∧ Below w.heap.size w w' := by
  obtain ⟨d0, p0, hv0⟩ := hx0.form
  rw [List.length_map] at hv0
  obtain ⟨n0, hn0⟩ : ∃ n, n = x0.length := ⟨_, rfl⟩
  rw [← hn0] at hv0 hl0
  subst hv0
  have Hn0 := hid hn0.symm
  clear hn0
  obtain ⟨d1, p1, hv1⟩ := hx1.form
  rw [List.length_map] at hv1
  obtain ⟨n1, hn1⟩ : ∃ n, n = x1.length := ⟨_, rfl⟩
  rw [← hn1] at hv1 hl1
  subst hv1
  have Hn1 := hid hn1.symm
  clear hn1
  obtain ⟨d2, p2, hv2⟩ := hx2.form
  rw [List.length_map] at hv2
  obtain ⟨n2, hn2⟩ : ∃ n, n = x2.length := ⟨_, rfl⟩
  rw [← hn2] at hv2 hl2
  subst hv2
  have Hn2 := hid hn2.symm
  clear hn2
  have hI := Inv.start w
  replace hI := hI.alloc [.int .i64 W0, .int .i64 H0, .slice d0 n0 p0] 30
  replace hI := hI.alloc [.int .i64 W1, .int .i64 H1, .slice d1 n1 p1] 30
  replace hI := hI.alloc [.int .i64 W2, .int .i64 H2, .slice d2 n2 p2] 30
  obtain ⟨b0, hb0⟩ : ∃ b, b = w.heap.size := ⟨_, rfl⟩
  obtain ⟨b1, hb1⟩ : ∃ b, b = w.heap.size + 1 := ⟨_, rfl⟩
  obtain ⟨b2, hb2⟩ : ∃ b, b = w.heap.size + 1 + 1 := ⟨_, rfl⟩
  try simp only [size_alloc1] at hI
  have r00 := (hI.blk 2 rfl).cell 0
  have r01 := (hI.blk 2 rfl).cell 1
  have r02 := (hI.blk 2 rfl).cell 2
  have lt0 := (hI.blk 2 rfl).lt
  go_enter Try.func9, Try.ntmps9
  go_wp2_with fail
  clear r00 r01 r02 lt0
  generalize (((w.alloc (.cells #[.int .i64 W0, .int .i64 H0, .slice d0 n0 p0] 30)).alloc (.cells #[.int .i64 W1, .int .i64 H1, .slice d1 n1 p1] 30)).alloc (.cells #[.int .i64 W2, .int .i64 H2, .slice d2 n2 p2] 30)) = w0 at hI ⊢
  rw [← hb2] at hI ⊢
  have Hb2 := hid hb2
  clear hb2
  rw [← hb1] at hI ⊢
  have Hb1 := hid hb1
  clear hb1
  rw [← hb0] at hI ⊢
  have Hb0 := hid hb0
  clear hb0
  refine (szPicture_any _ _ _ _ _ _ _ (by omega) (by omega) hl0).mono ?_
  rintro e w1 ⟨rfl, hb⟩
  replace hI := hI.call hb
  clear hb
  by_cases hbx0 : (1048576 : Int) < n0
  · rw [szB, if_pos hbx0]
    go_wp2
    go_ret
    exact ⟨rfl, hI.below⟩
  rw [szB, if_neg hbx0]
  obtain ⟨left0, hleft0⟩ : ∃ l : Int, l = 1048576 - n0 := ⟨_, rfl⟩
  have hlo0 : 0 ≤ left0 := by omega
  have hhi0 : left0 ≤ 1048576 := by omega
  rw [← hleft0]
  have Hx0 := hid (show x0.length ≤ 1048576 from by rw [Hn0.out]; omega)
  have Hx0' := hid (show x0.length ≤ 140737488351232 from by have := Hx0.out; omega)
  clear hleft0
  have r00 := (hI.blk 1 rfl).cell 0
  have r01 := (hI.blk 1 rfl).cell 1
  have r02 := (hI.blk 1 rfl).cell 2
  have lt0 := (hI.blk 1 rfl).lt
  go_wp2_with fail
  clear r00 r01 r02 lt0
  refine (szPicture_any _ _ _ _ _ _ _ (by omega) (by omega) hl1).mono ?_
  rintro e w2 ⟨rfl, hb⟩
  replace hI := hI.call hb
  clear hb
  by_cases hbx1 : (left0 : Int) < n1
  · rw [szB, if_pos hbx1]
    go_wp2
    go_ret
    exact ⟨rfl, hI.below⟩
  rw [szB, if_neg hbx1]
  obtain ⟨left1, hleft1⟩ : ∃ l : Int, l = left0 - n1 := ⟨_, rfl⟩
  have hlo1 : 0 ≤ left1 := by omega
  have hhi1 : left1 ≤ 1048576 := by omega
  rw [← hleft1]
  have Hx1 := hid (show x1.length ≤ 1048576 from by rw [Hn1.out]; omega)
  have Hx1' := hid (show x1.length ≤ 140737488351232 from by have := Hx1.out; omega)
  clear hleft1
  have r00 := (hI.blk 0 rfl).cell 0
  have r01 := (hI.blk 0 rfl).cell 1
  have r02 := (hI.blk 0 rfl).cell 2
  have lt0 := (hI.blk 0 rfl).lt
  go_wp2_with fail
  clear r00 r01 r02 lt0
  refine (szPicture_any _ _ _ _ _ _ _ (by omega) (by omega) hl2).mono ?_
  rintro e w3 ⟨rfl, hb⟩
  replace hI := hI.call hb
  clear hb
  by_cases hbx2 : (left1 : Int) < n2
  · rw [szB, if_pos hbx2]
    go_wp2
    go_ret
    exact ⟨rfl, hI.below⟩
  rw [szB, if_neg hbx2]
  obtain ⟨left2, hleft2⟩ : ∃ l : Int, l = left1 - n2 := ⟨_, rfl⟩
  have hlo2 : 0 ≤ left2 := by omega
  have hhi2 : left2 ≤ 1048576 := by omega
  rw [← hleft2]
  have Hx2 := hid (show x2.length ≤ 1048576 from by rw [Hn2.out]; omega)
  have Hx2' := hid (show x2.length ≤ 140737488351232 from by have := Hx2.out; omega)
  clear hleft2
  have r00 := (hI.blk 2 rfl).cell 0
  have r01 := (hI.blk 2 rfl).cell 1
  have r02 := (hI.blk 2 rfl).cell 2
  have lt0 := (hI.blk 2 rfl).lt
  have r10 := (hI.blk 1 rfl).cell 0
  have r11 := (hI.blk 1 rfl).cell 1
  have r12 := (hI.blk 1 rfl).cell 2
  have lt1 := (hI.blk 1 rfl).lt
  have r20 := (hI.blk 0 rfl).cell 0
  have r21 := (hI.blk 0 rfl).cell 1
  have r22 := (hI.blk 0 rfl).cell 2
  have lt2 := (hI.blk 0 rfl).lt
  go_wp2
  go_cut [8, 9] from 35 to 44 (fun c d wx => ∃ (B3 : Nat) (ag0 : Option Addr) (cg0 : Nat) (yg0 : List Nat), c = .pointer (some ⟨B3, 0, none⟩) ∧ d = .bool ok ∧ nl yg0 = L ∧ Inv w wx [(B3, [.int .i64 A, .int .i64 B, .slice ag0 L.length cg0], 24), (b2, [.int .i64 W2, .int .i64 H2, .slice d2 n2 p2], 30), (b1, [.int .i64 W1, .int .i64 H1, .slice d1 n1 p1], 30), (b0, [.int .i64 W0, .int .i64 H0, .slice d0 n0 p0], 30)] [(.slice ag0 L.length cg0, 53, yg0.map fv)])
  case first =>
    refine Mix.wp_mixP [.S, .A, .S, .A, .S, .A, .A, .S, .S, .S, .A, .A, .S] [0, 2, 4, 1, 3, 5, 6, 7, 8, 9, 10, 11, 12] 10 (Below w3.heap.size w3) (by kernel_rfl) (by kernel_rfl) ((Below.refl _ _).drew) ?_
    have hC : Below w3.heap.size w3 w3.drew := (Below.refl _ _).drew
    have hJ := hI.call hC
    generalize w3.drew = w4 at hC hJ ⊢
    repeat (first | (refine Mix.pf_S rfl rfl rfl rfl rfl rfl (Mix.valOp_spec rfl) hC ?_; apply Exists.intro; refine ⟨?_, ?_⟩; · (intro w' hC' K hK; have hk := (bcell hC').1; go_step; exact hK)))
    refine Mix.pf_A rfl rfl rfl rfl ?ga rfl rfl rfl ?gf
    case gf =>
      intro K hK; go_step
      refine hK _ _ (hC.alloc hC.size _) ?_
      clear hK K
      have hne := hid hJ.box_ne
      have hge : w3.heap.size ≤ w4.heap.size := hC.size
      replace hC := hC.alloc hC.size (.cells #[.int .i64 0, .int .i64 0, .slice none 0 0] 24)
      replace hJ := hJ.alloc [.int .i64 0, .int .i64 0, .slice none 0 0] 24
      obtain ⟨B3, hB3⟩ : ∃ b, b = w4.heap.size := ⟨_, rfl⟩
      rw [← hB3] at hJ hne hge ⊢
      clear hB3
      rw [show w4.alloc (.cells [Value.int .i64 0, .int .i64 0, .slice none 0 0].toArray 24) = w4.alloc (.cells #[.int .i64 0, .int .i64 0, .slice none 0 0] 24) from rfl] at hJ
      generalize w4.alloc (.cells #[.int .i64 0, .int .i64 0, .slice none 0 0] 24) = w5 at hC hJ ⊢
      repeat (first | (refine Mix.sf_S rfl rfl rfl rfl rfl (Mix.valOp_spec rfl) hC ?_; apply Exists.intro; refine ⟨?_, ?_⟩; · (intro w' hC' K hK; have hk := (bcell hC').1; go_step; exact hK)) | (refine Mix.sf_skipS rfl rfl rfl rfl ?_; apply Exists.intro; refine ⟨?_, ?_⟩; · (intro K hK; go_step; exact hK)) | (refine Mix.sf_skipA rfl rfl rfl rfl ?_; apply Exists.intro; refine ⟨?_, ?_⟩; · (intro K hK; go_step; exact hK)) | (refine Mix.sf_skipL rfl rfl rfl rfl ?_ hC; apply Exists.intro; refine ⟨?_, ?_⟩; · (intro K hK; go_step; exact hK); clear hC; intro wL hC))
      refine Mix.sf_A rfl rfl rfl ?_; intro K hK; go_step
      refine (toPicture_any _ _ _ _ rfl _ _ (hJ.arg hx0) Hx0.out).mono ?_
      rintro e w6 ⟨uc11x0, rfl, huc11x0, hb⟩
      obtain ⟨ac11x0, cc11x0, rfl, -⟩ := own_form huc11x0
      refine hK _ _ (hC.trans (hb.mono hC.size)) ?_
      replace hC := hC.trans (hb.mono hC.size)
      replace hJ := hJ.fresh hb huc11x0
      clear hK K hb huc11x0
      repeat (first | (refine Mix.sf_S rfl rfl rfl rfl rfl (Mix.valOp_spec rfl) hC ?_; apply Exists.intro; refine ⟨?_, ?_⟩; · (intro w' hC' K hK; have hk := (bcell hC').1; go_step; exact hK)) | (refine Mix.sf_skipS rfl rfl rfl rfl ?_; apply Exists.intro; refine ⟨?_, ?_⟩; · (intro K hK; go_step; exact hK)) | (refine Mix.sf_skipA rfl rfl rfl rfl ?_; apply Exists.intro; refine ⟨?_, ?_⟩; · (intro K hK; go_step; exact hK)) | (refine Mix.sf_skipL rfl rfl rfl rfl ?_ hC; apply Exists.intro; refine ⟨?_, ?_⟩; · (intro K hK; go_step; exact hK); clear hC; intro wL hC))
      refine Mix.sf_A rfl rfl rfl ?_; intro K hK; go_step
      refine (toPicture_any _ _ _ _ rfl _ _ (hJ.arg hx1) Hx1.out).mono ?_
      rintro e w7 ⟨uc11x1, rfl, huc11x1, hb⟩
      obtain ⟨ac11x1, cc11x1, rfl, -⟩ := own_form huc11x1
      refine hK _ _ (hC.trans (hb.mono hC.size)) ?_
      replace hC := hC.trans (hb.mono hC.size)
      replace hJ := hJ.fresh hb huc11x1
      clear hK K hb huc11x1
      repeat (first | (refine Mix.sf_S rfl rfl rfl rfl rfl (Mix.valOp_spec rfl) hC ?_; apply Exists.intro; refine ⟨?_, ?_⟩; · (intro w' hC' K hK; have hk := (bcell hC').1; go_step; exact hK)) | (refine Mix.sf_skipS rfl rfl rfl rfl ?_; apply Exists.intro; refine ⟨?_, ?_⟩; · (intro K hK; go_step; exact hK)) | (refine Mix.sf_skipA rfl rfl rfl rfl ?_; apply Exists.intro; refine ⟨?_, ?_⟩; · (intro K hK; go_step; exact hK)) | (refine Mix.sf_skipL rfl rfl rfl rfl ?_ hC; apply Exists.intro; refine ⟨?_, ?_⟩; · (intro K hK; go_step; exact hK); clear hC; intro wL hC))
      refine Mix.sf_A rfl rfl rfl ?_; intro K hK; go_step
      refine (toPicture_any _ _ _ _ rfl _ _ (hJ.arg hx2) Hx2.out).mono ?_
      rintro e w8 ⟨uc11x2, rfl, huc11x2, hb⟩
      obtain ⟨ac11x2, cc11x2, rfl, -⟩ := own_form huc11x2
      refine hK _ _ (hC.trans (hb.mono hC.size)) ?_
      replace hC := hC.trans (hb.mono hC.size)
      replace hJ := hJ.fresh hb huc11x2
      clear hK K hb huc11x2
      repeat (first | (refine Mix.sf_S rfl rfl rfl rfl rfl (Mix.valOp_spec rfl) hC ?_; apply Exists.intro; refine ⟨?_, ?_⟩; · (intro w' hC' K hK; have hk := (bcell hC').1; go_step; exact hK)) | (refine Mix.sf_skipS rfl rfl rfl rfl ?_; apply Exists.intro; refine ⟨?_, ?_⟩; · (intro K hK; go_step; exact hK)) | (refine Mix.sf_skipA rfl rfl rfl rfl ?_; apply Exists.intro; refine ⟨?_, ?_⟩; · (intro K hK; go_step; exact hK)) | (refine Mix.sf_skipL rfl rfl rfl rfl ?_ hC; apply Exists.intro; refine ⟨?_, ?_⟩; · (intro K hK; go_step; exact hK); clear hC; intro wL hC))
      refine Mix.sf_A rfl rfl rfl ?_; intro K hK; go_step
      refine (hspec _ _ _ _ (hJ.sl 2 rfl) (hJ.sl 1 rfl) (hJ.sl 0 rfl)).mono ?_
      rintro e w9 ⟨ag0, cg0, yg0, rfl, hug0, hng0, hb⟩
      have Hng0 := hid hng0
      refine hK _ _ (hC.trans (hb.mono hC.size)) ?_
      replace hC := hC.trans (hb.mono hC.size)
      replace hJ := hJ.fresh hb hug0
      clear hK K hb hug0 hng0
      repeat (first | (refine Mix.sf_S rfl rfl rfl rfl rfl (Mix.valOp_spec rfl) hC ?_; apply Exists.intro; refine ⟨?_, ?_⟩; · (intro w' hC' K hK; have hk := (bcell hC').1; go_step; exact hK)) | (refine Mix.sf_skipS rfl rfl rfl rfl ?_; apply Exists.intro; refine ⟨?_, ?_⟩; · (intro K hK; go_step; exact hK)) | (refine Mix.sf_skipA rfl rfl rfl rfl ?_; apply Exists.intro; refine ⟨?_, ?_⟩; · (intro K hK; go_step; exact hK)) | (refine Mix.sf_skipL rfl rfl rfl rfl ?_ hC; apply Exists.intro; refine ⟨?_, ?_⟩; · (intro K hK; go_step; exact hK); clear hC; intro wL hC))
      have s0 := (hJ.blk 0 rfl).cell 0
      have f0 := (hJ.blk 0 rfl).frozen 0
      have s1 := (hJ.blk 0 rfl).cell 1
      have f1 := (hJ.blk 0 rfl).frozen 1
      have s2 := (hJ.blk 0 rfl).cell 2
      have f2 := (hJ.blk 0 rfl).frozen 2
      refine Mix.sf_A rfl rfl rfl ?_; intro K hK; go_step
      have hC2 : Below w3.heap.size w3 (((w9.setCell ⟨B3, 0, none⟩ (.int .i64 A)).setCell ⟨B3, 1, none⟩ (.int .i64 B)).setCell ⟨B3, 2, none⟩ (.slice ag0 L.length cg0)) := ((hC.setCell hge _).setCell hge _).setCell hge _
      refine hK _ _ hC2 ?_
      clear hK K s0 s1 s2 f0 f1 f2 hC
      have hC := hC2
      replace hJ := ((hJ.sethead hne.out 0 (.int .i64 A)).sethead hne.out 1 (.int .i64 B)).sethead hne.out 2 (.slice ag0 L.length cg0)
      repeat (first | (refine Mix.sf_S rfl rfl rfl rfl rfl (Mix.valOp_spec rfl) hC ?_; apply Exists.intro; refine ⟨?_, ?_⟩; · (intro w' hC' K hK; have hk := (bcell hC').1; go_step; exact hK)) | (refine Mix.sf_skipS rfl rfl rfl rfl ?_; apply Exists.intro; refine ⟨?_, ?_⟩; · (intro K hK; go_step; exact hK)) | (refine Mix.sf_skipA rfl rfl rfl rfl ?_; apply Exists.intro; refine ⟨?_, ?_⟩; · (intro K hK; go_step; exact hK)) | (refine Mix.sf_skipL rfl rfl rfl rfl ?_ hC; apply Exists.intro; refine ⟨?_, ?_⟩; · (intro K hK; go_step; exact hK); clear hC; intro wL hC))
      refine Mix.sf_nil ?_
      have hJ2 := hid (hJ.rowsub (.cons_cons _ (.cons _ (.cons _ (.cons _ .slnil)))))
      clear hJ hC hC2
      go_wp2_with fail
      go_meet
      case rel => exact ⟨B3, ag0, cg0, yg0, rfl, rfl, Hng0.out, hJ2.out⟩
    case ga =>
    intro K hK; go_step
    refine (toPicture_any _ _ _ _ rfl _ _ (hJ.arg hx0) Hx0.out).mono ?_
    rintro e w10 ⟨uc11x0, rfl, huc11x0, hb⟩
    obtain ⟨ac11x0, cc11x0, rfl, -⟩ := own_form huc11x0
    refine hK _ _ (hC.trans (hb.mono hC.size)) ?_
    replace hC := hC.trans (hb.mono hC.size)
    replace hJ := hJ.fresh hb huc11x0
    clear hK K hb huc11x0
    repeat (first | (refine Mix.pf_S rfl rfl rfl rfl rfl rfl (Mix.valOp_spec rfl) hC ?_; apply Exists.intro; refine ⟨?_, ?_⟩; · (intro w' hC' K hK; have hk := (bcell hC').1; go_step; exact hK)))
    refine Mix.pf_A rfl rfl rfl rfl ?ga rfl rfl rfl ?gf
    case gf =>
      intro K hK; go_step
      refine hK _ _ (hC.alloc hC.size _) ?_
      clear hK K
      have hne := hid hJ.box_ne
      have hge : w3.heap.size ≤ w10.heap.size := hC.size
      replace hC := hC.alloc hC.size (.cells #[.int .i64 0, .int .i64 0, .slice none 0 0] 24)
      replace hJ := hJ.alloc [.int .i64 0, .int .i64 0, .slice none 0 0] 24
      obtain ⟨B3, hB3⟩ : ∃ b, b = w10.heap.size := ⟨_, rfl⟩
      rw [← hB3] at hJ hne hge ⊢
      clear hB3
      rw [show w10.alloc (.cells [Value.int .i64 0, .int .i64 0, .slice none 0 0].toArray 24) = w10.alloc (.cells #[.int .i64 0, .int .i64 0, .slice none 0 0] 24) from rfl] at hJ
      generalize w10.alloc (.cells #[.int .i64 0, .int .i64 0, .slice none 0 0] 24) = w11 at hC hJ ⊢
      repeat (first | (refine Mix.sf_S rfl rfl rfl rfl rfl (Mix.valOp_spec rfl) hC ?_; apply Exists.intro; refine ⟨?_, ?_⟩; · (intro w' hC' K hK; have hk := (bcell hC').1; go_step; exact hK)) | (refine Mix.sf_skipS rfl rfl rfl rfl ?_; apply Exists.intro; refine ⟨?_, ?_⟩; · (intro K hK; go_step; exact hK)) | (refine Mix.sf_skipA rfl rfl rfl rfl ?_; apply Exists.intro; refine ⟨?_, ?_⟩; · (intro K hK; go_step; exact hK)) | (refine Mix.sf_skipL rfl rfl rfl rfl ?_ hC; apply Exists.intro; refine ⟨?_, ?_⟩; · (intro K hK; go_step; exact hK); clear hC; intro wL hC))
      refine Mix.sf_A rfl rfl rfl ?_; intro K hK; go_step
      refine (toPicture_any _ _ _ _ rfl _ _ (hJ.arg hx1) Hx1.out).mono ?_
      rintro e w12 ⟨uc11x1, rfl, huc11x1, hb⟩
      obtain ⟨ac11x1, cc11x1, rfl, -⟩ := own_form huc11x1
      refine hK _ _ (hC.trans (hb.mono hC.size)) ?_
      replace hC := hC.trans (hb.mono hC.size)
      replace hJ := hJ.fresh hb huc11x1
      clear hK K hb huc11x1
      repeat (first | (refine Mix.sf_S rfl rfl rfl rfl rfl (Mix.valOp_spec rfl) hC ?_; apply Exists.intro; refine ⟨?_, ?_⟩; · (intro w' hC' K hK; have hk := (bcell hC').1; go_step; exact hK)) | (refine Mix.sf_skipS rfl rfl rfl rfl ?_; apply Exists.intro; refine ⟨?_, ?_⟩; · (intro K hK; go_step; exact hK)) | (refine Mix.sf_skipA rfl rfl rfl rfl ?_; apply Exists.intro; refine ⟨?_, ?_⟩; · (intro K hK; go_step; exact hK)) | (refine Mix.sf_skipL rfl rfl rfl rfl ?_ hC; apply Exists.intro; refine ⟨?_, ?_⟩; · (intro K hK; go_step; exact hK); clear hC; intro wL hC))
      refine Mix.sf_A rfl rfl rfl ?_; intro K hK; go_step
      refine (toPicture_any _ _ _ _ rfl _ _ (hJ.arg hx2) Hx2.out).mono ?_
      rintro e w13 ⟨uc11x2, rfl, huc11x2, hb⟩
      obtain ⟨ac11x2, cc11x2, rfl, -⟩ := own_form huc11x2
      refine hK _ _ (hC.trans (hb.mono hC.size)) ?_
      replace hC := hC.trans (hb.mono hC.size)
      replace hJ := hJ.fresh hb huc11x2
      clear hK K hb huc11x2
      repeat (first | (refine Mix.sf_S rfl rfl rfl rfl rfl (Mix.valOp_spec rfl) hC ?_; apply Exists.intro; refine ⟨?_, ?_⟩; · (intro w' hC' K hK; have hk := (bcell hC').1; go_step; exact hK)) | (refine Mix.sf_skipS rfl rfl rfl rfl ?_; apply Exists.intro; refine ⟨?_, ?_⟩; · (intro K hK; go_step; exact hK)) | (refine Mix.sf_skipA rfl rfl rfl rfl ?_; apply Exists.intro; refine ⟨?_, ?_⟩; · (intro K hK; go_step; exact hK)) | (refine Mix.sf_skipL rfl rfl rfl rfl ?_ hC; apply Exists.intro; refine ⟨?_, ?_⟩; · (intro K hK; go_step; exact hK); clear hC; intro wL hC))
      refine Mix.sf_A rfl rfl rfl ?_; intro K hK; go_step
      refine (hspec _ _ _ _ (hJ.sl 2 rfl) (hJ.sl 1 rfl) (hJ.sl 0 rfl)).mono ?_
      rintro e w14 ⟨ag0, cg0, yg0, rfl, hug0, hng0, hb⟩
      have Hng0 := hid hng0
      refine hK _ _ (hC.trans (hb.mono hC.size)) ?_
      replace hC := hC.trans (hb.mono hC.size)
      replace hJ := hJ.fresh hb hug0
      clear hK K hb hug0 hng0
      repeat (first | (refine Mix.sf_S rfl rfl rfl rfl rfl (Mix.valOp_spec rfl) hC ?_; apply Exists.intro; refine ⟨?_, ?_⟩; · (intro w' hC' K hK; have hk := (bcell hC').1; go_step; exact hK)) | (refine Mix.sf_skipS rfl rfl rfl rfl ?_; apply Exists.intro; refine ⟨?_, ?_⟩; · (intro K hK; go_step; exact hK)) | (refine Mix.sf_skipA rfl rfl rfl rfl ?_; apply Exists.intro; refine ⟨?_, ?_⟩; · (intro K hK; go_step; exact hK)) | (refine Mix.sf_skipL rfl rfl rfl rfl ?_ hC; apply Exists.intro; refine ⟨?_, ?_⟩; · (intro K hK; go_step; exact hK); clear hC; intro wL hC))
      have s0 := (hJ.blk 0 rfl).cell 0
      have f0 := (hJ.blk 0 rfl).frozen 0
      have s1 := (hJ.blk 0 rfl).cell 1
      have f1 := (hJ.blk 0 rfl).frozen 1
      have s2 := (hJ.blk 0 rfl).cell 2
      have f2 := (hJ.blk 0 rfl).frozen 2
      refine Mix.sf_A rfl rfl rfl ?_; intro K hK; go_step
      have hC2 : Below w3.heap.size w3 (((w14.setCell ⟨B3, 0, none⟩ (.int .i64 A)).setCell ⟨B3, 1, none⟩ (.int .i64 B)).setCell ⟨B3, 2, none⟩ (.slice ag0 L.length cg0)) := ((hC.setCell hge _).setCell hge _).setCell hge _
      refine hK _ _ hC2 ?_
      clear hK K s0 s1 s2 f0 f1 f2 hC
      have hC := hC2
      replace hJ := ((hJ.sethead hne.out 0 (.int .i64 A)).sethead hne.out 1 (.int .i64 B)).sethead hne.out 2 (.slice ag0 L.length cg0)
      repeat (first | (refine Mix.sf_S rfl rfl rfl rfl rfl (Mix.valOp_spec rfl) hC ?_; apply Exists.intro; refine ⟨?_, ?_⟩; · (intro w' hC' K hK; have hk := (bcell hC').1; go_step; exact hK)) | (refine Mix.sf_skipS rfl rfl rfl rfl ?_; apply Exists.intro; refine ⟨?_, ?_⟩; · (intro K hK; go_step; exact hK)) | (refine Mix.sf_skipA rfl rfl rfl rfl ?_; apply Exists.intro; refine ⟨?_, ?_⟩; · (intro K hK; go_step; exact hK)) | (refine Mix.sf_skipL rfl rfl rfl rfl ?_ hC; apply Exists.intro; refine ⟨?_, ?_⟩; · (intro K hK; go_step; exact hK); clear hC; intro wL hC))
      refine Mix.sf_nil ?_
      have hJ2 := hid (hJ.rowsub (.cons_cons _ (.cons _ (.cons _ (.cons _ .slnil)))))
      clear hJ hC hC2
      go_wp2_with fail
      go_meet
      case rel => exact ⟨B3, ag0, cg0, yg0, rfl, rfl, Hng0.out, hJ2.out⟩
    case ga =>
    intro K hK; go_step
    refine (toPicture_any _ _ _ _ rfl _ _ (hJ.arg hx1) Hx1.out).mono ?_
    rintro e w15 ⟨uc11x1, rfl, huc11x1, hb⟩
    obtain ⟨ac11x1, cc11x1, rfl, -⟩ := own_form huc11x1
    refine hK _ _ (hC.trans (hb.mono hC.size)) ?_
    replace hC := hC.trans (hb.mono hC.size)
    replace hJ := hJ.fresh hb huc11x1
    clear hK K hb huc11x1
    repeat (first | (refine Mix.pf_S rfl rfl rfl rfl rfl rfl (Mix.valOp_spec rfl) hC ?_; apply Exists.intro; refine ⟨?_, ?_⟩; · (intro w' hC' K hK; have hk := (bcell hC').1; go_step; exact hK)))
    refine Mix.pf_A rfl rfl rfl rfl ?ga rfl rfl rfl ?gf
    case gf =>
      intro K hK; go_step
      refine hK _ _ (hC.alloc hC.size _) ?_
      clear hK K
      have hne := hid hJ.box_ne
      have hge : w3.heap.size ≤ w15.heap.size := hC.size
      replace hC := hC.alloc hC.size (.cells #[.int .i64 0, .int .i64 0, .slice none 0 0] 24)
      replace hJ := hJ.alloc [.int .i64 0, .int .i64 0, .slice none 0 0] 24
      obtain ⟨B3, hB3⟩ : ∃ b, b = w15.heap.size := ⟨_, rfl⟩
      rw [← hB3] at hJ hne hge ⊢
      clear hB3
      rw [show w15.alloc (.cells [Value.int .i64 0, .int .i64 0, .slice none 0 0].toArray 24) = w15.alloc (.cells #[.int .i64 0, .int .i64 0, .slice none 0 0] 24) from rfl] at hJ
      generalize w15.alloc (.cells #[.int .i64 0, .int .i64 0, .slice none 0 0] 24) = w16 at hC hJ ⊢
      repeat (first | (refine Mix.sf_S rfl rfl rfl rfl rfl (Mix.valOp_spec rfl) hC ?_; apply Exists.intro; refine ⟨?_, ?_⟩; · (intro w' hC' K hK; have hk := (bcell hC').1; go_step; exact hK)) | (refine Mix.sf_skipS rfl rfl rfl rfl ?_; apply Exists.intro; refine ⟨?_, ?_⟩; · (intro K hK; go_step; exact hK)) | (refine Mix.sf_skipA rfl rfl rfl rfl ?_; apply Exists.intro; refine ⟨?_, ?_⟩; · (intro K hK; go_step; exact hK)) | (refine Mix.sf_skipL rfl rfl rfl rfl ?_ hC; apply Exists.intro; refine ⟨?_, ?_⟩; · (intro K hK; go_step; exact hK); clear hC; intro wL hC))
      refine Mix.sf_A rfl rfl rfl ?_; intro K hK; go_step
      refine (toPicture_any _ _ _ _ rfl _ _ (hJ.arg hx2) Hx2.out).mono ?_
      rintro e w17 ⟨uc11x2, rfl, huc11x2, hb⟩
      obtain ⟨ac11x2, cc11x2, rfl, -⟩ := own_form huc11x2
      refine hK _ _ (hC.trans (hb.mono hC.size)) ?_
      replace hC := hC.trans (hb.mono hC.size)
      replace hJ := hJ.fresh hb huc11x2
      clear hK K hb huc11x2
      repeat (first | (refine Mix.sf_S rfl rfl rfl rfl rfl (Mix.valOp_spec rfl) hC ?_; apply Exists.intro; refine ⟨?_, ?_⟩; · (intro w' hC' K hK; have hk := (bcell hC').1; go_step; exact hK)) | (refine Mix.sf_skipS rfl rfl rfl rfl ?_; apply Exists.intro; refine ⟨?_, ?_⟩; · (intro K hK; go_step; exact hK)) | (refine Mix.sf_skipA rfl rfl rfl rfl ?_; apply Exists.intro; refine ⟨?_, ?_⟩; · (intro K hK; go_step; exact hK)) | (refine Mix.sf_skipL rfl rfl rfl rfl ?_ hC; apply Exists.intro; refine ⟨?_, ?_⟩; · (intro K hK; go_step; exact hK); clear hC; intro wL hC))
      refine Mix.sf_A rfl rfl rfl ?_; intro K hK; go_step
      refine (hspec _ _ _ _ (hJ.sl 2 rfl) (hJ.sl 1 rfl) (hJ.sl 0 rfl)).mono ?_
      rintro e w18 ⟨ag0, cg0, yg0, rfl, hug0, hng0, hb⟩
      have Hng0 := hid hng0
      refine hK _ _ (hC.trans (hb.mono hC.size)) ?_
      replace hC := hC.trans (hb.mono hC.size)
      replace hJ := hJ.fresh hb hug0
      clear hK K hb hug0 hng0
      repeat (first | (refine Mix.sf_S rfl rfl rfl rfl rfl (Mix.valOp_spec rfl) hC ?_; apply Exists.intro; refine ⟨?_, ?_⟩; · (intro w' hC' K hK; have hk := (bcell hC').1; go_step; exact hK)) | (refine Mix.sf_skipS rfl rfl rfl rfl ?_; apply Exists.intro; refine ⟨?_, ?_⟩; · (intro K hK; go_step; exact hK)) | (refine Mix.sf_skipA rfl rfl rfl rfl ?_; apply Exists.intro; refine ⟨?_, ?_⟩; · (intro K hK; go_step; exact hK)) | (refine Mix.sf_skipL rfl rfl rfl rfl ?_ hC; apply Exists.intro; refine ⟨?_, ?_⟩; · (intro K hK; go_step; exact hK); clear hC; intro wL hC))
      have s0 := (hJ.blk 0 rfl).cell 0
      have f0 := (hJ.blk 0 rfl).frozen 0
      have s1 := (hJ.blk 0 rfl).cell 1
      have f1 := (hJ.blk 0 rfl).frozen 1
      have s2 := (hJ.blk 0 rfl).cell 2
      have f2 := (hJ.blk 0 rfl).frozen 2
      refine Mix.sf_A rfl rfl rfl ?_; intro K hK; go_step
      have hC2 : Below w3.heap.size w3 (((w18.setCell ⟨B3, 0, none⟩ (.int .i64 A)).setCell ⟨B3, 1, none⟩ (.int .i64 B)).setCell ⟨B3, 2, none⟩ (.slice ag0 L.length cg0)) := ((hC.setCell hge _).setCell hge _).setCell hge _
      refine hK _ _ hC2 ?_
      clear hK K s0 s1 s2 f0 f1 f2 hC
      have hC := hC2
      replace hJ := ((hJ.sethead hne.out 0 (.int .i64 A)).sethead hne.out 1 (.int .i64 B)).sethead hne.out 2 (.slice ag0 L.length cg0)
      repeat (first | (refine Mix.sf_S rfl rfl rfl rfl rfl (Mix.valOp_spec rfl) hC ?_; apply Exists.intro; refine ⟨?_, ?_⟩; · (intro w' hC' K hK; have hk := (bcell hC').1; go_step; exact hK)) | (refine Mix.sf_skipS rfl rfl rfl rfl ?_; apply Exists.intro; refine ⟨?_, ?_⟩; · (intro K hK; go_step; exact hK)) | (refine Mix.sf_skipA rfl rfl rfl rfl ?_; apply Exists.intro; refine ⟨?_, ?_⟩; · (intro K hK; go_step; exact hK)) | (refine Mix.sf_skipL rfl rfl rfl rfl ?_ hC; apply Exists.intro; refine ⟨?_, ?_⟩; · (intro K hK; go_step; exact hK); clear hC; intro wL hC))
      refine Mix.sf_nil ?_
      have hJ2 := hid (hJ.rowsub (.cons_cons _ (.cons _ (.cons _ (.cons _ .slnil)))))
      clear hJ hC hC2
      go_wp2_with fail
      go_meet
      case rel => exact ⟨B3, ag0, cg0, yg0, rfl, rfl, Hng0.out, hJ2.out⟩
    case ga =>
    intro K hK; go_step
    refine (toPicture_any _ _ _ _ rfl _ _ (hJ.arg hx2) Hx2.out).mono ?_
    rintro e w19 ⟨uc11x2, rfl, huc11x2, hb⟩
    obtain ⟨ac11x2, cc11x2, rfl, -⟩ := own_form huc11x2
    refine hK _ _ (hC.trans (hb.mono hC.size)) ?_
    replace hC := hC.trans (hb.mono hC.size)
    replace hJ := hJ.fresh hb huc11x2
    clear hK K hb huc11x2
    repeat (first | (refine Mix.pf_S rfl rfl rfl rfl rfl rfl (Mix.valOp_spec rfl) hC ?_; apply Exists.intro; refine ⟨?_, ?_⟩; · (intro w' hC' K hK; have hk := (bcell hC').1; go_step; exact hK)))
    refine Mix.pf_A rfl rfl rfl rfl ?ga rfl rfl rfl ?gf
    case gf =>
      intro K hK; go_step
      refine hK _ _ (hC.alloc hC.size _) ?_
      clear hK K
      have hne := hid hJ.box_ne
      have hge : w3.heap.size ≤ w19.heap.size := hC.size
      replace hC := hC.alloc hC.size (.cells #[.int .i64 0, .int .i64 0, .slice none 0 0] 24)
      replace hJ := hJ.alloc [.int .i64 0, .int .i64 0, .slice none 0 0] 24
      obtain ⟨B3, hB3⟩ : ∃ b, b = w19.heap.size := ⟨_, rfl⟩
      rw [← hB3] at hJ hne hge ⊢
      clear hB3
      rw [show w19.alloc (.cells [Value.int .i64 0, .int .i64 0, .slice none 0 0].toArray 24) = w19.alloc (.cells #[.int .i64 0, .int .i64 0, .slice none 0 0] 24) from rfl] at hJ
      generalize w19.alloc (.cells #[.int .i64 0, .int .i64 0, .slice none 0 0] 24) = w20 at hC hJ ⊢
      repeat (first | (refine Mix.sf_S rfl rfl rfl rfl rfl (Mix.valOp_spec rfl) hC ?_; apply Exists.intro; refine ⟨?_, ?_⟩; · (intro w' hC' K hK; have hk := (bcell hC').1; go_step; exact hK)) | (refine Mix.sf_skipS rfl rfl rfl rfl ?_; apply Exists.intro; refine ⟨?_, ?_⟩; · (intro K hK; go_step; exact hK)) | (refine Mix.sf_skipA rfl rfl rfl rfl ?_; apply Exists.intro; refine ⟨?_, ?_⟩; · (intro K hK; go_step; exact hK)) | (refine Mix.sf_skipL rfl rfl rfl rfl ?_ hC; apply Exists.intro; refine ⟨?_, ?_⟩; · (intro K hK; go_step; exact hK); clear hC; intro wL hC))
      refine Mix.sf_A rfl rfl rfl ?_; intro K hK; go_step
      refine (hspec _ _ _ _ (hJ.sl 2 rfl) (hJ.sl 1 rfl) (hJ.sl 0 rfl)).mono ?_
      rintro e w21 ⟨ag0, cg0, yg0, rfl, hug0, hng0, hb⟩
      have Hng0 := hid hng0
      refine hK _ _ (hC.trans (hb.mono hC.size)) ?_
      replace hC := hC.trans (hb.mono hC.size)
      replace hJ := hJ.fresh hb hug0
      clear hK K hb hug0 hng0
      repeat (first | (refine Mix.sf_S rfl rfl rfl rfl rfl (Mix.valOp_spec rfl) hC ?_; apply Exists.intro; refine ⟨?_, ?_⟩; · (intro w' hC' K hK; have hk := (bcell hC').1; go_step; exact hK)) | (refine Mix.sf_skipS rfl rfl rfl rfl ?_; apply Exists.intro; refine ⟨?_, ?_⟩; · (intro K hK; go_step; exact hK)) | (refine Mix.sf_skipA rfl rfl rfl rfl ?_; apply Exists.intro; refine ⟨?_, ?_⟩; · (intro K hK; go_step; exact hK)) | (refine Mix.sf_skipL rfl rfl rfl rfl ?_ hC; apply Exists.intro; refine ⟨?_, ?_⟩; · (intro K hK; go_step; exact hK); clear hC; intro wL hC))
      have s0 := (hJ.blk 0 rfl).cell 0
      have f0 := (hJ.blk 0 rfl).frozen 0
      have s1 := (hJ.blk 0 rfl).cell 1
      have f1 := (hJ.blk 0 rfl).frozen 1
      have s2 := (hJ.blk 0 rfl).cell 2
      have f2 := (hJ.blk 0 rfl).frozen 2
      refine Mix.sf_A rfl rfl rfl ?_; intro K hK; go_step
      have hC2 : Below w3.heap.size w3 (((w21.setCell ⟨B3, 0, none⟩ (.int .i64 A)).setCell ⟨B3, 1, none⟩ (.int .i64 B)).setCell ⟨B3, 2, none⟩ (.slice ag0 L.length cg0)) := ((hC.setCell hge _).setCell hge _).setCell hge _
      refine hK _ _ hC2 ?_
      clear hK K s0 s1 s2 f0 f1 f2 hC
      have hC := hC2
      replace hJ := ((hJ.sethead hne.out 0 (.int .i64 A)).sethead hne.out 1 (.int .i64 B)).sethead hne.out 2 (.slice ag0 L.length cg0)
      repeat (first | (refine Mix.sf_S rfl rfl rfl rfl rfl (Mix.valOp_spec rfl) hC ?_; apply Exists.intro; refine ⟨?_, ?_⟩; · (intro w' hC' K hK; have hk := (bcell hC').1; go_step; exact hK)) | (refine Mix.sf_skipS rfl rfl rfl rfl ?_; apply Exists.intro; refine ⟨?_, ?_⟩; · (intro K hK; go_step; exact hK)) | (refine Mix.sf_skipA rfl rfl rfl rfl ?_; apply Exists.intro; refine ⟨?_, ?_⟩; · (intro K hK; go_step; exact hK)) | (refine Mix.sf_skipL rfl rfl rfl rfl ?_ hC; apply Exists.intro; refine ⟨?_, ?_⟩; · (intro K hK; go_step; exact hK); clear hC; intro wL hC))
      refine Mix.sf_nil ?_
      have hJ2 := hid (hJ.rowsub (.cons_cons _ (.cons _ (.cons _ (.cons _ .slnil)))))
      clear hJ hC hC2
      go_wp2_with fail
      go_meet
      case rel => exact ⟨B3, ag0, cg0, yg0, rfl, rfl, Hng0.out, hJ2.out⟩
    case ga =>
    intro K hK; go_step
    refine (hspec _ _ _ _ (hJ.sl 2 rfl) (hJ.sl 1 rfl) (hJ.sl 0 rfl)).mono ?_
    rintro e w22 ⟨ag0, cg0, yg0, rfl, hug0, hng0, hb⟩
    have Hng0 := hid hng0
    refine hK _ _ (hC.trans (hb.mono hC.size)) ?_
    replace hC := hC.trans (hb.mono hC.size)
    replace hJ := hJ.fresh hb hug0
    clear hK K hb hug0 hng0
    repeat (first | (refine Mix.pf_S rfl rfl rfl rfl rfl rfl (Mix.valOp_spec rfl) hC ?_; apply Exists.intro; refine ⟨?_, ?_⟩; · (intro w' hC' K hK; have hk := (bcell hC').1; go_step; exact hK)))
    refine Mix.pf_F rfl rfl rfl ?_
    intro K hK; go_step
    refine hK _ _ (hC.alloc hC.size _) ?_
    clear hK K
    have hne := hid hJ.box_ne
    have hge : w3.heap.size ≤ w22.heap.size := hC.size
    replace hC := hC.alloc hC.size (.cells #[.int .i64 0, .int .i64 0, .slice none 0 0] 24)
    replace hJ := hJ.alloc [.int .i64 0, .int .i64 0, .slice none 0 0] 24
    obtain ⟨B3, hB3⟩ : ∃ b, b = w22.heap.size := ⟨_, rfl⟩
    rw [← hB3] at hJ hne hge ⊢
    clear hB3
    rw [show w22.alloc (.cells [Value.int .i64 0, .int .i64 0, .slice none 0 0].toArray 24) = w22.alloc (.cells #[.int .i64 0, .int .i64 0, .slice none 0 0] 24) from rfl] at hJ
    generalize w22.alloc (.cells #[.int .i64 0, .int .i64 0, .slice none 0 0] 24) = w23 at hC hJ ⊢
    repeat (first | (refine Mix.sf_S rfl rfl rfl rfl rfl (Mix.valOp_spec rfl) hC ?_; apply Exists.intro; refine ⟨?_, ?_⟩; · (intro w' hC' K hK; have hk := (bcell hC').1; go_step; exact hK)) | (refine Mix.sf_skipS rfl rfl rfl rfl ?_; apply Exists.intro; refine ⟨?_, ?_⟩; · (intro K hK; go_step; exact hK)) | (refine Mix.sf_skipA rfl rfl rfl rfl ?_; apply Exists.intro; refine ⟨?_, ?_⟩; · (intro K hK; go_step; exact hK)) | (refine Mix.sf_skipL rfl rfl rfl rfl ?_ hC; apply Exists.intro; refine ⟨?_, ?_⟩; · (intro K hK; go_step; exact hK); clear hC; intro wL hC))
    have s0 := (hJ.blk 0 rfl).cell 0
    have f0 := (hJ.blk 0 rfl).frozen 0
    have s1 := (hJ.blk 0 rfl).cell 1
    have f1 := (hJ.blk 0 rfl).frozen 1
    have s2 := (hJ.blk 0 rfl).cell 2
    have f2 := (hJ.blk 0 rfl).frozen 2
    refine Mix.sf_A rfl rfl rfl ?_; intro K hK; go_step
    have hC2 : Below w3.heap.size w3 (((w23.setCell ⟨B3, 0, none⟩ (.int .i64 A)).setCell ⟨B3, 1, none⟩ (.int .i64 B)).setCell ⟨B3, 2, none⟩ (.slice ag0 L.length cg0)) := ((hC.setCell hge _).setCell hge _).setCell hge _
    refine hK _ _ hC2 ?_
    clear hK K s0 s1 s2 f0 f1 f2 hC
    have hC := hC2
    replace hJ := ((hJ.sethead hne.out 0 (.int .i64 A)).sethead hne.out 1 (.int .i64 B)).sethead hne.out 2 (.slice ag0 L.length cg0)
    repeat (first | (refine Mix.sf_S rfl rfl rfl rfl rfl (Mix.valOp_spec rfl) hC ?_; apply Exists.intro; refine ⟨?_, ?_⟩; · (intro w' hC' K hK; have hk := (bcell hC').1; go_step; exact hK)) | (refine Mix.sf_skipS rfl rfl rfl rfl ?_; apply Exists.intro; refine ⟨?_, ?_⟩; · (intro K hK; go_step; exact hK)) | (refine Mix.sf_skipA rfl rfl rfl rfl ?_; apply Exists.intro; refine ⟨?_, ?_⟩; · (intro K hK; go_step; exact hK)) | (refine Mix.sf_skipL rfl rfl rfl rfl ?_ hC; apply Exists.intro; refine ⟨?_, ?_⟩; · (intro K hK; go_step; exact hK); clear hC; intro wL hC))
    refine Mix.sf_nil ?_
    have hJ2 := hid (hJ.rowsub (.cons_cons _ (.cons _ (.cons _ (.cons _ .slnil)))))
    clear hJ hC hC2
    go_wp2_with fail
    go_meet
    case rel => exact ⟨B3, ag0, cg0, yg0, rfl, rfl, Hng0.out, hJ2.out⟩
  case rest =>
  clear hI r00 r01 r02 lt0 r10 r11 r12 lt1 r20 r21 r22 lt2
  obtain ⟨B3, ag0, cg0, yg0, rfl, rfl, hng0, hI⟩ := hcut
  generalize wc = w24 at hI ⊢
  have Hyg0 := hid (show yg0.length ≤ 1048576 from by rw [nl_len hng0]; exact hL)
  have Hng0 := hid hng0
  clear hng0
  have r00 := (hI.blk 3 rfl).cell 0
  have r01 := (hI.blk 3 rfl).cell 1
  have r02 := (hI.blk 3 rfl).cell 2
  have lt0 := (hI.blk 3 rfl).lt
  go_wp2_with fail
  clear r00 r01 r02 lt0
  refine (toPicture_any _ _ _ _ rfl _ _ (hI.arg hx0) Hx0.out).mono ?_
  rintro e w25 ⟨uo0, rfl, huo0, hb⟩
  obtain ⟨ao0, co0, rfl, -⟩ := own_form huo0
  replace hI := hI.fresh hb huo0
  clear hb huo0
  replace hI := hI.alloc [.int .i64 W0, .int .i64 H0, .slice ao0 x0.length co0] 24
  have r00 := (hI.blk 3 rfl).cell 0
  have r01 := (hI.blk 3 rfl).cell 1
  have r02 := (hI.blk 3 rfl).cell 2
  have lt0 := (hI.blk 3 rfl).lt
  go_wp2_with fail
  clear r00 r01 r02 lt0
  obtain ⟨B4, hB4⟩ : ∃ b, b = w25.heap.size := ⟨_, rfl⟩
  rw [← hB4] at hI  ⊢
  clear hB4
  generalize w25.alloc (.cells #[.int .i64 W0, .int .i64 H0, .slice ao0 x0.length co0] 24) = w26 at hI  ⊢
  clear w25
  refine (toPicture_any _ _ _ _ rfl _ _ (hI.arg hx1) Hx1.out).mono ?_
  rintro e w27 ⟨uo1, rfl, huo1, hb⟩
  obtain ⟨ao1, co1, rfl, -⟩ := own_form huo1
  replace hI := hI.fresh hb huo1
  clear hb huo1
  replace hI := hI.alloc [.int .i64 W1, .int .i64 H1, .slice ao1 x1.length co1] 24
  have r00 := (hI.blk 3 rfl).cell 0
  have r01 := (hI.blk 3 rfl).cell 1
  have r02 := (hI.blk 3 rfl).cell 2
  have lt0 := (hI.blk 3 rfl).lt
  go_wp2_with fail
  clear r00 r01 r02 lt0
  obtain ⟨B5, hB5⟩ : ∃ b, b = w27.heap.size := ⟨_, rfl⟩
  rw [← hB5] at hI  ⊢
  clear hB5
  generalize w27.alloc (.cells #[.int .i64 W1, .int .i64 H1, .slice ao1 x1.length co1] 24) = w28 at hI  ⊢
  clear w27
  refine (toPicture_any _ _ _ _ rfl _ _ (hI.arg hx2) Hx2.out).mono ?_
  rintro e w29 ⟨uo2, rfl, huo2, hb⟩
  obtain ⟨ao2, co2, rfl, -⟩ := own_form huo2
  replace hI := hI.fresh hb huo2
  clear hb huo2
  replace hI := hI.alloc [.int .i64 W2, .int .i64 H2, .slice ao2 x2.length co2] 24
  have r00 := (hI.blk 2 rfl).cell 0
  have r01 := (hI.blk 2 rfl).cell 1
  have r02 := (hI.blk 2 rfl).cell 2
  have lt0 := (hI.blk 2 rfl).lt
  have r10 := (hI.blk 1 rfl).cell 0
  have r11 := (hI.blk 1 rfl).cell 1
  have r12 := (hI.blk 1 rfl).cell 2
  have lt1 := (hI.blk 1 rfl).lt
  have r20 := (hI.blk 0 rfl).cell 0
  have r21 := (hI.blk 0 rfl).cell 1
  have r22 := (hI.blk 0 rfl).cell 2
  have lt2 := (hI.blk 0 rfl).lt
  go_wp2_with fail
  clear r00 r01 r02 lt0 r10 r11 r12 lt1 r20 r21 r22 lt2
  obtain ⟨B6, hB6⟩ : ∃ b, b = w29.heap.size := ⟨_, rfl⟩
  rw [← hB6] at hI  ⊢
  clear hB6
  generalize w29.alloc (.cells #[.int .i64 W2, .int .i64 H2, .slice ao2 x2.length co2] 24) = w30 at hI  ⊢
  clear w29
  refine (himpl _ _ _ _ (hI.sl 2 rfl) (hI.sl 1 rfl) (hI.sl 0 rfl)).mono ?_
  rintro e w31 ⟨ag1, cg1, yg1, rfl, hug1, hng1, hb⟩
  have Hyg1 := hid (show yg1.length ≤ 1048576 from by rw [nl_len hng1]; exact hL)
  have Hng1 := hid hng1
  replace hI := hI.fresh hb hug1
  clear hb hug1 hng1
  replace hI := hI.alloc [.int .i64 A, .int .i64 B, .slice ag1 L.length cg1] 24
  have r00 := (hI.blk 0 rfl).cell 0
  have r01 := (hI.blk 0 rfl).cell 1
  have r02 := (hI.blk 0 rfl).cell 2
  have lt0 := (hI.blk 0 rfl).lt
  have r10 := (hI.blk 4 rfl).cell 0
  have r11 := (hI.blk 4 rfl).cell 1
  have r12 := (hI.blk 4 rfl).cell 2
  have lt1 := (hI.blk 4 rfl).lt
  go_wp2_with fail
  clear r00 r01 r02 lt0 r10 r11 r12 lt1
  obtain ⟨B7, hB7⟩ : ∃ b, b = w31.heap.size := ⟨_, rfl⟩
  rw [← hB7] at hI  ⊢
  clear hB7
  generalize w31.alloc (.cells #[.int .i64 A, .int .i64 B, .slice ag1 L.length cg1] 24) = w32 at hI  ⊢
  clear w31
  refine (eqPicture_yes _ _ _ _ _ _ _ (hI.sl 0 rfl) (hI.sl 4 rfl) (by have := Hyg1.out; omega) (Hng1.out.trans Hng0.out.symm)).mono ?_
  rintro e w33 ⟨rfl, hb⟩
  replace hI := hI.call hb
  clear hb
  have r00 := (hI.blk 3 rfl).cell 0
  have r01 := (hI.blk 3 rfl).cell 1
  have r02 := (hI.blk 3 rfl).cell 2
  have lt0 := (hI.blk 3 rfl).lt
  have r10 := (hI.blk 7 rfl).cell 0
  have r11 := (hI.blk 7 rfl).cell 1
  have r12 := (hI.blk 7 rfl).cell 2
  have lt1 := (hI.blk 7 rfl).lt
  go_wp2
  refine Mix.wp_mix [.S, .S, .A, .A, .S] [0, 1, 2, 3, 4] (Below w33.heap.size w33) (by kernel_rfl) (by kernel_rfl) ((Below.refl _ _).drew) ?_
  have hC : Below w33.heap.size w33 w33.drew := (Below.refl _ _).drew
  have hJ := hI.call hC
  generalize w33.drew = w34 at hC hJ ⊢
  repeat (first | (refine Mix.sf_S rfl rfl rfl rfl rfl (Mix.valOp_spec rfl) hC ?_; apply Exists.intro; refine ⟨?_, ?_⟩; · (intro w' hC' K hK; have hk := (bcell hC').1; go_step; exact hK)) | (refine Mix.sf_skipS rfl rfl rfl rfl ?_; apply Exists.intro; refine ⟨?_, ?_⟩; · (intro K hK; go_step; exact hK)) | (refine Mix.sf_skipA rfl rfl rfl rfl ?_; apply Exists.intro; refine ⟨?_, ?_⟩; · (intro K hK; go_step; exact hK)) | (refine Mix.sf_skipL rfl rfl rfl rfl ?_ hC; apply Exists.intro; refine ⟨?_, ?_⟩; · (intro K hK; go_step; exact hK); clear hC; intro wL hC))
  refine Mix.sf_A rfl rfl rfl ?_; intro K hK; go_step
  refine (toPicture_any _ _ _ _ rfl _ _ (hJ.arg hx0) Hx0.out).mono ?_
  rintro e w35 ⟨uo3, rfl, huo3, hb⟩
  obtain ⟨ao3, co3, rfl, -⟩ := own_form huo3
  refine hK _ _ (hC.trans (hb.mono hC.size)) ?_
  replace hC := hC.trans (hb.mono hC.size)
  replace hJ := hJ.fresh hb huo3
  clear hK K
  repeat (first | (refine Mix.sf_S rfl rfl rfl rfl rfl (Mix.valOp_spec rfl) hC ?_; apply Exists.intro; refine ⟨?_, ?_⟩; · (intro w' hC' K hK; have hk := (bcell hC').1; go_step; exact hK)) | (refine Mix.sf_skipS rfl rfl rfl rfl ?_; apply Exists.intro; refine ⟨?_, ?_⟩; · (intro K hK; go_step; exact hK)) | (refine Mix.sf_skipA rfl rfl rfl rfl ?_; apply Exists.intro; refine ⟨?_, ?_⟩; · (intro K hK; go_step; exact hK)) | (refine Mix.sf_skipL rfl rfl rfl rfl ?_ hC; apply Exists.intro; refine ⟨?_, ?_⟩; · (intro K hK; go_step; exact hK); clear hC; intro wL hC))
  clear hb huo3
  refine Mix.sf_A rfl rfl rfl ?_; intro K hK; go_step
  refine (eqPicture_yes _ _ _ _ _ _ _ (hJ.sl 4 rfl) (hJ.sl 0 rfl) Hx0'.out rfl).mono ?_
  rintro e w36 ⟨rfl, hb⟩
  refine hK _ _ (hC.trans (hb.mono hC.size)) ?_
  replace hC := hC.trans (hb.mono hC.size)
  replace hJ := hJ.call hb
  clear hK K
  repeat (first | (refine Mix.sf_S rfl rfl rfl rfl rfl (Mix.valOp_spec rfl) hC ?_; apply Exists.intro; refine ⟨?_, ?_⟩; · (intro w' hC' K hK; have hk := (bcell hC').1; go_step; exact hK)) | (refine Mix.sf_skipS rfl rfl rfl rfl ?_; apply Exists.intro; refine ⟨?_, ?_⟩; · (intro K hK; go_step; exact hK)) | (refine Mix.sf_skipA rfl rfl rfl rfl ?_; apply Exists.intro; refine ⟨?_, ?_⟩; · (intro K hK; go_step; exact hK)) | (refine Mix.sf_skipL rfl rfl rfl rfl ?_ hC; apply Exists.intro; refine ⟨?_, ?_⟩; · (intro K hK; go_step; exact hK); clear hC; intro wL hC))
  clear hb
  refine Mix.sf_nil ?_
  clear r00 r01 r02 lt0 r10 r11 r12 lt1
  replace hI := hJ
  clear hJ hC
  have r00 := (hI.blk 2 rfl).cell 0
  have r01 := (hI.blk 2 rfl).cell 1
  have r02 := (hI.blk 2 rfl).cell 2
  have lt0 := (hI.blk 2 rfl).lt
  have r10 := (hI.blk 6 rfl).cell 0
  have r11 := (hI.blk 6 rfl).cell 1
  have r12 := (hI.blk 6 rfl).cell 2
  have lt1 := (hI.blk 6 rfl).lt
  go_wp2
  refine Mix.wp_mix [.S, .S, .A, .A, .S] [0, 1, 2, 3, 4] (Below w36.heap.size w36) (by kernel_rfl) (by kernel_rfl) ((Below.refl _ _).drew) ?_
  have hC : Below w36.heap.size w36 w36.drew := (Below.refl _ _).drew
  have hJ := hI.call hC
  generalize w36.drew = w37 at hC hJ ⊢
  repeat (first | (refine Mix.sf_S rfl rfl rfl rfl rfl (Mix.valOp_spec rfl) hC ?_; apply Exists.intro; refine ⟨?_, ?_⟩; · (intro w' hC' K hK; have hk := (bcell hC').1; go_step; exact hK)) | (refine Mix.sf_skipS rfl rfl rfl rfl ?_; apply Exists.intro; refine ⟨?_, ?_⟩; · (intro K hK; go_step; exact hK)) | (refine Mix.sf_skipA rfl rfl rfl rfl ?_; apply Exists.intro; refine ⟨?_, ?_⟩; · (intro K hK; go_step; exact hK)) | (refine Mix.sf_skipL rfl rfl rfl rfl ?_ hC; apply Exists.intro; refine ⟨?_, ?_⟩; · (intro K hK; go_step; exact hK); clear hC; intro wL hC))
  refine Mix.sf_A rfl rfl rfl ?_; intro K hK; go_step
  refine (toPicture_any _ _ _ _ rfl _ _ (hJ.arg hx1) Hx1.out).mono ?_
  rintro e w38 ⟨uo4, rfl, huo4, hb⟩
  obtain ⟨ao4, co4, rfl, -⟩ := own_form huo4
  refine hK _ _ (hC.trans (hb.mono hC.size)) ?_
  replace hC := hC.trans (hb.mono hC.size)
  replace hJ := hJ.fresh hb huo4
  clear hK K
  repeat (first | (refine Mix.sf_S rfl rfl rfl rfl rfl (Mix.valOp_spec rfl) hC ?_; apply Exists.intro; refine ⟨?_, ?_⟩; · (intro w' hC' K hK; have hk := (bcell hC').1; go_step; exact hK)) | (refine Mix.sf_skipS rfl rfl rfl rfl ?_; apply Exists.intro; refine ⟨?_, ?_⟩; · (intro K hK; go_step; exact hK)) | (refine Mix.sf_skipA rfl rfl rfl rfl ?_; apply Exists.intro; refine ⟨?_, ?_⟩; · (intro K hK; go_step; exact hK)) | (refine Mix.sf_skipL rfl rfl rfl rfl ?_ hC; apply Exists.intro; refine ⟨?_, ?_⟩; · (intro K hK; go_step; exact hK); clear hC; intro wL hC))
  clear hb huo4
  refine Mix.sf_A rfl rfl rfl ?_; intro K hK; go_step
  refine (eqPicture_yes _ _ _ _ _ _ _ (hJ.sl 4 rfl) (hJ.sl 0 rfl) Hx1'.out rfl).mono ?_
  rintro e w39 ⟨rfl, hb⟩
  refine hK _ _ (hC.trans (hb.mono hC.size)) ?_
  replace hC := hC.trans (hb.mono hC.size)
  replace hJ := hJ.call hb
  clear hK K
  repeat (first | (refine Mix.sf_S rfl rfl rfl rfl rfl (Mix.valOp_spec rfl) hC ?_; apply Exists.intro; refine ⟨?_, ?_⟩; · (intro w' hC' K hK; have hk := (bcell hC').1; go_step; exact hK)) | (refine Mix.sf_skipS rfl rfl rfl rfl ?_; apply Exists.intro; refine ⟨?_, ?_⟩; · (intro K hK; go_step; exact hK)) | (refine Mix.sf_skipA rfl rfl rfl rfl ?_; apply Exists.intro; refine ⟨?_, ?_⟩; · (intro K hK; go_step; exact hK)) | (refine Mix.sf_skipL rfl rfl rfl rfl ?_ hC; apply Exists.intro; refine ⟨?_, ?_⟩; · (intro K hK; go_step; exact hK); clear hC; intro wL hC))
  clear hb
  refine Mix.sf_nil ?_
  clear r00 r01 r02 lt0 r10 r11 r12 lt1
  replace hI := hJ
  clear hJ hC
  have r00 := (hI.blk 1 rfl).cell 0
  have r01 := (hI.blk 1 rfl).cell 1
  have r02 := (hI.blk 1 rfl).cell 2
  have lt0 := (hI.blk 1 rfl).lt
  have r10 := (hI.blk 5 rfl).cell 0
  have r11 := (hI.blk 5 rfl).cell 1
  have r12 := (hI.blk 5 rfl).cell 2
  have lt1 := (hI.blk 5 rfl).lt
  go_wp2
  refine Mix.wp_mix [.S, .S, .A, .A, .S] [0, 1, 2, 3, 4] (Below w39.heap.size w39) (by kernel_rfl) (by kernel_rfl) ((Below.refl _ _).drew) ?_
  have hC : Below w39.heap.size w39 w39.drew := (Below.refl _ _).drew
  have hJ := hI.call hC
  generalize w39.drew = w40 at hC hJ ⊢
  repeat (first | (refine Mix.sf_S rfl rfl rfl rfl rfl (Mix.valOp_spec rfl) hC ?_; apply Exists.intro; refine ⟨?_, ?_⟩; · (intro w' hC' K hK; have hk := (bcell hC').1; go_step; exact hK)) | (refine Mix.sf_skipS rfl rfl rfl rfl ?_; apply Exists.intro; refine ⟨?_, ?_⟩; · (intro K hK; go_step; exact hK)) | (refine Mix.sf_skipA rfl rfl rfl rfl ?_; apply Exists.intro; refine ⟨?_, ?_⟩; · (intro K hK; go_step; exact hK)) | (refine Mix.sf_skipL rfl rfl rfl rfl ?_ hC; apply Exists.intro; refine ⟨?_, ?_⟩; · (intro K hK; go_step; exact hK); clear hC; intro wL hC))
  refine Mix.sf_A rfl rfl rfl ?_; intro K hK; go_step
  refine (toPicture_any _ _ _ _ rfl _ _ (hJ.arg hx2) Hx2.out).mono ?_
  rintro e w41 ⟨uo5, rfl, huo5, hb⟩
  obtain ⟨ao5, co5, rfl, -⟩ := own_form huo5
  refine hK _ _ (hC.trans (hb.mono hC.size)) ?_
  replace hC := hC.trans (hb.mono hC.size)
  replace hJ := hJ.fresh hb huo5
  clear hK K
  repeat (first | (refine Mix.sf_S rfl rfl rfl rfl rfl (Mix.valOp_spec rfl) hC ?_; apply Exists.intro; refine ⟨?_, ?_⟩; · (intro w' hC' K hK; have hk := (bcell hC').1; go_step; exact hK)) | (refine Mix.sf_skipS rfl rfl rfl rfl ?_; apply Exists.intro; refine ⟨?_, ?_⟩; · (intro K hK; go_step; exact hK)) | (refine Mix.sf_skipA rfl rfl rfl rfl ?_; apply Exists.intro; refine ⟨?_, ?_⟩; · (intro K hK; go_step; exact hK)) | (refine Mix.sf_skipL rfl rfl rfl rfl ?_ hC; apply Exists.intro; refine ⟨?_, ?_⟩; · (intro K hK; go_step; exact hK); clear hC; intro wL hC))
  clear hb huo5
  refine Mix.sf_A rfl rfl rfl ?_; intro K hK; go_step
  refine (eqPicture_yes _ _ _ _ _ _ _ (hJ.sl 4 rfl) (hJ.sl 0 rfl) Hx2'.out rfl).mono ?_
  rintro e w42 ⟨rfl, hb⟩
  refine hK _ _ (hC.trans (hb.mono hC.size)) ?_
  replace hC := hC.trans (hb.mono hC.size)
  replace hJ := hJ.call hb
  clear hK K
  repeat (first | (refine Mix.sf_S rfl rfl rfl rfl rfl (Mix.valOp_spec rfl) hC ?_; apply Exists.intro; refine ⟨?_, ?_⟩; · (intro w' hC' K hK; have hk := (bcell hC').1; go_step; exact hK)) | (refine Mix.sf_skipS rfl rfl rfl rfl ?_; apply Exists.intro; refine ⟨?_, ?_⟩; · (intro K hK; go_step; exact hK)) | (refine Mix.sf_skipA rfl rfl rfl rfl ?_; apply Exists.intro; refine ⟨?_, ?_⟩; · (intro K hK; go_step; exact hK)) | (refine Mix.sf_skipL rfl rfl rfl rfl ?_ hC; apply Exists.intro; refine ⟨?_, ?_⟩; · (intro K hK; go_step; exact hK); clear hC; intro wL hC))
  clear hb
  refine Mix.sf_nil ?_
  clear r00 r01 r02 lt0 r10 r11 r12 lt1
  replace hI := hJ
  clear hJ hC
  have r00 := (hI.blk 3 rfl).cell 0
  have r01 := (hI.blk 3 rfl).cell 1
  have r02 := (hI.blk 3 rfl).cell 2
  have lt0 := (hI.blk 3 rfl).lt
  go_wp2_with fail
  clear r00 r01 r02 lt0
  refine (markPicture_any _ _ _ _ _ _ _ _ (hI.row 6 rfl) (by have := Hx0.out; have := Hx1.out; have := Hx2.out; have := Hyg0.out; have := Hyg1.out; first | omega | (simp; done) | (simp; omega)) (by have := Hx0.out; have := Hx1.out; have := Hx2.out; have := Hyg0.out; have := Hyg1.out; first | omega | (simp; done) | (simp; omega)) hI.below.size).mono ?_
  rintro e w43 ⟨rfl, ho, hg⟩
  replace hI := hI.mark 6 rfl hg ho
  clear ho hg
  have r00 := (hI.blk 2 rfl).cell 0
  have r01 := (hI.blk 2 rfl).cell 1
  have r02 := (hI.blk 2 rfl).cell 2
  have lt0 := (hI.blk 2 rfl).lt
  go_wp2_with fail
  clear r00 r01 r02 lt0
  refine (markPicture_any _ _ _ _ _ _ _ _ (hI.row 5 rfl) (by have := Hx0.out; have := Hx1.out; have := Hx2.out; have := Hyg0.out; have := Hyg1.out; first | omega | (simp; done) | (simp; omega)) (by have := Hx0.out; have := Hx1.out; have := Hx2.out; have := Hyg0.out; have := Hyg1.out; first | omega | (simp; done) | (simp; omega)) hI.below.size).mono ?_
  rintro e w44 ⟨rfl, ho, hg⟩
  replace hI := hI.mark 5 rfl hg ho
  clear ho hg
  have r00 := (hI.blk 1 rfl).cell 0
  have r01 := (hI.blk 1 rfl).cell 1
  have r02 := (hI.blk 1 rfl).cell 2
  have lt0 := (hI.blk 1 rfl).lt
  go_wp2_with fail
  clear r00 r01 r02 lt0
  refine (markPicture_any _ _ _ _ _ _ _ _ (hI.row 4 rfl) (by have := Hx0.out; have := Hx1.out; have := Hx2.out; have := Hyg0.out; have := Hyg1.out; first | omega | (simp; done) | (simp; omega)) (by have := Hx0.out; have := Hx1.out; have := Hx2.out; have := Hyg0.out; have := Hyg1.out; first | omega | (simp; done) | (simp; omega)) hI.below.size).mono ?_
  rintro e w45 ⟨rfl, ho, hg⟩
  replace hI := hI.mark 4 rfl hg ho
  clear ho hg
  have r00 := (hI.blk 0 rfl).cell 0
  have r01 := (hI.blk 0 rfl).cell 1
  have r02 := (hI.blk 0 rfl).cell 2
  have lt0 := (hI.blk 0 rfl).lt
  have r10 := (hI.blk 4 rfl).cell 0
  have r11 := (hI.blk 4 rfl).cell 1
  have r12 := (hI.blk 4 rfl).cell 2
  have lt1 := (hI.blk 4 rfl).lt
  go_wp2_with fail
  clear r00 r01 r02 lt0 r10 r11 r12 lt1
  refine (eqPicture_yes _ _ _ _ _ _ _ (hI.sl 3 rfl) (hI.sl 7 rfl) (by have := Hyg1.out; omega) (Hng1.out.trans Hng0.out.symm)).mono ?_
  rintro e w46 ⟨rfl, hb⟩
  replace hI := hI.call hb
  clear hb
  have r00 := (hI.blk 0 rfl).cell 0
  have r01 := (hI.blk 0 rfl).cell 1
  have r02 := (hI.blk 0 rfl).cell 2
  have lt0 := (hI.blk 0 rfl).lt
  go_wp2_with fail
  clear r00 r01 r02 lt0
  refine (markPicture_any _ _ _ _ _ _ _ _ (hI.row 3 rfl) (by have := Hx0.out; have := Hx1.out; have := Hx2.out; have := Hyg0.out; have := Hyg1.out; first | omega | (simp; done) | (simp; omega)) (by have := Hx0.out; have := Hx1.out; have := Hx2.out; have := Hyg0.out; have := Hyg1.out; first | omega | (simp; done) | (simp; omega)) hI.below.size).mono ?_
  rintro e w47 ⟨rfl, ho, hg⟩
  replace hI := hI.mark 3 rfl hg ho
  clear ho hg
  have r00 := (hI.blk 0 rfl).cell 0
  have r01 := (hI.blk 0 rfl).cell 1
  have r02 := (hI.blk 0 rfl).cell 2
  have lt0 := (hI.blk 0 rfl).lt
  go_wp2_with fail
  clear r00 r01 r02 lt0
  refine (heldPicture_any _ _ _ _ _ _ (hI.sl 3 rfl) (by have := Hx0.out; have := Hx1.out; have := Hx2.out; have := Hyg0.out; have := Hyg1.out; first | omega | (simp; done) | (simp; omega)) (by have := Hx0.out; have := Hx1.out; have := Hx2.out; have := Hyg0.out; have := Hyg1.out; first | omega | (simp; done) | (simp; omega))).mono ?_
  rintro e w48 ⟨rfl, hb⟩
  replace hI := hI.call hb
  clear hb
  have r00 := (hI.blk 7 rfl).cell 0
  have r01 := (hI.blk 7 rfl).cell 1
  have r02 := (hI.blk 7 rfl).cell 2
  have lt0 := (hI.blk 7 rfl).lt
  have r10 := (hI.blk 6 rfl).cell 0
  have r11 := (hI.blk 6 rfl).cell 1
  have r12 := (hI.blk 6 rfl).cell 2
  have lt1 := (hI.blk 6 rfl).lt
  have r20 := (hI.blk 5 rfl).cell 0
  have r21 := (hI.blk 5 rfl).cell 1
  have r22 := (hI.blk 5 rfl).cell 2
  have lt2 := (hI.blk 5 rfl).lt
  go_wp2
  go_cut [18, 19] from 115 to 124 (fun c d wx => ∃ (B8 : Nat) (ag2 : Option Addr) (cg2 : Nat) (yg2 : List Nat), c = .pointer (some ⟨B8, 0, none⟩) ∧ d = .bool ok ∧ nl yg2 = L ∧ Inv w wx [(B8, [.int .i64 A, .int .i64 B, .slice ag2 L.length cg2], 24), (B7, [.int .i64 A, .int .i64 B, .slice ag1 L.length cg1], 24), (B6, [.int .i64 W2, .int .i64 H2, .slice ao2 x2.length co2], 24), (B5, [.int .i64 W1, .int .i64 H1, .slice ao1 x1.length co1], 24), (B4, [.int .i64 W0, .int .i64 H0, .slice ao0 x0.length co0], 24), (B3, [.int .i64 A, .int .i64 B, .slice ag0 L.length cg0], 24), (b2, [.int .i64 W2, .int .i64 H2, .slice d2 n2 p2], 30), (b1, [.int .i64 W1, .int .i64 H1, .slice d1 n1 p1], 30), (b0, [.int .i64 W0, .int .i64 H0, .slice d0 n0 p0], 30)] [(.slice ag2 L.length cg2, 53, yg2.map fv), (.slice ag1 L.length cg1, 53, marks 1 (List.map fv yg1).length), (.slice ag0 L.length cg0, 53, yg0.map fv)])
  case first =>
    refine Mix.wp_mixP [.S, .A, .S, .A, .S, .A, .A, .S, .S, .S, .A, .A, .S] [0, 2, 4, 1, 3, 5, 6, 7, 8, 9, 10, 11, 12] 10 (Below w48.heap.size w48) (by kernel_rfl) (by kernel_rfl) ((Below.refl _ _).drew) ?_
    have hC : Below w48.heap.size w48 w48.drew := (Below.refl _ _).drew
    have hJ := hI.call hC
    generalize w48.drew = w49 at hC hJ ⊢
    repeat (first | (refine Mix.pf_S rfl rfl rfl rfl rfl rfl (Mix.valOp_spec rfl) hC ?_; apply Exists.intro; refine ⟨?_, ?_⟩; · (intro w' hC' K hK; have hk := (bcell hC').1; go_step; exact hK)))
    refine Mix.pf_A rfl rfl rfl rfl ?ga rfl rfl rfl ?gf
    case gf =>
      intro K hK; go_step
      refine hK _ _ (hC.alloc hC.size _) ?_
      clear hK K
      have hne := hid hJ.box_ne
      have hge : w48.heap.size ≤ w49.heap.size := hC.size
      replace hC := hC.alloc hC.size (.cells #[.int .i64 0, .int .i64 0, .slice none 0 0] 24)
      replace hJ := hJ.alloc [.int .i64 0, .int .i64 0, .slice none 0 0] 24
      obtain ⟨B8, hB8⟩ : ∃ b, b = w49.heap.size := ⟨_, rfl⟩
      rw [← hB8] at hJ hne hge ⊢
      clear hB8
      rw [show w49.alloc (.cells [Value.int .i64 0, .int .i64 0, .slice none 0 0].toArray 24) = w49.alloc (.cells #[.int .i64 0, .int .i64 0, .slice none 0 0] 24) from rfl] at hJ
      generalize w49.alloc (.cells #[.int .i64 0, .int .i64 0, .slice none 0 0] 24) = w50 at hC hJ ⊢
      repeat (first | (refine Mix.sf_S rfl rfl rfl rfl rfl (Mix.valOp_spec rfl) hC ?_; apply Exists.intro; refine ⟨?_, ?_⟩; · (intro w' hC' K hK; have hk := (bcell hC').1; go_step; exact hK)) | (refine Mix.sf_skipS rfl rfl rfl rfl ?_; apply Exists.intro; refine ⟨?_, ?_⟩; · (intro K hK; go_step; exact hK)) | (refine Mix.sf_skipA rfl rfl rfl rfl ?_; apply Exists.intro; refine ⟨?_, ?_⟩; · (intro K hK; go_step; exact hK)) | (refine Mix.sf_skipL rfl rfl rfl rfl ?_ hC; apply Exists.intro; refine ⟨?_, ?_⟩; · (intro K hK; go_step; exact hK); clear hC; intro wL hC))
      refine Mix.sf_A rfl rfl rfl ?_; intro K hK; go_step
      refine (toPicture_any _ _ _ _ rfl _ _ (hJ.arg hx0) Hx0.out).mono ?_
      rintro e w51 ⟨uc38x0, rfl, huc38x0, hb⟩
      obtain ⟨ac38x0, cc38x0, rfl, -⟩ := own_form huc38x0
      refine hK _ _ (hC.trans (hb.mono hC.size)) ?_
      replace hC := hC.trans (hb.mono hC.size)
      replace hJ := hJ.fresh hb huc38x0
      clear hK K hb huc38x0
      repeat (first | (refine Mix.sf_S rfl rfl rfl rfl rfl (Mix.valOp_spec rfl) hC ?_; apply Exists.intro; refine ⟨?_, ?_⟩; · (intro w' hC' K hK; have hk := (bcell hC').1; go_step; exact hK)) | (refine Mix.sf_skipS rfl rfl rfl rfl ?_; apply Exists.intro; refine ⟨?_, ?_⟩; · (intro K hK; go_step; exact hK)) | (refine Mix.sf_skipA rfl rfl rfl rfl ?_; apply Exists.intro; refine ⟨?_, ?_⟩; · (intro K hK; go_step; exact hK)) | (refine Mix.sf_skipL rfl rfl rfl rfl ?_ hC; apply Exists.intro; refine ⟨?_, ?_⟩; · (intro K hK; go_step; exact hK); clear hC; intro wL hC))
      refine Mix.sf_A rfl rfl rfl ?_; intro K hK; go_step
      refine (toPicture_any _ _ _ _ rfl _ _ (hJ.arg hx1) Hx1.out).mono ?_
      rintro e w52 ⟨uc38x1, rfl, huc38x1, hb⟩
      obtain ⟨ac38x1, cc38x1, rfl, -⟩ := own_form huc38x1
      refine hK _ _ (hC.trans (hb.mono hC.size)) ?_
      replace hC := hC.trans (hb.mono hC.size)
      replace hJ := hJ.fresh hb huc38x1
      clear hK K hb huc38x1
      repeat (first | (refine Mix.sf_S rfl rfl rfl rfl rfl (Mix.valOp_spec rfl) hC ?_; apply Exists.intro; refine ⟨?_, ?_⟩; · (intro w' hC' K hK; have hk := (bcell hC').1; go_step; exact hK)) | (refine Mix.sf_skipS rfl rfl rfl rfl ?_; apply Exists.intro; refine ⟨?_, ?_⟩; · (intro K hK; go_step; exact hK)) | (refine Mix.sf_skipA rfl rfl rfl rfl ?_; apply Exists.intro; refine ⟨?_, ?_⟩; · (intro K hK; go_step; exact hK)) | (refine Mix.sf_skipL rfl rfl rfl rfl ?_ hC; apply Exists.intro; refine ⟨?_, ?_⟩; · (intro K hK; go_step; exact hK); clear hC; intro wL hC))
      refine Mix.sf_A rfl rfl rfl ?_; intro K hK; go_step
      refine (toPicture_any _ _ _ _ rfl _ _ (hJ.arg hx2) Hx2.out).mono ?_
      rintro e w53 ⟨uc38x2, rfl, huc38x2, hb⟩
      obtain ⟨ac38x2, cc38x2, rfl, -⟩ := own_form huc38x2
      refine hK _ _ (hC.trans (hb.mono hC.size)) ?_
      replace hC := hC.trans (hb.mono hC.size)
      replace hJ := hJ.fresh hb huc38x2
      clear hK K hb huc38x2
      repeat (first | (refine Mix.sf_S rfl rfl rfl rfl rfl (Mix.valOp_spec rfl) hC ?_; apply Exists.intro; refine ⟨?_, ?_⟩; · (intro w' hC' K hK; have hk := (bcell hC').1; go_step; exact hK)) | (refine Mix.sf_skipS rfl rfl rfl rfl ?_; apply Exists.intro; refine ⟨?_, ?_⟩; · (intro K hK; go_step; exact hK)) | (refine Mix.sf_skipA rfl rfl rfl rfl ?_; apply Exists.intro; refine ⟨?_, ?_⟩; · (intro K hK; go_step; exact hK)) | (refine Mix.sf_skipL rfl rfl rfl rfl ?_ hC; apply Exists.intro; refine ⟨?_, ?_⟩; · (intro K hK; go_step; exact hK); clear hC; intro wL hC))
      refine Mix.sf_A rfl rfl rfl ?_; intro K hK; go_step
      refine (himpl _ _ _ _ (hJ.sl 2 rfl) (hJ.sl 1 rfl) (hJ.sl 0 rfl)).mono ?_
      rintro e w54 ⟨ag2, cg2, yg2, rfl, hug2, hng2, hb⟩
      have Hng2 := hid hng2
      refine hK _ _ (hC.trans (hb.mono hC.size)) ?_
      replace hC := hC.trans (hb.mono hC.size)
      replace hJ := hJ.fresh hb hug2
      clear hK K hb hug2 hng2
      repeat (first | (refine Mix.sf_S rfl rfl rfl rfl rfl (Mix.valOp_spec rfl) hC ?_; apply Exists.intro; refine ⟨?_, ?_⟩; · (intro w' hC' K hK; have hk := (bcell hC').1; go_step; exact hK)) | (refine Mix.sf_skipS rfl rfl rfl rfl ?_; apply Exists.intro; refine ⟨?_, ?_⟩; · (intro K hK; go_step; exact hK)) | (refine Mix.sf_skipA rfl rfl rfl rfl ?_; apply Exists.intro; refine ⟨?_, ?_⟩; · (intro K hK; go_step; exact hK)) | (refine Mix.sf_skipL rfl rfl rfl rfl ?_ hC; apply Exists.intro; refine ⟨?_, ?_⟩; · (intro K hK; go_step; exact hK); clear hC; intro wL hC))
      have s0 := (hJ.blk 0 rfl).cell 0
      have f0 := (hJ.blk 0 rfl).frozen 0
      have s1 := (hJ.blk 0 rfl).cell 1
      have f1 := (hJ.blk 0 rfl).frozen 1
      have s2 := (hJ.blk 0 rfl).cell 2
      have f2 := (hJ.blk 0 rfl).frozen 2
      refine Mix.sf_A rfl rfl rfl ?_; intro K hK; go_step
      have hC2 : Below w48.heap.size w48 (((w54.setCell ⟨B8, 0, none⟩ (.int .i64 A)).setCell ⟨B8, 1, none⟩ (.int .i64 B)).setCell ⟨B8, 2, none⟩ (.slice ag2 L.length cg2)) := ((hC.setCell hge _).setCell hge _).setCell hge _
      refine hK _ _ hC2 ?_
      clear hK K s0 s1 s2 f0 f1 f2 hC
      have hC := hC2
      replace hJ := ((hJ.sethead hne.out 0 (.int .i64 A)).sethead hne.out 1 (.int .i64 B)).sethead hne.out 2 (.slice ag2 L.length cg2)
      repeat (first | (refine Mix.sf_S rfl rfl rfl rfl rfl (Mix.valOp_spec rfl) hC ?_; apply Exists.intro; refine ⟨?_, ?_⟩; · (intro w' hC' K hK; have hk := (bcell hC').1; go_step; exact hK)) | (refine Mix.sf_skipS rfl rfl rfl rfl ?_; apply Exists.intro; refine ⟨?_, ?_⟩; · (intro K hK; go_step; exact hK)) | (refine Mix.sf_skipA rfl rfl rfl rfl ?_; apply Exists.intro; refine ⟨?_, ?_⟩; · (intro K hK; go_step; exact hK)) | (refine Mix.sf_skipL rfl rfl rfl rfl ?_ hC; apply Exists.intro; refine ⟨?_, ?_⟩; · (intro K hK; go_step; exact hK); clear hC; intro wL hC))
      refine Mix.sf_nil ?_
      have hJ2 := hid (hJ.rowsub (.cons_cons _ (.cons _ (.cons _ (.cons _ (.cons _ (.cons _ (.cons _ (.cons_cons _ (.cons _ (.cons _ (.cons _ (.cons_cons _ .slnil)))))))))))))
      clear hJ hC hC2
      go_wp2_with fail
      go_meet
      case rel => exact ⟨B8, ag2, cg2, yg2, rfl, rfl, Hng2.out, hJ2.out⟩
    case ga =>
    intro K hK; go_step
    refine (toPicture_any _ _ _ _ rfl _ _ (hJ.arg hx0) Hx0.out).mono ?_
    rintro e w55 ⟨uc38x0, rfl, huc38x0, hb⟩
    obtain ⟨ac38x0, cc38x0, rfl, -⟩ := own_form huc38x0
    refine hK _ _ (hC.trans (hb.mono hC.size)) ?_
    replace hC := hC.trans (hb.mono hC.size)
    replace hJ := hJ.fresh hb huc38x0
    clear hK K hb huc38x0
    repeat (first | (refine Mix.pf_S rfl rfl rfl rfl rfl rfl (Mix.valOp_spec rfl) hC ?_; apply Exists.intro; refine ⟨?_, ?_⟩; · (intro w' hC' K hK; have hk := (bcell hC').1; go_step; exact hK)))
    refine Mix.pf_A rfl rfl rfl rfl ?ga rfl rfl rfl ?gf
    case gf =>
      intro K hK; go_step
      refine hK _ _ (hC.alloc hC.size _) ?_
      clear hK K
      have hne := hid hJ.box_ne
      have hge : w48.heap.size ≤ w55.heap.size := hC.size
      replace hC := hC.alloc hC.size (.cells #[.int .i64 0, .int .i64 0, .slice none 0 0] 24)
      replace hJ := hJ.alloc [.int .i64 0, .int .i64 0, .slice none 0 0] 24
      obtain ⟨B8, hB8⟩ : ∃ b, b = w55.heap.size := ⟨_, rfl⟩
      rw [← hB8] at hJ hne hge ⊢
      clear hB8
      rw [show w55.alloc (.cells [Value.int .i64 0, .int .i64 0, .slice none 0 0].toArray 24) = w55.alloc (.cells #[.int .i64 0, .int .i64 0, .slice none 0 0] 24) from rfl] at hJ
      generalize w55.alloc (.cells #[.int .i64 0, .int .i64 0, .slice none 0 0] 24) = w56 at hC hJ ⊢
      repeat (first | (refine Mix.sf_S rfl rfl rfl rfl rfl (Mix.valOp_spec rfl) hC ?_; apply Exists.intro; refine ⟨?_, ?_⟩; · (intro w' hC' K hK; have hk := (bcell hC').1; go_step; exact hK)) | (refine Mix.sf_skipS rfl rfl rfl rfl ?_; apply Exists.intro; refine ⟨?_, ?_⟩; · (intro K hK; go_step; exact hK)) | (refine Mix.sf_skipA rfl rfl rfl rfl ?_; apply Exists.intro; refine ⟨?_, ?_⟩; · (intro K hK; go_step; exact hK)) | (refine Mix.sf_skipL rfl rfl rfl rfl ?_ hC; apply Exists.intro; refine ⟨?_, ?_⟩; · (intro K hK; go_step; exact hK); clear hC; intro wL hC))
      refine Mix.sf_A rfl rfl rfl ?_; intro K hK; go_step
      refine (toPicture_any _ _ _ _ rfl _ _ (hJ.arg hx1) Hx1.out).mono ?_
      rintro e w57 ⟨uc38x1, rfl, huc38x1, hb⟩
      obtain ⟨ac38x1, cc38x1, rfl, -⟩ := own_form huc38x1
      refine hK _ _ (hC.trans (hb.mono hC.size)) ?_
      replace hC := hC.trans (hb.mono hC.size)
      replace hJ := hJ.fresh hb huc38x1
      clear hK K hb huc38x1
      repeat (first | (refine Mix.sf_S rfl rfl rfl rfl rfl (Mix.valOp_spec rfl) hC ?_; apply Exists.intro; refine ⟨?_, ?_⟩; · (intro w' hC' K hK; have hk := (bcell hC').1; go_step; exact hK)) | (refine Mix.sf_skipS rfl rfl rfl rfl ?_; apply Exists.intro; refine ⟨?_, ?_⟩; · (intro K hK; go_step; exact hK)) | (refine Mix.sf_skipA rfl rfl rfl rfl ?_; apply Exists.intro; refine ⟨?_, ?_⟩; · (intro K hK; go_step; exact hK)) | (refine Mix.sf_skipL rfl rfl rfl rfl ?_ hC; apply Exists.intro; refine ⟨?_, ?_⟩; · (intro K hK; go_step; exact hK); clear hC; intro wL hC))
      refine Mix.sf_A rfl rfl rfl ?_; intro K hK; go_step
      refine (toPicture_any _ _ _ _ rfl _ _ (hJ.arg hx2) Hx2.out).mono ?_
      rintro e w58 ⟨uc38x2, rfl, huc38x2, hb⟩
      obtain ⟨ac38x2, cc38x2, rfl, -⟩ := own_form huc38x2
      refine hK _ _ (hC.trans (hb.mono hC.size)) ?_
      replace hC := hC.trans (hb.mono hC.size)
      replace hJ := hJ.fresh hb huc38x2
      clear hK K hb huc38x2
      repeat (first | (refine Mix.sf_S rfl rfl rfl rfl rfl (Mix.valOp_spec rfl) hC ?_; apply Exists.intro; refine ⟨?_, ?_⟩; · (intro w' hC' K hK; have hk := (bcell hC').1; go_step; exact hK)) | (refine Mix.sf_skipS rfl rfl rfl rfl ?_; apply Exists.intro; refine ⟨?_, ?_⟩; · (intro K hK; go_step; exact hK)) | (refine Mix.sf_skipA rfl rfl rfl rfl ?_; apply Exists.intro; refine ⟨?_, ?_⟩; · (intro K hK; go_step; exact hK)) | (refine Mix.sf_skipL rfl rfl rfl rfl ?_ hC; apply Exists.intro; refine ⟨?_, ?_⟩; · (intro K hK; go_step; exact hK); clear hC; intro wL hC))
      refine Mix.sf_A rfl rfl rfl ?_; intro K hK; go_step
      refine (himpl _ _ _ _ (hJ.sl 2 rfl) (hJ.sl 1 rfl) (hJ.sl 0 rfl)).mono ?_
      rintro e w59 ⟨ag2, cg2, yg2, rfl, hug2, hng2, hb⟩
      have Hng2 := hid hng2
      refine hK _ _ (hC.trans (hb.mono hC.size)) ?_
      replace hC := hC.trans (hb.mono hC.size)
      replace hJ := hJ.fresh hb hug2
      clear hK K hb hug2 hng2
      repeat (first | (refine Mix.sf_S rfl rfl rfl rfl rfl (Mix.valOp_spec rfl) hC ?_; apply Exists.intro; refine ⟨?_, ?_⟩; · (intro w' hC' K hK; have hk := (bcell hC').1; go_step; exact hK)) | (refine Mix.sf_skipS rfl rfl rfl rfl ?_; apply Exists.intro; refine ⟨?_, ?_⟩; · (intro K hK; go_step; exact hK)) | (refine Mix.sf_skipA rfl rfl rfl rfl ?_; apply Exists.intro; refine ⟨?_, ?_⟩; · (intro K hK; go_step; exact hK)) | (refine Mix.sf_skipL rfl rfl rfl rfl ?_ hC; apply Exists.intro; refine ⟨?_, ?_⟩; · (intro K hK; go_step; exact hK); clear hC; intro wL hC))
      have s0 := (hJ.blk 0 rfl).cell 0
      have f0 := (hJ.blk 0 rfl).frozen 0
      have s1 := (hJ.blk 0 rfl).cell 1
      have f1 := (hJ.blk 0 rfl).frozen 1
      have s2 := (hJ.blk 0 rfl).cell 2
      have f2 := (hJ.blk 0 rfl).frozen 2
      refine Mix.sf_A rfl rfl rfl ?_; intro K hK; go_step
      have hC2 : Below w48.heap.size w48 (((w59.setCell ⟨B8, 0, none⟩ (.int .i64 A)).setCell ⟨B8, 1, none⟩ (.int .i64 B)).setCell ⟨B8, 2, none⟩ (.slice ag2 L.length cg2)) := ((hC.setCell hge _).setCell hge _).setCell hge _
      refine hK _ _ hC2 ?_
      clear hK K s0 s1 s2 f0 f1 f2 hC
      have hC := hC2
      replace hJ := ((hJ.sethead hne.out 0 (.int .i64 A)).sethead hne.out 1 (.int .i64 B)).sethead hne.out 2 (.slice ag2 L.length cg2)
      repeat (first | (refine Mix.sf_S rfl rfl rfl rfl rfl (Mix.valOp_spec rfl) hC ?_; apply Exists.intro; refine ⟨?_, ?_⟩; · (intro w' hC' K hK; have hk := (bcell hC').1; go_step; exact hK)) | (refine Mix.sf_skipS rfl rfl rfl rfl ?_; apply Exists.intro; refine ⟨?_, ?_⟩; · (intro K hK; go_step; exact hK)) | (refine Mix.sf_skipA rfl rfl rfl rfl ?_; apply Exists.intro; refine ⟨?_, ?_⟩; · (intro K hK; go_step; exact hK)) | (refine Mix.sf_skipL rfl rfl rfl rfl ?_ hC; apply Exists.intro; refine ⟨?_, ?_⟩; · (intro K hK; go_step; exact hK); clear hC; intro wL hC))
      refine Mix.sf_nil ?_
      have hJ2 := hid (hJ.rowsub (.cons_cons _ (.cons _ (.cons _ (.cons _ (.cons _ (.cons _ (.cons _ (.cons_cons _ (.cons _ (.cons _ (.cons _ (.cons_cons _ .slnil)))))))))))))
      clear hJ hC hC2
      go_wp2_with fail
      go_meet
      case rel => exact ⟨B8, ag2, cg2, yg2, rfl, rfl, Hng2.out, hJ2.out⟩
    case ga =>
    intro K hK; go_step
    refine (toPicture_any _ _ _ _ rfl _ _ (hJ.arg hx1) Hx1.out).mono ?_
    rintro e w60 ⟨uc38x1, rfl, huc38x1, hb⟩
    obtain ⟨ac38x1, cc38x1, rfl, -⟩ := own_form huc38x1
    refine hK _ _ (hC.trans (hb.mono hC.size)) ?_
    replace hC := hC.trans (hb.mono hC.size)
    replace hJ := hJ.fresh hb huc38x1
    clear hK K hb huc38x1
    repeat (first | (refine Mix.pf_S rfl rfl rfl rfl rfl rfl (Mix.valOp_spec rfl) hC ?_; apply Exists.intro; refine ⟨?_, ?_⟩; · (intro w' hC' K hK; have hk := (bcell hC').1; go_step; exact hK)))
    refine Mix.pf_A rfl rfl rfl rfl ?ga rfl rfl rfl ?gf
    case gf =>
      intro K hK; go_step
      refine hK _ _ (hC.alloc hC.size _) ?_
      clear hK K
      have hne := hid hJ.box_ne
      have hge : w48.heap.size ≤ w60.heap.size := hC.size
      replace hC := hC.alloc hC.size (.cells #[.int .i64 0, .int .i64 0, .slice none 0 0] 24)
      replace hJ := hJ.alloc [.int .i64 0, .int .i64 0, .slice none 0 0] 24
      obtain ⟨B8, hB8⟩ : ∃ b, b = w60.heap.size := ⟨_, rfl⟩
      rw [← hB8] at hJ hne hge ⊢
      clear hB8
      rw [show w60.alloc (.cells [Value.int .i64 0, .int .i64 0, .slice none 0 0].toArray 24) = w60.alloc (.cells #[.int .i64 0, .int .i64 0, .slice none 0 0] 24) from rfl] at hJ
      generalize w60.alloc (.cells #[.int .i64 0, .int .i64 0, .slice none 0 0] 24) = w61 at hC hJ ⊢
      repeat (first | (refine Mix.sf_S rfl rfl rfl rfl rfl (Mix.valOp_spec rfl) hC ?_; apply Exists.intro; refine ⟨?_, ?_⟩; · (intro w' hC' K hK; have hk := (bcell hC').1; go_step; exact hK)) | (refine Mix.sf_skipS rfl rfl rfl rfl ?_; apply Exists.intro; refine ⟨?_, ?_⟩; · (intro K hK; go_step; exact hK)) | (refine Mix.sf_skipA rfl rfl rfl rfl ?_; apply Exists.intro; refine ⟨?_, ?_⟩; · (intro K hK; go_step; exact hK)) | (refine Mix.sf_skipL rfl rfl rfl rfl ?_ hC; apply Exists.intro; refine ⟨?_, ?_⟩; · (intro K hK; go_step; exact hK); clear hC; intro wL hC))
      refine Mix.sf_A rfl rfl rfl ?_; intro K hK; go_step
      refine (toPicture_any _ _ _ _ rfl _ _ (hJ.arg hx2) Hx2.out).mono ?_
      rintro e w62 ⟨uc38x2, rfl, huc38x2, hb⟩
      obtain ⟨ac38x2, cc38x2, rfl, -⟩ := own_form huc38x2
      refine hK _ _ (hC.trans (hb.mono hC.size)) ?_
      replace hC := hC.trans (hb.mono hC.size)
      replace hJ := hJ.fresh hb huc38x2
      clear hK K hb huc38x2
      repeat (first | (refine Mix.sf_S rfl rfl rfl rfl rfl (Mix.valOp_spec rfl) hC ?_; apply Exists.intro; refine ⟨?_, ?_⟩; · (intro w' hC' K hK; have hk := (bcell hC').1; go_step; exact hK)) | (refine Mix.sf_skipS rfl rfl rfl rfl ?_; apply Exists.intro; refine ⟨?_, ?_⟩; · (intro K hK; go_step; exact hK)) | (refine Mix.sf_skipA rfl rfl rfl rfl ?_; apply Exists.intro; refine ⟨?_, ?_⟩; · (intro K hK; go_step; exact hK)) | (refine Mix.sf_skipL rfl rfl rfl rfl ?_ hC; apply Exists.intro; refine ⟨?_, ?_⟩; · (intro K hK; go_step; exact hK); clear hC; intro wL hC))
      refine Mix.sf_A rfl rfl rfl ?_; intro K hK; go_step
      refine (himpl _ _ _ _ (hJ.sl 2 rfl) (hJ.sl 1 rfl) (hJ.sl 0 rfl)).mono ?_
      rintro e w63 ⟨ag2, cg2, yg2, rfl, hug2, hng2, hb⟩
      have Hng2 := hid hng2
      refine hK _ _ (hC.trans (hb.mono hC.size)) ?_
      replace hC := hC.trans (hb.mono hC.size)
      replace hJ := hJ.fresh hb hug2
      clear hK K hb hug2 hng2
      repeat (first | (refine Mix.sf_S rfl rfl rfl rfl rfl (Mix.valOp_spec rfl) hC ?_; apply Exists.intro; refine ⟨?_, ?_⟩; · (intro w' hC' K hK; have hk := (bcell hC').1; go_step; exact hK)) | (refine Mix.sf_skipS rfl rfl rfl rfl ?_; apply Exists.intro; refine ⟨?_, ?_⟩; · (intro K hK; go_step; exact hK)) | (refine Mix.sf_skipA rfl rfl rfl rfl ?_; apply Exists.intro; refine ⟨?_, ?_⟩; · (intro K hK; go_step; exact hK)) | (refine Mix.sf_skipL rfl rfl rfl rfl ?_ hC; apply Exists.intro; refine ⟨?_, ?_⟩; · (intro K hK; go_step; exact hK); clear hC; intro wL hC))
      have s0 := (hJ.blk 0 rfl).cell 0
      have f0 := (hJ.blk 0 rfl).frozen 0
      have s1 := (hJ.blk 0 rfl).cell 1
      have f1 := (hJ.blk 0 rfl).frozen 1
      have s2 := (hJ.blk 0 rfl).cell 2
      have f2 := (hJ.blk 0 rfl).frozen 2
      refine Mix.sf_A rfl rfl rfl ?_; intro K hK; go_step
      have hC2 : Below w48.heap.size w48 (((w63.setCell ⟨B8, 0, none⟩ (.int .i64 A)).setCell ⟨B8, 1, none⟩ (.int .i64 B)).setCell ⟨B8, 2, none⟩ (.slice ag2 L.length cg2)) := ((hC.setCell hge _).setCell hge _).setCell hge _
      refine hK _ _ hC2 ?_
      clear hK K s0 s1 s2 f0 f1 f2 hC
      have hC := hC2
      replace hJ := ((hJ.sethead hne.out 0 (.int .i64 A)).sethead hne.out 1 (.int .i64 B)).sethead hne.out 2 (.slice ag2 L.length cg2)
      repeat (first | (refine Mix.sf_S rfl rfl rfl rfl rfl (Mix.valOp_spec rfl) hC ?_; apply Exists.intro; refine ⟨?_, ?_⟩; · (intro w' hC' K hK; have hk := (bcell hC').1; go_step; exact hK)) | (refine Mix.sf_skipS rfl rfl rfl rfl ?_; apply Exists.intro; refine ⟨?_, ?_⟩; · (intro K hK; go_step; exact hK)) | (refine Mix.sf_skipA rfl rfl rfl rfl ?_; apply Exists.intro; refine ⟨?_, ?_⟩; · (intro K hK; go_step; exact hK)) | (refine Mix.sf_skipL rfl rfl rfl rfl ?_ hC; apply Exists.intro; refine ⟨?_, ?_⟩; · (intro K hK; go_step; exact hK); clear hC; intro wL hC))
      refine Mix.sf_nil ?_
      have hJ2 := hid (hJ.rowsub (.cons_cons _ (.cons _ (.cons _ (.cons _ (.cons _ (.cons _ (.cons _ (.cons_cons _ (.cons _ (.cons _ (.cons _ (.cons_cons _ .slnil)))))))))))))
      clear hJ hC hC2
      go_wp2_with fail
      go_meet
      case rel => exact ⟨B8, ag2, cg2, yg2, rfl, rfl, Hng2.out, hJ2.out⟩
    case ga =>
    intro K hK; go_step
    refine (toPicture_any _ _ _ _ rfl _ _ (hJ.arg hx2) Hx2.out).mono ?_
    rintro e w64 ⟨uc38x2, rfl, huc38x2, hb⟩
    obtain ⟨ac38x2, cc38x2, rfl, -⟩ := own_form huc38x2
    refine hK _ _ (hC.trans (hb.mono hC.size)) ?_
    replace hC := hC.trans (hb.mono hC.size)
    replace hJ := hJ.fresh hb huc38x2
    clear hK K hb huc38x2
    repeat (first | (refine Mix.pf_S rfl rfl rfl rfl rfl rfl (Mix.valOp_spec rfl) hC ?_; apply Exists.intro; refine ⟨?_, ?_⟩; · (intro w' hC' K hK; have hk := (bcell hC').1; go_step; exact hK)))
    refine Mix.pf_A rfl rfl rfl rfl ?ga rfl rfl rfl ?gf
    case gf =>
      intro K hK; go_step
      refine hK _ _ (hC.alloc hC.size _) ?_
      clear hK K
      have hne := hid hJ.box_ne
      have hge : w48.heap.size ≤ w64.heap.size := hC.size
      replace hC := hC.alloc hC.size (.cells #[.int .i64 0, .int .i64 0, .slice none 0 0] 24)
      replace hJ := hJ.alloc [.int .i64 0, .int .i64 0, .slice none 0 0] 24
      obtain ⟨B8, hB8⟩ : ∃ b, b = w64.heap.size := ⟨_, rfl⟩
      rw [← hB8] at hJ hne hge ⊢
      clear hB8
      rw [show w64.alloc (.cells [Value.int .i64 0, .int .i64 0, .slice none 0 0].toArray 24) = w64.alloc (.cells #[.int .i64 0, .int .i64 0, .slice none 0 0] 24) from rfl] at hJ
      generalize w64.alloc (.cells #[.int .i64 0, .int .i64 0, .slice none 0 0] 24) = w65 at hC hJ ⊢
      repeat (first | (refine Mix.sf_S rfl rfl rfl rfl rfl (Mix.valOp_spec rfl) hC ?_; apply Exists.intro; refine ⟨?_, ?_⟩; · (intro w' hC' K hK; have hk := (bcell hC').1; go_step; exact hK)) | (refine Mix.sf_skipS rfl rfl rfl rfl ?_; apply Exists.intro; refine ⟨?_, ?_⟩; · (intro K hK; go_step; exact hK)) | (refine Mix.sf_skipA rfl rfl rfl rfl ?_; apply Exists.intro; refine ⟨?_, ?_⟩; · (intro K hK; go_step; exact hK)) | (refine Mix.sf_skipL rfl rfl rfl rfl ?_ hC; apply Exists.intro; refine ⟨?_, ?_⟩; · (intro K hK; go_step; exact hK); clear hC; intro wL hC))
      refine Mix.sf_A rfl rfl rfl ?_; intro K hK; go_step
      refine (himpl _ _ _ _ (hJ.sl 2 rfl) (hJ.sl 1 rfl) (hJ.sl 0 rfl)).mono ?_
      rintro e w66 ⟨ag2, cg2, yg2, rfl, hug2, hng2, hb⟩
      have Hng2 := hid hng2
      refine hK _ _ (hC.trans (hb.mono hC.size)) ?_
      replace hC := hC.trans (hb.mono hC.size)
      replace hJ := hJ.fresh hb hug2
      clear hK K hb hug2 hng2
      repeat (first | (refine Mix.sf_S rfl rfl rfl rfl rfl (Mix.valOp_spec rfl) hC ?_; apply Exists.intro; refine ⟨?_, ?_⟩; · (intro w' hC' K hK; have hk := (bcell hC').1; go_step; exact hK)) | (refine Mix.sf_skipS rfl rfl rfl rfl ?_; apply Exists.intro; refine ⟨?_, ?_⟩; · (intro K hK; go_step; exact hK)) | (refine Mix.sf_skipA rfl rfl rfl rfl ?_; apply Exists.intro; refine ⟨?_, ?_⟩; · (intro K hK; go_step; exact hK)) | (refine Mix.sf_skipL rfl rfl rfl rfl ?_ hC; apply Exists.intro; refine ⟨?_, ?_⟩; · (intro K hK; go_step; exact hK); clear hC; intro wL hC))
      have s0 := (hJ.blk 0 rfl).cell 0
      have f0 := (hJ.blk 0 rfl).frozen 0
      have s1 := (hJ.blk 0 rfl).cell 1
      have f1 := (hJ.blk 0 rfl).frozen 1
      have s2 := (hJ.blk 0 rfl).cell 2
      have f2 := (hJ.blk 0 rfl).frozen 2
      refine Mix.sf_A rfl rfl rfl ?_; intro K hK; go_step
      have hC2 : Below w48.heap.size w48 (((w66.setCell ⟨B8, 0, none⟩ (.int .i64 A)).setCell ⟨B8, 1, none⟩ (.int .i64 B)).setCell ⟨B8, 2, none⟩ (.slice ag2 L.length cg2)) := ((hC.setCell hge _).setCell hge _).setCell hge _
      refine hK _ _ hC2 ?_
      clear hK K s0 s1 s2 f0 f1 f2 hC
      have hC := hC2
      replace hJ := ((hJ.sethead hne.out 0 (.int .i64 A)).sethead hne.out 1 (.int .i64 B)).sethead hne.out 2 (.slice ag2 L.length cg2)
      repeat (first | (refine Mix.sf_S rfl rfl rfl rfl rfl (Mix.valOp_spec rfl) hC ?_; apply Exists.intro; refine ⟨?_, ?_⟩; · (intro w' hC' K hK; have hk := (bcell hC').1; go_step; exact hK)) | (refine Mix.sf_skipS rfl rfl rfl rfl ?_; apply Exists.intro; refine ⟨?_, ?_⟩; · (intro K hK; go_step; exact hK)) | (refine Mix.sf_skipA rfl rfl rfl rfl ?_; apply Exists.intro; refine ⟨?_, ?_⟩; · (intro K hK; go_step; exact hK)) | (refine Mix.sf_skipL rfl rfl rfl rfl ?_ hC; apply Exists.intro; refine ⟨?_, ?_⟩; · (intro K hK; go_step; exact hK); clear hC; intro wL hC))
      refine Mix.sf_nil ?_
      have hJ2 := hid (hJ.rowsub (.cons_cons _ (.cons _ (.cons _ (.cons _ (.cons _ (.cons _ (.cons _ (.cons_cons _ (.cons _ (.cons _ (.cons _ (.cons_cons _ .slnil)))))))))))))
      clear hJ hC hC2
      go_wp2_with fail
      go_meet
      case rel => exact ⟨B8, ag2, cg2, yg2, rfl, rfl, Hng2.out, hJ2.out⟩
    case ga =>
    intro K hK; go_step
    refine (himpl _ _ _ _ (hJ.sl 2 rfl) (hJ.sl 1 rfl) (hJ.sl 0 rfl)).mono ?_
    rintro e w67 ⟨ag2, cg2, yg2, rfl, hug2, hng2, hb⟩
    have Hng2 := hid hng2
    refine hK _ _ (hC.trans (hb.mono hC.size)) ?_
    replace hC := hC.trans (hb.mono hC.size)
    replace hJ := hJ.fresh hb hug2
    clear hK K hb hug2 hng2
    repeat (first | (refine Mix.pf_S rfl rfl rfl rfl rfl rfl (Mix.valOp_spec rfl) hC ?_; apply Exists.intro; refine ⟨?_, ?_⟩; · (intro w' hC' K hK; have hk := (bcell hC').1; go_step; exact hK)))
    refine Mix.pf_F rfl rfl rfl ?_
    intro K hK; go_step
    refine hK _ _ (hC.alloc hC.size _) ?_
    clear hK K
    have hne := hid hJ.box_ne
    have hge : w48.heap.size ≤ w67.heap.size := hC.size
    replace hC := hC.alloc hC.size (.cells #[.int .i64 0, .int .i64 0, .slice none 0 0] 24)
    replace hJ := hJ.alloc [.int .i64 0, .int .i64 0, .slice none 0 0] 24
    obtain ⟨B8, hB8⟩ : ∃ b, b = w67.heap.size := ⟨_, rfl⟩
    rw [← hB8] at hJ hne hge ⊢
    clear hB8
    rw [show w67.alloc (.cells [Value.int .i64 0, .int .i64 0, .slice none 0 0].toArray 24) = w67.alloc (.cells #[.int .i64 0, .int .i64 0, .slice none 0 0] 24) from rfl] at hJ
    generalize w67.alloc (.cells #[.int .i64 0, .int .i64 0, .slice none 0 0] 24) = w68 at hC hJ ⊢
    repeat (first | (refine Mix.sf_S rfl rfl rfl rfl rfl (Mix.valOp_spec rfl) hC ?_; apply Exists.intro; refine ⟨?_, ?_⟩; · (intro w' hC' K hK; have hk := (bcell hC').1; go_step; exact hK)) | (refine Mix.sf_skipS rfl rfl rfl rfl ?_; apply Exists.intro; refine ⟨?_, ?_⟩; · (intro K hK; go_step; exact hK)) | (refine Mix.sf_skipA rfl rfl rfl rfl ?_; apply Exists.intro; refine ⟨?_, ?_⟩; · (intro K hK; go_step; exact hK)) | (refine Mix.sf_skipL rfl rfl rfl rfl ?_ hC; apply Exists.intro; refine ⟨?_, ?_⟩; · (intro K hK; go_step; exact hK); clear hC; intro wL hC))
    have s0 := (hJ.blk 0 rfl).cell 0
    have f0 := (hJ.blk 0 rfl).frozen 0
    have s1 := (hJ.blk 0 rfl).cell 1
    have f1 := (hJ.blk 0 rfl).frozen 1
    have s2 := (hJ.blk 0 rfl).cell 2
    have f2 := (hJ.blk 0 rfl).frozen 2
    refine Mix.sf_A rfl rfl rfl ?_; intro K hK; go_step
    have hC2 : Below w48.heap.size w48 (((w68.setCell ⟨B8, 0, none⟩ (.int .i64 A)).setCell ⟨B8, 1, none⟩ (.int .i64 B)).setCell ⟨B8, 2, none⟩ (.slice ag2 L.length cg2)) := ((hC.setCell hge _).setCell hge _).setCell hge _
    refine hK _ _ hC2 ?_
    clear hK K s0 s1 s2 f0 f1 f2 hC
    have hC := hC2
    replace hJ := ((hJ.sethead hne.out 0 (.int .i64 A)).sethead hne.out 1 (.int .i64 B)).sethead hne.out 2 (.slice ag2 L.length cg2)
    repeat (first | (refine Mix.sf_S rfl rfl rfl rfl rfl (Mix.valOp_spec rfl) hC ?_; apply Exists.intro; refine ⟨?_, ?_⟩; · (intro w' hC' K hK; have hk := (bcell hC').1; go_step; exact hK)) | (refine Mix.sf_skipS rfl rfl rfl rfl ?_; apply Exists.intro; refine ⟨?_, ?_⟩; · (intro K hK; go_step; exact hK)) | (refine Mix.sf_skipA rfl rfl rfl rfl ?_; apply Exists.intro; refine ⟨?_, ?_⟩; · (intro K hK; go_step; exact hK)) | (refine Mix.sf_skipL rfl rfl rfl rfl ?_ hC; apply Exists.intro; refine ⟨?_, ?_⟩; · (intro K hK; go_step; exact hK); clear hC; intro wL hC))
    refine Mix.sf_nil ?_
    have hJ2 := hid (hJ.rowsub (.cons_cons _ (.cons _ (.cons _ (.cons _ (.cons _ (.cons _ (.cons _ (.cons_cons _ (.cons _ (.cons _ (.cons _ (.cons_cons _ .slnil)))))))))))))
    clear hJ hC hC2
    go_wp2_with fail
    go_meet
    case rel => exact ⟨B8, ag2, cg2, yg2, rfl, rfl, Hng2.out, hJ2.out⟩
  case rest =>
  clear hI r00 r01 r02 lt0 r10 r11 r12 lt1 r20 r21 r22 lt2
  obtain ⟨B8, ag2, cg2, yg2, rfl, rfl, hng2, hI⟩ := hcut
  generalize wc = w69 at hI ⊢
  have Hyg2 := hid (show yg2.length ≤ 1048576 from by rw [nl_len hng2]; exact hL)
  have Hng2 := hid hng2
  clear hng2
  have r00 := (hI.blk 0 rfl).cell 0
  have r01 := (hI.blk 0 rfl).cell 1
  have r02 := (hI.blk 0 rfl).cell 2
  have lt0 := (hI.blk 0 rfl).lt
  have r10 := (hI.blk 5 rfl).cell 0
  have r11 := (hI.blk 5 rfl).cell 1
  have r12 := (hI.blk 5 rfl).cell 2
  have lt1 := (hI.blk 5 rfl).lt
  go_wp2_with fail
  clear r00 r01 r02 lt0 r10 r11 r12 lt1
  refine (eqPicture_yes _ _ _ _ _ _ _ (hI.sl 0 rfl) (hI.sl 2 rfl) (by have := Hyg2.out; omega) (Hng2.out.trans Hng0.out.symm)).mono ?_
  rintro e w70 ⟨rfl, hb⟩
  replace hI := hI.call hb
  clear hb
  have r00 := (hI.blk 1 rfl).cell 0
  have r01 := (hI.blk 1 rfl).cell 1
  have r02 := (hI.blk 1 rfl).cell 2
  have lt0 := (hI.blk 1 rfl).lt
  go_wp2_with fail
  clear r00 r01 r02 lt0
  refine (heldPicture_any _ _ _ _ _ _ (hI.sl 1 rfl) (by have := Hx0.out; have := Hx1.out; have := Hx2.out; have := Hyg0.out; have := Hyg1.out; have := Hyg2.out; first | omega | (simp; done) | (simp; omega)) (by have := Hx0.out; have := Hx1.out; have := Hx2.out; have := Hyg0.out; have := Hyg1.out; have := Hyg2.out; first | omega | (simp; done) | (simp; omega))).mono ?_
  rintro e w71 ⟨rfl, hb⟩
  replace hI := hI.call hb
  clear hb
  go_wp2
  go_ret
  exact ⟨rfl, hI.below⟩

end Go.Proofs.Ytjennldpjfeppaa
