/-
  For all arguments the program's SameDesk answers as the reference's, and leaves its arguments alone.
  Conditions: the desks read; lengths and words fit.
-/
import Derived.Test.YtggbdmgonobefaaA44
import Derived.Test.YtggbdmgonobefaaA45
import Derived.Test.YtggbdmgonobefaaDkF
namespace Go.Proofs.Ytggbdmgonobefaa
open Go.RowKit
set_option linter.unusedVariables false
set_option linter.unusedSimpArgs false

set_option maxHeartbeats 16000000 in
set_option maxRecDepth 100000 in
theorem lawSameDesk_any (d0 : DkD) (v0 : Value) (d1 : DkD) (v1 : Value) (w : World) (h0 : DkV w v0 d0) (f0 : d0.ok) (h1 : DkV w v1 d1) (f1 : d1.ok) :
    Calls Try.prog 3 #[v0, v1] w fun e w' => e = .returned (.bool true) ∧ Below w.heap.size w w' := by
  have H0 := hid h0
  have F0 := hid f0
  obtain ⟨a0a1, c0a1, a0a2, c0a2, a0a3, c0a3, a0a4, c0a4, rfl⟩ := h0.form
  clear h0 f0
  have H1 := hid h1
  have F1 := hid f1
  obtain ⟨a1a1, c1a1, a1a2, c1a2, a1a3, c1a3, a1a4, c1a4, rfl⟩ := h1.form
  clear h1 f1
  have hI := Inv.start w
  replace hI := hI.alloc [.int .i64 d0.W, .int .i64 d0.H, .slice a0a1 d0.xs.length c0a1, .slice a0a2 d0.cx.length c0a2, .slice a0a3 d0.cy.length c0a3, .slice a0a4 d0.ps.length c0a4] 29
  replace hI := hI.alloc [.int .i64 d1.W, .int .i64 d1.H, .slice a1a1 d1.xs.length c1a1, .slice a1a2 d1.cx.length c1a2, .slice a1a3 d1.cy.length c1a3, .slice a1a4 d1.ps.length c1a4] 29
  obtain ⟨b0, hb0⟩ : ∃ b, b = w.heap.size := ⟨_, rfl⟩
  obtain ⟨b1, hb1⟩ : ∃ b, b = w.heap.size + 1 := ⟨_, rfl⟩
  simp only [size_alloc1] at hI
  have r00 := (hI.blk 1 rfl).cell 0
  have r01 := (hI.blk 1 rfl).cell 1
  have r02 := (hI.blk 1 rfl).cell 2
  have r03 := (hI.blk 1 rfl).cell 3
  have r04 := (hI.blk 1 rfl).cell 4
  have r05 := (hI.blk 1 rfl).cell 5
  have r0l := (hI.blk 1 rfl).lt
  go_enter Try.func3, Try.ntmps3
  go_wp2_with fail
  clear r00 r01 r02 r03 r04 r05 r0l
  generalize ((w.alloc (.cells #[.int .i64 d0.W, .int .i64 d0.H, .slice a0a1 d0.xs.length c0a1, .slice a0a2 d0.cx.length c0a2, .slice a0a3 d0.cy.length c0a3, .slice a0a4 d0.ps.length c0a4] 29)).alloc (.cells #[.int .i64 d1.W, .int .i64 d1.H, .slice a1a1 d1.xs.length c1a1, .slice a1a2 d1.cx.length c1a2, .slice a1a3 d1.cy.length c1a3, .slice a1a4 d1.ps.length c1a4] 29)) = w0 at hI ⊢
  rw [← hb1] at hI ⊢
  have Hb1 := hid hb1
  clear hb1
  rw [← hb0] at hI ⊢
  have Hb0 := hid hb0
  clear hb0
  refine (szDesk_any _ d0 1048576 _ (H0.out.mono hI.below) F0.out (by omega) (by omega)).mono ?_
  rintro e w1 ⟨rfl, hb⟩
  replace hI := hI.call hb
  clear hb
  obtain ⟨l0, hl0⟩ : ∃ l, l = szDk 1048576 d0 := ⟨_, rfl⟩
  rw [← hl0]
  by_cases hn0 : l0 < 0
  · clear hl0
    go_wp2
    go_ret
    exact ⟨rfl, hI.below⟩
  obtain ⟨g0, hs0⟩ := szDk_le (left := 1048576) (d := d0) (by omega) (by omega) (by rw [← hl0]; exact hn0)
  rw [← hl0] at g0
  have S0 := hid hs0
  clear hl0 hs0
  have r00 := (hI.blk 0 rfl).cell 0
  have r01 := (hI.blk 0 rfl).cell 1
  have r02 := (hI.blk 0 rfl).cell 2
  have r03 := (hI.blk 0 rfl).cell 3
  have r04 := (hI.blk 0 rfl).cell 4
  have r05 := (hI.blk 0 rfl).cell 5
  have r0l := (hI.blk 0 rfl).lt
  go_wp2_with fail
  clear r00 r01 r02 r03 r04 r05 r0l
  refine (szDesk_any _ d1 l0 _ (H1.out.mono hI.below) F1.out (by omega) (by omega)).mono ?_
  rintro e w2 ⟨rfl, hb⟩
  replace hI := hI.call hb
  clear hb
  obtain ⟨l1, hl1⟩ : ∃ l, l = szDk l0 d1 := ⟨_, rfl⟩
  rw [← hl1]
  by_cases hn1 : l1 < 0
  · clear hl1
    go_wp2
    go_ret
    exact ⟨rfl, hI.below⟩
  obtain ⟨g1, hs1⟩ := szDk_le (left := l0) (d := d1) (by omega) (by omega) (by rw [← hl1]; exact hn1)
  rw [← hl1] at g1
  have S1 := hid hs1
  clear hl1 hs1
  have r00 := (hI.blk 1 rfl).cell 0
  have r01 := (hI.blk 1 rfl).cell 1
  have r02 := (hI.blk 1 rfl).cell 2
  have r03 := (hI.blk 1 rfl).cell 3
  have r04 := (hI.blk 1 rfl).cell 4
  have r05 := (hI.blk 1 rfl).cell 5
  have r0l := (hI.blk 1 rfl).lt
  have r10 := (hI.blk 0 rfl).cell 0
  have r11 := (hI.blk 0 rfl).cell 1
  have r12 := (hI.blk 0 rfl).cell 2
  have r13 := (hI.blk 0 rfl).cell 3
  have r14 := (hI.blk 0 rfl).cell 4
  have r15 := (hI.blk 0 rfl).cell 5
  have r1l := (hI.blk 0 rfl).lt
  go_wp2
  refine Mix.wp_mix [.S, .A, .S, .A, .A, .S] [0, 2, 1, 3, 4, 5] (Below w2.heap.size w2) (by kernel_rfl) (by kernel_rfl) ((Below.refl _ _).drew) ?_
  have hC : Below w2.heap.size w2 w2.drew := (Below.refl _ _).drew
  have hJ := hI.call hC
  generalize w2.drew = w3 at hC hJ ⊢
  repeat (first | (refine Mix.sf_S rfl rfl rfl rfl rfl (Mix.valOp_spec rfl) hC ?_; apply Exists.intro; refine ⟨?_, ?_⟩; · (intro w' hC' K hK; have hk := (bcell hC').1; go_step; exact hK)) | (refine Mix.sf_skipS rfl rfl rfl rfl ?_; apply Exists.intro; refine ⟨?_, ?_⟩; · (intro K hK; go_step; exact hK)) | (refine Mix.sf_skipA rfl rfl rfl rfl ?_; apply Exists.intro; refine ⟨?_, ?_⟩; · (intro K hK; go_step; exact hK)) | (refine Mix.sf_skipL rfl rfl rfl rfl ?_ hC; apply Exists.intro; refine ⟨?_, ?_⟩; · (intro K hK; go_step; exact hK); clear hC; intro wL hC))
  refine Mix.sf_A rfl rfl rfl ?_; intro K hK; go_step
  refine (toDesk_any _ d0 _ (H0.out.mono hJ.below) S0.out).mono ?_
  rintro e w4 ⟨u0, rfl, ho⟩
  have hb := ho.below
  obtain ⟨a0s1, c0s1, a0s2, c0s2, a0s3, c0s3, a0s4, c0s4, rfl⟩ := ho.reads.form
  have E0 := hid ho.reads
  refine hK _ _ (hC.trans (hb.mono hC.size)) ?_
  replace hC := hC.trans (hb.mono hC.size)
  replace hJ := hJ.call hb
  clear hK K hb ho
  repeat (first | (refine Mix.sf_S rfl rfl rfl rfl rfl (Mix.valOp_spec rfl) hC ?_; apply Exists.intro; refine ⟨?_, ?_⟩; · (intro w' hC' K hK; have hk := (bcell hC').1; go_step; exact hK)) | (refine Mix.sf_skipS rfl rfl rfl rfl ?_; apply Exists.intro; refine ⟨?_, ?_⟩; · (intro K hK; go_step; exact hK)) | (refine Mix.sf_skipA rfl rfl rfl rfl ?_; apply Exists.intro; refine ⟨?_, ?_⟩; · (intro K hK; go_step; exact hK)) | (refine Mix.sf_skipL rfl rfl rfl rfl ?_ hC; apply Exists.intro; refine ⟨?_, ?_⟩; · (intro K hK; go_step; exact hK); clear hC; intro wL hC))
  refine Mix.sf_A rfl rfl rfl ?_; intro K hK; go_step
  refine (toDesk_any _ d1 _ (H1.out.mono hJ.below) S1.out).mono ?_
  rintro e w5 ⟨u1, rfl, ho⟩
  have hb := ho.below
  obtain ⟨a1s1, c1s1, a1s2, c1s2, a1s3, c1s3, a1s4, c1s4, rfl⟩ := ho.reads.form
  have E1 := hid ho.reads
  have E0 := hid (E0.out.mono hb)
  refine hK _ _ (hC.trans (hb.mono hC.size)) ?_
  replace hC := hC.trans (hb.mono hC.size)
  replace hJ := hJ.call hb
  clear hK K hb ho
  repeat (first | (refine Mix.sf_S rfl rfl rfl rfl rfl (Mix.valOp_spec rfl) hC ?_; apply Exists.intro; refine ⟨?_, ?_⟩; · (intro w' hC' K hK; have hk := (bcell hC').1; go_step; exact hK)) | (refine Mix.sf_skipS rfl rfl rfl rfl ?_; apply Exists.intro; refine ⟨?_, ?_⟩; · (intro K hK; go_step; exact hK)) | (refine Mix.sf_skipA rfl rfl rfl rfl ?_; apply Exists.intro; refine ⟨?_, ?_⟩; · (intro K hK; go_step; exact hK)) | (refine Mix.sf_skipL rfl rfl rfl rfl ?_ hC; apply Exists.intro; refine ⟨?_, ?_⟩; · (intro K hK; go_step; exact hK); clear hC; intro wL hC))
  refine Mix.sf_A rfl rfl rfl ?_; intro K hK; go_step
  refine (specSameDesk_any d0 d1 _ _ _ E0.out E1.out F0.out F1.out).mono ?_
  rintro e w6 ⟨rfl, hb⟩
  refine hK _ _ (hC.trans (hb.mono hC.size)) ?_
  replace hC := hC.trans (hb.mono hC.size)
  replace hJ := hJ.call hb
  clear hK K hb
  repeat (first | (refine Mix.sf_S rfl rfl rfl rfl rfl (Mix.valOp_spec rfl) hC ?_; apply Exists.intro; refine ⟨?_, ?_⟩; · (intro w' hC' K hK; have hk := (bcell hC').1; go_step; exact hK)) | (refine Mix.sf_skipS rfl rfl rfl rfl ?_; apply Exists.intro; refine ⟨?_, ?_⟩; · (intro K hK; go_step; exact hK)) | (refine Mix.sf_skipA rfl rfl rfl rfl ?_; apply Exists.intro; refine ⟨?_, ?_⟩; · (intro K hK; go_step; exact hK)) | (refine Mix.sf_skipL rfl rfl rfl rfl ?_ hC; apply Exists.intro; refine ⟨?_, ?_⟩; · (intro K hK; go_step; exact hK); clear hC; intro wL hC))
  refine Mix.sf_nil ?_
  clear r00 r01 r02 r03 r04 r05 r0l r10 r11 r12 r13 r14 r15 r1l
  replace hI := hJ
  clear hJ hC E0 E1
  obtain ⟨R, hR⟩ : ∃ R, R = sameD d0 d1 := ⟨_, rfl⟩
  have HR := hid hR
  rw [← hR]
  clear hR
  have r00 := (hI.blk 1 rfl).cell 0
  have r01 := (hI.blk 1 rfl).cell 1
  have r02 := (hI.blk 1 rfl).cell 2
  have r03 := (hI.blk 1 rfl).cell 3
  have r04 := (hI.blk 1 rfl).cell 4
  have r05 := (hI.blk 1 rfl).cell 5
  have r0l := (hI.blk 1 rfl).lt
  go_wp2_with fail
  clear r00 r01 r02 r03 r04 r05 r0l
  refine (toDesk_any _ d0 _ (H0.out.mono hI.below) S0.out).mono ?_
  rintro e w7 ⟨u0, rfl, ho⟩
  have hb := ho.below
  obtain ⟨a0x1, c0x1, a0x2, c0x2, a0x3, c0x3, a0x4, c0x4, rfl⟩ := ho.reads.form
  have X0 := hid ho.reads
  replace hI := hI.call hb
  clear hb ho
  replace hI := hI.alloc [.int .i64 d0.W, .int .i64 d0.H, .slice a0x1 d0.xs.length c0x1, .slice a0x2 d0.cx.length c0x2, .slice a0x3 d0.cy.length c0x3, .slice a0x4 d0.ps.length c0x4] 36
  have hb : Below w7.heap.size w7 (w7.alloc (.cells #[.int .i64 d0.W, .int .i64 d0.H, .slice a0x1 d0.xs.length c0x1, .slice a0x2 d0.cx.length c0x2, .slice a0x3 d0.cy.length c0x3, .slice a0x4 d0.ps.length c0x4] 36)) := (Below.refl _ _).alloc (Nat.le_refl _) _
  have X0 := hid (X0.out.mono hb)
  clear hb
  have r00 := (hI.blk 1 rfl).cell 0
  have r01 := (hI.blk 1 rfl).cell 1
  have r02 := (hI.blk 1 rfl).cell 2
  have r03 := (hI.blk 1 rfl).cell 3
  have r04 := (hI.blk 1 rfl).cell 4
  have r05 := (hI.blk 1 rfl).cell 5
  have r0l := (hI.blk 1 rfl).lt
  go_wp2_with fail
  obtain ⟨xb0, hx0⟩ : ∃ b, b = w7.heap.size := ⟨_, rfl⟩
  rw [← hx0] at hI ⊢
  try rw [← hx0] at r00
  try rw [← hx0] at r01
  try rw [← hx0] at r02
  try rw [← hx0] at r03
  try rw [← hx0] at r04
  try rw [← hx0] at r05
  try rw [← hx0] at r0l
  clear hx0
  rw [show w7.alloc (.cells [Value.int .i64 d0.W, .int .i64 d0.H, .slice a0x1 d0.xs.length c0x1, .slice a0x2 d0.cx.length c0x2, .slice a0x3 d0.cy.length c0x3, .slice a0x4 d0.ps.length c0x4].toArray 36) = w7.alloc (.cells #[.int .i64 d0.W, .int .i64 d0.H, .slice a0x1 d0.xs.length c0x1, .slice a0x2 d0.cx.length c0x2, .slice a0x3 d0.cy.length c0x3, .slice a0x4 d0.ps.length c0x4] 36) from rfl] at hI
  try rw [show w7.alloc (.cells [Value.int .i64 d0.W, .int .i64 d0.H, .slice a0x1 d0.xs.length c0x1, .slice a0x2 d0.cx.length c0x2, .slice a0x3 d0.cy.length c0x3, .slice a0x4 d0.ps.length c0x4].toArray 36) = w7.alloc (.cells #[.int .i64 d0.W, .int .i64 d0.H, .slice a0x1 d0.xs.length c0x1, .slice a0x2 d0.cx.length c0x2, .slice a0x3 d0.cy.length c0x3, .slice a0x4 d0.ps.length c0x4] 36) from rfl] at r00
  try rw [show w7.alloc (.cells [Value.int .i64 d0.W, .int .i64 d0.H, .slice a0x1 d0.xs.length c0x1, .slice a0x2 d0.cx.length c0x2, .slice a0x3 d0.cy.length c0x3, .slice a0x4 d0.ps.length c0x4].toArray 36) = w7.alloc (.cells #[.int .i64 d0.W, .int .i64 d0.H, .slice a0x1 d0.xs.length c0x1, .slice a0x2 d0.cx.length c0x2, .slice a0x3 d0.cy.length c0x3, .slice a0x4 d0.ps.length c0x4] 36) from rfl] at r01
  try rw [show w7.alloc (.cells [Value.int .i64 d0.W, .int .i64 d0.H, .slice a0x1 d0.xs.length c0x1, .slice a0x2 d0.cx.length c0x2, .slice a0x3 d0.cy.length c0x3, .slice a0x4 d0.ps.length c0x4].toArray 36) = w7.alloc (.cells #[.int .i64 d0.W, .int .i64 d0.H, .slice a0x1 d0.xs.length c0x1, .slice a0x2 d0.cx.length c0x2, .slice a0x3 d0.cy.length c0x3, .slice a0x4 d0.ps.length c0x4] 36) from rfl] at r02
  try rw [show w7.alloc (.cells [Value.int .i64 d0.W, .int .i64 d0.H, .slice a0x1 d0.xs.length c0x1, .slice a0x2 d0.cx.length c0x2, .slice a0x3 d0.cy.length c0x3, .slice a0x4 d0.ps.length c0x4].toArray 36) = w7.alloc (.cells #[.int .i64 d0.W, .int .i64 d0.H, .slice a0x1 d0.xs.length c0x1, .slice a0x2 d0.cx.length c0x2, .slice a0x3 d0.cy.length c0x3, .slice a0x4 d0.ps.length c0x4] 36) from rfl] at r03
  try rw [show w7.alloc (.cells [Value.int .i64 d0.W, .int .i64 d0.H, .slice a0x1 d0.xs.length c0x1, .slice a0x2 d0.cx.length c0x2, .slice a0x3 d0.cy.length c0x3, .slice a0x4 d0.ps.length c0x4].toArray 36) = w7.alloc (.cells #[.int .i64 d0.W, .int .i64 d0.H, .slice a0x1 d0.xs.length c0x1, .slice a0x2 d0.cx.length c0x2, .slice a0x3 d0.cy.length c0x3, .slice a0x4 d0.ps.length c0x4] 36) from rfl] at r04
  try rw [show w7.alloc (.cells [Value.int .i64 d0.W, .int .i64 d0.H, .slice a0x1 d0.xs.length c0x1, .slice a0x2 d0.cx.length c0x2, .slice a0x3 d0.cy.length c0x3, .slice a0x4 d0.ps.length c0x4].toArray 36) = w7.alloc (.cells #[.int .i64 d0.W, .int .i64 d0.H, .slice a0x1 d0.xs.length c0x1, .slice a0x2 d0.cx.length c0x2, .slice a0x3 d0.cy.length c0x3, .slice a0x4 d0.ps.length c0x4] 36) from rfl] at r05
  try rw [show w7.alloc (.cells [Value.int .i64 d0.W, .int .i64 d0.H, .slice a0x1 d0.xs.length c0x1, .slice a0x2 d0.cx.length c0x2, .slice a0x3 d0.cy.length c0x3, .slice a0x4 d0.ps.length c0x4].toArray 36) = w7.alloc (.cells #[.int .i64 d0.W, .int .i64 d0.H, .slice a0x1 d0.xs.length c0x1, .slice a0x2 d0.cx.length c0x2, .slice a0x3 d0.cy.length c0x3, .slice a0x4 d0.ps.length c0x4] 36) from rfl] at r0l
  generalize w7.alloc (.cells #[.int .i64 d0.W, .int .i64 d0.H, .slice a0x1 d0.xs.length c0x1, .slice a0x2 d0.cx.length c0x2, .slice a0x3 d0.cy.length c0x3, .slice a0x4 d0.ps.length c0x4] 36) = w8 at hI r00 r01 r02 r03 r04 r05 r0l X0 ⊢
  clear r00 r01 r02 r03 r04 r05 r0l
  refine (toDesk_any _ d1 _ (H1.out.mono hI.below) S1.out).mono ?_
  rintro e w9 ⟨u1, rfl, ho⟩
  have hb := ho.below
  obtain ⟨a1x1, c1x1, a1x2, c1x2, a1x3, c1x3, a1x4, c1x4, rfl⟩ := ho.reads.form
  have X1 := hid ho.reads
  have X0 := hid (X0.out.mono hb)
  replace hI := hI.call hb
  clear hb ho
  replace hI := hI.alloc [.int .i64 d1.W, .int .i64 d1.H, .slice a1x1 d1.xs.length c1x1, .slice a1x2 d1.cx.length c1x2, .slice a1x3 d1.cy.length c1x3, .slice a1x4 d1.ps.length c1x4] 36
  have hb : Below w9.heap.size w9 (w9.alloc (.cells #[.int .i64 d1.W, .int .i64 d1.H, .slice a1x1 d1.xs.length c1x1, .slice a1x2 d1.cx.length c1x2, .slice a1x3 d1.cy.length c1x3, .slice a1x4 d1.ps.length c1x4] 36)) := (Below.refl _ _).alloc (Nat.le_refl _) _
  have X0 := hid (X0.out.mono hb)
  have X1 := hid (X1.out.mono hb)
  clear hb
  have r00 := (hI.blk 1 rfl).cell 0
  have r01 := (hI.blk 1 rfl).cell 1
  have r02 := (hI.blk 1 rfl).cell 2
  have r03 := (hI.blk 1 rfl).cell 3
  have r04 := (hI.blk 1 rfl).cell 4
  have r05 := (hI.blk 1 rfl).cell 5
  have r0l := (hI.blk 1 rfl).lt
  have r10 := (hI.blk 0 rfl).cell 0
  have r11 := (hI.blk 0 rfl).cell 1
  have r12 := (hI.blk 0 rfl).cell 2
  have r13 := (hI.blk 0 rfl).cell 3
  have r14 := (hI.blk 0 rfl).cell 4
  have r15 := (hI.blk 0 rfl).cell 5
  have r1l := (hI.blk 0 rfl).lt
  go_wp2_with fail
  obtain ⟨xb1, hx1⟩ : ∃ b, b = w9.heap.size := ⟨_, rfl⟩
  rw [← hx1] at hI ⊢
  try rw [← hx1] at r00
  try rw [← hx1] at r01
  try rw [← hx1] at r02
  try rw [← hx1] at r03
  try rw [← hx1] at r04
  try rw [← hx1] at r05
  try rw [← hx1] at r0l
  try rw [← hx1] at r10
  try rw [← hx1] at r11
  try rw [← hx1] at r12
  try rw [← hx1] at r13
  try rw [← hx1] at r14
  try rw [← hx1] at r15
  try rw [← hx1] at r1l
  clear hx1
  rw [show w9.alloc (.cells [Value.int .i64 d1.W, .int .i64 d1.H, .slice a1x1 d1.xs.length c1x1, .slice a1x2 d1.cx.length c1x2, .slice a1x3 d1.cy.length c1x3, .slice a1x4 d1.ps.length c1x4].toArray 36) = w9.alloc (.cells #[.int .i64 d1.W, .int .i64 d1.H, .slice a1x1 d1.xs.length c1x1, .slice a1x2 d1.cx.length c1x2, .slice a1x3 d1.cy.length c1x3, .slice a1x4 d1.ps.length c1x4] 36) from rfl] at hI
  try rw [show w9.alloc (.cells [Value.int .i64 d1.W, .int .i64 d1.H, .slice a1x1 d1.xs.length c1x1, .slice a1x2 d1.cx.length c1x2, .slice a1x3 d1.cy.length c1x3, .slice a1x4 d1.ps.length c1x4].toArray 36) = w9.alloc (.cells #[.int .i64 d1.W, .int .i64 d1.H, .slice a1x1 d1.xs.length c1x1, .slice a1x2 d1.cx.length c1x2, .slice a1x3 d1.cy.length c1x3, .slice a1x4 d1.ps.length c1x4] 36) from rfl] at r00
  try rw [show w9.alloc (.cells [Value.int .i64 d1.W, .int .i64 d1.H, .slice a1x1 d1.xs.length c1x1, .slice a1x2 d1.cx.length c1x2, .slice a1x3 d1.cy.length c1x3, .slice a1x4 d1.ps.length c1x4].toArray 36) = w9.alloc (.cells #[.int .i64 d1.W, .int .i64 d1.H, .slice a1x1 d1.xs.length c1x1, .slice a1x2 d1.cx.length c1x2, .slice a1x3 d1.cy.length c1x3, .slice a1x4 d1.ps.length c1x4] 36) from rfl] at r01
  try rw [show w9.alloc (.cells [Value.int .i64 d1.W, .int .i64 d1.H, .slice a1x1 d1.xs.length c1x1, .slice a1x2 d1.cx.length c1x2, .slice a1x3 d1.cy.length c1x3, .slice a1x4 d1.ps.length c1x4].toArray 36) = w9.alloc (.cells #[.int .i64 d1.W, .int .i64 d1.H, .slice a1x1 d1.xs.length c1x1, .slice a1x2 d1.cx.length c1x2, .slice a1x3 d1.cy.length c1x3, .slice a1x4 d1.ps.length c1x4] 36) from rfl] at r02
  try rw [show w9.alloc (.cells [Value.int .i64 d1.W, .int .i64 d1.H, .slice a1x1 d1.xs.length c1x1, .slice a1x2 d1.cx.length c1x2, .slice a1x3 d1.cy.length c1x3, .slice a1x4 d1.ps.length c1x4].toArray 36) = w9.alloc (.cells #[.int .i64 d1.W, .int .i64 d1.H, .slice a1x1 d1.xs.length c1x1, .slice a1x2 d1.cx.length c1x2, .slice a1x3 d1.cy.length c1x3, .slice a1x4 d1.ps.length c1x4] 36) from rfl] at r03
  try rw [show w9.alloc (.cells [Value.int .i64 d1.W, .int .i64 d1.H, .slice a1x1 d1.xs.length c1x1, .slice a1x2 d1.cx.length c1x2, .slice a1x3 d1.cy.length c1x3, .slice a1x4 d1.ps.length c1x4].toArray 36) = w9.alloc (.cells #[.int .i64 d1.W, .int .i64 d1.H, .slice a1x1 d1.xs.length c1x1, .slice a1x2 d1.cx.length c1x2, .slice a1x3 d1.cy.length c1x3, .slice a1x4 d1.ps.length c1x4] 36) from rfl] at r04
  try rw [show w9.alloc (.cells [Value.int .i64 d1.W, .int .i64 d1.H, .slice a1x1 d1.xs.length c1x1, .slice a1x2 d1.cx.length c1x2, .slice a1x3 d1.cy.length c1x3, .slice a1x4 d1.ps.length c1x4].toArray 36) = w9.alloc (.cells #[.int .i64 d1.W, .int .i64 d1.H, .slice a1x1 d1.xs.length c1x1, .slice a1x2 d1.cx.length c1x2, .slice a1x3 d1.cy.length c1x3, .slice a1x4 d1.ps.length c1x4] 36) from rfl] at r05
  try rw [show w9.alloc (.cells [Value.int .i64 d1.W, .int .i64 d1.H, .slice a1x1 d1.xs.length c1x1, .slice a1x2 d1.cx.length c1x2, .slice a1x3 d1.cy.length c1x3, .slice a1x4 d1.ps.length c1x4].toArray 36) = w9.alloc (.cells #[.int .i64 d1.W, .int .i64 d1.H, .slice a1x1 d1.xs.length c1x1, .slice a1x2 d1.cx.length c1x2, .slice a1x3 d1.cy.length c1x3, .slice a1x4 d1.ps.length c1x4] 36) from rfl] at r0l
  try rw [show w9.alloc (.cells [Value.int .i64 d1.W, .int .i64 d1.H, .slice a1x1 d1.xs.length c1x1, .slice a1x2 d1.cx.length c1x2, .slice a1x3 d1.cy.length c1x3, .slice a1x4 d1.ps.length c1x4].toArray 36) = w9.alloc (.cells #[.int .i64 d1.W, .int .i64 d1.H, .slice a1x1 d1.xs.length c1x1, .slice a1x2 d1.cx.length c1x2, .slice a1x3 d1.cy.length c1x3, .slice a1x4 d1.ps.length c1x4] 36) from rfl] at r10
  try rw [show w9.alloc (.cells [Value.int .i64 d1.W, .int .i64 d1.H, .slice a1x1 d1.xs.length c1x1, .slice a1x2 d1.cx.length c1x2, .slice a1x3 d1.cy.length c1x3, .slice a1x4 d1.ps.length c1x4].toArray 36) = w9.alloc (.cells #[.int .i64 d1.W, .int .i64 d1.H, .slice a1x1 d1.xs.length c1x1, .slice a1x2 d1.cx.length c1x2, .slice a1x3 d1.cy.length c1x3, .slice a1x4 d1.ps.length c1x4] 36) from rfl] at r11
  try rw [show w9.alloc (.cells [Value.int .i64 d1.W, .int .i64 d1.H, .slice a1x1 d1.xs.length c1x1, .slice a1x2 d1.cx.length c1x2, .slice a1x3 d1.cy.length c1x3, .slice a1x4 d1.ps.length c1x4].toArray 36) = w9.alloc (.cells #[.int .i64 d1.W, .int .i64 d1.H, .slice a1x1 d1.xs.length c1x1, .slice a1x2 d1.cx.length c1x2, .slice a1x3 d1.cy.length c1x3, .slice a1x4 d1.ps.length c1x4] 36) from rfl] at r12
  try rw [show w9.alloc (.cells [Value.int .i64 d1.W, .int .i64 d1.H, .slice a1x1 d1.xs.length c1x1, .slice a1x2 d1.cx.length c1x2, .slice a1x3 d1.cy.length c1x3, .slice a1x4 d1.ps.length c1x4].toArray 36) = w9.alloc (.cells #[.int .i64 d1.W, .int .i64 d1.H, .slice a1x1 d1.xs.length c1x1, .slice a1x2 d1.cx.length c1x2, .slice a1x3 d1.cy.length c1x3, .slice a1x4 d1.ps.length c1x4] 36) from rfl] at r13
  try rw [show w9.alloc (.cells [Value.int .i64 d1.W, .int .i64 d1.H, .slice a1x1 d1.xs.length c1x1, .slice a1x2 d1.cx.length c1x2, .slice a1x3 d1.cy.length c1x3, .slice a1x4 d1.ps.length c1x4].toArray 36) = w9.alloc (.cells #[.int .i64 d1.W, .int .i64 d1.H, .slice a1x1 d1.xs.length c1x1, .slice a1x2 d1.cx.length c1x2, .slice a1x3 d1.cy.length c1x3, .slice a1x4 d1.ps.length c1x4] 36) from rfl] at r14
  try rw [show w9.alloc (.cells [Value.int .i64 d1.W, .int .i64 d1.H, .slice a1x1 d1.xs.length c1x1, .slice a1x2 d1.cx.length c1x2, .slice a1x3 d1.cy.length c1x3, .slice a1x4 d1.ps.length c1x4].toArray 36) = w9.alloc (.cells #[.int .i64 d1.W, .int .i64 d1.H, .slice a1x1 d1.xs.length c1x1, .slice a1x2 d1.cx.length c1x2, .slice a1x3 d1.cy.length c1x3, .slice a1x4 d1.ps.length c1x4] 36) from rfl] at r15
  try rw [show w9.alloc (.cells [Value.int .i64 d1.W, .int .i64 d1.H, .slice a1x1 d1.xs.length c1x1, .slice a1x2 d1.cx.length c1x2, .slice a1x3 d1.cy.length c1x3, .slice a1x4 d1.ps.length c1x4].toArray 36) = w9.alloc (.cells #[.int .i64 d1.W, .int .i64 d1.H, .slice a1x1 d1.xs.length c1x1, .slice a1x2 d1.cx.length c1x2, .slice a1x3 d1.cy.length c1x3, .slice a1x4 d1.ps.length c1x4] 36) from rfl] at r1l
  generalize w9.alloc (.cells #[.int .i64 d1.W, .int .i64 d1.H, .slice a1x1 d1.xs.length c1x1, .slice a1x2 d1.cx.length c1x2, .slice a1x3 d1.cy.length c1x3, .slice a1x4 d1.ps.length c1x4] 36) = w10 at hI r00 r01 r02 r03 r04 r05 r0l r10 r11 r12 r13 r14 r15 r1l X0 X1 ⊢
  clear r00 r01 r02 r03 r04 r05 r0l r10 r11 r12 r13 r14 r15 r1l
  refine (implSameDesk_any d0 d1 _ _ _ X0.out X1.out F0.out F1.out).mono ?_
  rintro e w11 ⟨rfl, hb⟩
  rw [← HR.out]
  replace hI := hI.call hb
  have X0 := hid (X0.out.mono hb)
  have X1 := hid (X1.out.mono hb)
  clear hb
  have r00 := (hI.blk 1 rfl).cell 0
  have r01 := (hI.blk 1 rfl).cell 1
  have r02 := (hI.blk 1 rfl).cell 2
  have r03 := (hI.blk 1 rfl).cell 3
  have r04 := (hI.blk 1 rfl).cell 4
  have r05 := (hI.blk 1 rfl).cell 5
  have r0l := (hI.blk 1 rfl).lt
  have r10 := (hI.blk 3 rfl).cell 0
  have r11 := (hI.blk 3 rfl).cell 1
  have r12 := (hI.blk 3 rfl).cell 2
  have r13 := (hI.blk 3 rfl).cell 3
  have r14 := (hI.blk 3 rfl).cell 4
  have r15 := (hI.blk 3 rfl).cell 5
  have r1l := (hI.blk 3 rfl).lt
  go_wp2
  refine Mix.wp_mix [.S, .S, .A, .A, .S] [0, 1, 2, 3, 4] (Below w11.heap.size w11) (by kernel_rfl) (by kernel_rfl) ((Below.refl _ _).drew) ?_
  have hC : Below w11.heap.size w11 w11.drew := (Below.refl _ _).drew
  have hJ := hI.call hC
  generalize w11.drew = w12 at hC hJ ⊢
  repeat (first | (refine Mix.sf_S rfl rfl rfl rfl rfl (Mix.valOp_spec rfl) hC ?_; apply Exists.intro; refine ⟨?_, ?_⟩; · (intro w' hC' K hK; have hk := (bcell hC').1; go_step; exact hK)) | (refine Mix.sf_skipS rfl rfl rfl rfl ?_; apply Exists.intro; refine ⟨?_, ?_⟩; · (intro K hK; go_step; exact hK)) | (refine Mix.sf_skipA rfl rfl rfl rfl ?_; apply Exists.intro; refine ⟨?_, ?_⟩; · (intro K hK; go_step; exact hK)) | (refine Mix.sf_skipL rfl rfl rfl rfl ?_ hC; apply Exists.intro; refine ⟨?_, ?_⟩; · (intro K hK; go_step; exact hK); clear hC; intro wL hC))
  refine Mix.sf_A rfl rfl rfl ?_; intro K hK; go_step
  refine (toDesk_any _ d0 _ (H0.out.mono hJ.below) S0.out).mono ?_
  rintro e w13 ⟨u0y, rfl, ho⟩
  have hb := ho.below
  obtain ⟨a0y1, c0y1, a0y2, c0y2, a0y3, c0y3, a0y4, c0y4, rfl⟩ := ho.reads.form
  have E := hid ho.reads
  refine hK _ _ (hC.trans (hb.mono hC.size)) ?_
  replace hC := hC.trans (hb.mono hC.size)
  replace hJ := hJ.call hb
  clear hK K hb ho
  repeat (first | (refine Mix.sf_S rfl rfl rfl rfl rfl (Mix.valOp_spec rfl) hC ?_; apply Exists.intro; refine ⟨?_, ?_⟩; · (intro w' hC' K hK; have hk := (bcell hC').1; go_step; exact hK)) | (refine Mix.sf_skipS rfl rfl rfl rfl ?_; apply Exists.intro; refine ⟨?_, ?_⟩; · (intro K hK; go_step; exact hK)) | (refine Mix.sf_skipA rfl rfl rfl rfl ?_; apply Exists.intro; refine ⟨?_, ?_⟩; · (intro K hK; go_step; exact hK)) | (refine Mix.sf_skipL rfl rfl rfl rfl ?_ hC; apply Exists.intro; refine ⟨?_, ?_⟩; · (intro K hK; go_step; exact hK); clear hC; intro wL hC))
  refine Mix.sf_A rfl rfl rfl ?_; intro K hK; go_step
  refine (eqDesk_self d0 _ _ _ (X0.out.mono hC) E.out F0.out).mono ?_
  rintro e w14 ⟨rfl, hb⟩
  refine hK _ _ (hC.trans (hb.mono hC.size)) ?_
  replace hC := hC.trans (hb.mono hC.size)
  replace hJ := hJ.call hb
  clear hK K hb E
  repeat (first | (refine Mix.sf_S rfl rfl rfl rfl rfl (Mix.valOp_spec rfl) hC ?_; apply Exists.intro; refine ⟨?_, ?_⟩; · (intro w' hC' K hK; have hk := (bcell hC').1; go_step; exact hK)) | (refine Mix.sf_skipS rfl rfl rfl rfl ?_; apply Exists.intro; refine ⟨?_, ?_⟩; · (intro K hK; go_step; exact hK)) | (refine Mix.sf_skipA rfl rfl rfl rfl ?_; apply Exists.intro; refine ⟨?_, ?_⟩; · (intro K hK; go_step; exact hK)) | (refine Mix.sf_skipL rfl rfl rfl rfl ?_ hC; apply Exists.intro; refine ⟨?_, ?_⟩; · (intro K hK; go_step; exact hK); clear hC; intro wL hC))
  refine Mix.sf_nil ?_
  clear r00 r01 r02 r03 r04 r05 r0l r10 r11 r12 r13 r14 r15 r1l
  replace hI := hJ
  have X0 := hid (X0.out.mono hC)
  have X1 := hid (X1.out.mono hC)
  clear hJ hC
  have r00 := (hI.blk 0 rfl).cell 0
  have r01 := (hI.blk 0 rfl).cell 1
  have r02 := (hI.blk 0 rfl).cell 2
  have r03 := (hI.blk 0 rfl).cell 3
  have r04 := (hI.blk 0 rfl).cell 4
  have r05 := (hI.blk 0 rfl).cell 5
  have r0l := (hI.blk 0 rfl).lt
  have r10 := (hI.blk 2 rfl).cell 0
  have r11 := (hI.blk 2 rfl).cell 1
  have r12 := (hI.blk 2 rfl).cell 2
  have r13 := (hI.blk 2 rfl).cell 3
  have r14 := (hI.blk 2 rfl).cell 4
  have r15 := (hI.blk 2 rfl).cell 5
  have r1l := (hI.blk 2 rfl).lt
  go_wp2
  refine Mix.wp_mix [.S, .S, .A, .A, .S] [0, 1, 2, 3, 4] (Below w14.heap.size w14) (by kernel_rfl) (by kernel_rfl) ((Below.refl _ _).drew) ?_
  have hC : Below w14.heap.size w14 w14.drew := (Below.refl _ _).drew
  have hJ := hI.call hC
  generalize w14.drew = w15 at hC hJ ⊢
  repeat (first | (refine Mix.sf_S rfl rfl rfl rfl rfl (Mix.valOp_spec rfl) hC ?_; apply Exists.intro; refine ⟨?_, ?_⟩; · (intro w' hC' K hK; have hk := (bcell hC').1; go_step; exact hK)) | (refine Mix.sf_skipS rfl rfl rfl rfl ?_; apply Exists.intro; refine ⟨?_, ?_⟩; · (intro K hK; go_step; exact hK)) | (refine Mix.sf_skipA rfl rfl rfl rfl ?_; apply Exists.intro; refine ⟨?_, ?_⟩; · (intro K hK; go_step; exact hK)) | (refine Mix.sf_skipL rfl rfl rfl rfl ?_ hC; apply Exists.intro; refine ⟨?_, ?_⟩; · (intro K hK; go_step; exact hK); clear hC; intro wL hC))
  refine Mix.sf_A rfl rfl rfl ?_; intro K hK; go_step
  refine (toDesk_any _ d1 _ (H1.out.mono hJ.below) S1.out).mono ?_
  rintro e w16 ⟨u1y, rfl, ho⟩
  have hb := ho.below
  obtain ⟨a1y1, c1y1, a1y2, c1y2, a1y3, c1y3, a1y4, c1y4, rfl⟩ := ho.reads.form
  have E := hid ho.reads
  refine hK _ _ (hC.trans (hb.mono hC.size)) ?_
  replace hC := hC.trans (hb.mono hC.size)
  replace hJ := hJ.call hb
  clear hK K hb ho
  repeat (first | (refine Mix.sf_S rfl rfl rfl rfl rfl (Mix.valOp_spec rfl) hC ?_; apply Exists.intro; refine ⟨?_, ?_⟩; · (intro w' hC' K hK; have hk := (bcell hC').1; go_step; exact hK)) | (refine Mix.sf_skipS rfl rfl rfl rfl ?_; apply Exists.intro; refine ⟨?_, ?_⟩; · (intro K hK; go_step; exact hK)) | (refine Mix.sf_skipA rfl rfl rfl rfl ?_; apply Exists.intro; refine ⟨?_, ?_⟩; · (intro K hK; go_step; exact hK)) | (refine Mix.sf_skipL rfl rfl rfl rfl ?_ hC; apply Exists.intro; refine ⟨?_, ?_⟩; · (intro K hK; go_step; exact hK); clear hC; intro wL hC))
  refine Mix.sf_A rfl rfl rfl ?_; intro K hK; go_step
  refine (eqDesk_self d1 _ _ _ (X1.out.mono hC) E.out F1.out).mono ?_
  rintro e w17 ⟨rfl, hb⟩
  refine hK _ _ (hC.trans (hb.mono hC.size)) ?_
  replace hC := hC.trans (hb.mono hC.size)
  replace hJ := hJ.call hb
  clear hK K hb E
  repeat (first | (refine Mix.sf_S rfl rfl rfl rfl rfl (Mix.valOp_spec rfl) hC ?_; apply Exists.intro; refine ⟨?_, ?_⟩; · (intro w' hC' K hK; have hk := (bcell hC').1; go_step; exact hK)) | (refine Mix.sf_skipS rfl rfl rfl rfl ?_; apply Exists.intro; refine ⟨?_, ?_⟩; · (intro K hK; go_step; exact hK)) | (refine Mix.sf_skipA rfl rfl rfl rfl ?_; apply Exists.intro; refine ⟨?_, ?_⟩; · (intro K hK; go_step; exact hK)) | (refine Mix.sf_skipL rfl rfl rfl rfl ?_ hC; apply Exists.intro; refine ⟨?_, ?_⟩; · (intro K hK; go_step; exact hK); clear hC; intro wL hC))
  refine Mix.sf_nil ?_
  clear r00 r01 r02 r03 r04 r05 r0l r10 r11 r12 r13 r14 r15 r1l
  replace hI := hJ
  have X0 := hid (X0.out.mono hC)
  have X1 := hid (X1.out.mono hC)
  clear hJ hC
  go_wp2
  go_ret
  exact ⟨rfl, hI.below⟩

end Go.Proofs.Ytggbdmgonobefaa
