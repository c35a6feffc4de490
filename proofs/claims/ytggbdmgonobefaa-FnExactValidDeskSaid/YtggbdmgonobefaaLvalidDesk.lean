/-
  For all arguments the program's ValidDesk answers as the reference's, and leaves its arguments alone.
  Conditions: the desks read; lengths and words fit.
-/
import Derived.Test.YtggbdmgonobefaaA47
import Derived.Test.YtggbdmgonobefaaA45
import Derived.Test.YtggbdmgonobefaaDkF
namespace Go.Proofs.Ytggbdmgonobefaa
open Go.RowKit
set_option linter.unusedVariables false
set_option linter.unusedSimpArgs false

set_option maxHeartbeats 16000000 in
set_option maxRecDepth 100000 in
theorem lawValidDesk_any (d0 : DkD) (v0 : Value) (w : World) (h0 : DkV w v0 d0) (f0 : d0.ok) :
    Calls Try.prog 5 #[v0] w fun e w' => e = .returned (.bool true) ∧ Below w.heap.size w w' := by
  have H0 := hid h0
  have F0 := hid f0
  obtain ⟨a0a1, c0a1, a0a2, c0a2, a0a3, c0a3, a0a4, c0a4, rfl⟩ := h0.form
  clear h0 f0
  have hI := Inv.start w
  replace hI := hI.alloc [.int .i64 d0.W, .int .i64 d0.H, .slice a0a1 d0.xs.length c0a1, .slice a0a2 d0.cx.length c0a2, .slice a0a3 d0.cy.length c0a3, .slice a0a4 d0.ps.length c0a4] 29
  obtain ⟨b0, hb0⟩ : ∃ b, b = w.heap.size := ⟨_, rfl⟩
  have r00 := (hI.blk 0 rfl).cell 0
  have r01 := (hI.blk 0 rfl).cell 1
  have r02 := (hI.blk 0 rfl).cell 2
  have r03 := (hI.blk 0 rfl).cell 3
  have r04 := (hI.blk 0 rfl).cell 4
  have r05 := (hI.blk 0 rfl).cell 5
  have r0l := (hI.blk 0 rfl).lt
  go_enter Try.func5, Try.ntmps5
  go_wp2_with fail
  clear r00 r01 r02 r03 r04 r05 r0l
  generalize (w.alloc (.cells #[.int .i64 d0.W, .int .i64 d0.H, .slice a0a1 d0.xs.length c0a1, .slice a0a2 d0.cx.length c0a2, .slice a0a3 d0.cy.length c0a3, .slice a0a4 d0.ps.length c0a4] 29)) = w0 at hI ⊢
  rw [← hb0] at hI ⊢
  have Hb0 := hid hb0
  clear hb0
  refine (szDesk_any _ d0 1048576 _ (H0.out.mono hI.below) F0.out (by omega) (by omega)).mono ?_
  rintro e w1 ⟨rfl, hb⟩
  replace hI := hI.call hb
  clear hb
  obtain ⟨l0, hl0⟩ : ∃ l, l = szDk 1048576 d0 := ⟨_, rfl⟩
  rw [← hl0]
  by_cases hn0 : l0 < 0
  · clear hl0
    go_wp2
    go_ret
    exact ⟨rfl, hI.below⟩
  obtain ⟨g0, hs0⟩ := szDk_le (left := 1048576) (d := d0) (by omega) (by omega) (by rw [← hl0]; exact hn0)
  rw [← hl0] at g0
  have S0 := hid hs0
  clear hl0 hs0
  have r00 := (hI.blk 0 rfl).cell 0
  have r01 := (hI.blk 0 rfl).cell 1
  have r02 := (hI.blk 0 rfl).cell 2
  have r03 := (hI.blk 0 rfl).cell 3
  have r04 := (hI.blk 0 rfl).cell 4
  have r05 := (hI.blk 0 rfl).cell 5
  have r0l := (hI.blk 0 rfl).lt
  go_wp2_with fail
  clear r00 r01 r02 r03 r04 r05 r0l
  refine (toDesk_any _ d0 _ (H0.out.mono hI.below) S0.out).mono ?_
  rintro e w2 ⟨u0, rfl, ho⟩
  have hb := ho.below
  obtain ⟨a0s1, c0s1, a0s2, c0s2, a0s3, c0s3, a0s4, c0s4, rfl⟩ := ho.reads.form
  have E0 := hid ho.reads
  replace hI := hI.call hb
  clear hb ho
  go_wp2_with fail
  refine (specValidDesk_any d0 _ _ E0.out F0.out).mono ?_
  rintro e w3 ⟨rfl, hb⟩
  replace hI := hI.call hb
  clear hb E0
  obtain ⟨R, hR⟩ : ∃ R, R = validD d0 := ⟨_, rfl⟩
  have HR := hid hR
  rw [← hR]
  clear hR
  have r00 := (hI.blk 0 rfl).cell 0
  have r01 := (hI.blk 0 rfl).cell 1
  have r02 := (hI.blk 0 rfl).cell 2
  have r03 := (hI.blk 0 rfl).cell 3
  have r04 := (hI.blk 0 rfl).cell 4
  have r05 := (hI.blk 0 rfl).cell 5
  have r0l := (hI.blk 0 rfl).lt
  go_wp2_with fail
  clear r00 r01 r02 r03 r04 r05 r0l
  refine (toDesk_any _ d0 _ (H0.out.mono hI.below) S0.out).mono ?_
  rintro e w4 ⟨u0, rfl, ho⟩
  have hb := ho.below
  obtain ⟨a0x1, c0x1, a0x2, c0x2, a0x3, c0x3, a0x4, c0x4, rfl⟩ := ho.reads.form
  have X0 := hid ho.reads
  replace hI := hI.call hb
  clear hb ho
  replace hI := hI.alloc [.int .i64 d0.W, .int .i64 d0.H, .slice a0x1 d0.xs.length c0x1, .slice a0x2 d0.cx.length c0x2, .slice a0x3 d0.cy.length c0x3, .slice a0x4 d0.ps.length c0x4] 36
  have hb : Below w4.heap.size w4 (w4.alloc (.cells #[.int .i64 d0.W, .int .i64 d0.H, .slice a0x1 d0.xs.length c0x1, .slice a0x2 d0.cx.length c0x2, .slice a0x3 d0.cy.length c0x3, .slice a0x4 d0.ps.length c0x4] 36)) := (Below.refl _ _).alloc (Nat.le_refl _) _
  have X0 := hid (X0.out.mono hb)
  clear hb
  have r00 := (hI.blk 0 rfl).cell 0
  have r01 := (hI.blk 0 rfl).cell 1
  have r02 := (hI.blk 0 rfl).cell 2
  have r03 := (hI.blk 0 rfl).cell 3
  have r04 := (hI.blk 0 rfl).cell 4
  have r05 := (hI.blk 0 rfl).cell 5
  have r0l := (hI.blk 0 rfl).lt
  go_wp2_with fail
  obtain ⟨xb0, hx0⟩ : ∃ b, b = w4.heap.size := ⟨_, rfl⟩
  rw [← hx0] at hI ⊢
  try rw [← hx0] at r00
  try rw [← hx0] at r01
  try rw [← hx0] at r02
  try rw [← hx0] at r03
  try rw [← hx0] at r04
  try rw [← hx0] at r05
  try rw [← hx0] at r0l
  clear hx0
  rw [show w4.alloc (.cells [Value.int .i64 d0.W, .int .i64 d0.H, .slice a0x1 d0.xs.length c0x1, .slice a0x2 d0.cx.length c0x2, .slice a0x3 d0.cy.length c0x3, .slice a0x4 d0.ps.length c0x4].toArray 36) = w4.alloc (.cells #[.int .i64 d0.W, .int .i64 d0.H, .slice a0x1 d0.xs.length c0x1, .slice a0x2 d0.cx.length c0x2, .slice a0x3 d0.cy.length c0x3, .slice a0x4 d0.ps.length c0x4] 36) from rfl] at hI
  try rw [show w4.alloc (.cells [Value.int .i64 d0.W, .int .i64 d0.H, .slice a0x1 d0.xs.length c0x1, .slice a0x2 d0.cx.length c0x2, .slice a0x3 d0.cy.length c0x3, .slice a0x4 d0.ps.length c0x4].toArray 36) = w4.alloc (.cells #[.int .i64 d0.W, .int .i64 d0.H, .slice a0x1 d0.xs.length c0x1, .slice a0x2 d0.cx.length c0x2, .slice a0x3 d0.cy.length c0x3, .slice a0x4 d0.ps.length c0x4] 36) from rfl] at r00
  try rw [show w4.alloc (.cells [Value.int .i64 d0.W, .int .i64 d0.H, .slice a0x1 d0.xs.length c0x1, .slice a0x2 d0.cx.length c0x2, .slice a0x3 d0.cy.length c0x3, .slice a0x4 d0.ps.length c0x4].toArray 36) = w4.alloc (.cells #[.int .i64 d0.W, .int .i64 d0.H, .slice a0x1 d0.xs.length c0x1, .slice a0x2 d0.cx.length c0x2, .slice a0x3 d0.cy.length c0x3, .slice a0x4 d0.ps.length c0x4] 36) from rfl] at r01
  try rw [show w4.alloc (.cells [Value.int .i64 d0.W, .int .i64 d0.H, .slice a0x1 d0.xs.length c0x1, .slice a0x2 d0.cx.length c0x2, .slice a0x3 d0.cy.length c0x3, .slice a0x4 d0.ps.length c0x4].toArray 36) = w4.alloc (.cells #[.int .i64 d0.W, .int .i64 d0.H, .slice a0x1 d0.xs.length c0x1, .slice a0x2 d0.cx.length c0x2, .slice a0x3 d0.cy.length c0x3, .slice a0x4 d0.ps.length c0x4] 36) from rfl] at r02
  try rw [show w4.alloc (.cells [Value.int .i64 d0.W, .int .i64 d0.H, .slice a0x1 d0.xs.length c0x1, .slice a0x2 d0.cx.length c0x2, .slice a0x3 d0.cy.length c0x3, .slice a0x4 d0.ps.length c0x4].toArray 36) = w4.alloc (.cells #[.int .i64 d0.W, .int .i64 d0.H, .slice a0x1 d0.xs.length c0x1, .slice a0x2 d0.cx.length c0x2, .slice a0x3 d0.cy.length c0x3, .slice a0x4 d0.ps.length c0x4] 36) from rfl] at r03
  try rw [show w4.alloc (.cells [Value.int .i64 d0.W, .int .i64 d0.H, .slice a0x1 d0.xs.length c0x1, .slice a0x2 d0.cx.length c0x2, .slice a0x3 d0.cy.length c0x3, .slice a0x4 d0.ps.length c0x4].toArray 36) = w4.alloc (.cells #[.int .i64 d0.W, .int .i64 d0.H, .slice a0x1 d0.xs.length c0x1, .slice a0x2 d0.cx.length c0x2, .slice a0x3 d0.cy.length c0x3, .slice a0x4 d0.ps.length c0x4] 36) from rfl] at r04
  try rw [show w4.alloc (.cells [Value.int .i64 d0.W, .int .i64 d0.H, .slice a0x1 d0.xs.length c0x1, .slice a0x2 d0.cx.length c0x2, .slice a0x3 d0.cy.length c0x3, .slice a0x4 d0.ps.length c0x4].toArray 36) = w4.alloc (.cells #[.int .i64 d0.W, .int .i64 d0.H, .slice a0x1 d0.xs.length c0x1, .slice a0x2 d0.cx.length c0x2, .slice a0x3 d0.cy.length c0x3, .slice a0x4 d0.ps.length c0x4] 36) from rfl] at r05
  try rw [show w4.alloc (.cells [Value.int .i64 d0.W, .int .i64 d0.H, .slice a0x1 d0.xs.length c0x1, .slice a0x2 d0.cx.length c0x2, .slice a0x3 d0.cy.length c0x3, .slice a0x4 d0.ps.length c0x4].toArray 36) = w4.alloc (.cells #[.int .i64 d0.W, .int .i64 d0.H, .slice a0x1 d0.xs.length c0x1, .slice a0x2 d0.cx.length c0x2, .slice a0x3 d0.cy.length c0x3, .slice a0x4 d0.ps.length c0x4] 36) from rfl] at r0l
  generalize w4.alloc (.cells #[.int .i64 d0.W, .int .i64 d0.H, .slice a0x1 d0.xs.length c0x1, .slice a0x2 d0.cx.length c0x2, .slice a0x3 d0.cy.length c0x3, .slice a0x4 d0.ps.length c0x4] 36) = w5 at hI r00 r01 r02 r03 r04 r05 r0l X0 ⊢
  clear r00 r01 r02 r03 r04 r05 r0l
  refine (implValidDesk_any d0 _ _ X0.out F0.out).mono ?_
  rintro e w6 ⟨rfl, hb⟩
  rw [← HR.out]
  replace hI := hI.call hb
  have X0 := hid (X0.out.mono hb)
  clear hb
  have r00 := (hI.blk 0 rfl).cell 0
  have r01 := (hI.blk 0 rfl).cell 1
  have r02 := (hI.blk 0 rfl).cell 2
  have r03 := (hI.blk 0 rfl).cell 3
  have r04 := (hI.blk 0 rfl).cell 4
  have r05 := (hI.blk 0 rfl).cell 5
  have r0l := (hI.blk 0 rfl).lt
  have r10 := (hI.blk 1 rfl).cell 0
  have r11 := (hI.blk 1 rfl).cell 1
  have r12 := (hI.blk 1 rfl).cell 2
  have r13 := (hI.blk 1 rfl).cell 3
  have r14 := (hI.blk 1 rfl).cell 4
  have r15 := (hI.blk 1 rfl).cell 5
  have r1l := (hI.blk 1 rfl).lt
  go_wp2
  refine Mix.wp_mix [.S, .S, .A, .A, .S] [0, 1, 2, 3, 4] (Below w6.heap.size w6) (by kernel_rfl) (by kernel_rfl) ((Below.refl _ _).drew) ?_
  have hC : Below w6.heap.size w6 w6.drew := (Below.refl _ _).drew
  have hJ := hI.call hC
  generalize w6.drew = w7 at hC hJ ⊢
  repeat (first | (refine Mix.sf_S rfl rfl rfl rfl rfl (Mix.valOp_spec rfl) hC ?_; apply Exists.intro; refine ⟨?_, ?_⟩; · (intro w' hC' K hK; have hk := (bcell hC').1; go_step; exact hK)) | (refine Mix.sf_skipS rfl rfl rfl rfl ?_; apply Exists.intro; refine ⟨?_, ?_⟩; · (intro K hK; go_step; exact hK)) | (refine Mix.sf_skipA rfl rfl rfl rfl ?_; apply Exists.intro; refine ⟨?_, ?_⟩; · (intro K hK; go_step; exact hK)) | (refine Mix.sf_skipL rfl rfl rfl rfl ?_ hC; apply Exists.intro; refine ⟨?_, ?_⟩; · (intro K hK; go_step; exact hK); clear hC; intro wL hC))
  refine Mix.sf_A rfl rfl rfl ?_; intro K hK; go_step
  refine (toDesk_any _ d0 _ (H0.out.mono hJ.below) S0.out).mono ?_
  rintro e w8 ⟨u0y, rfl, ho⟩
  have hb := ho.below
  obtain ⟨a0y1, c0y1, a0y2, c0y2, a0y3, c0y3, a0y4, c0y4, rfl⟩ := ho.reads.form
  have E := hid ho.reads
  refine hK _ _ (hC.trans (hb.mono hC.size)) ?_
  replace hC := hC.trans (hb.mono hC.size)
  replace hJ := hJ.call hb
  clear hK K hb ho
  repeat (first | (refine Mix.sf_S rfl rfl rfl rfl rfl (Mix.valOp_spec rfl) hC ?_; apply Exists.intro; refine ⟨?_, ?_⟩; · (intro w' hC' K hK; have hk := (bcell hC').1; go_step; exact hK)) | (refine Mix.sf_skipS rfl rfl rfl rfl ?_; apply Exists.intro; refine ⟨?_, ?_⟩; · (intro K hK; go_step; exact hK)) | (refine Mix.sf_skipA rfl rfl rfl rfl ?_; apply Exists.intro; refine ⟨?_, ?_⟩; · (intro K hK; go_step; exact hK)) | (refine Mix.sf_skipL rfl rfl rfl rfl ?_ hC; apply Exists.intro; refine ⟨?_, ?_⟩; · (intro K hK; go_step; exact hK); clear hC; intro wL hC))
  refine Mix.sf_A rfl rfl rfl ?_; intro K hK; go_step
  refine (eqDesk_self d0 _ _ _ (X0.out.mono hC) E.out F0.out).mono ?_
  rintro e w9 ⟨rfl, hb⟩
  refine hK _ _ (hC.trans (hb.mono hC.size)) ?_
  replace hC := hC.trans (hb.mono hC.size)
  replace hJ := hJ.call hb
  clear hK K hb E
  repeat (first | (refine Mix.sf_S rfl rfl rfl rfl rfl (Mix.valOp_spec rfl) hC ?_; apply Exists.intro; refine ⟨?_, ?_⟩; · (intro w' hC' K hK; have hk := (bcell hC').1; go_step; exact hK)) | (refine Mix.sf_skipS rfl rfl rfl rfl ?_; apply Exists.intro; refine ⟨?_, ?_⟩; · (intro K hK; go_step; exact hK)) | (refine Mix.sf_skipA rfl rfl rfl rfl ?_; apply Exists.intro; refine ⟨?_, ?_⟩; · (intro K hK; go_step; exact hK)) | (refine Mix.sf_skipL rfl rfl rfl rfl ?_ hC; apply Exists.intro; refine ⟨?_, ?_⟩; · (intro K hK; go_step; exact hK); clear hC; intro wL hC))
  refine Mix.sf_nil ?_
  clear r00 r01 r02 r03 r04 r05 r0l r10 r11 r12 r13 r14 r15 r1l
  replace hI := hJ
  have X0 := hid (X0.out.mono hC)
  clear hJ hC
  go_wp2
  go_ret
  exact ⟨rfl, hI.below⟩

end Go.Proofs.Ytggbdmgonobefaa
