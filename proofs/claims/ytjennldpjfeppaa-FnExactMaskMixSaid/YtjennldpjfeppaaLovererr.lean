/-
  For all arguments the program's OverlapError answers as the reference's, and leaves its arguments alone.
  Conditions: the lights are rows of cells that read.
-/
import Derived.Test.YtjennldpjfeppaaA14
import Derived.Test.YtjennldpjfeppaaLfeather
namespace Go.Proofs.Ytjennldpjfeppaa
open Go.RowKit
set_option linter.unusedVariables false
set_option linter.unusedSimpArgs false
attribute [local go_sem] Fl.run_fadd Fl.run_fsub Fl.run_fmul Fl.run_fquo Fl.run_wide Fl.run_store_float

/-- Two words of one number, widened, are the same float. -/
theorem same_wide {wa wb : World} {x y : Nat} (h : Fl.nf .f32 x = Fl.nf .f32 y) : sameB (Fl.cres wa .f32 .f64 x) (Fl.cres wb .f32 .f64 y) = true :=
  sameB_nf (wide_same Fl.nf_wide Fl.nf_wide h)

set_option maxHeartbeats 8000000 in
set_option maxRecDepth 100000 in
theorem lawOverlapError_any (W1 H1 : Int) (v1 : Value) (x1 : List Nat) (W2 H2 : Int) (v2 : Value) (x2 : List Nat) (over : Int) (w : World) (hx1 : Sl w v1 (x1.map fv)) (hl1 : x1.length ≤ 140737488351232) (hx2 : Sl w v2 (x2.map fv)) (hl2 : x2.length ≤ 140737488351232) :
    Calls Try.prog 7 #[.agg #[.int .i64 W1, .int .i64 H1, v1], .agg #[.int .i64 W2, .int .i64 H2, v2], .int .i64 over] w fun e w' => e = .returned (.bool true) ∧ Below w.heap.size w w' := by
  obtain ⟨d1, p1, hv1⟩ := hx1.form
  rw [List.length_map] at hv1
  obtain ⟨n1, hn1⟩ : ∃ n, n = x1.length := ⟨_, rfl⟩
  rw [← hn1] at hv1 hl1
  subst hv1
  obtain ⟨d2, p2, hv2⟩ := hx2.form
  rw [List.length_map] at hv2
  obtain ⟨n2, hn2⟩ : ∃ n, n = x2.length := ⟨_, rfl⟩
  rw [← hn2] at hv2 hl2
  subst hv2
  have Hn1 := hid hn1.symm
  have Hn2 := hid hn2.symm
  clear hn1 hn2
  obtain ⟨w1, hw1⟩ : ∃ w1, w1 = (w.alloc (.cells #[.int .i64 W1, .int .i64 H1, .slice d1 n1 p1] 30)).alloc (.cells #[.int .i64 W2, .int .i64 H2, .slice d2 n2 p2] 30) := ⟨_, rfl⟩
  have hb1 : Below w.heap.size w w1 := by rw [hw1]; exact ((Below.refl _ _).alloc (Nat.le_refl _) _).alloc (by simp) _
  obtain ⟨b, hbe⟩ : ∃ b, b = w.heap.size := ⟨_, rfl⟩
  have k1 : Blk w1 b [.int .i64 W1, .int .i64 H1, .slice d1 n1 p1] 30 := by rw [hw1, hbe]; exact (Blk.new w _ _).alloc _
  have k2 : Blk w1 (b + 1) [.int .i64 W2, .int .i64 H2, .slice d2 n2 p2] 30 := by
    rw [hw1, hbe]
    have := Blk.new (w.alloc (.cells #[.int .i64 W1, .int .i64 H1, .slice d1 n1 p1] 30)) [.int .i64 W2, .int .i64 H2, .slice d2 n2 p2] 30
    simpa using this
  replace hx1 := hx1.mono hb1
  replace hx2 := hx2.mono hb1
  go_enter Try.func7, Try.ntmps7
  go_wp2_with fail
  rw [← hw1, ← hbe]
  have Hbe := hid hbe
  clear hw1 hbe
  refine (szPicture_any W1 H1 d1 n1 p1 1048576 w1 (by omega) (by omega) hl1).mono ?_
  rintro e w2 ⟨rfl, hb⟩
  (replace hx1 := hx1.mono hb; replace hx2 := hx2.mono hb; replace k1 := k1.below hb k1.lt; replace k2 := k2.below hb k2.lt; replace hb1 := hb1.trans (hb.mono hb1.size))
  clear hb
  by_cases hbig1 : (1048576 : Int) < n1
  · rw [szB, if_pos hbig1]
    go_wp2
    go_ret
    exact ⟨rfl, hb1⟩
  rw [szB, if_neg hbig1]
  obtain ⟨l1, hl1e⟩ : ∃ l1 : Int, l1 = 1048576 - n1 := ⟨_, rfl⟩
  have hl0 : 0 ≤ l1 := by omega
  have hlm : l1 ≤ 1048576 := by omega
  rw [← hl1e]
  have hn1' : x1.length ≤ 1048576 := by rw [Hn1.out]; omega
  have Hx1 := hid hn1'
  clear hl1e hn1'
  have r0 := k1.cell 0
  have r1 := k1.cell 1
  have r2 := k1.cell 2
  have s0 := k2.cell 0
  have s1 := k2.cell 1
  have s2 := k2.cell 2
  go_wp2_with fail
  clear r0 r1 r2 s0 s1 s2
  refine (szPicture_any W2 H2 d2 n2 p2 l1 w2 (by omega) (by omega) hl2).mono ?_
  rintro e w3 ⟨rfl, hb⟩
  (replace hx1 := hx1.mono hb; replace hx2 := hx2.mono hb; replace k1 := k1.below hb k1.lt; replace k2 := k2.below hb k2.lt; replace hb1 := hb1.trans (hb.mono hb1.size))
  clear hb
  by_cases hbig2 : l1 < n2
  · rw [szB, if_pos hbig2]
    go_wp2
    go_ret
    exact ⟨rfl, hb1⟩
  rw [szB, if_neg hbig2]
  have hn2' : x2.length ≤ 1048576 := by rw [Hn2.out]; omega
  have Hx2 := hid hn2'
  have hl02 : 0 ≤ l1 - n2 := by omega
  clear hn2'
  have Hx1' := hid (show x1.length ≤ 140737488351232 from by have := Hx1.out; omega)
  have Hx2' := hid (show x2.length ≤ 140737488351232 from by have := Hx2.out; omega)
  have r0 := k1.cell 0
  have r1 := k1.cell 1
  have r2 := k1.cell 2
  have s0 := k2.cell 0
  have s1 := k2.cell 1
  have s2 := k2.cell 2
  have lt1 := k1.lt
  have lt2 := k2.lt
  go_wp2
  refine Mix.wp_mix [.S, .A, .S, .A, .S, .A, .S, .S, .S, .S, .S] [0, 2, 4, 1, 3, 5, 6, 7, 8, 9, 10] (Below w3.heap.size w3) (by kernel_rfl) (by kernel_rfl) ((Below.refl _ _).drew) ?_
  have hC : Below w3.heap.size w3 w3.drew := (Below.refl _ _).drew
  generalize w3.drew = w4 at hC ⊢
  repeat (first | (refine Mix.sf_S rfl rfl rfl rfl rfl (Mix.valOp_spec rfl) hC ?_; apply Exists.intro; refine ⟨?_, ?_⟩; · (intro w' hC' K hK; have hk := (bcell hC').1; go_step; exact hK)) | (refine Mix.sf_skipS rfl rfl rfl rfl ?_; apply Exists.intro; refine ⟨?_, ?_⟩; · (intro K hK; go_step; exact hK)) | (refine Mix.sf_skipA rfl rfl rfl rfl ?_; apply Exists.intro; refine ⟨?_, ?_⟩; · (intro K hK; go_step; exact hK)) | (refine Mix.sf_skipL rfl rfl rfl rfl ?_ hC; apply Exists.intro; refine ⟨?_, ?_⟩; · (intro K hK; go_step; exact hK); clear hC; intro wL hC))
  refine Mix.sf_A rfl rfl rfl ?_; intro K hK; go_step
  refine (toPicture_any W1 H1 _ x1 rfl _ w4 (hx1.mono hC) Hx1.out).mono ?_
  rintro e w5 ⟨u5, rfl, hu5, hb⟩
  obtain ⟨a5, c5, rfl, -⟩ := own_form hu5
  have q5 := Sl.of_own hu5
  refine hK _ _ (hC.trans (hb.mono hC.size)) ?_
  replace hC := hC.trans (hb.mono hC.size)
  clear hK K hb hu5
  repeat (first | (refine Mix.sf_S rfl rfl rfl rfl rfl (Mix.valOp_spec rfl) hC ?_; apply Exists.intro; refine ⟨?_, ?_⟩; · (intro w' hC' K hK; have hk := (bcell hC').1; go_step; exact hK)) | (refine Mix.sf_skipS rfl rfl rfl rfl ?_; apply Exists.intro; refine ⟨?_, ?_⟩; · (intro K hK; go_step; exact hK)) | (refine Mix.sf_skipA rfl rfl rfl rfl ?_; apply Exists.intro; refine ⟨?_, ?_⟩; · (intro K hK; go_step; exact hK)) | (refine Mix.sf_skipL rfl rfl rfl rfl ?_ hC; apply Exists.intro; refine ⟨?_, ?_⟩; · (intro K hK; go_step; exact hK); clear hC; intro wL hC))
  refine Mix.sf_A rfl rfl rfl ?_; intro K hK; go_step
  refine (toPicture_any W2 H2 _ x2 rfl _ w5 (hx2.mono hC) Hx2.out).mono ?_
  rintro e w6 ⟨u6, rfl, hu6, hb⟩
  obtain ⟨a6, c6, rfl, -⟩ := own_form hu6
  have q6 := Sl.of_own hu6
  refine hK _ _ (hC.trans (hb.mono hC.size)) ?_
  replace hC := hC.trans (hb.mono hC.size)
  replace q5 := q5.mono hb
  clear hK K hb hu6
  repeat (first | (refine Mix.sf_S rfl rfl rfl rfl rfl (Mix.valOp_spec rfl) hC ?_; apply Exists.intro; refine ⟨?_, ?_⟩; · (intro w' hC' K hK; have hk := (bcell hC').1; go_step; exact hK)) | (refine Mix.sf_skipS rfl rfl rfl rfl ?_; apply Exists.intro; refine ⟨?_, ?_⟩; · (intro K hK; go_step; exact hK)) | (refine Mix.sf_skipA rfl rfl rfl rfl ?_; apply Exists.intro; refine ⟨?_, ?_⟩; · (intro K hK; go_step; exact hK)) | (refine Mix.sf_skipL rfl rfl rfl rfl ?_ hC; apply Exists.intro; refine ⟨?_, ?_⟩; · (intro K hK; go_step; exact hK); clear hC; intro wL hC))
  refine Mix.sf_A rfl rfl rfl ?_; intro K hK; go_step
  refine (specOverlap_any W1 H1 _ x1 W2 H2 _ x2 over w6 q5 q6 Hx1'.out Hx2'.out).mono ?_
  rintro e w7 ⟨rs, rfl, hrs, hb⟩
  refine hK _ _ (hC.trans (hb.mono hC.size)) ?_
  replace hC := hC.trans (hb.mono hC.size)
  clear hK K hb q5 q6
  repeat (first | (refine Mix.sf_S rfl rfl rfl rfl rfl (Mix.valOp_spec rfl) hC ?_; apply Exists.intro; refine ⟨?_, ?_⟩; · (intro w' hC' K hK; have hk := (bcell hC').1; go_step; exact hK)) | (refine Mix.sf_skipS rfl rfl rfl rfl ?_; apply Exists.intro; refine ⟨?_, ?_⟩; · (intro K hK; go_step; exact hK)) | (refine Mix.sf_skipA rfl rfl rfl rfl ?_; apply Exists.intro; refine ⟨?_, ?_⟩; · (intro K hK; go_step; exact hK)) | (refine Mix.sf_skipL rfl rfl rfl rfl ?_ hC; apply Exists.intro; refine ⟨?_, ?_⟩; · (intro K hK; go_step; exact hK); clear hC; intro wL hC))
  refine Mix.sf_nil ?_
  clear r0 r1 r2 s0 s1 s2 lt1 lt2
  (replace hx1 := hx1.mono hC; replace hx2 := hx2.mono hC; replace k1 := k1.below hC k1.lt; replace k2 := k2.below hC k2.lt; replace hb1 := hb1.trans (hC.mono hb1.size))
  clear hC
  obtain ⟨ok, hok⟩ : ∃ ok, ok = ovOk W1 H1 x1 W2 H2 x2 over := ⟨_, rfl⟩
  rw [← hok]
  have r0 := k1.cell 0
  have r1 := k1.cell 1
  have r2 := k1.cell 2
  have Hrs := hid hrs
  have Hok := hid hok
  clear hrs hok
  go_wp2_with fail
  clear r0 r1 r2
  refine (toPicture_any W1 H1 _ x1 rfl _ w7 hx1 Hx1.out).mono ?_
  rintro e w8 ⟨u1, rfl, hu1, hb⟩
  obtain ⟨a8, c8, rfl, -⟩ := own_form hu1
  have q1 := Sl.of_own hu1
  (replace hx1 := hx1.mono hb; replace hx2 := hx2.mono hb; replace k1 := k1.below hb k1.lt; replace k2 := k2.below hb k2.lt; replace hb1 := hb1.trans (hb.mono hb1.size))
  clear hb hu1
  have k3 := Blk.new w8 [.int .i64 W1, .int .i64 H1, .slice a8 x1.length c8] 24
  (replace hx1 := hx1.alloc (.cells #[.int .i64 W1, .int .i64 H1, .slice a8 x1.length c8] 24); replace hx2 := hx2.alloc (.cells #[.int .i64 W1, .int .i64 H1, .slice a8 x1.length c8] 24); replace q1 := q1.alloc (.cells #[.int .i64 W1, .int .i64 H1, .slice a8 x1.length c8] 24); replace k1 := k1.alloc (.cells #[.int .i64 W1, .int .i64 H1, .slice a8 x1.length c8] 24); replace k2 := k2.alloc (.cells #[.int .i64 W1, .int .i64 H1, .slice a8 x1.length c8] 24); replace hb1 := hb1.alloc hb1.size (.cells #[.int .i64 W1, .int .i64 H1, .slice a8 x1.length c8] 24))
  have s0 := k2.cell 0
  have s1 := k2.cell 1
  have s2 := k2.cell 2
  go_wp2_with fail
  clear s0 s1 s2
  obtain ⟨B3, hB3⟩ : ∃ B3, B3 = w8.heap.size := ⟨_, rfl⟩
  rw [← hB3] at k3 ⊢
  clear hB3
  generalize w8.alloc (.cells #[.int .i64 W1, .int .i64 H1, .slice a8 x1.length c8] 24) = w9 at hx1 hx2 q1 k1 k2 k3 hb1 ⊢
  clear w8
  refine (toPicture_any W2 H2 _ x2 rfl _ w9 hx2 Hx2.out).mono ?_
  rintro e w10 ⟨u2, rfl, hu2, hb⟩
  obtain ⟨a10, c10, rfl, -⟩ := own_form hu2
  have q2 := Sl.of_own hu2
  (replace hx1 := hx1.mono hb; replace hx2 := hx2.mono hb; replace q1 := q1.mono hb; replace k1 := k1.below hb k1.lt; replace k2 := k2.below hb k2.lt; replace k3 := k3.below hb k3.lt; replace hb1 := hb1.trans (hb.mono hb1.size))
  clear hb hu2
  have k4 := Blk.new w10 [.int .i64 W2, .int .i64 H2, .slice a10 x2.length c10] 24
  (replace hx1 := hx1.alloc (.cells #[.int .i64 W2, .int .i64 H2, .slice a10 x2.length c10] 24); replace hx2 := hx2.alloc (.cells #[.int .i64 W2, .int .i64 H2, .slice a10 x2.length c10] 24); replace q1 := q1.alloc (.cells #[.int .i64 W2, .int .i64 H2, .slice a10 x2.length c10] 24); replace q2 := q2.alloc (.cells #[.int .i64 W2, .int .i64 H2, .slice a10 x2.length c10] 24); replace k1 := k1.alloc (.cells #[.int .i64 W2, .int .i64 H2, .slice a10 x2.length c10] 24); replace k2 := k2.alloc (.cells #[.int .i64 W2, .int .i64 H2, .slice a10 x2.length c10] 24); replace k3 := k3.alloc (.cells #[.int .i64 W2, .int .i64 H2, .slice a10 x2.length c10] 24); replace hb1 := hb1.alloc hb1.size (.cells #[.int .i64 W2, .int .i64 H2, .slice a10 x2.length c10] 24))
  have r0 := k3.cell 0
  have r1 := k3.cell 1
  have r2 := k3.cell 2
  have s0 := k4.cell 0
  have s1 := k4.cell 1
  have s2 := k4.cell 2
  go_wp2_with fail
  clear r0 r1 r2 s0 s1 s2
  obtain ⟨B4, hB4⟩ : ∃ B4, B4 = w10.heap.size := ⟨_, rfl⟩
  rw [← hB4] at k4 ⊢
  clear hB4
  generalize w10.alloc (.cells #[.int .i64 W2, .int .i64 H2, .slice a10 x2.length c10] 24) = w12 at hx1 hx2 q1 q2 k1 k2 k3 k4 hb1 ⊢
  clear w10
  refine (implOverlap_any W1 H1 _ x1 W2 H2 _ x2 over w12 q1 q2 Hx1'.out Hx2'.out).mono ?_
  rintro e w13 ⟨ri, rfl, hri, hb⟩
  rw [← Hok.out]
  have hsame : Fl.nf .f32 ri = Fl.nf .f32 rs := hri.trans Hrs.out.symm
  have Hsame := hid hsame
  (replace hx1 := hx1.mono hb; replace hx2 := hx2.mono hb; replace q1 := q1.mono hb; replace q2 := q2.mono hb; replace k1 := k1.below hb k1.lt; replace k2 := k2.below hb k2.lt; replace k3 := k3.below hb k3.lt; replace k4 := k4.below hb k4.lt; replace hb1 := hb1.trans (hb.mono hb1.size))
  clear hb hri hsame Hrs
  go_wp2_with fail
  refine (sameFloat_any _ _ _).mono ?_
  rintro e w14 ⟨rfl, hb⟩
  rw [same_wide Hsame.out]
  replace hb : Below w13.heap.size w13 w14 := (Below.drewN' _ (Below.refl _ _)).trans hb
  (replace hx1 := hx1.mono hb; replace hx2 := hx2.mono hb; replace q1 := q1.mono hb; replace q2 := q2.mono hb; replace k1 := k1.below hb k1.lt; replace k2 := k2.below hb k2.lt; replace k3 := k3.below hb k3.lt; replace k4 := k4.below hb k4.lt; replace hb1 := hb1.trans (hb.mono hb1.size))
  clear hb
  have r0 := k1.cell 0
  have r1 := k1.cell 1
  have r2 := k1.cell 2
  have s0 := k3.cell 0
  have s1 := k3.cell 1
  have s2 := k3.cell 2
  have lt1 := k1.lt
  have lt2 := k3.lt
  go_wp2
  refine Mix.wp_mix [.S, .S, .A, .A, .S] [0, 1, 2, 3, 4] (Below w14.heap.size w14) (by kernel_rfl) (by kernel_rfl) ((Below.refl _ _).drew) ?_
  have hC : Below w14.heap.size w14 w14.drew := (Below.refl _ _).drew
  generalize w14.drew = w14d at hC ⊢
  repeat (first | (refine Mix.sf_S rfl rfl rfl rfl rfl (Mix.valOp_spec rfl) hC ?_; apply Exists.intro; refine ⟨?_, ?_⟩; · (intro w' hC' K hK; have hk := (bcell hC').1; go_step; exact hK)) | (refine Mix.sf_skipS rfl rfl rfl rfl ?_; apply Exists.intro; refine ⟨?_, ?_⟩; · (intro K hK; go_step; exact hK)) | (refine Mix.sf_skipA rfl rfl rfl rfl ?_; apply Exists.intro; refine ⟨?_, ?_⟩; · (intro K hK; go_step; exact hK)) | (refine Mix.sf_skipL rfl rfl rfl rfl ?_ hC; apply Exists.intro; refine ⟨?_, ?_⟩; · (intro K hK; go_step; exact hK); clear hC; intro wL hC))
  refine Mix.sf_A rfl rfl rfl ?_; intro K hK; go_step
  refine (toPicture_any W1 H1 _ x1 rfl _ w14d (hx1.mono hC) Hx1.out).mono ?_
  rintro e w11 ⟨v3, rfl, hv3, hb⟩
  obtain ⟨a3, c3, rfl, -⟩ := own_form hv3
  have p3 := Sl.of_own hv3
  refine hK _ _ (hC.trans (hb.mono hC.size)) ?_
  replace hC := hC.trans (hb.mono hC.size)
  clear hK K hb hv3
  repeat (first | (refine Mix.sf_S rfl rfl rfl rfl rfl (Mix.valOp_spec rfl) hC ?_; apply Exists.intro; refine ⟨?_, ?_⟩; · (intro w' hC' K hK; have hk := (bcell hC').1; go_step; exact hK)) | (refine Mix.sf_skipS rfl rfl rfl rfl ?_; apply Exists.intro; refine ⟨?_, ?_⟩; · (intro K hK; go_step; exact hK)) | (refine Mix.sf_skipA rfl rfl rfl rfl ?_; apply Exists.intro; refine ⟨?_, ?_⟩; · (intro K hK; go_step; exact hK)) | (refine Mix.sf_skipL rfl rfl rfl rfl ?_ hC; apply Exists.intro; refine ⟨?_, ?_⟩; · (intro K hK; go_step; exact hK); clear hC; intro wL hC))
  refine Mix.sf_A rfl rfl rfl ?_; intro K hK; go_step
  refine (eqPicture_yes W1 H1 x1 x1 _ _ w11 (q1.mono hC) p3 Hx1'.out rfl).mono ?_
  rintro e w14e ⟨rfl, hb⟩
  refine hK _ _ (hC.trans (hb.mono hC.size)) ?_
  replace hC := hC.trans (hb.mono hC.size)
  clear hK K hb p3
  repeat (first | (refine Mix.sf_S rfl rfl rfl rfl rfl (Mix.valOp_spec rfl) hC ?_; apply Exists.intro; refine ⟨?_, ?_⟩; · (intro w' hC' K hK; have hk := (bcell hC').1; go_step; exact hK)) | (refine Mix.sf_skipS rfl rfl rfl rfl ?_; apply Exists.intro; refine ⟨?_, ?_⟩; · (intro K hK; go_step; exact hK)) | (refine Mix.sf_skipA rfl rfl rfl rfl ?_; apply Exists.intro; refine ⟨?_, ?_⟩; · (intro K hK; go_step; exact hK)) | (refine Mix.sf_skipL rfl rfl rfl rfl ?_ hC; apply Exists.intro; refine ⟨?_, ?_⟩; · (intro K hK; go_step; exact hK); clear hC; intro wL hC))
  refine Mix.sf_nil ?_
  clear r0 r1 r2 s0 s1 s2 lt1 lt2
  (replace hx1 := hx1.mono hC; replace hx2 := hx2.mono hC; replace q1 := q1.mono hC; replace q2 := q2.mono hC; replace k1 := k1.below hC k1.lt; replace k2 := k2.below hC k2.lt; replace k3 := k3.below hC k3.lt; replace k4 := k4.below hC k4.lt; replace hb1 := hb1.trans (hC.mono hb1.size))
  clear hC
  have r0 := k2.cell 0
  have r1 := k2.cell 1
  have r2 := k2.cell 2
  have s0 := k4.cell 0
  have s1 := k4.cell 1
  have s2 := k4.cell 2
  have lt1 := k2.lt
  have lt2 := k4.lt
  go_wp2
  refine Mix.wp_mix [.S, .S, .A, .A, .S] [0, 1, 2, 3, 4] (Below w14e.heap.size w14e) (by kernel_rfl) (by kernel_rfl) ((Below.refl _ _).drew) ?_
  have hC : Below w14e.heap.size w14e w14e.drew := (Below.refl _ _).drew
  generalize w14e.drew = w14ed at hC ⊢
  repeat (first | (refine Mix.sf_S rfl rfl rfl rfl rfl (Mix.valOp_spec rfl) hC ?_; apply Exists.intro; refine ⟨?_, ?_⟩; · (intro w' hC' K hK; have hk := (bcell hC').1; go_step; exact hK)) | (refine Mix.sf_skipS rfl rfl rfl rfl ?_; apply Exists.intro; refine ⟨?_, ?_⟩; · (intro K hK; go_step; exact hK)) | (refine Mix.sf_skipA rfl rfl rfl rfl ?_; apply Exists.intro; refine ⟨?_, ?_⟩; · (intro K hK; go_step; exact hK)) | (refine Mix.sf_skipL rfl rfl rfl rfl ?_ hC; apply Exists.intro; refine ⟨?_, ?_⟩; · (intro K hK; go_step; exact hK); clear hC; intro wL hC))
  refine Mix.sf_A rfl rfl rfl ?_; intro K hK; go_step
  refine (toPicture_any W2 H2 _ x2 rfl _ w14ed (hx2.mono hC) Hx2.out).mono ?_
  rintro e w11 ⟨v3, rfl, hv3, hb⟩
  obtain ⟨a3, c3, rfl, -⟩ := own_form hv3
  have p3 := Sl.of_own hv3
  refine hK _ _ (hC.trans (hb.mono hC.size)) ?_
  replace hC := hC.trans (hb.mono hC.size)
  clear hK K hb hv3
  repeat (first | (refine Mix.sf_S rfl rfl rfl rfl rfl (Mix.valOp_spec rfl) hC ?_; apply Exists.intro; refine ⟨?_, ?_⟩; · (intro w' hC' K hK; have hk := (bcell hC').1; go_step; exact hK)) | (refine Mix.sf_skipS rfl rfl rfl rfl ?_; apply Exists.intro; refine ⟨?_, ?_⟩; · (intro K hK; go_step; exact hK)) | (refine Mix.sf_skipA rfl rfl rfl rfl ?_; apply Exists.intro; refine ⟨?_, ?_⟩; · (intro K hK; go_step; exact hK)) | (refine Mix.sf_skipL rfl rfl rfl rfl ?_ hC; apply Exists.intro; refine ⟨?_, ?_⟩; · (intro K hK; go_step; exact hK); clear hC; intro wL hC))
  refine Mix.sf_A rfl rfl rfl ?_; intro K hK; go_step
  refine (eqPicture_yes W2 H2 x2 x2 _ _ w11 (q2.mono hC) p3 Hx2'.out rfl).mono ?_
  rintro e w14ee ⟨rfl, hb⟩
  refine hK _ _ (hC.trans (hb.mono hC.size)) ?_
  replace hC := hC.trans (hb.mono hC.size)
  clear hK K hb p3
  repeat (first | (refine Mix.sf_S rfl rfl rfl rfl rfl (Mix.valOp_spec rfl) hC ?_; apply Exists.intro; refine ⟨?_, ?_⟩; · (intro w' hC' K hK; have hk := (bcell hC').1; go_step; exact hK)) | (refine Mix.sf_skipS rfl rfl rfl rfl ?_; apply Exists.intro; refine ⟨?_, ?_⟩; · (intro K hK; go_step; exact hK)) | (refine Mix.sf_skipA rfl rfl rfl rfl ?_; apply Exists.intro; refine ⟨?_, ?_⟩; · (intro K hK; go_step; exact hK)) | (refine Mix.sf_skipL rfl rfl rfl rfl ?_ hC; apply Exists.intro; refine ⟨?_, ?_⟩; · (intro K hK; go_step; exact hK); clear hC; intro wL hC))
  refine Mix.sf_nil ?_
  clear r0 r1 r2 s0 s1 s2 lt1 lt2
  (replace hb1 := hb1.trans (hC.mono hb1.size))
  clear hC
  go_wp2
  go_ret
  exact ⟨rfl, hb1⟩

end Go.Proofs.Ytjennldpjfeppaa
