/-
  The squares of the differences where two pictures lie over each other, by the program.
  Conditions: the lights are rows of cells that read; the sides are within the limits.
-/
import Derived.Test.YtggbdmgonobefaaA10
namespace Go.Proofs.Ytggbdmgonobefaa
open Go.RowKit
set_option linter.unusedVariables false
set_option linter.unusedSimpArgs false
attribute [local go_sem] Fl.run_fadd Fl.run_fsub Fl.run_fmul Fl.run_fquo Fl.run_wide Fl.run_store_float

theorem size_alloc1 (w : World) (o : Obj) : (w.alloc o).heap.size = w.heap.size + 1 := by simp

def apartV (W1 : Nat) (x1 : List Nat) (W2 : Nat) (x2 : List Nat) (ov x y : Nat) : Nat :=
  Fl.fop .mul .f32 (Fl.fop .sub .f32 (x1.getD (y * W1 + (W1 - ov + x)) 0) (x2.getD (y * W2 + x) 0)) (Fl.fop .sub .f32 (x1.getD (y * W1 + (W1 - ov + x)) 0) (x2.getD (y * W2 + x) 0))

theorem at_lt {W H x y : Nat} (hx : x < W) (hy : y < H) : y * W + x < W * H := by
  have h1 : (y + 1) * W ≤ H * W := Nat.mul_le_mul_right W hy
  rw [Nat.succ_mul] at h1
  rw [Nat.mul_comm W H]
  omega

set_option maxHeartbeats 2000000 in
set_option maxRecDepth 100000 in
theorem apart1_any (W1 W2 H ov : Nat) (v1 v2 : Value) (x1 x2 : List Nat) (b1 b2 b3 : Nat) (x y : Nat) (w : World) (hp1 : PicAt w b1 0 W1 H v1 x1) (hp2 : PicAt w b2 0 W2 H v2 x2) (ho : w.cell? ⟨b3, 0, none⟩ = some (.int .i64 ov))
    (hl1 : x1.length = W1 * H) (hl2 : x2.length = W2 * H) (hW1 : W1 ≤ 16) (hW2 : W2 ≤ 16) (hH : H ≤ 16) (ho1 : ov ≤ W1) (ho2 : ov ≤ W2) (hx : x < ov) (hy : y < H) :
    Calls Try.prog 159 #[.int .i64 x, .int .i64 y, .pointer (some ⟨b1, 0, none⟩), .pointer (some ⟨b3, 0, none⟩), .pointer (some ⟨b2, 0, none⟩)] w fun e w' => ∃ r, e = .returned (fv r) ∧ Fl.nf .f32 r = apartV W1 x1 W2 x2 ov x y ∧ Below w.heap.size w w' := by
  have c0 := hp1.c0
  have c1 := hp1.c1
  have c2 := hp1.c2
  have d0 := hp2.c0
  have d1 := hp2.c1
  have d2 := hp2.c2
  have hB1 := hp1.lt
  have hB2 := hp2.lt
  have hB3 := World.block_lt_of_cell? w _ ho
  rw [Nat.zero_add] at c1 c2 d1 d2
  have hcall1 := fun w3 (h : Below w.heap.size w w3) => at_any W1 H v1 x1 (W1 - ov + x) y w3 (hp1.sl.mono h) (by rw [hl1]; exact at_lt (by omega) hy) hW1 (by omega) (by omega)
  have hcall2 := fun w3 (h : Below w.heap.size w w3) => at_any W2 H v2 x2 x y w3 (hp2.sl.mono h) (by rw [hl2]; exact at_lt (by omega) hy) hW2 (by omega) (by omega)
  obtain ⟨q, hq⟩ : ∃ q, q = W1 - ov + x := ⟨_, rfl⟩
  have hqI : (W1 : Int) - ov + x = q := by omega
  obtain ⟨A, hA⟩ : ∃ A, A = x1.getD (y * W1 + (W1 - ov + x)) 0 := ⟨_, rfl⟩
  obtain ⟨B, hB⟩ : ∃ B, B = x2.getD (y * W2 + x) 0 := ⟨_, rfl⟩
  have hv : apartV W1 x1 W2 x2 ov x y = Fl.fop .mul .f32 (Fl.fop .sub .f32 A B) (Fl.fop .sub .f32 A B) := by rw [apartV, hA, hB]
  have Hv := hid hv
  rw [← hA, ← hq] at hcall1
  rw [← hB] at hcall2
  have hq16 : q ≤ 32 := by omega
  clear hA hB hq hv hp1 hp2 hl1 hl2
  go_enter Try.func159, Try.ntmps159
  go_wp2
  refine Mix.wp_mix [.S, .S, .S, .S, .S, .S, .S, .S, .A, .S, .S, .S, .A, .L, .A, .S] [0, 1, 2, 3, 4, 5, 6, 7, 9, 10, 11, 8, 12, 13, 14, 15] (Below w.heap.size w) (by kernel_rfl) (by kernel_rfl) ((Below.refl _ _).drew) ?_
  have hC : Below w.heap.size w w.drew := (Below.refl _ _).drew
  generalize w.drew = w2 at hC ⊢
  repeat (first | (refine Mix.sf_S rfl rfl rfl rfl rfl (Mix.valOp_spec rfl) hC ?_; apply Exists.intro; refine ⟨?_, ?_⟩; · (intro w' hC' K hK; have hk := (bcell hC').1; go_step; exact hK)) | (refine Mix.sf_skipS rfl rfl rfl rfl ?_; apply Exists.intro; refine ⟨?_, ?_⟩; · (intro K hK; go_step; exact hK)) | (refine Mix.sf_skipA rfl rfl rfl rfl ?_; apply Exists.intro; refine ⟨?_, ?_⟩; · (intro K hK; go_step; exact hK)) | (refine Mix.sf_skipL rfl rfl rfl rfl ?_ hC; apply Exists.intro; refine ⟨?_, ?_⟩; · (intro K hK; go_step; exact hK); clear hC; intro wL hC))
  refine Mix.sf_A rfl rfl rfl ?_; intro K hK; go_step
  refine (hcall1 _ hC).mono ?_
  rintro e w' ⟨rfl, hb3⟩
  refine hK _ _ (hC.trans (hb3.mono hC.size)) ?_
  replace hC := hC.trans (hb3.mono hC.size)
  clear hK K hb3
  repeat (first | (refine Mix.sf_S rfl rfl rfl rfl rfl (Mix.valOp_spec rfl) hC ?_; apply Exists.intro; refine ⟨?_, ?_⟩; · (intro w' hC' K hK; have hk := (bcell hC').1; go_step; exact hK)) | (refine Mix.sf_skipS rfl rfl rfl rfl ?_; apply Exists.intro; refine ⟨?_, ?_⟩; · (intro K hK; go_step; exact hK)) | (refine Mix.sf_skipA rfl rfl rfl rfl ?_; apply Exists.intro; refine ⟨?_, ?_⟩; · (intro K hK; go_step; exact hK)) | (refine Mix.sf_skipL rfl rfl rfl rfl ?_ hC; apply Exists.intro; refine ⟨?_, ?_⟩; · (intro K hK; go_step; exact hK); clear hC; intro wL hC))
  refine Mix.sf_A rfl rfl rfl ?_; intro K hK; go_step
  refine (hcall2 _ hC).mono ?_
  rintro e w' ⟨rfl, hb3⟩
  refine hK _ _ (hC.trans (hb3.mono hC.size)) ?_
  replace hC := hC.trans (hb3.mono hC.size)
  clear hK K hb3
  repeat (first | (refine Mix.sf_S rfl rfl rfl rfl rfl (Mix.valOp_spec rfl) hC ?_; apply Exists.intro; refine ⟨?_, ?_⟩; · (intro w' hC' K hK; have hk := (bcell hC').1; go_step; exact hK)) | (refine Mix.sf_skipS rfl rfl rfl rfl ?_; apply Exists.intro; refine ⟨?_, ?_⟩; · (intro K hK; go_step; exact hK)) | (refine Mix.sf_skipA rfl rfl rfl rfl ?_; apply Exists.intro; refine ⟨?_, ?_⟩; · (intro K hK; go_step; exact hK)) | (refine Mix.sf_skipL rfl rfl rfl rfl ?_ hC; apply Exists.intro; refine ⟨?_, ?_⟩; · (intro K hK; go_step; exact hK); clear hC; intro wL hC))
  refine Mix.sf_Larith rfl rfl rfl rfl rfl rfl (by simp) rfl below_draws ?_; clear hC; intro r hr w7 hC; apply Exists.intro; refine ⟨?_, ?_⟩; · (intro K hK; go_step; exact hK)
  repeat (first | (refine Mix.sf_S rfl rfl rfl rfl rfl (Mix.valOp_spec rfl) hC ?_; apply Exists.intro; refine ⟨?_, ?_⟩; · (intro w' hC' K hK; have hk := (bcell hC').1; go_step; exact hK)) | (refine Mix.sf_skipS rfl rfl rfl rfl ?_; apply Exists.intro; refine ⟨?_, ?_⟩; · (intro K hK; go_step; exact hK)) | (refine Mix.sf_skipA rfl rfl rfl rfl ?_; apply Exists.intro; refine ⟨?_, ?_⟩; · (intro K hK; go_step; exact hK)) | (refine Mix.sf_skipL rfl rfl rfl rfl ?_ hC; apply Exists.intro; refine ⟨?_, ?_⟩; · (intro K hK; go_step; exact hK); clear hC; intro wL hC))
  refine Mix.sf_A rfl rfl rfl ?_; intro K hK; go_step
  refine (square_any _ _).mono ?_
  rintro e w' ⟨r2, rfl, hr2, hb3⟩
  refine hK _ _ (hC.trans (hb3.mono hC.size)) ?_
  replace hC := hC.trans (hb3.mono hC.size)
  clear hK K hb3
  have Hr := hid hr
  have Hr2 := hid hr2
  clear hr hr2
  repeat (first | (refine Mix.sf_S rfl rfl rfl rfl rfl (Mix.valOp_spec rfl) hC ?_; apply Exists.intro; refine ⟨?_, ?_⟩; · (intro w' hC' K hK; have hk := (bcell hC').1; go_step; exact hK)) | (refine Mix.sf_skipS rfl rfl rfl rfl ?_; apply Exists.intro; refine ⟨?_, ?_⟩; · (intro K hK; go_step; exact hK)) | (refine Mix.sf_skipA rfl rfl rfl rfl ?_; apply Exists.intro; refine ⟨?_, ?_⟩; · (intro K hK; go_step; exact hK)) | (refine Mix.sf_skipL rfl rfl rfl rfl ?_ hC; apply Exists.intro; refine ⟨?_, ?_⟩; · (intro K hK; go_step; exact hK); clear hC; intro wL hC))
  refine Mix.sf_nil ?_
  go_wp2
  go_ret
  exact ⟨_, rfl, by rw [Hr2.out, Hv.out, ← Hr.out, fop_nf_l, fop_nf_r], hC⟩

theorem entApart (args : Array Value) (w : World) : (callFunc 159 args).run Try.prog w = .ok (.enter 159 args) w := by kernel_rfl

set_option maxHeartbeats 2000000 in
set_option maxRecDepth 100000 in
theorem apart_any (W1 W2 H ov : Nat) (v1 v2 : Value) (x1 x2 : List Nat) (w : World) (hx1 : Sl w v1 (x1.map fv)) (hx2 : Sl w v2 (x2.map fv))
    (hl1 : x1.length = W1 * H) (hl2 : x2.length = W2 * H) (hW1 : W1 ≤ 16) (hW2 : W2 ≤ 16) (hH : H ≤ 16) (ho1 : ov ≤ W1) (ho2 : ov ≤ W2) :
    Calls Try.prog 95 #[.agg #[.int .i64 W1, .int .i64 H, v1], .agg #[.int .i64 W2, .int .i64 H, v2], .int .i64 ov] w fun e w' =>
      ∃ v ys, e = .returned (.agg #[.int .i64 ov, .int .i64 H, v]) ∧ w'.ownsRow w.heap.size 52 1 v ys.length (ys.map fv) ∧ nl ys = grid ov H (apartV W1 x1 W2 x2 ov) ∧ Below w.heap.size w w' := by
  have hmf : ∀ (fn : Fn) (first cap : Array Value) (w : World), (Instr.makeFunc fn first cap).run Try.prog w = .ok (.func fn first cap) w := fun _ _ _ _ => rfl
  obtain ⟨w1, hw1⟩ : ∃ w1, w1 = (((w.alloc (.cells #[.int .i64 W1, .int .i64 H, v1] 32)).alloc (.cells #[.int .i64 W2, .int .i64 H, v2] 32)).alloc (.cells #[.int .i64 ov] 2)).alloc (.cells #[.int .i64 0, .int .i64 0, .slice none 0 0] 32) := ⟨_, rfl⟩
  have hb1 : Below w.heap.size w w1 := by rw [hw1]; exact ((((Below.refl _ _).alloc (Nat.le_refl _) _).alloc (by simp) _).alloc (by simp; omega) _).alloc (by simp; omega) _
  have hx1' := hx1.mono hb1
  have hx2' := hx2.mono hb1
  have k1 : Blk w1 w.heap.size [.int .i64 W1, .int .i64 H, v1] 32 := by rw [hw1]; exact (((Blk.new w _ _).alloc _).alloc _).alloc _
  have k2 : Blk w1 (w.heap.size + 1) [.int .i64 W2, .int .i64 H, v2] 32 := by
    rw [hw1]
    have := Blk.new (w.alloc (.cells #[.int .i64 W1, .int .i64 H, v1] 32)) [.int .i64 W2, .int .i64 H, v2] 32
    simp only [size_alloc1] at this
    exact (this.alloc _).alloc _
  have k3 : Blk w1 (w.heap.size + 1 + 1) [.int .i64 ov] 2 := by
    rw [hw1]
    have := Blk.new ((w.alloc (.cells #[.int .i64 W1, .int .i64 H, v1] 32)).alloc (.cells #[.int .i64 W2, .int .i64 H, v2] 32)) [.int .i64 ov] 2
    simp only [size_alloc1] at this
    exact this.alloc _
  have k4 : Blk w1 (w.heap.size + 1 + 1 + 1) [.int .i64 0, .int .i64 0, .slice none 0 0] 32 := by
    rw [hw1]
    have := Blk.new (((w.alloc (.cells #[.int .i64 W1, .int .i64 H, v1] 32)).alloc (.cells #[.int .i64 W2, .int .i64 H, v2] 32)).alloc (.cells #[.int .i64 ov] 2)) [.int .i64 0, .int .i64 0, .slice none 0 0] 32
    simp only [size_alloc1] at this
    exact this
  have hsz : w.heap.size + 1 + 1 + 1 < w1.heap.size := k4.lt
  have hcall := drawn_any ov H (by omega) hH 159 #[.pointer (some ⟨w.heap.size, 0, none⟩), .pointer (some ⟨w.heap.size + 1 + 1, 0, none⟩), .pointer (some ⟨w.heap.size + 1, 0, none⟩)] (apartV W1 x1 W2 x2 ov) w1 entApart
    (fun x y w2 hx hy hb2 => apart1_any W1 W2 H ov v1 v2 x1 x2 w.heap.size (w.heap.size + 1) (w.heap.size + 1 + 1) x y w2
      ⟨(k1.below hb2 k1.lt).cell 0, (k1.below hb2 k1.lt).cell 1, (k1.below hb2 k1.lt).cell 2, hx1'.mono hb2⟩
      ⟨(k2.below hb2 k2.lt).cell 0, (k2.below hb2 k2.lt).cell 1, (k2.below hb2 k2.lt).cell 2, hx2'.mono hb2⟩
      ((k3.below hb2 k3.lt).cell 0) hl1 hl2 hW1 hW2 hH ho1 ho2 hx hy)
  have Hk4 := hid k4
  have Hb1 := hid hb1
  have Hsz := hid hsz
  clear k1 k2 k3 k4 hx1 hx2 hx1' hx2' hb1 hsz hl1 hl2
  go_enter Try.func95, Try.ntmps95
  go_wp2_with fail
  rw [← hw1]
  clear hw1
  refine hcall.mono ?_
  rintro e w2 ⟨v, ys, rfl, hown, hys, hb2⟩
  obtain ⟨ad', cap', rfl, -⟩ := own_form hown
  have hres2 := Hk4.out.below hb2 Hsz.out
  have r0 : w2.cell? ⟨w.heap.size + 1 + 1 + 1, 0, none⟩ = some (.int .i64 0) := hres2.cell 0
  have r1 : w2.cell? ⟨w.heap.size + 1 + 1 + 1, 1, none⟩ = some (.int .i64 0) := hres2.cell 1
  have r2 : w2.cell? ⟨w.heap.size + 1 + 1 + 1, 2, none⟩ = some (.slice none 0 0) := hres2.cell 2
  have f0 : w2.frozen? ⟨w.heap.size + 1 + 1 + 1, 0, none⟩ = false := hres2.frozen 0
  have f1 : w2.frozen? ⟨w.heap.size + 1 + 1 + 1, 1, none⟩ = false := hres2.frozen 1
  have f2 : w2.frozen? ⟨w.heap.size + 1 + 1 + 1, 2, none⟩ = false := hres2.frozen 2
  have hsz := Hsz.out
  have Hown := hid hown
  have Hys := hid hys
  have Hb := hid (Hb1.out.trans (hb2.mono Hb1.out.size))
  clear hown hys hb2 hres2
  go_wp2
  refine bodyPost_ret (v := .agg #[.int .i64 ov, .int .i64 H, .slice ad' ys.length cap']) (by simp [results, Try.results95, go_sem, r0, r1, r2, f0, f1, f2]) rfl ⟨_, ys, rfl, ?_, Hys.out, ?_⟩
  · exact own_base (by omega) (ownsRow_setCell_below (ownsRow_setCell_below (ownsRow_setCell_below Hown.out (by simp; omega) _) (by simp; omega) _) (by simp; omega) _)
  · exact (((Hb.out).setCell (by simp; omega) _).setCell (by simp; omega) _).setCell (by simp; omega) _

end Go.Proofs.Ytggbdmgonobefaa
