/-
  The edges of a picture by the program.
  Conditions: the lights are a row of cells that reads.
-/
import Derived.Test.YtggbdmgonobefaaA25
import Derived.Test.YtggbdmgonobefaaA14
namespace Go.Proofs.Ytggbdmgonobefaa
open Go.RowKit
set_option linter.unusedVariables false
set_option linter.unusedSimpArgs false
attribute [local go_sem] Fl.run_fadd Fl.run_fsub Fl.run_fmul Fl.run_fquo Fl.run_wide Fl.run_store_float

/-- How much the lights change at a place. -/
def edgeV (W H : Nat) (xs : List Nat) (x y : Nat) : Nat :=
  Fl.fop .add .f32 (absF (Fl.fop .sub .f32 (xs.getD (y * W + min (x + 1) (W - 1)) 0) (xs.getD (y * W + (x - 1)) 0))) (absF (Fl.fop .sub .f32 (xs.getD (min (y + 1) (H - 1) * W + x) 0) (xs.getD ((y - 1) * W + x) 0)))

theorem absF_nf (x : Nat) : absF (Fl.nf .f32 x) = absF x := by
  unfold absF
  rw [Fl.isnan_nf]
  cases h : Fl.isnan .f32 x
  · rw [Fl.nf_of_not h]
  · rfl

theorem near_up {x W : Nat} (hx : x < W) : min (max ((x : Int) + 1) 0) ((W : Int) - 1) = ((min (x + 1) (W - 1) : Nat) : Int) := by omega
theorem near_down {x W : Nat} (hx : x < W) : min (max ((x : Int) - 1) 0) ((W : Int) - 1) = ((x - 1 : Nat) : Int) := by omega

set_option maxHeartbeats 4000000 in
set_option maxRecDepth 100000 in
theorem edges1_any (W H : Nat) (v : Value) (xs : List Nat) (b1 x y : Nat) (w : World) (hp : PicAt w b1 0 W H v xs)
    (hl : xs.length = W * H) (hW : W ≤ 16) (hH : H ≤ 16) (hx : x < W) (hy : y < H) :
    Calls Try.prog 153 #[.int .i64 x, .int .i64 y, .pointer (some ⟨b1, 0, none⟩)] w fun e w' => ∃ r, e = .returned (fv r) ∧ Fl.nf .f32 r = edgeV W H xs x y ∧ Below w.heap.size w w' := by
  have c0 := hp.c0
  have c1 := hp.c1
  have c2 := hp.c2
  have hB := hp.lt
  rw [Nat.zero_add] at c1 c2
  have hat := fun (q p : Nat) (hq : q < W) (hp' : p < H) (w3 : World) (h : Below w.heap.size w w3) => at_any W H v xs q p w3 (hp.sl.mono h) (by rw [hl]; exact at_lt hq hp') (by omega) (by omega) (by omega)
  have n1 := fun w3 => near_any ((x : Int) + 1) W w3 (by omega) (by omega)
  have n2 := fun w3 => near_any ((x : Int) - 1) W w3 (by omega) (by omega)
  have n3 := fun w3 => near_any ((y : Int) + 1) H w3 (by omega) (by omega)
  have n4 := fun w3 => near_any ((y : Int) - 1) H w3 (by omega) (by omega)
  rw [near_up hx] at n1
  rw [near_down hx] at n2
  rw [near_up hy] at n3
  rw [near_down hy] at n4
  have a1 := hat (min (x + 1) (W - 1)) y (by omega) hy
  have a2 := hat (x - 1) y (by omega) hy
  have a3 := hat x (min (y + 1) (H - 1)) hx (by omega)
  have a4 := hat x (y - 1) hx (by omega)
  have hg : edgeV W H xs x y = Fl.fop .add .f32 (absF (Fl.fop .sub .f32 (xs.getD (y * W + min (x + 1) (W - 1)) 0) (xs.getD (y * W + (x - 1)) 0))) (absF (Fl.fop .sub .f32 (xs.getD (min (y + 1) (H - 1) * W + x) 0) (xs.getD ((y - 1) * W + x) 0))) := rfl
  obtain ⟨A1, hA1⟩ : ∃ A, A = xs.getD (y * W + min (x + 1) (W - 1)) 0 := ⟨_, rfl⟩
  obtain ⟨A2, hA2⟩ : ∃ A, A = xs.getD (y * W + (x - 1)) 0 := ⟨_, rfl⟩
  obtain ⟨A3, hA3⟩ : ∃ A, A = xs.getD (min (y + 1) (H - 1) * W + x) 0 := ⟨_, rfl⟩
  obtain ⟨A4, hA4⟩ : ∃ A, A = xs.getD ((y - 1) * W + x) 0 := ⟨_, rfl⟩
  rw [← hA1] at a1 hg
  rw [← hA2] at a2 hg
  rw [← hA3] at a3 hg
  rw [← hA4] at a4 hg
  obtain ⟨q1, hq1⟩ : ∃ q, q = min (x + 1) (W - 1) := ⟨_, rfl⟩
  obtain ⟨q2, hq2⟩ : ∃ q, q = x - 1 := ⟨_, rfl⟩
  obtain ⟨q3, hq3⟩ : ∃ q, q = min (y + 1) (H - 1) := ⟨_, rfl⟩
  obtain ⟨q4, hq4⟩ : ∃ q, q = y - 1 := ⟨_, rfl⟩
  rw [← hq1] at n1 a1
  rw [← hq2] at n2 a2
  rw [← hq3] at n3 a3
  rw [← hq4] at n4 a4
  have Hg := hid hg
  clear hg hat hA1 hA2 hA3 hA4 hq1 hq2 hq3 hq4 hp hl
  go_enter Try.func153, Try.ntmps153
  go_wp2
  refine Mix.wp_mix [.S, .S, .S, .S, .S, .A, .S, .A, .S, .S, .S, .S, .S, .A, .S, .A, .L, .S] [0, 1, 2, 3, 4, 6, 8, 9, 10, 11, 12, 14, 5, 7, 13, 15, 16, 17] (Below w.heap.size w) (by kernel_rfl) (by kernel_rfl) ((Below.refl _ _).drew) ?_
  have hC : Below w.heap.size w w.drew := (Below.refl _ _).drew
  generalize w.drew = w2 at hC ⊢
  repeat (first | (refine Mix.sf_S rfl rfl rfl rfl rfl (Mix.valOp_spec rfl) hC ?_; apply Exists.intro; refine ⟨?_, ?_⟩; · (intro w' hC' K hK; have hk := (bcell hC').1; go_step; exact hK)) | (refine Mix.sf_skipS rfl rfl rfl rfl ?_; apply Exists.intro; refine ⟨?_, ?_⟩; · (intro K hK; go_step; exact hK)) | (refine Mix.sf_skipA rfl rfl rfl rfl ?_; apply Exists.intro; refine ⟨?_, ?_⟩; · (intro K hK; go_step; exact hK)) | (refine Mix.sf_skipL rfl rfl rfl rfl ?_ hC; apply Exists.intro; refine ⟨?_, ?_⟩; · (intro K hK; go_step; exact hK); clear hC; intro wL hC))
  refine Mix.sf_A rfl rfl rfl ?_; intro K hK; go_step
  refine (n1 _).mono ?_
  rintro e w' ⟨rfl, rfl⟩
  refine hK _ _ hC ?_
  clear hK K
  repeat (first | (refine Mix.sf_S rfl rfl rfl rfl rfl (Mix.valOp_spec rfl) hC ?_; apply Exists.intro; refine ⟨?_, ?_⟩; · (intro w' hC' K hK; have hk := (bcell hC').1; go_step; exact hK)) | (refine Mix.sf_skipS rfl rfl rfl rfl ?_; apply Exists.intro; refine ⟨?_, ?_⟩; · (intro K hK; go_step; exact hK)) | (refine Mix.sf_skipA rfl rfl rfl rfl ?_; apply Exists.intro; refine ⟨?_, ?_⟩; · (intro K hK; go_step; exact hK)) | (refine Mix.sf_skipL rfl rfl rfl rfl ?_ hC; apply Exists.intro; refine ⟨?_, ?_⟩; · (intro K hK; go_step; exact hK); clear hC; intro wL hC))
  refine Mix.sf_A rfl rfl rfl ?_; intro K hK; go_step
  refine (a1 _ hC).mono ?_
  rintro e w' ⟨rfl, hb3⟩
  refine hK _ _ (hC.trans (hb3.mono hC.size)) ?_
  replace hC := hC.trans (hb3.mono hC.size)
  clear hK K hb3
  repeat (first | (refine Mix.sf_S rfl rfl rfl rfl rfl (Mix.valOp_spec rfl) hC ?_; apply Exists.intro; refine ⟨?_, ?_⟩; · (intro w' hC' K hK; have hk := (bcell hC').1; go_step; exact hK)) | (refine Mix.sf_skipS rfl rfl rfl rfl ?_; apply Exists.intro; refine ⟨?_, ?_⟩; · (intro K hK; go_step; exact hK)) | (refine Mix.sf_skipA rfl rfl rfl rfl ?_; apply Exists.intro; refine ⟨?_, ?_⟩; · (intro K hK; go_step; exact hK)) | (refine Mix.sf_skipL rfl rfl rfl rfl ?_ hC; apply Exists.intro; refine ⟨?_, ?_⟩; · (intro K hK; go_step; exact hK); clear hC; intro wL hC))
  refine Mix.sf_A rfl rfl rfl ?_; intro K hK; go_step
  refine (n2 _).mono ?_
  rintro e w' ⟨rfl, rfl⟩
  refine hK _ _ hC ?_
  clear hK K
  repeat (first | (refine Mix.sf_S rfl rfl rfl rfl rfl (Mix.valOp_spec rfl) hC ?_; apply Exists.intro; refine ⟨?_, ?_⟩; · (intro w' hC' K hK; have hk := (bcell hC').1; go_step; exact hK)) | (refine Mix.sf_skipS rfl rfl rfl rfl ?_; apply Exists.intro; refine ⟨?_, ?_⟩; · (intro K hK; go_step; exact hK)) | (refine Mix.sf_skipA rfl rfl rfl rfl ?_; apply Exists.intro; refine ⟨?_, ?_⟩; · (intro K hK; go_step; exact hK)) | (refine Mix.sf_skipL rfl rfl rfl rfl ?_ hC; apply Exists.intro; refine ⟨?_, ?_⟩; · (intro K hK; go_step; exact hK); clear hC; intro wL hC))
  refine Mix.sf_A rfl rfl rfl ?_; intro K hK; go_step
  refine (a2 _ hC).mono ?_
  rintro e w' ⟨rfl, hb3⟩
  refine hK _ _ (hC.trans (hb3.mono hC.size)) ?_
  replace hC := hC.trans (hb3.mono hC.size)
  clear hK K hb3
  repeat (first | (refine Mix.sf_S rfl rfl rfl rfl rfl (Mix.valOp_spec rfl) hC ?_; apply Exists.intro; refine ⟨?_, ?_⟩; · (intro w' hC' K hK; have hk := (bcell hC').1; go_step; exact hK)) | (refine Mix.sf_skipS rfl rfl rfl rfl ?_; apply Exists.intro; refine ⟨?_, ?_⟩; · (intro K hK; go_step; exact hK)) | (refine Mix.sf_skipA rfl rfl rfl rfl ?_; apply Exists.intro; refine ⟨?_, ?_⟩; · (intro K hK; go_step; exact hK)) | (refine Mix.sf_skipL rfl rfl rfl rfl ?_ hC; apply Exists.intro; refine ⟨?_, ?_⟩; · (intro K hK; go_step; exact hK); clear hC; intro wL hC))
  refine Mix.sf_Larith rfl rfl rfl rfl rfl rfl (by simp) rfl below_draws ?_; clear hC; intro r hr w7 hC; apply Exists.intro; refine ⟨?_, ?_⟩; · (intro K hK; go_step; exact hK)
  have Hr := hid hr
  clear hr
  repeat (first | (refine Mix.sf_S rfl rfl rfl rfl rfl (Mix.valOp_spec rfl) hC ?_; apply Exists.intro; refine ⟨?_, ?_⟩; · (intro w' hC' K hK; have hk := (bcell hC').1; go_step; exact hK)) | (refine Mix.sf_skipS rfl rfl rfl rfl ?_; apply Exists.intro; refine ⟨?_, ?_⟩; · (intro K hK; go_step; exact hK)) | (refine Mix.sf_skipA rfl rfl rfl rfl ?_; apply Exists.intro; refine ⟨?_, ?_⟩; · (intro K hK; go_step; exact hK)) | (refine Mix.sf_skipL rfl rfl rfl rfl ?_ hC; apply Exists.intro; refine ⟨?_, ?_⟩; · (intro K hK; go_step; exact hK); clear hC; intro wL hC))
  refine Mix.sf_nil ?_
  have e0 := (hC.cell hB).trans c0
  have e1 := (hC.cell hB).trans c1
  have e2 := (hC.cell hB).trans c2
  have hBw : b1 < w7.heap.size := Nat.lt_of_lt_of_le hB hC.size
  have HCw := hid hC
  clear hC
  go_wp2
  refine Mix.wp_mix [.S, .S, .S, .S, .S, .S, .A, .A, .S, .S, .S, .S, .S, .S, .A, .A, .L, .S] [0, 1, 2, 3, 4, 5, 8, 9, 10, 11, 12, 13, 6, 7, 14, 15, 16, 17] (Below w.heap.size w) (by kernel_rfl) (by kernel_rfl) (HCw.out.drew) ?_
  have hC : Below w.heap.size w w7.drew := HCw.out.drew
  clear HCw e0 e1 e2 hBw
  generalize w7.drew = w8 at hC ⊢
  repeat (first | (refine Mix.sf_S rfl rfl rfl rfl rfl (Mix.valOp_spec rfl) hC ?_; apply Exists.intro; refine ⟨?_, ?_⟩; · (intro w' hC' K hK; have hk := (bcell hC').1; go_step; exact hK)) | (refine Mix.sf_skipS rfl rfl rfl rfl ?_; apply Exists.intro; refine ⟨?_, ?_⟩; · (intro K hK; go_step; exact hK)) | (refine Mix.sf_skipA rfl rfl rfl rfl ?_; apply Exists.intro; refine ⟨?_, ?_⟩; · (intro K hK; go_step; exact hK)) | (refine Mix.sf_skipL rfl rfl rfl rfl ?_ hC; apply Exists.intro; refine ⟨?_, ?_⟩; · (intro K hK; go_step; exact hK); clear hC; intro wL hC))
  refine Mix.sf_A rfl rfl rfl ?_; intro K hK; go_step
  refine (n3 _).mono ?_
  rintro e w' ⟨rfl, rfl⟩
  refine hK _ _ hC ?_
  clear hK K
  repeat (first | (refine Mix.sf_S rfl rfl rfl rfl rfl (Mix.valOp_spec rfl) hC ?_; apply Exists.intro; refine ⟨?_, ?_⟩; · (intro w' hC' K hK; have hk := (bcell hC').1; go_step; exact hK)) | (refine Mix.sf_skipS rfl rfl rfl rfl ?_; apply Exists.intro; refine ⟨?_, ?_⟩; · (intro K hK; go_step; exact hK)) | (refine Mix.sf_skipA rfl rfl rfl rfl ?_; apply Exists.intro; refine ⟨?_, ?_⟩; · (intro K hK; go_step; exact hK)) | (refine Mix.sf_skipL rfl rfl rfl rfl ?_ hC; apply Exists.intro; refine ⟨?_, ?_⟩; · (intro K hK; go_step; exact hK); clear hC; intro wL hC))
  refine Mix.sf_A rfl rfl rfl ?_; intro K hK; go_step
  refine (a3 _ hC).mono ?_
  rintro e w' ⟨rfl, hb3⟩
  refine hK _ _ (hC.trans (hb3.mono hC.size)) ?_
  replace hC := hC.trans (hb3.mono hC.size)
  clear hK K hb3
  repeat (first | (refine Mix.sf_S rfl rfl rfl rfl rfl (Mix.valOp_spec rfl) hC ?_; apply Exists.intro; refine ⟨?_, ?_⟩; · (intro w' hC' K hK; have hk := (bcell hC').1; go_step; exact hK)) | (refine Mix.sf_skipS rfl rfl rfl rfl ?_; apply Exists.intro; refine ⟨?_, ?_⟩; · (intro K hK; go_step; exact hK)) | (refine Mix.sf_skipA rfl rfl rfl rfl ?_; apply Exists.intro; refine ⟨?_, ?_⟩; · (intro K hK; go_step; exact hK)) | (refine Mix.sf_skipL rfl rfl rfl rfl ?_ hC; apply Exists.intro; refine ⟨?_, ?_⟩; · (intro K hK; go_step; exact hK); clear hC; intro wL hC))
  refine Mix.sf_A rfl rfl rfl ?_; intro K hK; go_step
  refine (n4 _).mono ?_
  rintro e w' ⟨rfl, rfl⟩
  refine hK _ _ hC ?_
  clear hK K
  repeat (first | (refine Mix.sf_S rfl rfl rfl rfl rfl (Mix.valOp_spec rfl) hC ?_; apply Exists.intro; refine ⟨?_, ?_⟩; · (intro w' hC' K hK; have hk := (bcell hC').1; go_step; exact hK)) | (refine Mix.sf_skipS rfl rfl rfl rfl ?_; apply Exists.intro; refine ⟨?_, ?_⟩; · (intro K hK; go_step; exact hK)) | (refine Mix.sf_skipA rfl rfl rfl rfl ?_; apply Exists.intro; refine ⟨?_, ?_⟩; · (intro K hK; go_step; exact hK)) | (refine Mix.sf_skipL rfl rfl rfl rfl ?_ hC; apply Exists.intro; refine ⟨?_, ?_⟩; · (intro K hK; go_step; exact hK); clear hC; intro wL hC))
  refine Mix.sf_A rfl rfl rfl ?_; intro K hK; go_step
  refine (a4 _ hC).mono ?_
  rintro e w' ⟨rfl, hb3⟩
  refine hK _ _ (hC.trans (hb3.mono hC.size)) ?_
  replace hC := hC.trans (hb3.mono hC.size)
  clear hK K hb3
  repeat (first | (refine Mix.sf_S rfl rfl rfl rfl rfl (Mix.valOp_spec rfl) hC ?_; apply Exists.intro; refine ⟨?_, ?_⟩; · (intro w' hC' K hK; have hk := (bcell hC').1; go_step; exact hK)) | (refine Mix.sf_skipS rfl rfl rfl rfl ?_; apply Exists.intro; refine ⟨?_, ?_⟩; · (intro K hK; go_step; exact hK)) | (refine Mix.sf_skipA rfl rfl rfl rfl ?_; apply Exists.intro; refine ⟨?_, ?_⟩; · (intro K hK; go_step; exact hK)) | (refine Mix.sf_skipL rfl rfl rfl rfl ?_ hC; apply Exists.intro; refine ⟨?_, ?_⟩; · (intro K hK; go_step; exact hK); clear hC; intro wL hC))
  refine Mix.sf_Larith rfl rfl rfl rfl rfl rfl (by simp) rfl below_draws ?_; clear hC; intro r2 hr2 w9 hC; apply Exists.intro; refine ⟨?_, ?_⟩; · (intro K hK; go_step; exact hK)
  have Hr2 := hid hr2
  clear hr2
  repeat (first | (refine Mix.sf_S rfl rfl rfl rfl rfl (Mix.valOp_spec rfl) hC ?_; apply Exists.intro; refine ⟨?_, ?_⟩; · (intro w' hC' K hK; have hk := (bcell hC').1; go_step; exact hK)) | (refine Mix.sf_skipS rfl rfl rfl rfl ?_; apply Exists.intro; refine ⟨?_, ?_⟩; · (intro K hK; go_step; exact hK)) | (refine Mix.sf_skipA rfl rfl rfl rfl ?_; apply Exists.intro; refine ⟨?_, ?_⟩; · (intro K hK; go_step; exact hK)) | (refine Mix.sf_skipL rfl rfl rfl rfl ?_ hC; apply Exists.intro; refine ⟨?_, ?_⟩; · (intro K hK; go_step; exact hK); clear hC; intro wL hC))
  refine Mix.sf_nil ?_
  go_wp2_with fail
  refine (abs_any r _).mono ?_
  rintro e w10 ⟨s1, rfl, hs1, hb10⟩
  have Hs1 := hid hs1
  clear hs1
  go_wp2_with fail
  refine (abs_any r2 _).mono ?_
  rintro e w11 ⟨s2, rfl, hs2, hb11⟩
  have Hs2 := hid hs2
  clear hs2
  go_wp2
  go_ret
  refine ⟨_, rfl, ?_, ?_⟩
  · rw [Fl.nf_fres, Hg.out, ← Hr.out, ← Hr2.out, absF_nf, absF_nf, ← Hs1.out, ← Hs2.out, Fl.fop_nf]
  · exact Below.drewN' _ ((hC.trans (hb10.mono hC.size)).trans (hb11.mono (hC.trans (hb10.mono hC.size)).size))

theorem entEdges (args : Array Value) (w : World) : (callFunc 153 args).run Try.prog w = .ok (.enter 153 args) w := by kernel_rfl

set_option maxHeartbeats 4000000 in
set_option maxRecDepth 100000 in
theorem edges_any (W H : Nat) (v : Value) (xs : List Nat) (w : World) (hx : Sl w v (xs.map fv)) (hl : xs.length = W * H) (hW : W ≤ 16) (hH : H ≤ 16) :
    Calls Try.prog 88 #[.agg #[.int .i64 W, .int .i64 H, v]] w fun e w' =>
      ∃ v ys, e = .returned (.agg #[.int .i64 W, .int .i64 H, v]) ∧ w'.ownsRow w.heap.size 52 1 v ys.length (ys.map fv) ∧ nl ys = grid W H (edgeV W H xs) ∧ Below w.heap.size w w' := by
  have hmf : ∀ (fn : Fn) (first cap : Array Value) (w : World), (Instr.makeFunc fn first cap).run Try.prog w = .ok (.func fn first cap) w := fun _ _ _ _ => rfl
  have hI := ((Inv.start w).alloc [.int .i64 W, .int .i64 H, v] 32).alloc [.int .i64 0, .int .i64 0, .slice none 0 0] 32
  simp only [size_alloc1] at hI
  obtain ⟨w1, hw1⟩ : ∃ w1, w1 = (w.alloc (.cells #[.int .i64 W, .int .i64 H, v] 32)).alloc (.cells #[.int .i64 0, .int .i64 0, .slice none 0 0] 32) := ⟨_, rfl⟩
  rw [show (w.alloc (.cells [Value.int .i64 W, .int .i64 H, v].toArray 32)).alloc (.cells [Value.int .i64 0, .int .i64 0, .slice none 0 0].toArray 32) = w1 from hw1.symm] at hI
  obtain ⟨b, hbe⟩ : ∃ b, b = w.heap.size := ⟨_, rfl⟩
  rw [← hbe] at hI
  have k1 := hI.blk 1 rfl
  have hdr := drawn_any W H hW hH 153 #[.pointer (some ⟨b, 0, none⟩)] (edgeV W H xs) w1 entEdges
      (fun x y w3 hx' hy' hb3 => edges1_any W H v xs b x y w3 ⟨(k1.below hb3 k1.lt).cell 0, (k1.below hb3 k1.lt).cell 1, (k1.below hb3 k1.lt).cell 2, (hI.arg hx).mono hb3⟩ hl hW hH hx' hy')
  have q0 := k1.cell 0
  have q1 := k1.cell 1
  clear k1 hx hl
  go_enter Try.func88, Try.ntmps88
  go_wp2_with fail
  rw [← hw1, ← hbe]
  have Hbe := hid hbe
  clear hw1 hbe
  go_wp2_with fail
  clear q0 q1
  refine hdr.mono ?_
  rintro e w3 ⟨v3, ys, rfl, hown, hys, hb3⟩
  obtain ⟨ad', cap', rfl, -⟩ := own_form hown
  have Hown := hid hown
  have Hys := hid hys
  have hI3 := hI.call hb3
  have hres := hI3.blk 0 rfl
  have r0 := hres.cell 0
  have r1 := hres.cell 1
  have r2 := hres.cell 2
  have f0 := hres.frozen 0
  have f1 := hres.frozen 1
  have f2 := hres.frozen 2
  have hsz2 : b + 1 < w1.heap.size := (hI.blk 0 rfl).lt
  have HI3 := hid hI3
  clear hI hI3 hres hown hys hb3
  go_wp2
  have hz := Hbe.out
  refine bodyPost_ret (v := .agg #[.int .i64 W, .int .i64 H, .slice ad' ys.length cap']) (by simp [results, Try.results88, go_sem, r0, r1, r2, f0, f1, f2]) rfl ⟨_, ys, rfl, ?_, Hys.out, ?_⟩
  · exact own_base (by omega) (ownsRow_setCell_below (ownsRow_setCell_below (ownsRow_setCell_below Hown.out (by simp; omega) _) (by simp; omega) _) (by simp; omega) _)
  · exact (((HI3.out.below).setCell (by simp; omega) _).setCell (by simp; omega) _).setCell (by simp; omega) _

end Go.Proofs.Ytggbdmgonobefaa
