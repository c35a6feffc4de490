/-
  MaskMix by the program.
  Conditions: the lights are rows of cells that read.
-/
import Derived.Test.YtjennldpjfeppaaA39
import Derived.Test.YtjennldpjfeppaaA20
namespace Go.Proofs.Ytjennldpjfeppaa
open Go.RowKit
set_option linter.unusedVariables false
set_option linter.unusedSimpArgs false
attribute [local go_sem] Fl.run_fadd Fl.run_fsub Fl.run_fmul Fl.run_fquo Fl.run_wide Fl.run_store_float

def maskG (W : Nat) (xa xb xm : List Nat) (x y : Nat) : Nat := mixV (xa.getD (y * W + x) 0) (xb.getD (y * W + x) 0) (xm.getD (y * W + x) 0)
def maskB (W1 H1 : Int) (xa : List Nat) (W2 H2 : Int) (xb : List Nat) (W3 H3 : Int) (xm : List Nat) : Bool := bothB W1 H1 xa W2 H2 xb && bothB W1 H1 xa W3 H3 xm && shotB W3 H3 xm
def maskR (W1 H1 : Int) (xa : List Nat) (W2 H2 : Int) (xb : List Nat) (W3 H3 : Int) (xm : List Nat) : Option Pic :=
  if maskB W1 H1 xa W2 H2 xb W3 H3 xm then (if validB W1 H1 (grid W1.toNat H1.toNat (maskG W1.toNat xa xb xm)) then some ⟨W1, H1, grid W1.toNat H1.toNat (maskG W1.toNat xa xb xm)⟩ else none) else none

theorem both_nat {W1 H1 : Int} {x1 : List Nat} {W2 H2 : Int} {x2 : List Nat} (h : bothB W1 H1 x1 W2 H2 x2 = true) :
    ∃ m n : Nat, W1 = m ∧ H1 = n ∧ W2 = m ∧ H2 = n ∧ 1 ≤ m ∧ m ≤ 16 ∧ 1 ≤ n ∧ n ≤ 16 ∧ x1.length = m * n ∧ x2.length = m * n := by
  simp only [bothB, Bool.and_eq_true, validB, inB_spec, beq_iff_eq] at h
  obtain ⟨⟨⟨⟨⟨⟨a1, a2⟩, a3⟩, -⟩, ⟨⟨b1, b2⟩, b3⟩, -⟩, c⟩, d⟩ := h
  subst c d
  obtain ⟨m, rfl⟩ := Int.eq_ofNat_of_zero_le (show 0 ≤ W1 by omega)
  obtain ⟨n, rfl⟩ := Int.eq_ofNat_of_zero_le (show 0 ≤ H1 by omega)
  exact ⟨m, n, rfl, rfl, rfl, rfl, by omega, by omega, by omega, by omega, by exact_mod_cast a3, by exact_mod_cast b3⟩

theorem maskR_len (W1 H1 : Int) (xa : List Nat) (W2 H2 : Int) (xb : List Nat) (W3 H3 : Int) (xm : List Nat) : ((maskR W1 H1 xa W2 H2 xb W3 H3 xm).getD ⟨0, 0, []⟩).L.length ≤ 1048576 := by
  cases hok : maskB W1 H1 xa W2 H2 xb W3 H3 xm
  · simp [maskR, hok]
  · have h1 := hok
    simp only [maskB, Bool.and_eq_true] at h1
    obtain ⟨m, n, rfl, rfl, -, -, g1, g2, g3, g4, -⟩ := both_nat h1.1.1
    simp only [maskR, hok, if_true, Int.toNat_natCast]
    split
    · simp only [Option.getD_some, grid_len]
      have : m * n ≤ 16 * 16 := Nat.mul_le_mul g2 g4
      omega
    · simp

set_option maxHeartbeats 4000000 in
set_option maxRecDepth 100000 in
theorem maskMix1_any (W H : Nat) (va vb vm : Value) (xa xb xm : List Nat) (b1 b2 b3 x y : Nat) (w : World) (pa : PicAt w b1 0 W H va xa) (pb : PicAt w b2 0 W H vb xb) (pm : PicAt w b3 0 W H vm xm)
    (ha : xa.length = W * H) (hb : xb.length = W * H) (hm : xm.length = W * H) (hW : W ≤ 16) (hH : H ≤ 16) (hx : x < W) (hy : y < H) :
    Calls Try.prog 88 #[.int .i64 x, .int .i64 y, .pointer (some ⟨b1, 0, none⟩), .pointer (some ⟨b2, 0, none⟩), .pointer (some ⟨b3, 0, none⟩)] w fun e w' => ∃ r, e = .returned (fv r) ∧ Fl.nf .f32 r = maskG W xa xb xm x y ∧ Below w.heap.size w w' := by
  have c0 := pa.c0
  have c1 := pa.c1
  have c2 := pa.c2
  have d0 := pb.c0
  have d1 := pb.c1
  have d2 := pb.c2
  have e0 := pm.c0
  have e1 := pm.c1
  have e2 := pm.c2
  have hB1 := pa.lt
  have hB2 := pb.lt
  have hB3 := pm.lt
  rw [Nat.zero_add] at c1 c2 d1 d2 e1 e2
  have a1 := fun (w3 : World) (h : Below w.heap.size w w3) => at_any W H va xa x y w3 (pa.sl.mono h) (by rw [ha]; exact at_lt hx hy) (by omega) (by omega) (by omega)
  have a2 := fun (w3 : World) (h : Below w.heap.size w w3) => at_any W H vb xb x y w3 (pb.sl.mono h) (by rw [hb]; exact at_lt hx hy) (by omega) (by omega) (by omega)
  have a3 := fun (w3 : World) (h : Below w.heap.size w w3) => at_any W H vm xm x y w3 (pm.sl.mono h) (by rw [hm]; exact at_lt hx hy) (by omega) (by omega) (by omega)
  have hg : maskG W xa xb xm x y = mixV (xa.getD (y * W + x) 0) (xb.getD (y * W + x) 0) (xm.getD (y * W + x) 0) := rfl
  obtain ⟨A, hA⟩ : ∃ A, A = xa.getD (y * W + x) 0 := ⟨_, rfl⟩
  obtain ⟨B, hBv⟩ : ∃ A, A = xb.getD (y * W + x) 0 := ⟨_, rfl⟩
  obtain ⟨M, hM⟩ : ∃ A, A = xm.getD (y * W + x) 0 := ⟨_, rfl⟩
  rw [← hA] at a1 hg
  rw [← hBv] at a2 hg
  rw [← hM] at a3 hg
  have Hg := hid hg
  clear hg hA hBv hM pa pb pm ha hb hm
  go_enter Try.func88, Try.ntmps88
  go_wp2
  refine Mix.wp_mix [.S, .S, .S, .A, .S, .S, .S, .A, .S, .S, .S, .A, .A, .S] [0, 1, 2, 4, 5, 6, 8, 9, 10, 3, 7, 11, 12, 13] (Below w.heap.size w) (by kernel_rfl) (by kernel_rfl) ((Below.refl _ _).drew) ?_
  have hC : Below w.heap.size w w.drew := (Below.refl _ _).drew
  generalize w.drew = w2 at hC ⊢
  repeat (first | (refine Mix.sf_S rfl rfl rfl rfl rfl (Mix.valOp_spec rfl) hC ?_; apply Exists.intro; refine ⟨?_, ?_⟩; · (intro w' hC' K hK; have hk := (bcell hC').1; go_step; exact hK)) | (refine Mix.sf_skipS rfl rfl rfl rfl ?_; apply Exists.intro; refine ⟨?_, ?_⟩; · (intro K hK; go_step; exact hK)) | (refine Mix.sf_skipA rfl rfl rfl rfl ?_; apply Exists.intro; refine ⟨?_, ?_⟩; · (intro K hK; go_step; exact hK)) | (refine Mix.sf_skipL rfl rfl rfl rfl ?_ hC; apply Exists.intro; refine ⟨?_, ?_⟩; · (intro K hK; go_step; exact hK); clear hC; intro wL hC))
  refine Mix.sf_A rfl rfl rfl ?_; intro K hK; go_step
  refine (a1 _ hC).mono ?_
  rintro e w' ⟨rfl, hb3⟩
  refine hK _ _ (hC.trans (hb3.mono hC.size)) ?_
  replace hC := hC.trans (hb3.mono hC.size)
  clear hK K hb3
  repeat (first | (refine Mix.sf_S rfl rfl rfl rfl rfl (Mix.valOp_spec rfl) hC ?_; apply Exists.intro; refine ⟨?_, ?_⟩; · (intro w' hC' K hK; have hk := (bcell hC').1; go_step; exact hK)) | (refine Mix.sf_skipS rfl rfl rfl rfl ?_; apply Exists.intro; refine ⟨?_, ?_⟩; · (intro K hK; go_step; exact hK)) | (refine Mix.sf_skipA rfl rfl rfl rfl ?_; apply Exists.intro; refine ⟨?_, ?_⟩; · (intro K hK; go_step; exact hK)) | (refine Mix.sf_skipL rfl rfl rfl rfl ?_ hC; apply Exists.intro; refine ⟨?_, ?_⟩; · (intro K hK; go_step; exact hK); clear hC; intro wL hC))
  refine Mix.sf_A rfl rfl rfl ?_; intro K hK; go_step
  refine (a2 _ hC).mono ?_
  rintro e w' ⟨rfl, hb3⟩
  refine hK _ _ (hC.trans (hb3.mono hC.size)) ?_
  replace hC := hC.trans (hb3.mono hC.size)
  clear hK K hb3
  repeat (first | (refine Mix.sf_S rfl rfl rfl rfl rfl (Mix.valOp_spec rfl) hC ?_; apply Exists.intro; refine ⟨?_, ?_⟩; · (intro w' hC' K hK; have hk := (bcell hC').1; go_step; exact hK)) | (refine Mix.sf_skipS rfl rfl rfl rfl ?_; apply Exists.intro; refine ⟨?_, ?_⟩; · (intro K hK; go_step; exact hK)) | (refine Mix.sf_skipA rfl rfl rfl rfl ?_; apply Exists.intro; refine ⟨?_, ?_⟩; · (intro K hK; go_step; exact hK)) | (refine Mix.sf_skipL rfl rfl rfl rfl ?_ hC; apply Exists.intro; refine ⟨?_, ?_⟩; · (intro K hK; go_step; exact hK); clear hC; intro wL hC))
  refine Mix.sf_A rfl rfl rfl ?_; intro K hK; go_step
  refine (a3 _ hC).mono ?_
  rintro e w' ⟨rfl, hb3⟩
  refine hK _ _ (hC.trans (hb3.mono hC.size)) ?_
  replace hC := hC.trans (hb3.mono hC.size)
  clear hK K hb3
  repeat (first | (refine Mix.sf_S rfl rfl rfl rfl rfl (Mix.valOp_spec rfl) hC ?_; apply Exists.intro; refine ⟨?_, ?_⟩; · (intro w' hC' K hK; have hk := (bcell hC').1; go_step; exact hK)) | (refine Mix.sf_skipS rfl rfl rfl rfl ?_; apply Exists.intro; refine ⟨?_, ?_⟩; · (intro K hK; go_step; exact hK)) | (refine Mix.sf_skipA rfl rfl rfl rfl ?_; apply Exists.intro; refine ⟨?_, ?_⟩; · (intro K hK; go_step; exact hK)) | (refine Mix.sf_skipL rfl rfl rfl rfl ?_ hC; apply Exists.intro; refine ⟨?_, ?_⟩; · (intro K hK; go_step; exact hK); clear hC; intro wL hC))
  refine Mix.sf_A rfl rfl rfl ?_; intro K hK; go_step
  refine (mix_any A B M _).mono ?_
  rintro e w' ⟨r, rfl, hr, hb3⟩
  refine hK _ _ (hC.trans (hb3.mono hC.size)) ?_
  replace hC := hC.trans (hb3.mono hC.size)
  clear hK K hb3
  have Hr := hid hr
  clear hr
  repeat (first | (refine Mix.sf_S rfl rfl rfl rfl rfl (Mix.valOp_spec rfl) hC ?_; apply Exists.intro; refine ⟨?_, ?_⟩; · (intro w' hC' K hK; have hk := (bcell hC').1; go_step; exact hK)) | (refine Mix.sf_skipS rfl rfl rfl rfl ?_; apply Exists.intro; refine ⟨?_, ?_⟩; · (intro K hK; go_step; exact hK)) | (refine Mix.sf_skipA rfl rfl rfl rfl ?_; apply Exists.intro; refine ⟨?_, ?_⟩; · (intro K hK; go_step; exact hK)) | (refine Mix.sf_skipL rfl rfl rfl rfl ?_ hC; apply Exists.intro; refine ⟨?_, ?_⟩; · (intro K hK; go_step; exact hK); clear hC; intro wL hC))
  refine Mix.sf_nil ?_
  go_wp2
  go_ret
  exact ⟨_, rfl, by rw [Hr.out, Hg.out], hC⟩

theorem entMask (args : Array Value) (w : World) : (callFunc 88 args).run Try.prog w = .ok (.enter 88 args) w := by kernel_rfl

set_option maxHeartbeats 8000000 in
set_option maxRecDepth 100000 in
theorem implMaskMix_any (W1 H1 : Int) (v1 : Value) (xa : List Nat) (W2 H2 : Int) (v2 : Value) (xb : List Nat) (W3 H3 : Int) (v3 : Value) (xm : List Nat) (w : World) (hx1 : Sl w v1 (xa.map fv)) (hx2 : Sl w v2 (xb.map fv)) (hx3 : Sl w v3 (xm.map fv))
    (hl1 : xa.length ≤ 140737488351232) (hl2 : xb.length ≤ 140737488351232) (hl3 : xm.length ≤ 140737488351232) :
    Calls Try.prog 42 #[.agg #[.int .i64 W1, .int .i64 H1, v1], .agg #[.int .i64 W2, .int .i64 H2, v2], .agg #[.int .i64 W3, .int .i64 H3, v3]] w (PicRes w (maskR W1 H1 xa W2 H2 xb W3 H3 xm)) := by
  have hmf : ∀ (fn : Fn) (first cap : Array Value) (w : World), (Instr.makeFunc fn first cap).run Try.prog w = .ok (.func fn first cap) w := fun _ _ _ _ => rfl
  have hI := ((((Inv.start w).alloc [.int .i64 W1, .int .i64 H1, v1] 24).alloc [.int .i64 W2, .int .i64 H2, v2] 24).alloc [.int .i64 W3, .int .i64 H3, v3] 24).alloc [.int .i64 0, .int .i64 0, .slice none 0 0] 24
  simp only [size_alloc1] at hI
  obtain ⟨w1, hw1⟩ : ∃ w1, w1 = (((w.alloc (.cells #[.int .i64 W1, .int .i64 H1, v1] 24)).alloc (.cells #[.int .i64 W2, .int .i64 H2, v2] 24)).alloc (.cells #[.int .i64 W3, .int .i64 H3, v3] 24)).alloc (.cells #[.int .i64 0, .int .i64 0, .slice none 0 0] 24) := ⟨_, rfl⟩
  rw [show (((w.alloc (.cells [Value.int .i64 W1, .int .i64 H1, v1].toArray 24)).alloc (.cells [Value.int .i64 W2, .int .i64 H2, v2].toArray 24)).alloc (.cells [Value.int .i64 W3, .int .i64 H3, v3].toArray 24)).alloc (.cells [Value.int .i64 0, .int .i64 0, .slice none 0 0].toArray 24) = w1 from hw1.symm] at hI
  obtain ⟨b, hbe⟩ : ∃ b, b = w.heap.size := ⟨_, rfl⟩
  rw [← hbe] at hI
  have hc1 := likeSides_any W1 H1 v1 xa W2 H2 v2 xb w1 (hI.arg hx1) (hI.arg hx2) hl1 hl2
  have hc2 := fun w2 (h : Below w1.heap.size w1 w2) => likeSides_any W1 H1 v1 xa W3 H3 v3 xm w2 ((hI.arg hx1).mono h) ((hI.arg hx3).mono h) hl1 hl3
  have hc3 := fun w2 (h : Below w1.heap.size w1 w2) => isShot_any W3 H3 v3 xm w2 ((hI.arg hx3).mono h) hl3
  rcases (show bothB W1 H1 xa W2 H2 xb = false ∨ (bothB W1 H1 xa W2 H2 xb = true ∧ bothB W1 H1 xa W3 H3 xm = false) ∨ (bothB W1 H1 xa W2 H2 xb = true ∧ bothB W1 H1 xa W3 H3 xm = true ∧ shotB W3 H3 xm = false) ∨ (bothB W1 H1 xa W2 H2 xb = true ∧ bothB W1 H1 xa W3 H3 xm = true ∧ shotB W3 H3 xm = true) by
    cases bothB W1 H1 xa W2 H2 xb <;> cases bothB W1 H1 xa W3 H3 xm <;> cases shotB W3 H3 xm <;> simp) with k1 | ⟨k1, k2⟩ | ⟨k1, k2, k3⟩ | ⟨k1, k2, k3⟩
  rotate_right
  · obtain ⟨m, n, rfl, rfl, rfl, rfl, g1, g2, g3, g4, g5, g6⟩ := both_nat k1
    obtain ⟨m', n', he1, he2, rfl, rfl, -, -, -, -, -, g7⟩ := both_nat k2
    obtain rfl : m' = m := by omega
    obtain rfl : n' = n := by omega
    have hr : maskR (m' : Int) (n' : Int) xa m' n' xb m' n' xm = if validB m' n' (grid m' n' (maskG m' xa xb xm)) then some ⟨m', n', grid m' n' (maskG m' xa xb xm)⟩ else none := by
      simp only [maskR, maskB, k1, k2, k3, Bool.and_self, if_true, Int.toNat_natCast]
    rw [hr]
    rw [k1] at hc1
    rw [k2] at hc2
    rw [k3] at hc3
    clear hr k1 k2 k3 he1 he2
    have hdr := fun (w2 : World) (hb2 : Below w1.heap.size w1 w2) => drawn_any m' n' g2 g4 88 #[.pointer (some ⟨b, 0, none⟩), .pointer (some ⟨b + 1, 0, none⟩), .pointer (some ⟨b + 1 + 1, 0, none⟩)] (maskG m' xa xb xm) w2 entMask
      (fun x y w3 hx' hy' hb3 =>
        have hI3 := (hI.call hb2).call hb3
        maskMix1_any m' n' v1 v2 v3 xa xb xm b (b + 1) (b + 1 + 1) x y w3 ⟨(hI3.blk 3 rfl).cell 0, (hI3.blk 3 rfl).cell 1, (hI3.blk 3 rfl).cell 2, hI3.arg hx1⟩ ⟨(hI3.blk 2 rfl).cell 0, (hI3.blk 2 rfl).cell 1, (hI3.blk 2 rfl).cell 2, hI3.arg hx2⟩
          ⟨(hI3.blk 1 rfl).cell 0, (hI3.blk 1 rfl).cell 1, (hI3.blk 1 rfl).cell 2, hI3.arg hx3⟩ g5 g6 g7 g2 g4 hx' hy')
    obtain ⟨G, hG⟩ : ∃ G, G = grid m' n' (maskG m' xa xb xm) := ⟨_, rfl⟩
    have hGl : G.length ≤ 256 := by
      rw [hG, grid_len]
      have : m' * n' ≤ 16 * 16 := Nat.mul_le_mul g2 g4
      omega
    rw [← hG] at hdr ⊢
    obtain ⟨R, hR⟩ : ∃ R, R = (if validB (m' : Int) n' G then some (⟨m', n', G⟩ : Pic) else none) := ⟨_, rfl⟩
    rw [← hR]
    have HR := hid hR
    have HGl := hid hGl
    clear hG hR hGl hx1 hx2 hx3 g5 g6 g7
    go_enter Try.func42, Try.ntmps42
    go_wp2_with fail
    rw [← hw1, ← hbe]
    have Hbe := hid hbe
    clear hw1 hbe
    refine hc1.mono ?_
    rintro e w2 ⟨rfl, hb2⟩
    have hcc2 := hc2 _ hb2
    have hI2 := hI.call hb2
    have q0 := (hI2.blk 3 rfl).cell 0
    have q1 := (hI2.blk 3 rfl).cell 1
    have q2 := (hI2.blk 3 rfl).cell 2
    have p0 := (hI2.blk 1 rfl).cell 0
    have p1 := (hI2.blk 1 rfl).cell 1
    have p2 := (hI2.blk 1 rfl).cell 2
    clear hc1 hc2
    go_wp2_with fail
    clear q0 q1 q2 p0 p1 p2
    refine hcc2.mono ?_
    rintro e w3 ⟨rfl, hb3⟩
    have hb13 := hb2.trans (hb3.mono hb2.size)
    have hcc3 := hc3 _ hb13
    have hI3 := hI.call hb13
    have p0 := (hI3.blk 1 rfl).cell 0
    have p1 := (hI3.blk 1 rfl).cell 1
    have p2 := (hI3.blk 1 rfl).cell 2
    clear hcc2 hc3 hI2 hb2 hb3
    go_wp2_with fail
    clear p0 p1 p2
    refine hcc3.mono ?_
    rintro e w4 ⟨rfl, hb4⟩
    have hb14 := hb13.trans (hb4.mono hb13.size)
    have hdr4 := hdr _ hb14
    have hI4 := hI.call hb14
    have q0 := (hI4.blk 3 rfl).cell 0
    have q1 := (hI4.blk 3 rfl).cell 1
    clear hcc3 hdr hI3 hb13 hb4 hI hb14
    go_wp2_with fail
    clear q0 q1
    refine hdr4.mono ?_
    rintro e w5 ⟨v5, ys, rfl, hown, hys, hb5⟩
    obtain ⟨ad', cap', rfl, -⟩ := own_form hown
    have hyl : ys.length ≤ 140737488351232 := by
      have h1 : ys.length = G.length := by rw [← hys, nl, List.length_map]
      have := HGl.out
      omega
    have hfail := orFail_any (m' : Int) n' _ ys w5 (Sl.of_own hown) hyl
    have hvb := validB_nl (m' : Int) n' (show nl ys = nl (nl ys) by simp [nl, Fl.nf_nf])
    rw [hys] at hvb
    have HI := hid hI4
    have Hown := hid hown
    have Hb5 := hid hb5
    have Hys := hid hys
    have Hvb := hid hvb
    clear hI4 hown hb5 hys hvb hyl hdr4
    go_wp2_with fail
    refine hfail.mono ?_
    rintro e w6 ⟨hcase, hb6⟩
    have hI6 := (HI.out.call Hb5.out).call hb6
    have hres := hI6.blk 0 rfl
    have r0 := hres.cell 0
    have r1 := hres.cell 1
    have r2 := hres.cell 2
    have f0 := hres.frozen 0
    have f1 := hres.frozen 1
    have f2 := hres.frozen 2
    have Hown4 := hid (own_below Hown.out hb6)
    have HI6 := hid hI6
    have hsz : w.heap.size ≤ w4.heap.size := HI.out.below.size
    have hsz2 : b + 1 + 1 + 1 < w4.heap.size := (HI.out.blk 0 rfl).lt
    clear hI6 hres hb6
    rcases hcase with ⟨hv, rfl⟩ | ⟨hv, rfl⟩
    · have hR1 : R = some (⟨m', n', G⟩ : Pic) := by rw [HR.out, ← Hvb.out, hv]; rfl
      have HR1 := hid hR1
      clear hv HR Hvb hR1
      go_wp2
      refine bodyPost_ret (v := .tuple #[.agg #[.int .i64 m', .int .i64 n', .slice ad' ys.length cap'], .bool true]) (by simp [results, Try.results42, go_sem, r0, r1, r2, f0, f1, f2]) rfl (show PicRes w R _ _ from ?_)
      rw [HR1.out]
      refine ⟨_, ys, rfl, ?_, Hys.out, ?_⟩
      · have hz := Hbe.out
        exact own_base hsz (ownsRow_setCell_below (ownsRow_setCell_below (ownsRow_setCell_below Hown4.out (by simp; omega) _) (by simp; omega) _) (by simp; omega) _)
      · have hz := Hbe.out
        exact (((HI6.out.below).setCell (by simp; omega) _).setCell (by simp; omega) _).setCell (by simp; omega) _
    · have hR1 : R = none := by rw [HR.out, ← Hvb.out, hv]; rfl
      have HR1 := hid hR1
      clear hv HR Hvb hR1
      go_wp2
      refine bodyPost_ret (v := .tuple #[.agg #[.int .i64 0, .int .i64 0, .slice none 0 0], .bool false]) (by simp [results, Try.results42, go_sem, r0, r1, r2, f0, f1, f2]) rfl (show PicRes w R _ _ from ?_)
      rw [HR1.out]
      refine ⟨rfl, ?_⟩
      have hz := Hbe.out
      exact (((HI6.out.below).setCell (by simp; omega) _).setCell (by simp; omega) _).setCell (by simp; omega) _
  all_goals
    have hr : maskR W1 H1 xa W2 H2 xb W3 H3 xm = none := by simp_all [maskR, maskB]
    rw [hr]
    rw [k1] at hc1
    clear hr
    go_enter Try.func42, Try.ntmps42
    go_wp2_with fail
    rw [← hw1, ← hbe]
    have Hbe := hid hbe
    clear hw1 hbe
    refine hc1.mono ?_
    rintro e w2 ⟨rfl, hb2⟩
    have hI2 := hI.call hb2
    try (
      have hcc2 := hc2 _ hb2
      rw [k2] at hcc2
      have q0 := (hI2.blk 3 rfl).cell 0
      have q1 := (hI2.blk 3 rfl).cell 1
      have q2 := (hI2.blk 3 rfl).cell 2
      have p0 := (hI2.blk 1 rfl).cell 0
      have p1 := (hI2.blk 1 rfl).cell 1
      have p2 := (hI2.blk 1 rfl).cell 2
      clear hc1 hc2
      go_wp2_with fail
      clear q0 q1 q2 p0 p1 p2
      refine hcc2.mono ?_
      rintro e w3 ⟨rfl, hb3⟩
      replace hb2 := hb2.trans (hb3.mono hb2.size)
      replace hI2 := hI.call hb2
      try (
        have hcc3 := hc3 _ hb2
        rw [k3] at hcc3
        have p0 := (hI2.blk 1 rfl).cell 0
        have p1 := (hI2.blk 1 rfl).cell 1
        have p2 := (hI2.blk 1 rfl).cell 2
        clear hcc2 hc3
        go_wp2_with fail
        clear p0 p1 p2
        refine hcc3.mono ?_
        rintro e w4 ⟨rfl, hb4⟩
        replace hb2 := hb2.trans (hb4.mono hb2.size)
        replace hI2 := hI.call hb2))
    have hres := hI2.blk 0 rfl
    have r0 := hres.cell 0
    have r1 := hres.cell 1
    have r2 := hres.cell 2
    have f0 := hres.frozen 0
    have f1 := hres.frozen 1
    have f2 := hres.frozen 2
    go_wp2
    refine bodyPost_ret (v := .tuple #[.agg #[.int .i64 0, .int .i64 0, .slice none 0 0], .bool false]) (by simp [results, Try.results42, go_sem, r0, r1, r2, f0, f1, f2]) rfl ⟨rfl, ?_⟩
    have hsz := Hbe.out
    exact ((hI2.below.setCell (by simp; omega) _).setCell (by simp; omega) _).setCell (by simp; omega) _

end Go.Proofs.Ytjennldpjfeppaa
