/-
  A seam doubled: one light, by the program.
  Conditions: the lights and the seam are rows of cells that read.
-/
import Derived.Test.YtjennldpjfeppaaA15
import Derived.Test.YtjennldpjfeppaaA20
import Derived.Test.YtjennldpjfeppaaScale
namespace Go.Proofs.Ytjennldpjfeppaa
open Go.RowKit
set_option linter.unusedVariables false
set_option linter.unusedSimpArgs false
attribute [local go_sem] Fl.run_fadd Fl.run_fsub Fl.run_fmul Fl.run_fquo Fl.run_wide Fl.run_store_float

def growV (W : Nat) (xs : List Nat) (s : List Int) (x y : Nat) : Nat :=
  if (x : Int) ≤ s.getD y 0 then Fl.nf .f32 (xs.getD (y * W + x) 0) else if s.getD y 0 + 1 < x then Fl.nf .f32 (xs.getD (y * W + (x - 1)) 0)
  else if s.getD y 0 = (W : Int) - 1 then Fl.nf .f32 (xs.getD (y * W + (s.getD y 0).toNat) 0)
  else Fl.fop .quo .f32 (Fl.fop .add .f32 (xs.getD (y * W + (s.getD y 0).toNat) 0) (xs.getD (y * W + ((s.getD y 0).toNat + 1)) 0)) 1073741824

set_option maxHeartbeats 4000000 in
set_option maxRecDepth 100000 in
theorem growSeam1_any (W H : Nat) (v : Value) (xs : List Nat) (s : List Int) (sv : Value) (b1 b2 x y : Nat) (w : World) (hp : PicAt w b1 0 W H v xs) (hc : w.cell? ⟨b2, 0, none⟩ = some sv) (hs : Sl w sv (s.map iv))
    (hl : xs.length = W * H) (hsl : s.length = H) (hW : W ≤ 15) (hH : H ≤ 16) (hin : ∀ k, k < H → 0 ≤ s.getD k 0 ∧ s.getD k 0 < W) (hx : x < W + 1) (hy : y < H) :
    Calls Try.prog 97 #[.int .i64 x, .int .i64 y, .pointer (some ⟨b2, 0, none⟩), .pointer (some ⟨b1, 0, none⟩)] w fun e w' => ∃ r, e = .returned (fv r) ∧ Fl.nf .f32 r = growV W xs s x y ∧ Below w.heap.size w w' := by
  obtain ⟨ad, cap, hv⟩ := hs.form
  rw [List.length_map, hsl] at hv
  subst hv
  have c0 := hp.c0
  have c1 := hp.c1
  have c2 := hp.c2
  have hB := hp.lt
  rw [Nat.zero_add] at c1 c2
  obtain ⟨ba, off, rfl, hcell, hbs⟩ := hs.int hsl y hy
  obtain ⟨h0, h1⟩ := hin y hy
  obtain ⟨z, hz⟩ := Int.eq_ofNat_of_zero_le h0
  rw [hz] at hcell h1
  have hzW : z < W := by omega
  have hat := fun (q : Nat) (hq : q < W) (w3 : World) (h : Below w.heap.size w w3) => at_any W H v xs q y w3 (hp.sl.mono h) (by rw [hl]; exact at_lt hq hy) (by omega) (by omega) (by omega)
  have hg : growV W xs s x y = if (x : Int) ≤ z then Fl.nf .f32 (xs.getD (y * W + x) 0) else if (z : Int) + 1 < x then Fl.nf .f32 (xs.getD (y * W + (x - 1)) 0)
      else if (z : Int) = (W : Int) - 1 then Fl.nf .f32 (xs.getD (y * W + z) 0)
      else Fl.fop .quo .f32 (Fl.fop .add .f32 (xs.getD (y * W + z) 0) (xs.getD (y * W + (z + 1)) 0)) 1073741824 := by rw [growV, hz, Int.toNat_natCast]
  rcases (show (x : Int) ≤ z ∨ (¬ (x : Int) ≤ z ∧ (z : Int) + 1 < x) ∨ (¬ (x : Int) ≤ z ∧ ¬ (z : Int) + 1 < x ∧ (z : Int) = (W : Int) - 1) ∨ (¬ (x : Int) ≤ z ∧ ¬ (z : Int) + 1 < x ∧ ¬ (z : Int) = (W : Int) - 1) by omega) with k1 | ⟨k1, k2⟩ | ⟨k1, k2, k3⟩ | ⟨k1, k2, k3⟩
  · rw [if_pos k1] at hg
    have hcall := hat x (by omega) w (Below.refl _ _)
    obtain ⟨A, hA⟩ : ∃ A, A = xs.getD (y * W + x) 0 := ⟨_, rfl⟩
    rw [← hA] at hcall hg
    have Hg := hid hg
    clear hp hs hl hsl hin hz hg hA hat h0
    go_enter Try.func97, Try.ntmps97
    go_wp2_with fail
    refine hcall.mono ?_
    rintro e w1 ⟨rfl, hb⟩
    go_wp2
    go_ret
    exact ⟨_, rfl, Hg.out.symm, hb⟩
  · rw [if_neg k1, if_pos k2] at hg
    have hcall := hat (x - 1) (by omega) w (Below.refl _ _)
    obtain ⟨A, hA⟩ : ∃ A, A = xs.getD (y * W + (x - 1)) 0 := ⟨_, rfl⟩
    rw [← hA] at hcall hg
    rw [show ((x - 1 : Nat) : Int) = (x : Int) - 1 by omega] at hcall
    have Hg := hid hg
    clear hp hs hl hsl hin hz hg hA hat h0
    go_enter Try.func97, Try.ntmps97
    go_wp2_with fail
    refine hcall.mono ?_
    rintro e w1 ⟨rfl, hb⟩
    go_wp2
    go_ret
    exact ⟨_, rfl, Hg.out.symm, hb⟩
  · rw [if_neg k1, if_neg k2, if_pos k3] at hg
    have hcall := hat z hzW w (Below.refl _ _)
    obtain ⟨A, hA⟩ : ∃ A, A = xs.getD (y * W + z) 0 := ⟨_, rfl⟩
    rw [← hA] at hcall hg
    have Hg := hid hg
    have hWz : W = z + 1 := by omega
    subst hWz
    clear hp hs hl hsl hin hz hg hA hat h0 k3
    go_enter Try.func97, Try.ntmps97
    go_wp2_with fail
    refine hcall.mono ?_
    rintro e w1 ⟨rfl, hb⟩
    go_wp2
    go_ret
    exact ⟨_, rfl, Hg.out.symm, hb⟩
  · rw [if_neg k1, if_neg k2, if_neg k3] at hg
    have hcall1 := hat z hzW
    have hcall2 := hat (z + 1) (by omega)
    obtain ⟨A, hA⟩ : ∃ A, A = xs.getD (y * W + z) 0 := ⟨_, rfl⟩
    obtain ⟨B, hBv⟩ : ∃ B, B = xs.getD (y * W + (z + 1)) 0 := ⟨_, rfl⟩
    rw [← hA] at hcall1 hg
    rw [← hBv] at hcall2 hg
    rw [show ((z + 1 : Nat) : Int) = (z : Int) + 1 by simp] at hcall2
    have Hg := hid hg
    clear hp hs hl hsl hin hz hg hA hBv hat h0
    go_enter Try.func97, Try.ntmps97
    go_wp2
    refine Mix.wp_mix [.S, .S, .S, .A, .S, .S, .S, .S, .A, .L, .L, .S] [0, 1, 2, 4, 5, 6, 7, 3, 8, 9, 10, 11] (Below w.heap.size w) (by kernel_rfl) (by kernel_rfl) ((Below.refl _ _).drew) ?_
    have hC : Below w.heap.size w w.drew := (Below.refl _ _).drew
    generalize w.drew = w2 at hC ⊢
    repeat (first | (refine Mix.sf_S rfl rfl rfl rfl rfl (Mix.valOp_spec rfl) hC ?_; apply Exists.intro; refine ⟨?_, ?_⟩; · (intro w' hC' K hK; have hk := (bcell hC').1; go_step; exact hK)) | (refine Mix.sf_skipS rfl rfl rfl rfl ?_; apply Exists.intro; refine ⟨?_, ?_⟩; · (intro K hK; go_step; exact hK)) | (refine Mix.sf_skipA rfl rfl rfl rfl ?_; apply Exists.intro; refine ⟨?_, ?_⟩; · (intro K hK; go_step; exact hK)) | (refine Mix.sf_skipL rfl rfl rfl rfl ?_ hC; apply Exists.intro; refine ⟨?_, ?_⟩; · (intro K hK; go_step; exact hK); clear hC; intro wL hC))
    refine Mix.sf_A rfl rfl rfl ?_; intro K hK; go_step
    refine (hcall1 _ hC).mono ?_
    rintro e w' ⟨rfl, hb3⟩
    refine hK _ _ (hC.trans (hb3.mono hC.size)) ?_
    replace hC := hC.trans (hb3.mono hC.size)
    clear hK K hb3
    repeat (first | (refine Mix.sf_S rfl rfl rfl rfl rfl (Mix.valOp_spec rfl) hC ?_; apply Exists.intro; refine ⟨?_, ?_⟩; · (intro w' hC' K hK; have hk := (bcell hC').1; go_step; exact hK)) | (refine Mix.sf_skipS rfl rfl rfl rfl ?_; apply Exists.intro; refine ⟨?_, ?_⟩; · (intro K hK; go_step; exact hK)) | (refine Mix.sf_skipA rfl rfl rfl rfl ?_; apply Exists.intro; refine ⟨?_, ?_⟩; · (intro K hK; go_step; exact hK)) | (refine Mix.sf_skipL rfl rfl rfl rfl ?_ hC; apply Exists.intro; refine ⟨?_, ?_⟩; · (intro K hK; go_step; exact hK); clear hC; intro wL hC))
    refine Mix.sf_A rfl rfl rfl ?_; intro K hK; go_step
    refine (hcall2 _ hC).mono ?_
    rintro e w' ⟨rfl, hb3⟩
    refine hK _ _ (hC.trans (hb3.mono hC.size)) ?_
    replace hC := hC.trans (hb3.mono hC.size)
    clear hK K hb3
    repeat (first | (refine Mix.sf_S rfl rfl rfl rfl rfl (Mix.valOp_spec rfl) hC ?_; apply Exists.intro; refine ⟨?_, ?_⟩; · (intro w' hC' K hK; have hk := (bcell hC').1; go_step; exact hK)) | (refine Mix.sf_skipS rfl rfl rfl rfl ?_; apply Exists.intro; refine ⟨?_, ?_⟩; · (intro K hK; go_step; exact hK)) | (refine Mix.sf_skipA rfl rfl rfl rfl ?_; apply Exists.intro; refine ⟨?_, ?_⟩; · (intro K hK; go_step; exact hK)) | (refine Mix.sf_skipL rfl rfl rfl rfl ?_ hC; apply Exists.intro; refine ⟨?_, ?_⟩; · (intro K hK; go_step; exact hK); clear hC; intro wL hC))
    refine Mix.sf_Larith rfl rfl rfl rfl rfl rfl (by simp) rfl below_draws ?_; clear hC; intro r hr w7 hC; apply Exists.intro; refine ⟨?_, ?_⟩; · (intro K hK; go_step; exact hK)
    have Hr := hid hr
    refine Mix.sf_Larith rfl rfl rfl rfl rfl rfl (by simp) rfl below_draws ?_; clear hC; intro r2 hr2 w8 hC; apply Exists.intro; refine ⟨?_, ?_⟩; · (intro K hK; go_step; exact hK)
    have Hr2 := hid hr2
    clear hr hr2
    repeat (first | (refine Mix.sf_S rfl rfl rfl rfl rfl (Mix.valOp_spec rfl) hC ?_; apply Exists.intro; refine ⟨?_, ?_⟩; · (intro w' hC' K hK; have hk := (bcell hC').1; go_step; exact hK)) | (refine Mix.sf_skipS rfl rfl rfl rfl ?_; apply Exists.intro; refine ⟨?_, ?_⟩; · (intro K hK; go_step; exact hK)) | (refine Mix.sf_skipA rfl rfl rfl rfl ?_; apply Exists.intro; refine ⟨?_, ?_⟩; · (intro K hK; go_step; exact hK)) | (refine Mix.sf_skipL rfl rfl rfl rfl ?_ hC; apply Exists.intro; refine ⟨?_, ?_⟩; · (intro K hK; go_step; exact hK); clear hC; intro wL hC))
    refine Mix.sf_nil ?_
    go_wp2
    go_ret
    exact ⟨_, rfl, by rw [Hr2.out, Hg.out, ← fop_nf_l, Hr.out], hC⟩

theorem entGrow (args : Array Value) (w : World) : (callFunc 97 args).run Try.prog w = .ok (.enter 97 args) w := by kernel_rfl

end Go.Proofs.Ytjennldpjfeppaa
