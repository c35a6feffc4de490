/-
  The edges of a picture by the reference.
  Conditions: the lights are a row of cells that reads.
-/
import Derived.Test.YtggbdmgonobefaaA27
import Derived.Test.YtggbdmgonobefaaInvX
namespace Go.Proofs.Ytggbdmgonobefaa
open Go.RowKit
set_option linter.unusedVariables false
set_option linter.unusedSimpArgs false
attribute [local go_sem] Fl.run_fadd Fl.run_fsub Fl.run_fmul Fl.run_fquo Fl.run_wide Fl.run_store_float

theorem take_set_snoc (ys : List Nat) (i r : Nat) (h : i < ys.length) : (ys.set i r).take (i + 1) = ys.take i ++ [r] := by
  apply List.ext_getElem?
  intro j
  rcases Nat.lt_trichotomy j i with hj | hj | hj
  · rw [List.getElem?_append_left (by simp; omega), List.getElem?_take, List.getElem?_take, if_pos (by omega), if_pos hj, List.getElem?_set_ne (by omega)]
  · subst hj
    rw [List.getElem?_take, if_pos (by omega), List.getElem?_set_self h, List.getElem?_append_right (by simp; omega)]
    simp [Nat.min_eq_left (Nat.le_of_lt h)]
  · rw [List.getElem?_take, if_neg (by omega), List.getElem?_append_right (by simp; omega)]
    simp
    omega

theorem sizeF_nf (x : Nat) : sizeF (Fl.nf .f32 x) = sizeF x := by
  have h : FloatKind.f32.format.order (Fl.nf .f32 x) 0 = FloatKind.f32.format.order x 0 := by
    have := Fl.order_nf .f32 x 0
    rwa [show Fl.nf .f32 0 = 0 by decide +kernel] at this
  unfold sizeF
  rw [h, fop_nf_r, Fl.nf_nf]
theorem size_sub {r A B : Nat} (h : Fl.nf .f32 r = Fl.fop .sub .f32 A B) : sizeF r = absF (Fl.fop .sub .f32 A B) := by
  rw [← sizeF_nf, h, size_abs (fop_lt _ _ _)]

theorem at_up {x W : Nat} (hx : x < W) : max 0 (min ((W : Int) - 1) ((x : Int) + 1)) = ((min (x + 1) (W - 1) : Nat) : Int) := by omega
theorem at_down {x W : Nat} (hx : x < W) : max 0 (min ((W : Int) - 1) ((x : Int) - 1)) = ((x - 1 : Nat) : Int) := by omega
theorem at_same {x W : Nat} (hx : x < W) : max 0 (min ((W : Int) - 1) (x : Int)) = (x : Int) := by omega

set_option maxHeartbeats 8000000 in
set_option maxRecDepth 100000 in
theorem l07Edges_any (W H : Nat) (v : Value) (xs : List Nat) (b1 o1 : Nat) (w : World) (hp : PicAt w b1 o1 W H v xs) (hl : xs.length = W * H) (hW : W ≤ 16) (hH : H ≤ 16) (hW1 : 1 ≤ W) (hH1 : 1 ≤ H) :
    Calls Try.prog 151 #[.pointer (some ⟨b1, o1, none⟩)] w fun e w' =>
      ∃ v ys, e = .returned (.agg #[.int .i64 W, .int .i64 H, v]) ∧ w'.ownsRow w.heap.size 52 1 v ys.length (ys.map fv) ∧ nl ys = grid W H (edgeV W H xs) ∧ Below w.heap.size w w' := by
  have c0 := hp.c0
  have c1 := hp.c1
  have hB := hp.lt
  have hmn : W * H ≤ 256 := by have : W * H ≤ 16 * 16 := Nat.mul_le_mul hW hH; omega
  have hpos : 0 < W * H := Nat.mul_pos hW1 hH1
  have Hat := hid (fun (x y : Int) (q p : Nat) (h1 : max 0 (min ((W : Int) - 1) x) = q) (h2 : max 0 (min ((H : Int) - 1) y) = p) (h3 : q < W) (h4 : p < H) (w3 : World) (hb : Below w.heap.size w w3) => l02At_any W H v xs b1 o1 x y q p w3 (hp.mono hb) hl hW hH h1 h2 h3 h4)
  have hI := (Inv.start w).alloc [.int .i64 0, .int .i64 0, .slice none 0 0] 32
  obtain ⟨w1, hw1⟩ : ∃ w1, w1 = w.alloc (.cells #[.int .i64 0, .int .i64 0, .slice none 0 0] 32) := ⟨_, rfl⟩
  rw [show w.alloc (.cells [Value.int .i64 0, .int .i64 0, .slice none 0 0].toArray 32) = w1 from hw1.symm] at hI
  have hcall := l02Own_any W H v xs b1 o1 w1 (hp.mono hI.below) (by omega) (by omega)
  obtain ⟨q, hq⟩ : ∃ q, q = xs.length := ⟨_, rfl⟩
  have hdiv : ∀ i, i < q → i / W < H := fun i h => Nat.div_lt_of_lt_mul (by omega)
  have hgr : grid W H (edgeV W H xs) = cellsTo W (edgeV W H xs) q := by rw [grid, hq, hl]
  rw [hgr]
  rw [← hl] at hmn hpos
  rw [← hq] at hcall hmn hpos
  have Hdiv := hid hdiv
  have Hq := hid hq
  clear hp hl hdiv hgr hq
  go_enter Try.func151, Try.ntmps151
  go_wp2_with fail
  rw [← hw1]
  clear hw1
  refine hcall.mono ?_
  rintro e w2 ⟨ad, cap, rfl, hown, hb2⟩
  have hlm : (xs.map fv).length = q := by rw [List.length_map, Hq.out]
  obtain ⟨ad', cap', hv', had⟩ := own_form' hown
  simp only [Value.slice.injEq, true_and] at hv'
  obtain ⟨rfl, rfl⟩ := hv'
  obtain ⟨g, rfl, -, -⟩ := had hpos
  clear had
  replace hI := hI.fresh hb2 hown
  have hbB0 : w.heap.size < w2.heap.size := (hI.blk 0 rfl).lt
  replace hI := hI.alloc [.int .i64 W, .int .i64 H, .slice (some ⟨g, 0, none⟩) q cap] 32
  clear hown hb2 hcall
  go_wp2
  obtain ⟨B3, hB3⟩ : ∃ B3, B3 = w2.heap.size := ⟨_, rfl⟩
  rw [← hB3] at hI hbB0 ⊢
  clear hB3
  obtain ⟨w3, hw3⟩ : ∃ w3, w3 = w2.alloc (.cells [Value.int .i64 W, .int .i64 H, .slice (some ⟨g, 0, none⟩) q cap].toArray 32) := ⟨_, rfl⟩
  rw [← hw3] at hI
  rw [show w2.alloc (.cells #[.int .i64 W, .int .i64 H, .slice (some ⟨g, 0, none⟩) q cap] 32) = w3 from hw3.symm]
  clear hw3
  have hI0 : ∃ ys : List Nat, ys.length = q ∧ nl (ys.take 0) = cellsTo W (edgeV W H xs) 0 ∧ Inv w w3 [(B3, [.int .i64 W, .int .i64 H, .slice (some ⟨g, 0, none⟩) q cap], 32), (w.heap.size, [.int .i64 0, .int .i64 0, .slice none 0 0], 32)] [(.slice (some ⟨g, 0, none⟩) q cap, 52, ys.map fv)] :=
    ⟨xs, Hq.out.symm, rfl, hI⟩
  have k2 := (hI.blk 0 rfl).cell 2
  clear hI hlm
  go_wp2
  clear k2
  go_loopw [4, 13] (fun _ c wr => ∃ (i : Nat) (ys : List Nat), i ≤ q ∧ c = .int .i64 i ∧ ys.length = q ∧ nl (ys.take i) = cellsTo W (edgeV W H xs) i ∧
      Inv w wr [(B3, [.int .i64 W, .int .i64 H, .slice (some ⟨g, 0, none⟩) q cap], 32), (w.heap.size, [.int .i64 0, .int .i64 0, .slice none 0 0], 32)] [(.slice (some ⟨g, 0, none⟩) q cap, 52, ys.map fv)]) (fun _ c _ => q - (intOf c).toNat)
  case atStart => obtain ⟨ys, h1, h2, h3⟩ := hI0; exact ⟨0, ys, Nat.zero_le _, rfl, h1, h2, h3⟩
  case round =>
    clear hI0
    obtain ⟨i, ys, hiq, rfl, hyl, hys, hI⟩ := hrel
    by_cases hlt : i < q
    · obtain ⟨x, hx⟩ : ∃ x, x = i % W := ⟨_, rfl⟩
      obtain ⟨y, hy⟩ : ∃ y, y = i / W := ⟨_, rfl⟩
      have hxi : (i : Int) % (W : Int) = (x : Int) := by rw [hx]; simp
      have hyi : (i : Int) / (W : Int) = (y : Int) := by rw [hy]; simp
      have hyH : y < H := by rw [hy]; exact Hdiv.out i hlt
      have hxW : x < W := by rw [hx]; exact Nat.mod_lt _ hW1
      have a1 := Hat.out ((x : Int) + 1) y _ y (at_up hxW) (at_same hyH) (by omega) hyH
      have a2 := Hat.out ((x : Int) - 1) y _ y (at_down hxW) (at_same hyH) (by omega) hyH
      have a3 := Hat.out x ((y : Int) + 1) x _ (at_same hxW) (at_up hyH) hxW (by omega)
      have a4 := Hat.out x ((y : Int) - 1) x _ (at_same hxW) (at_down hyH) hxW (by omega)
      have hg : edgeV W H xs x y = Fl.fop .add .f32 (absF (Fl.fop .sub .f32 (xs.getD (y * W + min (x + 1) (W - 1)) 0) (xs.getD (y * W + (x - 1)) 0))) (absF (Fl.fop .sub .f32 (xs.getD (min (y + 1) (H - 1) * W + x) 0) (xs.getD ((y - 1) * W + x) 0))) := rfl
      obtain ⟨A1, hA1⟩ : ∃ A, A = xs.getD (y * W + min (x + 1) (W - 1)) 0 := ⟨_, rfl⟩
      obtain ⟨A2, hA2⟩ : ∃ A, A = xs.getD (y * W + (x - 1)) 0 := ⟨_, rfl⟩
      obtain ⟨A3, hA3⟩ : ∃ A, A = xs.getD (min (y + 1) (H - 1) * W + x) 0 := ⟨_, rfl⟩
      obtain ⟨A4, hA4⟩ : ∃ A, A = xs.getD ((y - 1) * W + x) 0 := ⟨_, rfl⟩
      rw [← hA1] at a1 hg
      rw [← hA2] at a2 hg
      rw [← hA3] at a3 hg
      rw [← hA4] at a4 hg
      have Hnext := hid (show ∀ r, Fl.nf .f32 r = edgeV W H xs x y → nl ((ys.set i r).take (i + 1)) = cellsTo W (edgeV W H xs) (i + 1) from fun r hr => by
        rw [take_set_snoc ys i r (by omega), cellsTo, List.range_succ, List.map_append, List.map_cons, List.map_nil, ← hx, ← hy]
        exact nl_snoc hys hr)
      have Hg := hid hg
      have Hyl := hid hyl
      have e0 := (hI.below.cell hB).trans c0
      have hBw : b1 < wr.heap.size := Nat.lt_of_lt_of_le hB hI.below.size
      have HI := hid hI
      clear hI hx hy hys hyl hA1 hA2 hA3 hA4 hg
      go_wp2_with fail
      refine (a1 _ HI.out.below).mono ?_
      rintro e w4 ⟨rfl, hb4⟩
      have HI := hid (HI.out.call hb4)
      clear hb4
      go_wp2_with fail
      refine (a2 _ HI.out.below).mono ?_
      rintro e w5 ⟨rfl, hb5⟩
      have HI := hid (HI.out.call hb5)
      clear hb5
      go_wp2_with fail
      refine (l07Size_any _ _).mono ?_
      rintro e w6 ⟨s1, rfl, hs1, hb6⟩
      have Hs1 := hid (show Fl.nf .f32 s1 = absF (Fl.fop .sub .f32 A1 A2) from hs1.trans (size_sub (Fl.nf_fres _ _ _ _ _)))
      have HI := hid ((HI.out.call (Below.drewN' _ (Below.refl _ _))).call hb6)
      clear hb6 hs1
      have k2 := (HI.out.blk 0 rfl).cell 2
      have hB36 := (HI.out.blk 0 rfl).lt
      go_wp2
      refine Mix.wp_mix [.S, .S, .S, .S, .S, .S, .S, .S, .A, .S, .S, .S, .S, .A, .L, .A, .L, .S, .T] [0, 1, 2, 3, 4, 5, 6, 7, 9, 10, 11, 12, 8, 13, 14, 15, 16, 17, 18] (Below w6.heap.size w6) (by kernel_rfl) (by kernel_rfl) ((Below.refl _ _).drew) ?_
      have hC : Below w6.heap.size w6 w6.drew := (Below.refl _ _).drew
      generalize w6.drew = w7 at hC ⊢
      repeat (first | (refine Mix.sf_S rfl rfl rfl rfl rfl (Mix.valOp_spec rfl) hC ?_; apply Exists.intro; refine ⟨?_, ?_⟩; · (intro w' hC' K hK; have hk := (bcell hC').1; go_step; exact hK)) | (refine Mix.sf_skipS rfl rfl rfl rfl ?_; apply Exists.intro; refine ⟨?_, ?_⟩; · (intro K hK; go_step; exact hK)) | (refine Mix.sf_skipA rfl rfl rfl rfl ?_; apply Exists.intro; refine ⟨?_, ?_⟩; · (intro K hK; go_step; exact hK)) | (refine Mix.sf_skipL rfl rfl rfl rfl ?_ hC; apply Exists.intro; refine ⟨?_, ?_⟩; · (intro K hK; go_step; exact hK); clear hC; intro wL hC))
      refine Mix.sf_A rfl rfl rfl ?_; intro K hK; go_step
      refine (a3 _ (HI.out.below.trans (hC.mono HI.out.below.size))).mono ?_
      rintro e w' ⟨rfl, hb3⟩
      refine hK _ _ (hC.trans (hb3.mono hC.size)) ?_
      replace hC := hC.trans (hb3.mono hC.size)
      clear hK K hb3
      repeat (first | (refine Mix.sf_S rfl rfl rfl rfl rfl (Mix.valOp_spec rfl) hC ?_; apply Exists.intro; refine ⟨?_, ?_⟩; · (intro w' hC' K hK; have hk := (bcell hC').1; go_step; exact hK)) | (refine Mix.sf_skipS rfl rfl rfl rfl ?_; apply Exists.intro; refine ⟨?_, ?_⟩; · (intro K hK; go_step; exact hK)) | (refine Mix.sf_skipA rfl rfl rfl rfl ?_; apply Exists.intro; refine ⟨?_, ?_⟩; · (intro K hK; go_step; exact hK)) | (refine Mix.sf_skipL rfl rfl rfl rfl ?_ hC; apply Exists.intro; refine ⟨?_, ?_⟩; · (intro K hK; go_step; exact hK); clear hC; intro wL hC))
      refine Mix.sf_A rfl rfl rfl ?_; intro K hK; go_step
      refine (a4 _ (HI.out.below.trans (hC.mono HI.out.below.size))).mono ?_
      rintro e w' ⟨rfl, hb3⟩
      refine hK _ _ (hC.trans (hb3.mono hC.size)) ?_
      replace hC := hC.trans (hb3.mono hC.size)
      clear hK K hb3
      repeat (first | (refine Mix.sf_S rfl rfl rfl rfl rfl (Mix.valOp_spec rfl) hC ?_; apply Exists.intro; refine ⟨?_, ?_⟩; · (intro w' hC' K hK; have hk := (bcell hC').1; go_step; exact hK)) | (refine Mix.sf_skipS rfl rfl rfl rfl ?_; apply Exists.intro; refine ⟨?_, ?_⟩; · (intro K hK; go_step; exact hK)) | (refine Mix.sf_skipA rfl rfl rfl rfl ?_; apply Exists.intro; refine ⟨?_, ?_⟩; · (intro K hK; go_step; exact hK)) | (refine Mix.sf_skipL rfl rfl rfl rfl ?_ hC; apply Exists.intro; refine ⟨?_, ?_⟩; · (intro K hK; go_step; exact hK); clear hC; intro wL hC))
      refine Mix.sf_Larith rfl rfl rfl rfl rfl rfl (by simp) rfl below_draws ?_; clear hC; intro r hr w8 hC; apply Exists.intro; refine ⟨?_, ?_⟩; · (intro K hK; go_step; exact hK)
      refine Mix.sf_A rfl rfl rfl ?_; intro K hK; go_step
      refine (l07Size_any _ _).mono ?_
      rintro e w' ⟨s2, rfl, hs2, hb3⟩
      refine hK _ _ (hC.trans (hb3.mono hC.size)) ?_
      replace hC := hC.trans (hb3.mono hC.size)
      have Hs2 := hid (show Fl.nf .f32 s2 = absF (Fl.fop .sub .f32 A3 A4) from hs2.trans (size_sub hr))
      clear hK K hb3 hs2 hr
      repeat (first | (refine Mix.sf_S rfl rfl rfl rfl rfl (Mix.valOp_spec rfl) hC ?_; apply Exists.intro; refine ⟨?_, ?_⟩; · (intro w' hC' K hK; have hk := (bcell hC').1; go_step; exact hK)) | (refine Mix.sf_skipS rfl rfl rfl rfl ?_; apply Exists.intro; refine ⟨?_, ?_⟩; · (intro K hK; go_step; exact hK)) | (refine Mix.sf_skipA rfl rfl rfl rfl ?_; apply Exists.intro; refine ⟨?_, ?_⟩; · (intro K hK; go_step; exact hK)) | (refine Mix.sf_skipL rfl rfl rfl rfl ?_ hC; apply Exists.intro; refine ⟨?_, ?_⟩; · (intro K hK; go_step; exact hK); clear hC; intro wL hC))
      refine Mix.sf_Larith rfl rfl rfl rfl rfl rfl (by simp) rfl below_draws ?_; clear hC; intro t ht w9 hC; apply Exists.intro; refine ⟨?_, ?_⟩; · (intro K hK; go_step; exact hK)
      have Ht := hid (show Fl.nf .f32 t = edgeV W H xs x y by rw [ht, Hg.out, ← Hs1.out, ← Hs2.out, Fl.fop_nf])
      clear ht
      repeat (first | (refine Mix.sf_S rfl rfl rfl rfl rfl (Mix.valOp_spec rfl) hC ?_; apply Exists.intro; refine ⟨?_, ?_⟩; · (intro w' hC' K hK; have hk := (bcell hC').1; go_step; exact hK)) | (refine Mix.sf_skipS rfl rfl rfl rfl ?_; apply Exists.intro; refine ⟨?_, ?_⟩; · (intro K hK; go_step; exact hK)) | (refine Mix.sf_skipA rfl rfl rfl rfl ?_; apply Exists.intro; refine ⟨?_, ?_⟩; · (intro K hK; go_step; exact hK)) | (refine Mix.sf_skipL rfl rfl rfl rfl ?_ hC; apply Exists.intro; refine ⟨?_, ?_⟩; · (intro K hK; go_step; exact hK); clear hC; intro wL hC))
      have HI := hid (HI.out.call hC)
      have hrow : w9.ownsRow w.heap.size 52 1 (.slice (some ⟨g, 0, none⟩) q cap) q (ys.map fv) := by
        have := HI.out.row 0 rfl
        rwa [List.length_map, Hyl.out] at this
      have hst := hrow.stored i (fv t)
      have hgc : w9.cell? ⟨g, i, none⟩ = some (fv (ys[i]'(by rw [Hyl.out]; exact hlt))) := by
        rw [hrow.cellAt i (by omega), List.getElem?_map, List.getElem?_eq_getElem (by rw [Hyl.out]; exact hlt)]
        rfl
      have hgf : w9.frozen? ⟨g, i, none⟩ = false := hrow.frozenAt i
      have HI2 := hid (HI.out.mark 0 rfl hst.2 (show (w9.setCell ⟨g, i, none⟩ (fv t)).ownsRow w.heap.size 52 1 (.slice (some ⟨g, 0, none⟩) q cap) (ys.map fv).length ((ys.set i t).map fv) by
        rw [List.length_map, Hyl.out, List.map_set]; exact hst.1))
      have Hyl2 := hid (show (ys.set i t).length = q by rw [List.length_set, Hyl.out])
      have Hnext := hid (Hnext.out t Ht.out)
      clear hrow hst hC k2 hB36 HI
      refine Mix.sf_T rfl rfl rfl ?_; intro K hK; go_step
      refine hK _ _ ?_
      clear hK K hgc hgf
      refine Mix.sf_nil ?_
      go_wp2
      go_roundw
      case rel => exact ⟨i + 1, ys.set i t, by omega, by go_num, Hyl2.out, Hnext.out, HI2.out⟩
      case measure => simp [intOf]; omega
    · have hin : i = q := by omega
      subst hin
      have e0 := (hI.blk 0 rfl).cell 0
      have e1 := (hI.blk 0 rfl).cell 1
      have e2 := (hI.blk 0 rfl).cell 2
      have hres := hI.blk 1 rfl
      have r0 := hres.cell 0
      have r1 := hres.cell 1
      have r2 := hres.cell 2
      have f0 := hres.frozen 0
      have f1 := hres.frozen 1
      have f2 := hres.frozen 2
      have Hsep := hid (hI.sepbox 1 0 rfl rfl)
      have hrow : wr.ownsRow w.heap.size 52 1 (.slice (some ⟨g, 0, none⟩) i cap) ys.length (ys.map fv) := by
        have := hI.row 0 rfl
        rwa [List.length_map] at this
      rw [List.take_of_length_le (by omega)] at hys
      have Hrow := hid hrow
      have HI := hid hI
      have Hys := hid hys
      have Hyl := hid hyl
      clear hrow hI hys hyl hres
      go_wp2
      refine bodyPost_ret (v := .agg #[.int .i64 W, .int .i64 H, .slice (some ⟨g, 0, none⟩) i cap]) (by simp [results, Try.results151, go_sem, r0, r1, r2, f0, f1, f2]) rfl ⟨_, ys, rfl, ?_, Hys.out, ?_⟩
      · exact own_setCell_ne (own_setCell_ne (own_setCell_ne Hrow.out _ _ _ Hsep.out) _ _ _ Hsep.out) _ _ _ Hsep.out
      · exact (((HI.out.below).setCell (by simp) _).setCell (by simp) _).setCell (by simp) _

end Go.Proofs.Ytggbdmgonobefaa
