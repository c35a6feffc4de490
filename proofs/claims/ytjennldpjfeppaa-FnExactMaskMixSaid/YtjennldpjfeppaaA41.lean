/-
  MaskMix by the reference.
  Conditions: the lights are rows of cells that read.
-/
import Derived.Test.YtjennldpjfeppaaA40
import Derived.Test.YtjennldpjfeppaaA28
namespace Go.Proofs.Ytjennldpjfeppaa
open Go.RowKit
set_option linter.unusedVariables false
set_option linter.unusedSimpArgs false
attribute [local go_sem] Fl.run_fadd Fl.run_fsub Fl.run_fmul Fl.run_fquo Fl.run_wide Fl.run_store_float

set_option maxHeartbeats 16000000 in
set_option maxRecDepth 100000 in
theorem specMaskMix_any (W1 H1 : Int) (v1 : Value) (xa : List Nat) (W2 H2 : Int) (v2 : Value) (xb : List Nat) (W3 H3 : Int) (v3 : Value) (xm : List Nat) (w : World) (hx1 : Sl w v1 (xa.map fv)) (hx2 : Sl w v2 (xb.map fv)) (hx3 : Sl w v3 (xm.map fv))
    (hl1 : xa.length ≤ 140737488351232) (hl2 : xb.length ≤ 140737488351232) (hl3 : xm.length ≤ 140737488351232) :
    Calls Try.prog 41 #[.agg #[.int .i64 W1, .int .i64 H1, v1], .agg #[.int .i64 W2, .int .i64 H2, v2], .agg #[.int .i64 W3, .int .i64 H3, v3]] w (PicRes w (maskR W1 H1 xa W2 H2 xb W3 H3 xm)) := by
  have hI := ((((Inv.start w).alloc [.int .i64 W1, .int .i64 H1, v1] 24).alloc [.int .i64 W2, .int .i64 H2, v2] 24).alloc [.int .i64 W3, .int .i64 H3, v3] 24).alloc [.int .i64 0, .int .i64 0, .slice none 0 0] 24
  simp only [size_alloc1] at hI
  obtain ⟨w1, hw1⟩ : ∃ w1, w1 = (((w.alloc (.cells #[.int .i64 W1, .int .i64 H1, v1] 24)).alloc (.cells #[.int .i64 W2, .int .i64 H2, v2] 24)).alloc (.cells #[.int .i64 W3, .int .i64 H3, v3] 24)).alloc (.cells #[.int .i64 0, .int .i64 0, .slice none 0 0] 24) := ⟨_, rfl⟩
  rw [show (((w.alloc (.cells [Value.int .i64 W1, .int .i64 H1, v1].toArray 24)).alloc (.cells [Value.int .i64 W2, .int .i64 H2, v2].toArray 24)).alloc (.cells [Value.int .i64 W3, .int .i64 H3, v3].toArray 24)).alloc (.cells [Value.int .i64 0, .int .i64 0, .slice none 0 0].toArray 24) = w1 from hw1.symm] at hI
  obtain ⟨b, hbe⟩ : ∃ b, b = w.heap.size := ⟨_, rfl⟩
  rw [← hbe] at hI
  have pa := fun w2 (h : Below w1.heap.size w1 w2) => (⟨((hI.call h).blk 3 rfl).cell 0, ((hI.call h).blk 3 rfl).cell 1, ((hI.call h).blk 3 rfl).cell 2, (hI.call h).arg hx1⟩ : PicAt w2 b 0 W1 H1 v1 xa)
  have pb := fun w2 (h : Below w1.heap.size w1 w2) => (⟨((hI.call h).blk 2 rfl).cell 0, ((hI.call h).blk 2 rfl).cell 1, ((hI.call h).blk 2 rfl).cell 2, (hI.call h).arg hx2⟩ : PicAt w2 (b + 1) 0 W2 H2 v2 xb)
  have pm := fun w2 (h : Below w1.heap.size w1 w2) => (⟨((hI.call h).blk 1 rfl).cell 0, ((hI.call h).blk 1 rfl).cell 1, ((hI.call h).blk 1 rfl).cell 2, (hI.call h).arg hx3⟩ : PicAt w2 (b + 1 + 1) 0 W3 H3 v3 xm)
  have hc1 := l02Both_any b 0 W1 H1 v1 xa (b + 1) 0 W2 H2 v2 xb w1 (pa _ (Below.refl _ _)) (pb _ (Below.refl _ _)) hl1 hl2
  have hc2 := fun w2 (h : Below w1.heap.size w1 w2) => l02Both_any b 0 W1 H1 v1 xa (b + 1 + 1) 0 W3 H3 v3 xm w2 (pa _ h) (pm _ h) hl1 hl3
  have hc3 := fun w2 (h : Below w1.heap.size w1 w2) => l03Shot_any (b + 1 + 1) 0 W3 H3 v3 xm w2 (pm _ h) hl3
  rcases (show bothB W1 H1 xa W2 H2 xb = false ∨ (bothB W1 H1 xa W2 H2 xb = true ∧ bothB W1 H1 xa W3 H3 xm = false) ∨ (bothB W1 H1 xa W2 H2 xb = true ∧ bothB W1 H1 xa W3 H3 xm = true ∧ shotB W3 H3 xm = false) ∨ (bothB W1 H1 xa W2 H2 xb = true ∧ bothB W1 H1 xa W3 H3 xm = true ∧ shotB W3 H3 xm = true) by
    cases bothB W1 H1 xa W2 H2 xb <;> cases bothB W1 H1 xa W3 H3 xm <;> cases shotB W3 H3 xm <;> simp) with k1 | ⟨k1, k2⟩ | ⟨k1, k2, k3⟩ | ⟨k1, k2, k3⟩
  rotate_right
  · obtain ⟨m, n, rfl, rfl, rfl, rfl, g1, g2, g3, g4, g5, g6⟩ := both_nat k1
    obtain ⟨m', n', he1, he2, rfl, rfl, -, -, -, -, -, g7⟩ := both_nat k2
    obtain rfl : m' = m := by omega
    obtain rfl : n' = n := by omega
    have hr : maskR (m' : Int) (n' : Int) xa m' n' xb m' n' xm = if validB m' n' (grid m' n' (maskG m' xa xb xm)) then some ⟨m', n', grid m' n' (maskG m' xa xb xm)⟩ else none := by
      simp only [maskR, maskB, k1, k2, k3, Bool.and_self, if_true, Int.toNat_natCast]
    rw [hr]
    rw [k1] at hc1
    rw [k2] at hc2
    rw [k3] at hc3
    clear hr k1 k2 k3 he1 he2
    have hmn : m' * n' ≤ 256 := by have : m' * n' ≤ 16 * 16 := Nat.mul_le_mul g2 g4; omega
    have hpos : 0 < m' * n' := Nat.mul_pos g1 g3
    obtain ⟨q, hq⟩ : ∃ q, q = m' * n' := ⟨_, rfl⟩
    have hgr : grid m' n' (maskG m' xa xb xm) = cellsTo m' (maskG m' xa xb xm) q := by rw [grid, hq]
    rw [hgr]
    rw [← hq] at hmn hpos g5 g6 g7
    have hown := fun w2 (h : Below w1.heap.size w1 w2) => l02Own_any m' n' v1 xa b 0 w2 (pa _ h) (by omega) (by omega)
    rw [g5] at hown
    obtain ⟨d1, p1, hv1⟩ := hx1.form
    obtain ⟨d2, p2, hv2⟩ := hx2.form
    obtain ⟨d3, p3, hv3⟩ := hx3.form
    rw [List.length_map, g5] at hv1
    rw [List.length_map, g6] at hv2
    rw [List.length_map, g7] at hv3
    obtain ⟨R, hR⟩ : ∃ R, R = (if validB (m' : Int) n' (cellsTo m' (maskG m' xa xb xm) q) then some (⟨m', n', cellsTo m' (maskG m' xa xb xm) q⟩ : Pic) else none) := ⟨_, rfl⟩
    rw [← hR]
    have HR := hid hR
    have G5 := hid g5
    have G6 := hid g6
    have G7 := hid g7
    have Hx1 := hid hx1
    have Hx2 := hid hx2
    have Hx3 := hid hx3
    subst hv1 hv2 hv3
    clear hR hq hgr g5 g6 g7 pa pb pm hx1 hx2 hx3
    go_enter Try.func41, Try.ntmps41
    go_wp2_with fail
    rw [← hw1, ← hbe]
    have Hbe := hid hbe
    clear hw1 hbe
    refine hc1.mono ?_
    rintro e w2 ⟨rfl, hb2⟩
    have hcc2 := hc2 _ hb2
    clear hc1 hc2
    go_wp2_with fail
    refine hcc2.mono ?_
    rintro e w3 ⟨rfl, hb3⟩
    have hb13 := hb2.trans (hb3.mono hb2.size)
    have hcc3 := hc3 _ hb13
    clear hcc2 hc3 hb2 hb3
    go_wp2_with fail
    refine hcc3.mono ?_
    rintro e w4 ⟨rfl, hb4⟩
    have hb14 := hb13.trans (hb4.mono hb13.size)
    have hown4 := hown _ hb14
    replace hI := hI.call hb14
    clear hcc3 hown hb13 hb4 hb14
    go_wp2_with fail
    refine hown4.mono ?_
    rintro e w5 ⟨ad, cap, rfl, ho5, hb5⟩
    obtain ⟨ad', cap', hv', had⟩ := own_form' ho5
    simp only [Value.slice.injEq, true_and] at hv'
    obtain ⟨rfl, rfl⟩ := hv'
    obtain ⟨g, rfl, -, -⟩ := had hpos
    clear had
    replace hI := hI.fresh hb5 ho5
    have hbB0 : b + 1 + 1 + 1 < w5.heap.size := (hI.blk 0 rfl).lt
    replace hI := hI.alloc [.int .i64 m', .int .i64 n', .slice (some ⟨g, 0, none⟩) q cap] 24
    clear ho5 hb5 hown4
    go_wp2
    obtain ⟨B8, hB8⟩ : ∃ B8, B8 = w5.heap.size := ⟨_, rfl⟩
    rw [← hB8] at hI hbB0 ⊢
    clear hB8
    obtain ⟨w6, hw6⟩ : ∃ w6, w6 = w5.alloc (.cells [Value.int .i64 m', .int .i64 n', .slice (some ⟨g, 0, none⟩) q cap].toArray 24) := ⟨_, rfl⟩
    rw [← hw6] at hI
    rw [show w5.alloc (.cells #[.int .i64 m', .int .i64 n', .slice (some ⟨g, 0, none⟩) q cap] 24) = w6 from hw6.symm]
    clear hw6
    obtain ⟨bs, hbs⟩ : ∃ bs, bs = [(B8, [Value.int .i64 m', .int .i64 n', .slice (some ⟨g, 0, none⟩) q cap], (24 : TypeId)), (b + 1 + 1 + 1, [.int .i64 0, .int .i64 0, .slice none 0 0], 24), (b + 1 + 1, [.int .i64 m', .int .i64 n', .slice d3 q p3], 24), (b + 1, [.int .i64 m', .int .i64 n', .slice d2 q p2], 24), (b, [.int .i64 m', .int .i64 n', .slice d1 q p1], 24)] := ⟨_, rfl⟩
    have hbs0 : bs[0]? = some (B8, [Value.int .i64 m', .int .i64 n', .slice (some ⟨g, 0, none⟩) q cap], (24 : TypeId)) := by rw [hbs]; rfl
    have hbs1 : bs[1]? = some (b + 1 + 1 + 1, [Value.int .i64 0, .int .i64 0, .slice none 0 0], (24 : TypeId)) := by rw [hbs]; rfl
    have hbs2 : bs[2]? = some (b + 1 + 1, [Value.int .i64 m', .int .i64 n', .slice d3 q p3], (24 : TypeId)) := by rw [hbs]; rfl
    have hbs3 : bs[3]? = some (b + 1, [Value.int .i64 m', .int .i64 n', .slice d2 q p2], (24 : TypeId)) := by rw [hbs]; rfl
    have hbs4 : bs[4]? = some (b, [Value.int .i64 m', .int .i64 n', .slice d1 q p1], (24 : TypeId)) := by rw [hbs]; rfl
    rw [← hbs] at hI
    have Hbs0 := hid hbs0
    have Hbs1 := hid hbs1
    have Hbs2 := hid hbs2
    have Hbs3 := hid hbs3
    have Hbs4 := hid hbs4
    clear hbs hbs0 hbs1 hbs2 hbs3 hbs4
    have hI0 : ∃ ys : List Nat, ys.length = q ∧ nl (ys.take 0) = cellsTo m' (maskG m' xa xb xm) 0 ∧ Inv w w6 bs [(.slice (some ⟨g, 0, none⟩) q cap, 53, ys.map fv)] := ⟨xa, G5.out, rfl, hI⟩
    have k2 := (hI.blk 0 Hbs0.out).cell 2
    clear hI
    go_wp2
    clear k2
    go_loopw [9, 25] (fun _ c wr => ∃ (i : Nat) (ys : List Nat), i ≤ q ∧ c = .int .i64 i ∧ ys.length = q ∧ nl (ys.take i) = cellsTo m' (maskG m' xa xb xm) i ∧
        Inv w wr bs [(.slice (some ⟨g, 0, none⟩) q cap, 53, ys.map fv)]) (fun _ c _ => q - (intOf c).toNat)
    case atStart => obtain ⟨ys, h1, h2, h3⟩ := hI0; exact ⟨0, ys, Nat.zero_le _, rfl, h1, h2, h3⟩
    case round =>
      clear hI0
      obtain ⟨i, ys, hiq, rfl, hyl, hys, hI⟩ := hrel
      by_cases hlt : i < q
      · have hxa : i < xa.length := by rw [G5.out]; exact hlt
        have hxb : i < xb.length := by rw [G6.out]; exact hlt
        have hxm : i < xm.length := by rw [G7.out]; exact hlt
        obtain ⟨ba, oa, rfl, hca, hba⟩ := (Hx1.out.mono hI.below).light i hlt hxa
        obtain ⟨bb, ob, rfl, hcb, hbb⟩ := (Hx2.out.mono hI.below).light i hlt hxb
        obtain ⟨bm, om, rfl, hcm, hbm⟩ := (Hx3.out.mono hI.below).light i hlt hxm
        have hgv : maskG m' xa xb xm (i % m') (i / m') = mixV xa[i] xb[i] xm[i] := by
          have hd : i / m' * m' + i % m' = i := by rw [Nat.mul_comm]; exact Nat.div_add_mod i m'
          rw [maskG, hd]
          simp [hxa, hxb, hxm]
        obtain ⟨A, hA⟩ : ∃ A, A = xa[i] := ⟨_, rfl⟩
        obtain ⟨B, hBv⟩ : ∃ A, A = xb[i] := ⟨_, rfl⟩
        obtain ⟨M, hM⟩ : ∃ A, A = xm[i] := ⟨_, rfl⟩
        rw [← hA] at hca hgv
        rw [← hBv] at hcb hgv
        rw [← hM] at hcm hgv
        have Hnext := hid (show ∀ r, Fl.nf .f32 r = mixV A B M → nl ((ys.set i r).take (i + 1)) = cellsTo m' (maskG m' xa xb xm) (i + 1) from fun r hr => by
          rw [take_set_snoc ys i r (by omega), cellsTo, List.range_succ, List.map_append, List.map_cons, List.map_nil]
          exact nl_snoc hys (hr.trans hgv.symm))
        have Hyl := hid hyl
        have k2 := (hI.blk 0 Hbs0.out).cell 2
        have e2 := (hI.blk 2 Hbs2.out).cell 2
        have e3 := (hI.blk 3 Hbs3.out).cell 2
        have e4 := (hI.blk 4 Hbs4.out).cell 2
        have l0 := (hI.blk 0 Hbs0.out).lt
        have l2 := (hI.blk 2 Hbs2.out).lt
        have l3 := (hI.blk 3 Hbs3.out).lt
        have l4 := (hI.blk 4 Hbs4.out).lt
        have HI := hid hI
        clear hI hys hyl hA hBv hM hgv
        go_wp2
        refine Mix.wp_mix [.S, .S, .S, .S, .S, .S, .S, .S, .S, .S, .S, .S, .S, .S, .S, .S, .S, .S, .S, .S, .S, .S, .S, .L, .L, .L, .S, .T] [0, 1, 2, 3, 4, 5, 6, 7, 8, 9, 10, 11, 12, 13, 14, 15, 16, 17, 18, 19, 20, 21, 22, 23, 24, 25, 26, 27] (Below wr.heap.size wr) (by kernel_rfl) (by kernel_rfl) ((Below.refl _ _).drew) ?_
        have hC : Below wr.heap.size wr wr.drew := (Below.refl _ _).drew
        generalize wr.drew = w7 at hC ⊢
        repeat (first | (refine Mix.sf_S rfl rfl rfl rfl rfl (Mix.valOp_spec rfl) hC ?_; apply Exists.intro; refine ⟨?_, ?_⟩; · (intro w' hC' K hK; have hk := (bcell hC').1; go_step; exact hK)) | (refine Mix.sf_skipS rfl rfl rfl rfl ?_; apply Exists.intro; refine ⟨?_, ?_⟩; · (intro K hK; go_step; exact hK)) | (refine Mix.sf_skipA rfl rfl rfl rfl ?_; apply Exists.intro; refine ⟨?_, ?_⟩; · (intro K hK; go_step; exact hK)) | (refine Mix.sf_skipL rfl rfl rfl rfl ?_ hC; apply Exists.intro; refine ⟨?_, ?_⟩; · (intro K hK; go_step; exact hK); clear hC; intro wL hC))
        refine Mix.sf_Larith rfl rfl rfl rfl rfl rfl (by simp) rfl below_draws ?_; clear hC; intro r hr w8 hC; apply Exists.intro; refine ⟨?_, ?_⟩; · (intro K hK; go_step; exact hK)
        have Hr := hid hr
        clear hr
        refine Mix.sf_Larith rfl rfl rfl rfl rfl rfl (by simp) rfl below_draws ?_; clear hC; intro s hs w9 hC; apply Exists.intro; refine ⟨?_, ?_⟩; · (intro K hK; go_step; exact hK)
        have Hs := hid hs
        clear hs
        refine Mix.sf_Larith rfl rfl rfl rfl rfl rfl (by simp) rfl below_draws ?_; clear hC; intro t ht w10 hC; apply Exists.intro; refine ⟨?_, ?_⟩; · (intro K hK; go_step; exact hK)
        have Ht := hid (show Fl.nf .f32 t = mixV A B M by rw [ht, mixV, ← fop_nf_r, Hs.out, ← fop_nf_r .mul, Hr.out])
        clear ht
        repeat (first | (refine Mix.sf_S rfl rfl rfl rfl rfl (Mix.valOp_spec rfl) hC ?_; apply Exists.intro; refine ⟨?_, ?_⟩; · (intro w' hC' K hK; have hk := (bcell hC').1; go_step; exact hK)) | (refine Mix.sf_skipS rfl rfl rfl rfl ?_; apply Exists.intro; refine ⟨?_, ?_⟩; · (intro K hK; go_step; exact hK)) | (refine Mix.sf_skipA rfl rfl rfl rfl ?_; apply Exists.intro; refine ⟨?_, ?_⟩; · (intro K hK; go_step; exact hK)) | (refine Mix.sf_skipL rfl rfl rfl rfl ?_ hC; apply Exists.intro; refine ⟨?_, ?_⟩; · (intro K hK; go_step; exact hK); clear hC; intro wL hC))
        have HI := hid (HI.out.call hC)
        have hrow : w10.ownsRow w.heap.size 53 1 (.slice (some ⟨g, 0, none⟩) q cap) q (ys.map fv) := by
          have := HI.out.row 0 rfl
          rwa [List.length_map, Hyl.out] at this
        have hst := hrow.stored i (fv t)
        have hgc : w10.cell? ⟨g, i, none⟩ = some (fv (ys[i]'(by rw [Hyl.out]; exact hlt))) := by
          rw [hrow.cellAt i (by omega), List.getElem?_map, List.getElem?_eq_getElem (by rw [Hyl.out]; exact hlt)]
          rfl
        have hgf : w10.frozen? ⟨g, i, none⟩ = false := hrow.frozenAt i
        have HI2 := hid (HI.out.mark 0 rfl hst.2 (show (w10.setCell ⟨g, i, none⟩ (fv t)).ownsRow w.heap.size 53 1 (.slice (some ⟨g, 0, none⟩) q cap) (ys.map fv).length ((ys.set i t).map fv) by
          rw [List.length_map, Hyl.out, List.map_set]; exact hst.1))
        have Hyl2 := hid (show (ys.set i t).length = q by rw [List.length_set, Hyl.out])
        have Hnext := hid (Hnext.out t Ht.out)
        clear hrow hst hC HI k2 e2 e3 e4 l0 l2 l3 l4 hca hcb hcm
        refine Mix.sf_T rfl rfl rfl ?_; intro K hK; go_step
        refine hK _ _ ?_
        clear hK K hgc hgf
        refine Mix.sf_nil ?_
        go_wp2
        go_roundw
        case rel => exact ⟨i + 1, ys.set i t, by omega, by go_num, Hyl2.out, Hnext.out, HI2.out⟩
        case measure => simp [intOf]; omega
      · have hin : i = q := by omega
        subst hin
        have hyl2 : ys.length ≤ 140737488351232 := by omega
        have hrow : wr.ownsRow w.heap.size 53 1 (.slice (some ⟨g, 0, none⟩) i cap) ys.length (ys.map fv) := by
          have := hI.row 0 rfl
          rwa [List.length_map] at this
        rw [List.take_of_length_le (by omega)] at hys
        have hgive := l02Give_any (m' : Int) n' _ ys wr (Sl.of_own hrow) hyl2
        have hvb := validB_nl (m' : Int) n' (show nl ys = nl (nl ys) by simp [nl, Fl.nf_nf])
        rw [hys] at hvb
        have k0 := (hI.blk 0 Hbs0.out).cell 0
        have k1 := (hI.blk 0 Hbs0.out).cell 1
        have k2 := (hI.blk 0 Hbs0.out).cell 2
        have Hrow := hid hrow
        have HI := hid hI
        have Hys := hid hys
        have Hyl := hid hyl
        have Hvb := hid hvb
        have Hsep := hid (hI.sepbox 1 0 Hbs1.out rfl)
        clear hrow hI hys hyl hyl2 hvb
        go_wp2_with fail
        refine hgive.mono ?_
        rintro e w8 ⟨hcase, hb8⟩
        have HI := hid (HI.out.call hb8)
        have hres := HI.out.blk 1 Hbs1.out
        have r0 := hres.cell 0
        have r1 := hres.cell 1
        have r2 := hres.cell 2
        have f0 := hres.frozen 0
        have f1 := hres.frozen 1
        have f2 := hres.frozen 2
        have Hrow := hid (own_below Hrow.out hb8)
        clear hres hb8 hgive k0 k1 k2
        rcases hcase with ⟨hv, rfl⟩ | ⟨hv, rfl⟩
        · have hR1 : R = some (⟨m', n', cellsTo m' (maskG m' xa xb xm) i⟩ : Pic) := by rw [HR.out, ← Hvb.out, hv]; rfl
          have HR1 := hid hR1
          clear hv HR Hvb hR1
          go_wp2
          refine bodyPost_ret (v := .tuple #[.agg #[.int .i64 m', .int .i64 n', .slice (some ⟨g, 0, none⟩) i cap], .bool true]) (by simp [results, Try.results41, go_sem, r0, r1, r2, f0, f1, f2]) rfl (show PicRes w R _ _ from ?_)
          rw [HR1.out]
          refine ⟨_, ys, rfl, ?_, Hys.out, ?_⟩
          · exact own_setCell_ne (own_setCell_ne (own_setCell_ne Hrow.out _ _ _ Hsep.out) _ _ _ Hsep.out) _ _ _ Hsep.out
          · have hz := Hbe.out
            exact (((HI.out.below).setCell (by simp; omega) _).setCell (by simp; omega) _).setCell (by simp; omega) _
        · have hR1 : R = none := by rw [HR.out, ← Hvb.out, hv]; rfl
          have HR1 := hid hR1
          clear hv HR Hvb hR1
          go_wp2
          refine bodyPost_ret (v := .tuple #[.agg #[.int .i64 0, .int .i64 0, .slice none 0 0], .bool false]) (by simp [results, Try.results41, go_sem, r0, r1, r2, f0, f1, f2]) rfl (show PicRes w R _ _ from ?_)
          rw [HR1.out]
          refine ⟨rfl, ?_⟩
          have hz := Hbe.out
          exact (((HI.out.below).setCell (by simp; omega) _).setCell (by simp; omega) _).setCell (by simp; omega) _
  all_goals
    have hr : maskR W1 H1 xa W2 H2 xb W3 H3 xm = none := by simp_all [maskR, maskB]
    rw [hr]
    rw [k1] at hc1
    clear hr pa pb pm
    go_enter Try.func41, Try.ntmps41
    go_wp2_with fail
    rw [← hw1, ← hbe]
    have Hbe := hid hbe
    clear hw1 hbe
    refine hc1.mono ?_
    rintro e w2 ⟨rfl, hb2⟩
    have hI2 := hI.call hb2
    try (
      have hcc2 := hc2 _ hb2
      rw [k2] at hcc2
      clear hc1 hc2
      go_wp2_with fail
      refine hcc2.mono ?_
      rintro e w3 ⟨rfl, hb3⟩
      replace hb2 := hb2.trans (hb3.mono hb2.size)
      replace hI2 := hI.call hb2
      try (
        have hcc3 := hc3 _ hb2
        rw [k3] at hcc3
        clear hcc2 hc3
        go_wp2_with fail
        refine hcc3.mono ?_
        rintro e w4 ⟨rfl, hb4⟩
        replace hb2 := hb2.trans (hb4.mono hb2.size)
        replace hI2 := hI.call hb2))
    have hres := hI2.blk 0 rfl
    have r0 := hres.cell 0
    have r1 := hres.cell 1
    have r2 := hres.cell 2
    have f0 := hres.frozen 0
    have f1 := hres.frozen 1
    have f2 := hres.frozen 2
    go_wp2
    refine bodyPost_ret (v := .tuple #[.agg #[.int .i64 0, .int .i64 0, .slice none 0 0], .bool false]) (by simp [results, Try.results41, go_sem, r0, r1, r2, f0, f1, f2]) rfl ⟨rfl, ?_⟩
    have hsz := Hbe.out
    exact ((hI2.below.setCell (by simp; omega) _).setCell (by simp; omega) _).setCell (by simp; omega) _

end Go.Proofs.Ytjennldpjfeppaa
