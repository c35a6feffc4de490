/-
  The squares of the differences where two pictures lie over each other, by the reference.
  Conditions: the lights are rows of cells that read; the sides are within the limits.
-/
import Derived.Test.YtggbdmgonobefaaA11
namespace Go.Proofs.Ytggbdmgonobefaa
open Go.RowKit
set_option linter.unusedVariables false
set_option linter.unusedSimpArgs false
attribute [local go_sem] Fl.run_fadd Fl.run_fsub Fl.run_fmul Fl.run_fquo Fl.run_wide Fl.run_store_float

set_option maxHeartbeats 4000000 in
set_option maxRecDepth 100000 in
theorem l07Differences_any (W1 W2 H ov : Nat) (v1 v2 : Value) (x1 x2 : List Nat) (b1 o1 b2 o2 : Nat) (w : World) (hp1 : PicAt w b1 o1 W1 H v1 x1) (hp2 : PicAt w b2 o2 W2 H v2 x2)
    (hl1 : x1.length = W1 * H) (hl2 : x2.length = W2 * H) (hW1 : W1 ≤ 16) (hW2 : W2 ≤ 16) (hH : H ≤ 16) (ho0 : 1 ≤ ov) (ho1 : ov ≤ W1) (ho2 : ov ≤ W2) :
    Calls Try.prog 158 #[.pointer (some ⟨b1, o1, none⟩), .pointer (some ⟨b2, o2, none⟩), .int .i64 ov] w fun e w' =>
      ∃ v ys, e = .returned (.agg #[.int .i64 ov, .int .i64 H, v]) ∧ w'.ownsRow w.heap.size 52 1 v ys.length (ys.map fv) ∧ nl ys = grid ov H (apartV W1 x1 W2 x2 ov) ∧ Below w.heap.size w w' := by
  obtain ⟨i0, hi, hz0, hz1, hz2⟩ := info_parts Try.infoF
  have hmn : ov * H ≤ 256 := by have : ov * H ≤ 16 * 16 := Nat.mul_le_mul (by omega) (by omega); omega
  have hmni : (ov : Int) * H = ((ov * H : Nat) : Int) := by simp
  obtain ⟨q, hq⟩ : ∃ q, q = ov * H := ⟨_, rfl⟩
  have hdiv : ∀ i, i < q → i / ov < H := fun i h => Nat.div_lt_of_lt_mul (by rw [← hq]; exact h)
  rw [← hq] at hmn hmni
  have Hq := hid hq
  have Hdiv := hid hdiv
  have Hp1 := hid hp1
  have Hp2 := hid hp2
  have c1 := hp1.c1
  have hB1 := hp1.lt
  have hB2 := hp2.lt
  obtain ⟨ad1, cap1, hv1⟩ := hp1.sl.form
  obtain ⟨ad2, cap2, hv2⟩ := hp2.sl.form
  rw [List.length_map] at hv1 hv2
  have Hl1 := hid hl1
  have Hl2 := hid hl2
  clear hq hdiv hp1 hp2 hl1 hl2
  go_enter Try.func158, Try.ntmps158
  go_wp2
  go_loopw [8] (fun c wr => ∃ (i : Nat) (ad : Option Addr) (cap : Nat) (ys : List Nat), i ≤ q ∧ c = .int .i64 i ∧ Blk wr w.heap.size [.int .i64 0, .int .i64 0, .slice none 0 0] 32 ∧
      Blk wr (w.heap.size + 1) [.int .i64 ov, .int .i64 H, .slice ad i cap] 32 ∧ wr.ownsRow (w.heap.size + 2) 52 1 (.slice ad i cap) i (ys.map fv) ∧
      nl ys = cellsTo ov (apartV W1 x1 W2 x2 ov) i ∧ Below w.heap.size w wr) (fun c _ => q - (intOf c).toNat)
  case atStart =>
    refine ⟨0, none, 0, [], Nat.zero_le _, rfl, (Blk.new _ _ _).alloc _, ?_, World.ownsRow_nil _ _ _ _, rfl, ((Below.refl _ _).alloc (Nat.le_refl _) _).alloc (by simp) _⟩
    have := Blk.new (w.alloc (.cells #[.int .i64 0, .int .i64 0, .slice none 0 0] 32)) [.int .i64 ov, .int .i64 H, .slice none 0 0] 32
    simpa using this
  case round =>
    obtain ⟨i, ad, cap, ys, hiq, rfl, hres, hp, hown, hys, hb⟩ := hrel
    have cW := ((bcell hb).1 _ _ hB1).trans c1
    by_cases hlt : i < q
    · obtain ⟨x, hx⟩ : ∃ x, x = i % ov := ⟨_, rfl⟩
      obtain ⟨y, hy⟩ : ∃ y, y = i / ov := ⟨_, rfl⟩
      have hxi : (i : Int) % (ov : Int) = (x : Int) := by rw [hx]; simp
      have hyi : (i : Int) / (ov : Int) = (y : Int) := by rw [hy]; simp
      have hxlt : x < ov := by rw [hx]; exact Nat.mod_lt _ ho0
      have hylt : y < H := by rw [hy]; exact Hdiv.out i hlt
      have Hnext := hid (show ∀ r, Fl.nf .f32 r = apartV W1 x1 W2 x2 ov x y → nl (ys ++ [r]) = cellsTo ov (apartV W1 x1 W2 x2 ov) (i + 1) from fun r hr => by
        rw [cellsTo, List.range_succ, List.map_append, List.map_cons, List.map_nil, ← hx, ← hy]
        exact nl_snoc hys hr)
      have p1 := Hp1.out.mono (hb.mono (Nat.le_refl _))
      have p2 := Hp2.out.mono (hb.mono (Nat.le_refl _))
      have e0 := p1.c0
      have e2 := p1.c2
      have g0 := p2.c0
      have g2 := p2.c2
      obtain ⟨j1, hj1⟩ : ∃ j, j = y * W1 + (W1 - ov + x) := ⟨_, rfl⟩
      obtain ⟨j2, hj2⟩ : ∃ j, j = y * W2 + x := ⟨_, rfl⟩
      have hm1 : y * W1 ≤ 16 * 16 := Nat.mul_le_mul (by omega) hW1
      have hm2 : y * W2 ≤ 16 * 16 := Nat.mul_le_mul (by omega) hW2
      have y1 : (0 : Int) ≤ (y : Int) * W1 ∧ (y : Int) * W1 ≤ 256 := by
        have e : (y : Int) * (W1 : Int) = ((y * W1 : Nat) : Int) := by simp
        omega
      have y2 : (0 : Int) ≤ (y : Int) * W2 ∧ (y : Int) * W2 ≤ 256 := by
        have e : (y : Int) * (W2 : Int) = ((y * W2 : Nat) : Int) := by simp
        omega
      have hI1 : (y : Int) * W1 + W1 - ov + x = j1 := by
        have e : (y : Int) * (W1 : Int) = ((y * W1 : Nat) : Int) := by simp
        omega
      have hI2 : (y : Int) * W2 + x = j2 := by
        have e : (y : Int) * (W2 : Int) = ((y * W2 : Nat) : Int) := by simp
        omega
      have hlt1 : j1 < x1.length := by rw [Hl1.out, hj1]; exact at_lt (by omega) hylt
      have hlt2 : j2 < x2.length := by rw [Hl2.out, hj2]; exact at_lt (by omega) hylt
      have s1 := p1.sl
      have s2 := p2.sl
      rw [hv1] at e2 s1
      rw [hv2] at g2 s2
      obtain ⟨ba, oa, ca, rfl, hca, cella, hbsa⟩ := s1.at j1 hlt1
      obtain ⟨bb, ob, cb, rfl, hcb, cellb, hbsb⟩ := s2.at j2 hlt2
      obtain ⟨A, hA⟩ : ∃ A, A = x1.getD j1 0 := ⟨_, rfl⟩
      obtain ⟨B, hB⟩ : ∃ B, B = x2.getD j2 0 := ⟨_, rfl⟩
      have hca' : ca = fv A := by
        rw [List.getElem?_map, List.getElem?_eq_getElem hlt1] at hca
        rw [← Option.some.inj hca, hA]
        simp [hlt1]
      have hcb' : cb = fv B := by
        rw [List.getElem?_map, List.getElem?_eq_getElem hlt2] at hcb
        rw [← Option.some.inj hcb, hB]
        simp [hlt2]
      rw [hca'] at cella
      rw [hcb'] at cellb
      have hval : apartV W1 x1 W2 x2 ov x y = Fl.fop .mul .f32 (Fl.fop .sub .f32 A B) (Fl.fop .sub .f32 A B) := by rw [apartV, hA, hB, hj1, hj2]
      have Hval := hid hval
      obtain ⟨n1, hn1⟩ : ∃ n, n = x1.length := ⟨_, rfl⟩
      obtain ⟨n2, hn2⟩ : ∃ n, n = x2.length := ⟨_, rfl⟩
      rw [← hn1] at hlt1 e2 
      rw [← hn2] at hlt2 g2
      have hbnd1 : n1 ≤ 256 := by rw [hn1, Hl1.out]; have : W1 * H ≤ 16 * 16 := Nat.mul_le_mul hW1 hH; omega
      have hbnd2 : n2 ≤ 256 := by rw [hn2, Hl2.out]; have : W2 * H ≤ 16 * 16 := Nat.mul_le_mul hW2 hH; omega
      have hBw1 : b1 < wr.heap.size := Nat.lt_of_lt_of_le hB1 hb.size
      have hBw2 : b2 < wr.heap.size := Nat.lt_of_lt_of_le hB2 hb.size
      have Hres := hid hres
      have Hp := hid hp
      have Hown := hid hown
      have Hb := hid hb
      clear hca hcb hca' hcb' hA hB hval s1 s2 p1 p2 hj1 hj2 hm1 hm2 hx hy hn1 hn2 hres hp hown hys hb
      go_wp2
      simp only [hxi]
      refine Mix.wp_mix [.S, .S, .S, .S, .S, .S, .S, .S, .S, .S, .S, .S, .S, .S, .S, .S, .S, .S, .S, .S, .S, .S, .S, .S, .S, .S, .S, .S, .S, .S, .S, .S, .S, .S, .S, .L, .S] [0, 1, 2, 3, 4, 5, 6, 7, 8, 9, 10, 11, 12, 13, 14, 15, 16, 17, 18, 19, 20, 21, 22, 23, 24, 25, 26, 27, 28, 29, 30, 31, 32, 33, 34, 35, 36] (Below wr.heap.size wr) (by kernel_rfl) (by kernel_rfl) ((Below.refl _ _).drew) ?_
      have hC : Below wr.heap.size wr wr.drew := (Below.refl _ _).drew
      generalize wr.drew = w2 at hC ⊢
      repeat (first | (refine Mix.sf_S rfl rfl rfl rfl rfl (Mix.valOp_spec rfl) hC ?_; apply Exists.intro; refine ⟨?_, ?_⟩; · (intro w' hC' K hK; have hk := (bcell hC').1; go_step; exact hK)) | (refine Mix.sf_skipS rfl rfl rfl rfl ?_; apply Exists.intro; refine ⟨?_, ?_⟩; · (intro K hK; go_step; exact hK)) | (refine Mix.sf_skipA rfl rfl rfl rfl ?_; apply Exists.intro; refine ⟨?_, ?_⟩; · (intro K hK; go_step; exact hK)) | (refine Mix.sf_skipL rfl rfl rfl rfl ?_ hC; apply Exists.intro; refine ⟨?_, ?_⟩; · (intro K hK; go_step; exact hK); clear hC; intro wL hC))
      refine Mix.sf_Larith rfl rfl rfl rfl rfl rfl (by simp) rfl below_draws ?_; clear hC; intro r hr w7 hC; apply Exists.intro; refine ⟨?_, ?_⟩; · (intro K hK; go_step; exact hK)
      repeat (first | (refine Mix.sf_S rfl rfl rfl rfl rfl (Mix.valOp_spec rfl) hC ?_; apply Exists.intro; refine ⟨?_, ?_⟩; · (intro w' hC' K hK; have hk := (bcell hC').1; go_step; exact hK)) | (refine Mix.sf_skipS rfl rfl rfl rfl ?_; apply Exists.intro; refine ⟨?_, ?_⟩; · (intro K hK; go_step; exact hK)) | (refine Mix.sf_skipA rfl rfl rfl rfl ?_; apply Exists.intro; refine ⟨?_, ?_⟩; · (intro K hK; go_step; exact hK)) | (refine Mix.sf_skipL rfl rfl rfl rfl ?_ hC; apply Exists.intro; refine ⟨?_, ?_⟩; · (intro K hK; go_step; exact hK); clear hC; intro wL hC))
      refine Mix.sf_nil ?_
      have hv : ∀ w8, Fl.nf .f32 (Fl.fres w8 .mul .f32 r r) = apartV W1 x1 W2 x2 ov x y := fun w8 => by rw [Fl.nf_fres, Hval.out, ← hr, fop_nf_l, fop_nf_r]
      have Hv := hid hv
      have Hres := hid (Hres.out.below hC Hres.out.lt)
      have Hp := hid (Hp.out.below hC Hp.out.lt)
      have Hown := hid (own_below Hown.out hC)
      have Hb := hid (Hb.out.trans (hC.mono Hb.out.size))
      have p0 : w7.cell? ⟨w.heap.size + 1, 2, none⟩ = some (.slice ad i cap) := Hp.out.cell 2
      have f0 : w7.frozen? ⟨w.heap.size + 1, 2, none⟩ = false := Hp.out.frozen 2
      have hs1 : w.heap.size + 1 < w7.heap.size := Hp.out.lt
      clear hv hr hC
      have fin : ∀ (r : Nat) (ad' : Option Addr) (cap' : Nat) (w' : World), w'.ownsRow (w.heap.size + 2) 52 1 (.slice ad' (i + 1) cap') (i + 1) (ys.map fv ++ [fv r]) →
          (w7.alloc (.cells #[fv r] 52)).grownBy w' (Value.slice ad i cap).ownBlock →
          Blk (w'.setCell ⟨w.heap.size + 1, 2, none⟩ (.slice ad' (i + 1) cap')) w.heap.size [.int .i64 0, .int .i64 0, .slice none 0 0] 32 ∧
          Blk (w'.setCell ⟨w.heap.size + 1, 2, none⟩ (.slice ad' (i + 1) cap')) (w.heap.size + 1) [.int .i64 ov, .int .i64 H, .slice ad' (i + 1) cap'] 32 ∧
          (w'.setCell ⟨w.heap.size + 1, 2, none⟩ (.slice ad' (i + 1) cap')).ownsRow (w.heap.size + 2) 52 1 (.slice ad' (i + 1) cap') (i + 1) ((ys ++ [r]).map fv) ∧
          Below w.heap.size w (w'.setCell ⟨w.heap.size + 1, 2, none⟩ (.slice ad' (i + 1) cap')) := fun r ad' cap' w' ho hg => by
        have ho1 := Hown.out.alloc (.cells #[fv r] 52)
        refine ⟨(((Hres.out.alloc _).grown hg (own_block_ge ho1 (by omega)))).other _ _ (by simp), ((((Hp.out.alloc _).grown hg (own_block_ge ho1 (by omega)))).set 2 _), ?_, ?_⟩
        · rw [List.map_append]; exact ownsRow_setCell_below ho (by simp) _
        · exact (below_grown (Hb.out.alloc (by omega) _) hg ho1 (by omega) (by simp; omega)).setCell (by simp) _
      have cellw : ∀ (r : Nat) (w' : World), (w7.alloc (.cells #[fv r] 52)).grownBy w' (Value.slice ad i cap).ownBlock →
          w'.cell? ⟨w.heap.size + 1, 2, none⟩ = some (.slice ad i cap) ∧ w'.frozen? ⟨w.heap.size + 1, 2, none⟩ = false := fun r w' hg => by
        have ho1 := Hown.out.alloc (.cells #[fv r] 52)
        have hb := (Hp.out.alloc (.cells #[fv r] 52)).grown hg (own_block_ge ho1 (by omega))
        exact ⟨hb.cell 2, hb.frozen 2⟩
      have Fin := hid fin
      have Cellw := hid cellw
      clear fin cellw
      go_wp2_with (at_builtin; go_loud (refine wpList_app1 rfl _ _ 22 rfl (w.heap.size + 2) 52 i0 (.float .f32 0) 4 Try.underlying22 hi hz0 hz1 hz2 rfl (.slice ad i cap) i (ys.map fv) rfl ((own_drewN _ Hown.out).alloc _) w7.heap.size (fv (Fl.fres w7 .mul .f32 r r)) rfl (cell_newN w7 _ _ _) rfl (by unfold maxLen; omega) (by omega) (size_newN w7 _ _ (by omega)) ?_))
      intro ad' cap' w' ho hg
      replace hg := grownBy_of_drewN hg
      obtain ⟨q0, q1⟩ := Cellw.out _ w' hg
      have Ho := hid ho
      have Hg := hid hg
      clear ho hg
      go_wp2
      go_roundw
      case rel => obtain ⟨e1, e2, e3, e4⟩ := Fin.out _ ad' cap' w' Ho.out Hg.out; exact ⟨i + 1, ad', cap', ys ++ [_], by omega, by go_num, e1, e2, e3, Hnext.out _ (Hv.out _), e4⟩
      case measure => simp [intOf]; omega
    · have hiq' : i = q := by omega
      subst hiq'
      have p0 : wr.cell? ⟨w.heap.size + 1, 0, none⟩ = some (.int .i64 ov) := hp.cell 0
      have p1 : wr.cell? ⟨w.heap.size + 1, 1, none⟩ = some (.int .i64 H) := hp.cell 1
      have p2 : wr.cell? ⟨w.heap.size + 1, 2, none⟩ = some (.slice ad i cap) := hp.cell 2
      have r0 : wr.cell? ⟨w.heap.size, 0, none⟩ = some (.int .i64 0) := hres.cell 0
      have r1 : wr.cell? ⟨w.heap.size, 1, none⟩ = some (.int .i64 0) := hres.cell 1
      have r2 : wr.cell? ⟨w.heap.size, 2, none⟩ = some (.slice none 0 0) := hres.cell 2
      have f0 : wr.frozen? ⟨w.heap.size, 0, none⟩ = false := hres.frozen 0
      have f1 : wr.frozen? ⟨w.heap.size, 1, none⟩ = false := hres.frozen 1
      have f2 : wr.frozen? ⟨w.heap.size, 2, none⟩ = false := hres.frozen 2
      have hyl : ys.length = i := by have := congrArg List.length hys; simpa [nl, cellsTo] using this
      have Hown := hid hown
      have Hys := hid hys
      have Hb := hid hb
      have Hyl := hid hyl
      clear hown hys hb hres hp hyl
      go_wp2
      refine bodyPost_ret (v := .agg #[.int .i64 ov, .int .i64 H, .slice ad i cap]) (by simp [results, Try.results158, go_sem, p0, p1, p2, r0, r1, r2, f0, f1, f2]) rfl ⟨_, ys, rfl, ?_, ?_, ?_⟩
      · rw [Hyl.out]
        exact own_base (by omega) (ownsRow_setCell_below (ownsRow_setCell_below (ownsRow_setCell_below Hown.out (by simp) _) (by simp) _) (by simp) _)
      · rw [Hys.out, grid, Hq.out]
      · exact (((Hb.out).setCell (Nat.le_refl _) _).setCell (Nat.le_refl _) _).setCell (Nat.le_refl _) _

end Go.Proofs.Ytggbdmgonobefaa
