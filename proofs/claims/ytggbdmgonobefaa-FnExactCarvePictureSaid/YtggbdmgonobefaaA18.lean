/-
  What is left when a seam goes, by the reference.
  Conditions: the lights and the seam are rows of cells that read.
-/
import Derived.Test.YtggbdmgonobefaaA17
namespace Go.Proofs.Ytggbdmgonobefaa
open Go.RowKit
set_option linter.unusedVariables false
set_option linter.unusedSimpArgs false

set_option maxHeartbeats 4000000 in
set_option maxRecDepth 100000 in
theorem l07Cut_any (W H : Nat) (v : Value) (xs : List Nat) (s : List Int) (sv : Value) (b1 o1 : Nat) (w : World) (hp : PicAt w b1 o1 W H v xs) (hs : Sl w sv (s.map iv))
    (hl : xs.length = W * H) (hsl : s.length = H) (hW : W ≤ 16) (hH : H ≤ 16) (hW1 : 1 ≤ W) (hin : ∀ k, k < H → 0 ≤ s.getD k 0 ∧ s.getD k 0 < W) :
    Calls Try.prog 127 #[.pointer (some ⟨b1, o1, none⟩), sv] w fun e w' =>
      ∃ v ys, e = .returned (.agg #[.int .i64 (W - 1), .int .i64 H, v]) ∧ w'.ownsRow w.heap.size 52 1 v ys.length (ys.map fv) ∧ nl ys = grid (W - 1) H (cutV W xs s) ∧ Below w.heap.size w w' := by
  obtain ⟨i0, hi, hz0, hz1, hz2⟩ := info_parts Try.infoF
  obtain ⟨ads, caps, hsv⟩ := hs.form
  rw [List.length_map, hsl] at hsv
  subst hsv
  obtain ⟨ad1, cap1, hv1⟩ := hp.sl.form
  rw [List.length_map] at hv1
  have hgrid : cutP W xs s (W * H) = grid (W - 1) H (cutV W xs s) := cut_rows W xs s H hin
  rw [← hgrid]
  have hmn : W * H ≤ 256 := by have : W * H ≤ 16 * 16 := Nat.mul_le_mul hW hH; omega
  obtain ⟨q, hq⟩ : ∃ q, q = W * H := ⟨_, rfl⟩
  have hdiv : ∀ i, i < q → i / W < H := fun i h => Nat.div_lt_of_lt_mul (by rw [← hq]; exact h)
  rw [← hq] at hmn hl ⊢
  rw [hl] at hv1
  have c0 := hp.c0
  have c1 := hp.c1
  have c2 := hp.c2
  have hB := hp.lt
  have Hsl0 := hid hp.sl
  have Hs := hid hs
  have Hl := hid hl
  have Hsl := hid hsl
  have Hdiv := hid hdiv
  subst hv1
  clear hp hs hl hsl hgrid hdiv hq hin
  go_enter Try.func127, Try.ntmps127
  go_wp2
  have hI := (Inv.start w).alloc [.int .i64 0, .int .i64 0, .slice none 0 0] 32
  obtain ⟨w1, hw1⟩ : ∃ w1, w1 = w.alloc (.cells #[.int .i64 0, .int .i64 0, .slice none 0 0] 32) := ⟨_, rfl⟩
  rw [show w.alloc (.cells [Value.int .i64 0, .int .i64 0, .slice none 0 0].toArray 32) = w1 from hw1.symm] at hI
  rw [← hw1]
  have hsz1 : w1.heap.size = w.heap.size + 1 := by rw [hw1]; simp
  clear hw1
  have k0 := (hI.below.cell hB).trans c0
  have k1 := (hI.below.cell hB).trans c1
  have kB : b1 < w1.heap.size := by omega
  refine Mix.wp_mix [.S, .S, .S, .S, .S, .S, .S, .S, .S, .S, .A, .A] [0, 1, 2, 3, 4, 5, 6, 7, 8, 9, 10, 11] (Below w1.heap.size w1) (by kernel_rfl) (by kernel_rfl) ((Below.refl _ _).drew) ?_
  have hC : Below w1.heap.size w1 w1.drew := (Below.refl _ _).drew
  generalize w1.drew = w2 at hC ⊢
  repeat (first | (refine Mix.sf_S rfl rfl rfl rfl rfl (Mix.valOp_spec rfl) hC ?_; apply Exists.intro; refine ⟨?_, ?_⟩; · (intro w' hC' K hK; have hk := (bcell hC').1; go_step; exact hK)) | (refine Mix.sf_skipS rfl rfl rfl rfl ?_; apply Exists.intro; refine ⟨?_, ?_⟩; · (intro K hK; go_step; exact hK)) | (refine Mix.sf_skipA rfl rfl rfl rfl ?_; apply Exists.intro; refine ⟨?_, ?_⟩; · (intro K hK; go_step; exact hK)) | (refine Mix.sf_skipL rfl rfl rfl rfl ?_ hC; apply Exists.intro; refine ⟨?_, ?_⟩; · (intro K hK; go_step; exact hK); clear hC; intro wL hC))
  refine Mix.sf_A rfl rfl rfl ?_; intro K hK; go_step
  refine hK _ _ (hC.alloc hC.size _) ?_
  clear hK K
  repeat (first | (refine Mix.sf_S rfl rfl rfl rfl rfl (Mix.valOp_spec rfl) hC ?_; apply Exists.intro; refine ⟨?_, ?_⟩; · (intro w' hC' K hK; have hk := (bcell hC').1; go_step; exact hK)) | (refine Mix.sf_skipS rfl rfl rfl rfl ?_; apply Exists.intro; refine ⟨?_, ?_⟩; · (intro K hK; go_step; exact hK)) | (refine Mix.sf_skipA rfl rfl rfl rfl ?_; apply Exists.intro; refine ⟨?_, ?_⟩; · (intro K hK; go_step; exact hK)) | (refine Mix.sf_skipL rfl rfl rfl rfl ?_ hC; apply Exists.intro; refine ⟨?_, ?_⟩; · (intro K hK; go_step; exact hK); clear hC; intro wL hC))
  refine Mix.sf_A rfl rfl rfl ?_; intro K hK; go_step
  refine hK _ _ (hC.alloc hC.size _) ?_
  clear hK K
  refine Mix.sf_nil ?_
  replace hI := (hI.call hC).alloc [.int .i64 (W - 1), .int .i64 H, .slice none 0 0] 32
  have hB5 : w.heap.size < w2.heap.size := by have := hC.size; omega
  obtain ⟨B5, hB5e⟩ : ∃ B5, B5 = w2.heap.size := ⟨_, rfl⟩
  have hsz3 : (w2.alloc (.cells [Value.int .i64 (W - 1), .int .i64 H, .slice none 0 0].toArray 32)).heap.size = B5 + 1 := by rw [hB5e]; simp
  rw [← hB5e] at hI hB5 ⊢
  clear hB5e hC k0 k1 kB hsz1
  obtain ⟨w3, hw3⟩ : ∃ w3, w3 = w2.alloc (.cells [Value.int .i64 (W - 1), .int .i64 H, .slice none 0 0].toArray 32) := ⟨_, rfl⟩
  rw [← hw3] at hI hsz3
  rw [show w2.alloc (.cells #[.int .i64 (W - 1), .int .i64 H, .slice none 0 0] 32) = w3 from hw3.symm]
  clear hw3 w2
  have e2 := (hI.below.cell hB).trans c2
  have hres := hI.blk 1 rfl
  have hp := hI.blk 0 rfl
  have hb := hI.below
  clear hI
  go_wp2
  clear e2
  go_loopw [6, 22] (fun _ c wr => ∃ (i j : Nat) (ad : Option Addr) (cap : Nat) (ys : List Nat), i ≤ q ∧ j ≤ i ∧ c = .int .i64 i ∧ Blk wr w.heap.size [.int .i64 0, .int .i64 0, .slice none 0 0] 32 ∧
      Blk wr B5 [.int .i64 (W - 1), .int .i64 H, .slice ad j cap] 32 ∧ wr.ownsRow (B5 + 1) 52 1 (.slice ad j cap) j (ys.map fv) ∧
      nl ys = cutP W xs s i ∧ Below w.heap.size w wr ∧ B5 + 1 ≤ wr.heap.size) (fun _ c _ => q - (intOf c).toNat)
  case atStart => exact ⟨0, 0, none, 0, [], Nat.zero_le _, Nat.le_refl _, rfl, hres, hp, World.ownsRow_nil _ _ _ _, rfl, hb, by omega⟩
  case round =>
    clear hres hp hb
    obtain ⟨i, j, ad, cap, ys, hiq, hji, rfl, hres, hp, hown, hys, hb, hsz⟩ := hrel
    by_cases hlt : i < q
    · obtain ⟨x, hx⟩ : ∃ x, x = i % W := ⟨_, rfl⟩
      obtain ⟨y, hy⟩ : ∃ y, y = i / W := ⟨_, rfl⟩
      have hxi : (i : Int) % (W : Int) = (x : Int) := by rw [hx]; simp
      have hyi : (i : Int) / (W : Int) = (y : Int) := by rw [hy]; simp
      have hylt : y < H := by rw [hy]; exact Hdiv.out i hlt
      have e0 := (hb.cell hB).trans c0
      obtain ⟨ba, oa, rfl, hcs, hbsa⟩ := (Hs.out.mono hb).int Hsl.out y hylt
      obtain ⟨z, hz⟩ : ∃ z, z = s.getD y 0 := ⟨_, rfl⟩
      rw [← hz] at hcs
      have hkeep : cutKeep W s i = !decide ((x : Int) = z) := by rw [cutKeep, ← hx, ← hy, hz]
      have hBw : b1 < wr.heap.size := Nat.lt_of_lt_of_le hB hb.size
      cases hk : (decide ((x : Int) = z))
      · have hd : ¬ ((x : Int) = z) := by simpa using hk
        rw [hk] at hkeep
        have hnext : ∀ r, Fl.nf .f32 r = Fl.nf .f32 (xs.getD i 0) → nl (ys ++ [r]) = cutP W xs s (i + 1) := fun r hr => by
          rw [cutP_succ_keep (by rw [hkeep]; rfl)]
          exact nl_snoc hys hr
        have Hnext := hid hnext
        clear hnext hkeep hx hy hz hys
        have Hres := hid hres
        have Hp := hid hp
        have Hown := hid hown
        have Hb := hid hb
        clear hres hp hown hb
        go_wp2
        refine Mix.wp_mix [.S, .S, .S, .S, .S, .S, .S, .S, .S, .S, .S, .S, .S, .S, .S, .S] [0, 1, 2, 3, 4, 5, 6, 7, 8, 9, 10, 11, 12, 13, 14, 15] (Below wr.heap.size wr) (by kernel_rfl) (by kernel_rfl) ((Below.refl _ _).drew) ?_
        have hC : Below wr.heap.size wr wr.drew := (Below.refl _ _).drew
        generalize wr.drew = w4 at hC ⊢
        repeat (first | (refine Mix.sf_S rfl rfl rfl rfl rfl (Mix.valOp_spec rfl) hC ?_; apply Exists.intro; refine ⟨?_, ?_⟩; · (intro w' hC' K hK; have hk := (bcell hC').1; go_step; exact hK)) | (refine Mix.sf_skipS rfl rfl rfl rfl ?_; apply Exists.intro; refine ⟨?_, ?_⟩; · (intro K hK; go_step; exact hK)) | (refine Mix.sf_skipA rfl rfl rfl rfl ?_; apply Exists.intro; refine ⟨?_, ?_⟩; · (intro K hK; go_step; exact hK)) | (refine Mix.sf_skipL rfl rfl rfl rfl ?_ hC; apply Exists.intro; refine ⟨?_, ?_⟩; · (intro K hK; go_step; exact hK); clear hC; intro wL hC))
        refine Mix.sf_nil ?_
        have hlt0 : i < xs.length := by rw [Hl.out]; exact hlt
        obtain ⟨bl, ol, rfl, hcl, hbl⟩ : ∃ b off, ad1 = some ⟨b, off, none⟩ ∧ w.cell? ⟨b, off + i, none⟩ = some (fv (xs.getD i 0)) ∧ b < w.heap.size := by
          obtain ⟨b, off, c, h1, h2, h3, h4⟩ := Hsl0.out.at i (by omega)
          refine ⟨b, off, h1, ?_, h4⟩
          rw [h3, ← h2, List.getElem?_map, List.getElem?_eq_getElem hlt0]
          simp [hlt0]
        obtain ⟨A, hA⟩ : ∃ A, A = xs.getD i 0 := ⟨_, rfl⟩
        rw [← hA] at hcl
        have Hnext := hid (show nl (ys ++ [A]) = cutP W xs s (i + 1) from Hnext.out A (by rw [hA]))
        have Hres := hid (Hres.out.below hC Hres.out.lt)
        have Hp := hid (Hp.out.below hC Hp.out.lt)
        have Hown := hid (own_below Hown.out hC)
        have Hb := hid (Hb.out.trans (hC.mono Hb.out.size))
        have hsz4 : B5 + 1 ≤ w4.heap.size := Nat.le_trans hsz hC.size
        have hd2 : ((x : Int) != z) = true := by simp [hd]
        clear hC hA e0 hcs
        go_wp2
        have hc2 : w4.cell? ⟨B5, 2, none⟩ = some (.slice ad j cap) := Hp.out.cell 2
        refine Mix.wp_mix [.S, .S, .S, .S, .S, .S, .S, .S, .S, .A, .A, .S, .T] [0, 1, 2, 3, 4, 5, 6, 7, 8, 9, 10, 11, 12] (CellC B5 2 (.slice ad j cap) w.heap.size w) (by kernel_rfl) (by kernel_rfl) ⟨hc2, Hb.out.drew⟩ ?_
        have hC : CellC B5 2 (.slice ad j cap) w.heap.size w w4.drew := ⟨hc2, Hb.out.drew⟩
        have Hres := hid (Hres.out.drew)
        have Hp := hid (Hp.out.drew)
        have Hown := hid (own_drew Hown.out)
        have hsz5 : B5 + 1 ≤ w4.drew.heap.size := hsz4
        clear Hb hc2
        generalize w4.drew = w5 at hC Hres Hp Hown hsz5 ⊢
        repeat (first | (refine Mix.sf_S rfl rfl rfl rfl rfl (Mix.valOp_spec rfl) hC ?_; apply Exists.intro; refine ⟨?_, ?_⟩; · (intro w' hC' K hK; have hk := hC'.cell; have hk2 := (bcell hC'.below).1; go_step; exact hK)) | (refine Mix.sf_skipS rfl rfl rfl rfl ?_; apply Exists.intro; refine ⟨?_, ?_⟩; · (intro K hK; go_step; exact hK)) | (refine Mix.sf_skipA rfl rfl rfl rfl ?_; apply Exists.intro; refine ⟨?_, ?_⟩; · (intro K hK; go_step; exact hK)) | (refine Mix.sf_skipL rfl rfl rfl rfl ?_ hC; apply Exists.intro; refine ⟨?_, ?_⟩; · (intro K hK; go_step; exact hK); clear hC; intro wL hC))
        refine Mix.sf_A rfl rfl rfl ?_; intro K hK; go_step
        have hblt : B5 < w5.heap.size := Hp.out.lt
        have hC4 : CellC B5 2 (.slice ad j cap) w.heap.size w (w5.alloc (.cells #[fv A] 52)) := ⟨(World.cell?_alloc_past _ _ _ hblt).trans hC.cell, hC.below.alloc (by omega) _⟩
        refine hK _ _ hC4 ?_
        have hcn : (w5.alloc (.cells #[fv A] 52)).cell? ⟨w5.heap.size, 0, none⟩ = some (fv A) := by simp [go_sem]
        have Hown4 := hid (Hown.out.alloc (.cells #[fv A] 52))
        have Hp4 := hid (Hp.out.alloc (.cells #[fv A] 52))
        have Hres4 := hid (Hres.out.alloc (.cells #[fv A] 52))
        have hsz6 : B5 + 1 ≤ (w5.alloc (.cells #[fv A] 52)).heap.size := by simp; omega
        clear hK K hC Hown Hp Hres
        obtain ⟨b3, hb3⟩ : ∃ b3, b3 = w5.heap.size := ⟨_, rfl⟩
        rw [← hb3] at hcn ⊢
        clear hb3 hblt
        generalize w5.alloc (.cells #[fv A] 52) = w6 at hC4 hcn Hown4 Hp4 Hres4 hsz6 ⊢
        refine Mix.sf_Aapp1 rfl rfl rfl rfl rfl (B5 + 1) 52 i0 (.float .f32 0) 4 Try.underlying22 hi hz0 hz1 hz2 rfl (.slice ad j cap) j (ys.map fv) rfl Hown4.out b3 (fv A) rfl hcn rfl (by unfold maxLen; omega) (by omega) hsz6 (fun w' hg => ⟨(cell_grown hg Hown4.out hC4.cell (by omega)), below_grown hC4.below hg Hown4.out (by omega) (by omega)⟩) ?_
        intro ad' cap' w7 hC5 hown5 hg5
        apply Exists.intro
        refine ⟨?_, ?_⟩
        · (intro K hK; go_step; exact hK)
        have Hp5 := hid (Hp4.out.grown hg5 (own_block_ge Hown4.out (by omega)))
        have Hres5 := hid (Hres4.out.grown hg5 (own_block_ge Hown4.out (by omega)))
        have hsz7 : B5 + 1 ≤ w7.heap.size := Nat.le_trans hsz6 hg5.size
        have Hown5 := hid hown5
        have hC := hC5
        clear hown5 hg5 Hown4 Hp4 Hres4 hC4 hcn hC5
        repeat (first | (refine Mix.sf_S rfl rfl rfl rfl rfl (Mix.valOp_spec rfl) hC ?_; apply Exists.intro; refine ⟨?_, ?_⟩; · (intro w' hC' K hK; have hk := hC'.cell; go_step; exact hK)) | (refine Mix.sf_skipS rfl rfl rfl rfl ?_; apply Exists.intro; refine ⟨?_, ?_⟩; · (intro K hK; go_step; exact hK)) | (refine Mix.sf_skipA rfl rfl rfl rfl ?_; apply Exists.intro; refine ⟨?_, ?_⟩; · (intro K hK; go_step; exact hK)) | (refine Mix.sf_skipL rfl rfl rfl rfl ?_ hC; apply Exists.intro; refine ⟨?_, ?_⟩; · (intro K hK; go_step; exact hK); clear hC; intro wL hC))
        have hc5 : w7.cell? ⟨B5, 2, none⟩ = some (.slice ad j cap) := hC.cell
        have hf5 : w7.frozen? ⟨B5, 2, none⟩ = false := Hp5.out.frozen 2
        refine Mix.sf_T rfl rfl rfl ?_; intro K hK; go_step
        refine hK _ _ ?_
        clear hK K hc5 hf5
        refine Mix.sf_nil ?_
        go_wp2
        go_roundw
        case rel =>
          refine ⟨i + 1, j + 1, ad', cap', ys ++ [A], by omega, by omega, by go_num, Hres5.out.other _ _ (by simp; omega), Hp5.out.set 2 _, ?_, Hnext.out, hC.below.setCell (by simp; omega) _, by simp; omega⟩
          rw [List.map_append]; exact ownsRow_setCell_below Hown5.out (by simp) _
        case measure => simp [intOf]; omega
      · have hd : (x : Int) = z := by simpa using hk
        rw [hk] at hkeep
        have Hnext := hid (show nl ys = cutP W xs s (i + 1) from by rw [cutP_succ_drop (by rw [hkeep]; rfl)]; exact hys)
        clear hkeep hx hy hz hys
        have Hres := hid hres
        have Hp := hid hp
        have Hown := hid hown
        have Hb := hid hb
        clear hres hp hown hb
        go_wp2
        refine Mix.wp_mix [.S, .S, .S, .S, .S, .S, .S, .S, .S, .S, .S, .S, .S, .S, .S, .S] [0, 1, 2, 3, 4, 5, 6, 7, 8, 9, 10, 11, 12, 13, 14, 15] (Below wr.heap.size wr) (by kernel_rfl) (by kernel_rfl) ((Below.refl _ _).drew) ?_
        have hC : Below wr.heap.size wr wr.drew := (Below.refl _ _).drew
        generalize wr.drew = w4 at hC ⊢
        repeat (first | (refine Mix.sf_S rfl rfl rfl rfl rfl (Mix.valOp_spec rfl) hC ?_; apply Exists.intro; refine ⟨?_, ?_⟩; · (intro w' hC' K hK; have hk := (bcell hC').1; go_step; exact hK)) | (refine Mix.sf_skipS rfl rfl rfl rfl ?_; apply Exists.intro; refine ⟨?_, ?_⟩; · (intro K hK; go_step; exact hK)) | (refine Mix.sf_skipA rfl rfl rfl rfl ?_; apply Exists.intro; refine ⟨?_, ?_⟩; · (intro K hK; go_step; exact hK)) | (refine Mix.sf_skipL rfl rfl rfl rfl ?_ hC; apply Exists.intro; refine ⟨?_, ?_⟩; · (intro K hK; go_step; exact hK); clear hC; intro wL hC))
        refine Mix.sf_nil ?_
        have hd2 : ((x : Int) != z) = false := by simp [hd]
        have Hres := hid (Hres.out.below hC Hres.out.lt)
        have Hp := hid (Hp.out.below hC Hp.out.lt)
        have Hown := hid (own_below Hown.out hC)
        have Hb := hid (Hb.out.trans (hC.mono Hb.out.size))
        have hsz4 : B5 + 1 ≤ w4.heap.size := Nat.le_trans hsz hC.size
        clear hC e0 hcs
        go_wp2
        go_roundw
        case rel => exact ⟨i + 1, j, ad, cap, ys, by omega, by omega, by go_num, Hres.out, Hp.out, Hown.out, Hnext.out, Hb.out, hsz4⟩
        case measure => simp [intOf]; omega
    · have hiq' : i = q := by omega
      subst hiq'
      have p0 : wr.cell? ⟨B5, 0, none⟩ = some (.int .i64 (W - 1)) := hp.cell 0
      have p1 : wr.cell? ⟨B5, 1, none⟩ = some (.int .i64 H) := hp.cell 1
      have p2 : wr.cell? ⟨B5, 2, none⟩ = some (.slice ad j cap) := hp.cell 2
      have r0 : wr.cell? ⟨w.heap.size, 0, none⟩ = some (.int .i64 0) := hres.cell 0
      have r1 : wr.cell? ⟨w.heap.size, 1, none⟩ = some (.int .i64 0) := hres.cell 1
      have r2 : wr.cell? ⟨w.heap.size, 2, none⟩ = some (.slice none 0 0) := hres.cell 2
      have f0 : wr.frozen? ⟨w.heap.size, 0, none⟩ = false := hres.frozen 0
      have f1 : wr.frozen? ⟨w.heap.size, 1, none⟩ = false := hres.frozen 1
      have f2 : wr.frozen? ⟨w.heap.size, 2, none⟩ = false := hres.frozen 2
      have hyl : ys.length = j := by have := hown.1; simpa using this
      have Hown := hid hown
      have Hys := hid hys
      have Hb := hid hb
      have Hyl := hid hyl
      clear hown hys hb hres hp hyl
      go_wp2
      refine bodyPost_ret (v := .agg #[.int .i64 (W - 1), .int .i64 H, .slice ad j cap]) (by simp [results, Try.results127, go_sem, p0, p1, p2, r0, r1, r2, f0, f1, f2]) rfl ⟨_, ys, rfl, ?_, Hys.out, ?_⟩
      · rw [Hyl.out]
        exact own_base (by omega) (ownsRow_setCell_below (ownsRow_setCell_below (ownsRow_setCell_below Hown.out (by simp; omega) _) (by simp; omega) _) (by simp; omega) _)
      · exact (((Hb.out).setCell (Nat.le_refl _) _).setCell (Nat.le_refl _) _).setCell (Nat.le_refl _) _

end Go.Proofs.Ytggbdmgonobefaa
