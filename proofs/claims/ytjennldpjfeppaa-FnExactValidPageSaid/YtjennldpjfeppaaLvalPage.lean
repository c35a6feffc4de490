/-
  For all arguments the program's ValidPage answers as the reference's, and leaves its argument alone.
  Conditions: the lights a row of cells that reads.
-/
import Derived.Test.YtjennldpjfeppaaL4
import Derived.Test.YtjennldpjfeppaaLfeather
namespace Go.Proofs.Ytjennldpjfeppaa
open Go.RowKit
set_option linter.unusedVariables false
set_option linter.unusedSimpArgs false

set_option maxHeartbeats 4000000 in
set_option maxRecDepth 100000 in
theorem lawValidPage_any (m : ByteArray) (W H : Int) (v : Value) (xs : List Nat) (w : World) (hx : Sl w v (xs.map fv)) (hlen : xs.length ≤ 140737488351232) (hm : m.size ≤ 140737488351232) :
    Calls Try.prog 5 #[.agg #[.string m, .int .i64 W, .int .i64 H, v]] w fun e w' => e = .returned (.bool true) ∧ Below w.heap.size w w' := by
  obtain ⟨ad, cap, hv⟩ := hx.form
  rw [List.length_map] at hv
  obtain ⟨nx, hnx⟩ : ∃ n, n = xs.length := ⟨_, rfl⟩
  rw [← hnx] at hv hlen
  subst hv
  have Hnx := hid hnx.symm
  clear hnx
  obtain ⟨w1, hw1⟩ : ∃ w1, w1 = w.alloc (.cells #[.string m, .int .i64 W, .int .i64 H, .slice ad nx cap] 39) := ⟨_, rfl⟩
  obtain ⟨b, hbe⟩ : ∃ b, b = w.heap.size := ⟨_, rfl⟩
  have bk : Blk w1 b [.string m, .int .i64 W, .int .i64 H, .slice ad nx cap] 39 := by rw [hw1, hbe]; exact Blk.new w _ _
  have hb1 : Below w.heap.size w w1 := by rw [hw1]; exact (Below.refl _ _).alloc (Nat.le_refl _) _
  replace hx := hx.mono hb1
  have r0 := bk.cell 0
  have r1 := bk.cell 1
  have r2 := bk.cell 2
  have r3 := bk.cell 3
  rw [hw1, hbe] at r0 r1 r2 r3
  go_enter Try.func5, Try.ntmps5
  go_wp2_with fail
  rw [← hw1, ← hbe]
  have Hbe := hid hbe
  clear r0 r1 r2 r3 hw1 hbe
  refine (szPage_any m W H ad nx cap 1048576 w1 (by omega) (by omega) hm hlen).mono ?_
  rintro e w2 ⟨rfl, hb2⟩
  (replace hx := hx.mono hb2; replace bk := bk.below hb2 bk.lt; replace hb1 := hb1.trans (hb2.mono hb1.size))
  clear hb2
  by_cases hbm : (1048576 : Int) < m.size
  · rw [if_pos hbm]
    go_wp2
    go_ret
    exact ⟨rfl, hb1⟩
  rw [if_neg hbm]
  by_cases hbx : (1048576 : Int) - m.size < nx
  · rw [szB, if_pos hbx]
    go_wp2
    go_ret
    exact ⟨rfl, hb1⟩
  rw [szB, if_neg hbx]
  have hlt : (0 : Int) ≤ 1048576 - m.size - nx := by omega
  have r0 := bk.cell 0
  have r1 := bk.cell 1
  have r2 := bk.cell 2
  have r3 := bk.cell 3
  go_wp2_with fail
  clear r0 r1 r2 r3
  have hlx : xs.length ≤ 1048576 := by rw [Hnx.out]; omega
  have hlx' : xs.length ≤ 140737488351232 := by omega
  have Hlx := hid hlx
  have Hlx' := hid hlx'
  clear hlx hlx'
  refine (toPage_any m W H _ xs rfl _ w2 hx Hlx.out).mono ?_
  rintro e w3 ⟨v1, rfl, hv1, hb⟩
  obtain ⟨a1, c1, rfl, -⟩ := own_form hv1
  have p1 := Sl.of_own hv1
  (replace hx := hx.mono hb; replace bk := bk.below hb bk.lt; replace hb1 := hb1.trans (hb.mono hb1.size))
  clear hb hv1
  go_wp2_with fail
  refine (specValidPage_any m W H _ xs w3 p1 hm Hlx'.out).mono ?_
  rintro e w5 ⟨rfl, hb⟩
  (replace hx := hx.mono hb; replace bk := bk.below hb bk.lt; replace hb1 := hb1.trans (hb.mono hb1.size))
  clear hb p1
  have r0 := bk.cell 0
  have r1 := bk.cell 1
  have r2 := bk.cell 2
  have r3 := bk.cell 3
  go_wp2_with fail
  clear r0 r1 r2 r3
  refine (toPage_any m W H _ xs rfl _ w5 hx Hlx.out).mono ?_
  rintro e w6 ⟨v2, rfl, hv2, hb⟩
  obtain ⟨a2, c2, rfl, -⟩ := own_form hv2
  have p2 := Sl.of_own hv2
  (replace hx := hx.mono hb; replace bk := bk.below hb bk.lt; replace hb1 := hb1.trans (hb.mono hb1.size))
  clear hb hv2
  have b7 := Blk.new w6 [.string m, .int .i64 W, .int .i64 H, .slice a2 xs.length c2] 43
  (replace hx := hx.alloc (.cells #[.string m, .int .i64 W, .int .i64 H, .slice a2 xs.length c2] 43); replace p2 := p2.alloc (.cells #[.string m, .int .i64 W, .int .i64 H, .slice a2 xs.length c2] 43); replace bk := bk.alloc (.cells #[.string m, .int .i64 W, .int .i64 H, .slice a2 xs.length c2] 43); replace hb1 := hb1.alloc hb1.size (.cells #[.string m, .int .i64 W, .int .i64 H, .slice a2 xs.length c2] 43))
  have r0 := b7.cell 0
  have r1 := b7.cell 1
  have r2 := b7.cell 2
  have r3 := b7.cell 3
  go_wp2_with fail
  clear r0 r1 r2 r3
  obtain ⟨B7, hB7⟩ : ∃ B7, B7 = w6.heap.size := ⟨_, rfl⟩
  rw [← hB7] at b7 ⊢
  clear hB7
  generalize w6.alloc (.cells #[.string m, .int .i64 W, .int .i64 H, .slice a2 xs.length c2] 43) = w7 at hx p2 bk b7 hb1 ⊢
  clear w6
  refine (implValidPage_any m W H _ xs w7 p2 hm Hlx'.out).mono ?_
  rintro e w9 ⟨rfl, hb⟩
  (replace hx := hx.mono hb; replace p2 := p2.mono hb; replace bk := bk.below hb bk.lt; replace b7 := b7.below hb b7.lt; replace hb1 := hb1.trans (hb.mono hb1.size))
  clear hb
  have r0 := bk.cell 0
  have r1 := bk.cell 1
  have r2 := bk.cell 2
  have r3 := bk.cell 3
  have t0 := b7.cell 0
  have t1 := b7.cell 1
  have t2 := b7.cell 2
  have t3 := b7.cell 3
  have hlt2 := bk.lt
  have hlt7 := b7.lt
  go_wp2
  refine Mix.wp_mix [.S, .S, .A, .A, .S] [0, 1, 2, 3, 4] (Below w9.heap.size w9) (by kernel_rfl) (by kernel_rfl) ((Below.refl _ _).drew) ?_
  have hC : Below w9.heap.size w9 w9.drew := (Below.refl _ _).drew
  generalize w9.drew = w10 at hC ⊢
  repeat (first | (refine Mix.sf_S rfl rfl rfl rfl rfl (Mix.valOp_spec rfl) hC ?_; apply Exists.intro; refine ⟨?_, ?_⟩; · (intro w' hC' K hK; have hk := (bcell hC').1; go_step; exact hK)) | (refine Mix.sf_skipS rfl rfl rfl rfl ?_; apply Exists.intro; refine ⟨?_, ?_⟩; · (intro K hK; go_step; exact hK)) | (refine Mix.sf_skipA rfl rfl rfl rfl ?_; apply Exists.intro; refine ⟨?_, ?_⟩; · (intro K hK; go_step; exact hK)) | (refine Mix.sf_skipL rfl rfl rfl rfl ?_ hC; apply Exists.intro; refine ⟨?_, ?_⟩; · (intro K hK; go_step; exact hK); clear hC; intro wL hC))
  refine Mix.sf_A rfl rfl rfl ?_; intro K hK; go_step
  refine (toPage_any m W H _ xs rfl _ w10 (hx.mono hC) Hlx.out).mono ?_
  rintro e w11 ⟨v3, rfl, hv3, hb⟩
  obtain ⟨a3, c3, rfl, -⟩ := own_form hv3
  have p3 := Sl.of_own hv3
  refine hK _ _ (hC.trans (hb.mono hC.size)) ?_
  replace hC := hC.trans (hb.mono hC.size)
  clear hK K hb hv3
  repeat (first | (refine Mix.sf_S rfl rfl rfl rfl rfl (Mix.valOp_spec rfl) hC ?_; apply Exists.intro; refine ⟨?_, ?_⟩; · (intro w' hC' K hK; have hk := (bcell hC').1; go_step; exact hK)) | (refine Mix.sf_skipS rfl rfl rfl rfl ?_; apply Exists.intro; refine ⟨?_, ?_⟩; · (intro K hK; go_step; exact hK)) | (refine Mix.sf_skipA rfl rfl rfl rfl ?_; apply Exists.intro; refine ⟨?_, ?_⟩; · (intro K hK; go_step; exact hK)) | (refine Mix.sf_skipL rfl rfl rfl rfl ?_ hC; apply Exists.intro; refine ⟨?_, ?_⟩; · (intro K hK; go_step; exact hK); clear hC; intro wL hC))
  refine Mix.sf_A rfl rfl rfl ?_; intro K hK; go_step
  refine (eqPage_yes m W H xs xs _ _ w11 (p2.mono hC) p3 Hlx'.out rfl).mono ?_
  rintro e w12 ⟨rfl, hb⟩
  refine hK _ _ (hC.trans (hb.mono hC.size)) ?_
  replace hC := hC.trans (hb.mono hC.size)
  clear hK K hb p3
  repeat (first | (refine Mix.sf_S rfl rfl rfl rfl rfl (Mix.valOp_spec rfl) hC ?_; apply Exists.intro; refine ⟨?_, ?_⟩; · (intro w' hC' K hK; have hk := (bcell hC').1; go_step; exact hK)) | (refine Mix.sf_skipS rfl rfl rfl rfl ?_; apply Exists.intro; refine ⟨?_, ?_⟩; · (intro K hK; go_step; exact hK)) | (refine Mix.sf_skipA rfl rfl rfl rfl ?_; apply Exists.intro; refine ⟨?_, ?_⟩; · (intro K hK; go_step; exact hK)) | (refine Mix.sf_skipL rfl rfl rfl rfl ?_ hC; apply Exists.intro; refine ⟨?_, ?_⟩; · (intro K hK; go_step; exact hK); clear hC; intro wL hC))
  refine Mix.sf_nil ?_
  clear r0 r1 r2 t0 t1 t2 hlt2 hlt7
  (replace hb1 := hb1.trans (hC.mono hb1.size))
  go_wp2
  go_ret
  exact ⟨rfl, hb1⟩

end Go.Proofs.Ytjennldpjfeppaa
