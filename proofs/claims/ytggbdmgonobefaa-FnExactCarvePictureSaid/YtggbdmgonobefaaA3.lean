import Derived.Test.YtggbdmgonobefaaMixA
import Derived.Test.YtggbdmgonobefaaL2
namespace Go.Proofs.Ytggbdmgonobefaa
open Go.RowKit
set_option linter.unusedVariables false
set_option linter.unusedSimpArgs false
attribute [local go_sem] Fl.run_fadd Fl.run_fsub Fl.run_fmul Fl.run_fquo Fl.run_wide Fl.run_store_float

/-- The lights that a function tells, row by row. -/
def cellsTo (W : Nat) (g : Nat → Nat → Nat) (n : Nat) : List Nat := (List.range n).map fun i => g (i % W) (i / W)
def grid (W H : Nat) (g : Nat → Nat → Nat) : List Nat := cellsTo W g (W * H)

theorem cellsTo_succ (W : Nat) (g : Nat → Nat → Nat) (y x : Nat) (hx : x < W) : cellsTo W g (y * W + x + 1) = cellsTo W g (y * W + x) ++ [g x y] := by
  have h1 : (y * W + x) % W = x := by rw [Nat.add_comm, Nat.add_mul_mod_self_right, Nat.mod_eq_of_lt hx]
  have h2 : (y * W + x) / W = y := by rw [Nat.add_comm, Nat.add_mul_div_right _ _ (by omega), Nat.div_eq_of_lt hx, Nat.zero_add]
  simp only [cellsTo, List.range_succ, List.map_append, List.map_cons, List.map_nil, h1, h2]

theorem nl_snoc {ys zs : List Nat} {r c : Nat} (h : nl ys = zs) (hr : Fl.nf .f32 r = c) : nl (ys ++ [r]) = zs ++ [c] := by
  simp [nl] at h ⊢
  exact ⟨h, hr⟩

theorem small_mul {W y x : Nat} (hW : W ≤ 16) (hy : y ≤ 16) (hx : x ≤ W) : y * W + x ≤ 272 := by
  have : y * W ≤ 16 * 16 := Nat.mul_le_mul hy hW
  omega

theorem own_drew {w : World} {b : Nat} {e : TypeId} {sz : Nat} {v : Value} {n : Nat} {cs : List Value} (h : w.ownsRow b e sz v n cs) : w.drew.ownsRow b e sz v n cs := h

theorem own_below {w w' : World} {base : Nat} {e : TypeId} {v : Value} {n : Nat} {cs : List Value} (h : w.ownsRow base e 1 v n cs) (hb : Below w.heap.size w w') : w'.ownsRow base e 1 v n cs :=
  h.kept (row := none) ⟨hb.os, hb.tape, hb.output, hb.size, fun k hk _ => hb.block k hk⟩ (by cases v.ownBlock <;> simp)

theorem cell_grown {w w' : World} {base : Nat} {e : TypeId} {v : Value} {n : Nat} {cs : List Value} {b o : Nat} {c : Value} (hg : w.grownBy w' v.ownBlock) (ho : w.ownsRow base e 1 v n cs) (hc : w.cell? ⟨b, o, none⟩ = some c) (hb : b < base) :
    w'.cell? ⟨b, o, none⟩ = some c := hg.cell hc (own_block_ge ho hb)

set_option maxHeartbeats 4000000 in
theorem drawn_any (W H : Nat) (hW : W ≤ 16) (hH : H ≤ 16) (f : Nat) (cp : Array Value) (g : Nat → Nat → Nat) (w : World)
    (hent : ∀ args w, (callFunc f args).run Try.prog w = .ok (.enter f args) w)
    (hf : ∀ (x y : Nat) (w1 : World), x < W → y < H → Below w.heap.size w w1 → Calls Try.prog f (#[.int .i64 x, .int .i64 y] ++ cp) w1 fun e w' => ∃ r, e = .returned (fv r) ∧ Fl.nf .f32 r = g x y ∧ Below w1.heap.size w1 w') :
    Calls Try.prog 124 #[.int .i64 W, .int .i64 H, .func (.func f) #[] cp] w fun e w' =>
      ∃ v ys, e = .returned (.agg #[.int .i64 W, .int .i64 H, v]) ∧ w'.ownsRow w.heap.size 52 1 v ys.length (ys.map fv) ∧ nl ys = grid W H g ∧ Below w.heap.size w w' := by
  obtain ⟨i0, hi, hz0, hz1, hz2⟩ := info_parts Try.infoF
  have Hf := hid hf
  clear hf
  go_enter Try.func124, Try.ntmps124
  go_wp2
  go_loopw [14] (fun q wr => ∃ (y : Nat) (ad : Option Addr) (cap : Nat) (ys : List Nat), y ≤ H ∧ q = .int .i64 y ∧ Blk wr w.heap.size [.int .i64 0, .int .i64 0, .slice none 0 0] 32 ∧
      Blk wr (w.heap.size + 1) [.int .i64 W, .int .i64 H, .slice ad (y * W) cap] 32 ∧ wr.ownsRow (w.heap.size + 2) 52 1 (.slice ad (y * W) cap) (y * W) (ys.map fv) ∧
      nl ys = cellsTo W g (y * W) ∧ Below w.heap.size w wr) (fun q _ => H - (intOf q).toNat)
  case atStart =>
    refine ⟨0, none, 0, [], Nat.zero_le _, rfl, (Blk.new _ _ _).alloc _, ?_, ?_, ?_, ((Below.refl _ _).alloc (Nat.le_refl _) _).alloc (by simp) _⟩
    · rw [Nat.zero_mul]
      have := Blk.new (w.alloc (.cells #[.int .i64 0, .int .i64 0, .slice none 0 0] 32)) [.int .i64 W, .int .i64 H, .slice none 0 0] 32
      simpa using this
    · rw [Nat.zero_mul]; exact World.ownsRow_nil _ _ _ _
    · rw [Nat.zero_mul]; rfl
  case round =>
    obtain ⟨y, ad, cap, ys, hy, rfl, hres, hp, hown, hys, hb⟩ := hrel
    by_cases hlt : y < H
    · obtain ⟨wo, hwo⟩ : ∃ wo : World, wo = wr := ⟨_, rfl⟩
      rw [← hwo] at hres hp hown hb ⊢
      clear hwo
      have Hy := hid hys
      clear hys
      go_wp2
      go_loopw [18] (fun q wr => ∃ (x : Nat) (ad : Option Addr) (cap : Nat) (ys : List Nat), x ≤ W ∧ q = .int .i64 x ∧ Blk wr w.heap.size [.int .i64 0, .int .i64 0, .slice none 0 0] 32 ∧
          Blk wr (w.heap.size + 1) [.int .i64 W, .int .i64 H, .slice ad (y * W + x) cap] 32 ∧ wr.ownsRow (w.heap.size + 2) 52 1 (.slice ad (y * W + x) cap) (y * W + x) (ys.map fv) ∧
          nl ys = cellsTo W g (y * W + x) ∧ Below w.heap.size w wr) (fun q _ => W - (intOf q).toNat)
      case atStart => exact ⟨0, ad, cap, ys, Nat.zero_le _, rfl, hres, hp, hown, Hy.out, hb⟩
      case round =>
        clear hres hp hown hb Hy ys
        obtain ⟨x, ad, cap, ys, hx, rfl, hres, hp, hown, hys, hb⟩ := hrel
        have hsm := small_mul hW (show y ≤ 16 by omega) hx
        by_cases hlx : x < W
        · have hc2 : wr.cell? ⟨w.heap.size + 1, 2, none⟩ = some (.slice ad (y * W + x) cap) := hp.cell 2
          have Hres := hid hres
          have Hp := hid hp
          have Hown := hid hown
          have Hys := hid hys
          have Hb := hid hb
          have hcall := Hf.out x y
          clear hres hp hown hys hb
          go_wp2
          refine Mix.wp_mix [.S, .S, .S, .S, .S, .A, .A, .A, .S, .T] [0, 1, 2, 3, 4, 5, 6, 7, 8, 9] (CellC (w.heap.size + 1) 2 (.slice ad (y * W + x) cap) w.heap.size w) (by kernel_rfl) (by kernel_rfl) ⟨hc2, Hb.out.drew⟩ ?_
          have hC : CellC (w.heap.size + 1) 2 (.slice ad (y * W + x) cap) w.heap.size w wr.drew := ⟨hc2, Hb.out.drew⟩
          have Hres := hid (Hres.out.drew)
          have Hp := hid (Hp.out.drew)
          have Hown := hid (own_drew Hown.out)
          clear Hb hc2
          generalize wr.drew = w2 at hC Hres Hp Hown ⊢
          repeat (first | (refine Mix.sf_S rfl rfl rfl rfl rfl (Mix.valOp_spec rfl) hC ?_; apply Exists.intro; refine ⟨?_, ?_⟩; · (intro w' hC' K hK; have hk := hC'.cell; go_step; exact hK)) | (refine Mix.sf_skipS rfl rfl rfl rfl ?_; apply Exists.intro; refine ⟨?_, ?_⟩; · (intro K hK; go_step; exact hK)) | (refine Mix.sf_skipA rfl rfl rfl rfl ?_; apply Exists.intro; refine ⟨?_, ?_⟩; · (intro K hK; go_step; exact hK)) | (refine Mix.sf_skipL rfl rfl rfl rfl ?_ hC; apply Exists.intro; refine ⟨?_, ?_⟩; · (intro K hK; go_step; exact hK); clear hC; intro wL hC))
          refine Mix.sf_A rfl rfl rfl ?_; intro K hK; go_step
          refine (hcall w2 hlx hlt hC.below).mono ?_
          rintro e w3 ⟨r, rfl, hr, hb3⟩
          have hblt : w.heap.size + 1 < w2.heap.size := Hp.out.lt
          have hC3 : CellC (w.heap.size + 1) 2 (.slice ad (y * W + x) cap) w.heap.size w w3 := ⟨((bcell hb3).1 _ _ hblt).trans hC.cell, hC.below.trans (hb3.mono hC.below.size)⟩
          refine hK _ _ hC3 ?_
          have hblt3 : w.heap.size + 1 < w3.heap.size := Nat.lt_of_lt_of_le hblt hb3.size
          have Hown3 := hid (own_below Hown.out hb3)
          have Hp3 := hid (Hp.out.below hb3 hblt)
          have Hres3 := hid (Hres.out.below hb3 (by omega))
          clear hK K hC Hown Hp Hres hb3 hcall
          refine Mix.sf_A rfl rfl rfl ?_; intro K hK; go_step
          have hC4 : CellC (w.heap.size + 1) 2 (.slice ad (y * W + x) cap) w.heap.size w (w3.alloc (.cells #[fv r] 52)) := ⟨(World.cell?_alloc_past _ _ _ hblt3).trans hC3.cell, hC3.below.alloc (by omega) _⟩
          refine hK _ _ hC4 ?_
          have hcn : (w3.alloc (.cells #[fv r] 52)).cell? ⟨w3.heap.size, 0, none⟩ = some (fv r) := by simp [go_sem]
          have Hown4 := hid (Hown3.out.alloc (.cells #[fv r] 52))
          have Hp4 := hid (Hp3.out.alloc (.cells #[fv r] 52))
          have Hres4 := hid (Hres3.out.alloc (.cells #[fv r] 52))
          have hsz4 : w.heap.size + 2 ≤ (w3.alloc (.cells #[fv r] 52)).heap.size := by simp; omega
          have Hr := hid hr
          clear hK K hC3 Hown3 Hp3 Hres3 hr
          obtain ⟨b3, hb3⟩ : ∃ b3, b3 = w3.heap.size := ⟨_, rfl⟩
          rw [← hb3] at hcn ⊢
          clear hb3 hblt hblt3
          generalize w3.alloc (.cells #[fv r] 52) = w4 at hC4 hcn Hown4 Hp4 Hres4 hsz4 ⊢
          refine Mix.sf_Aapp1 rfl rfl rfl rfl rfl (w.heap.size + 2) 52 i0 (.float .f32 0) 4 Try.underlying22 hi hz0 hz1 hz2 rfl (.slice ad (y * W + x) cap) (y * W + x) (ys.map fv) rfl Hown4.out b3 (fv r) rfl hcn rfl (by unfold maxLen; omega) (by omega) hsz4 (fun w' hg => ⟨(cell_grown hg Hown4.out hC4.cell (by omega)), below_grown hC4.below hg Hown4.out (by omega) (by omega)⟩) ?_
          intro ad' cap' w5 hC5 hown5 hg5
          apply Exists.intro
          refine ⟨?_, ?_⟩
          · (intro K hK; go_step; exact hK)
          have Hp5 := hid (Hp4.out.grown hg5 (own_block_ge Hown4.out (by omega)))
          have Hres5 := hid (Hres4.out.grown hg5 (own_block_ge Hown4.out (by omega)))
          have Hown5 := hid hown5
          have hC := hC5
          clear hown5 hg5 Hown4 Hp4 Hres4 hC4 hcn hC5
          repeat (first | (refine Mix.sf_S rfl rfl rfl rfl rfl (Mix.valOp_spec rfl) hC ?_; apply Exists.intro; refine ⟨?_, ?_⟩; · (intro w' hC' K hK; have hk := hC'.cell; go_step; exact hK)) | (refine Mix.sf_skipS rfl rfl rfl rfl ?_; apply Exists.intro; refine ⟨?_, ?_⟩; · (intro K hK; go_step; exact hK)) | (refine Mix.sf_skipA rfl rfl rfl rfl ?_; apply Exists.intro; refine ⟨?_, ?_⟩; · (intro K hK; go_step; exact hK)) | (refine Mix.sf_skipL rfl rfl rfl rfl ?_ hC; apply Exists.intro; refine ⟨?_, ?_⟩; · (intro K hK; go_step; exact hK); clear hC; intro wL hC))
          have hc5 : w5.cell? ⟨w.heap.size + 1, 2, none⟩ = some (.slice ad (y * W + x) cap) := hC.cell
          have hf5 : w5.frozen? ⟨w.heap.size + 1, 2, none⟩ = false := Hp5.out.frozen 2
          refine Mix.sf_T rfl rfl rfl ?_; intro K hK; go_step
          refine hK _ _ ?_
          clear hK K hc5 hf5
          refine Mix.sf_nil ?_
          go_wp2
          go_roundw
          case rel =>
            refine ⟨x + 1, ad', cap', ys ++ [r], by omega, by go_num, Hres5.out.other _ _ (by simp), ?_, ?_, ?_, hC.below.setCell (by simp) _⟩
            · exact Hp5.out.set 2 _
            · rw [List.map_append]; exact ownsRow_setCell_below Hown5.out (by simp) _
            · exact (nl_snoc Hys.out Hr.out).trans (cellsTo_succ W g y x hlx).symm
          case measure => simp [intOf]; omega
        · have hxW : x = W := by omega
          subst hxW
          have hyl : y * x + x = (y + 1) * x := by rw [Nat.succ_mul]
          go_wp2
          go_roundw
          case rel => exact ⟨y + 1, ad, cap, ys, by omega, by go_num, hres, by rw [← hyl]; exact hp, by rw [← hyl]; exact hown, by rw [← hyl]; exact hys, hb⟩
          case measure => simp [intOf]; omega
    · have hyH : y = H := by omega
      subst hyH
      have p0 : wr.cell? ⟨w.heap.size + 1, 0, none⟩ = some (.int .i64 W) := hp.cell 0
      have p1 : wr.cell? ⟨w.heap.size + 1, 1, none⟩ = some (.int .i64 y) := hp.cell 1
      have p2 : wr.cell? ⟨w.heap.size + 1, 2, none⟩ = some (.slice ad (y * W) cap) := hp.cell 2
      have r0 : wr.cell? ⟨w.heap.size, 0, none⟩ = some (.int .i64 0) := hres.cell 0
      have r1 : wr.cell? ⟨w.heap.size, 1, none⟩ = some (.int .i64 0) := hres.cell 1
      have r2 : wr.cell? ⟨w.heap.size, 2, none⟩ = some (.slice none 0 0) := hres.cell 2
      have f0 : wr.frozen? ⟨w.heap.size, 0, none⟩ = false := hres.frozen 0
      have f1 : wr.frozen? ⟨w.heap.size, 1, none⟩ = false := hres.frozen 1
      have f2 : wr.frozen? ⟨w.heap.size, 2, none⟩ = false := hres.frozen 2
      have hyl : ys.length = y * W := by have := congrArg List.length hys; simpa [nl, cellsTo] using this
      have Hown := hid hown
      have Hys := hid hys
      have Hb := hid hb
      have Hyl := hid hyl
      clear hown hys hb hres hp hyl
      go_wp2
      refine bodyPost_ret (v := .agg #[.int .i64 W, .int .i64 y, .slice ad (y * W) cap]) (by simp [results, Try.results124, go_sem, p0, p1, p2, r0, r1, r2, f0, f1, f2]) rfl ⟨_, ys, rfl, ?_, ?_, ?_⟩
      · rw [Hyl.out]
        exact own_base (by omega) (ownsRow_setCell_below (ownsRow_setCell_below (ownsRow_setCell_below Hown.out (by simp) _) (by simp) _) (by simp) _)
      · rw [Hys.out, grid, Nat.mul_comm]
      · exact (((Hb.out).setCell (Nat.le_refl _) _).setCell (Nat.le_refl _) _).setCell (Nat.le_refl _) _

end Go.Proofs.Ytggbdmgonobefaa
