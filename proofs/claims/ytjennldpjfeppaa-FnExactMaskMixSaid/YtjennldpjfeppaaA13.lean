/-
  The error of an overlap: the program's and the reference's.
  Conditions: the lights are rows of cells that read.
-/
import Derived.Test.YtjennldpjfeppaaA12
namespace Go.Proofs.Ytjennldpjfeppaa
open Go.RowKit
set_option linter.unusedVariables false
set_option linter.unusedSimpArgs false
attribute [local go_sem] Fl.run_fadd Fl.run_fsub Fl.run_fmul Fl.run_fquo Fl.run_wide Fl.run_store_float

def errV (W1 H : Nat) (x1 : List Nat) (W2 : Nat) (x2 : List Nat) (ov : Nat) : Nat := Fl.fop .quo .f32 (sumG 0 (grid ov H (apartV W1 x1 W2 x2 ov))) (floatOfInt .f32 (ov * H : Nat))

theorem grid_len (W H : Nat) (g : Nat → Nat → Nat) : (grid W H g).length = W * H := by simp [grid, cellsTo]

set_option maxHeartbeats 4000000 in
set_option maxRecDepth 100000 in
theorem l07Error_any (W1 W2 H ov : Nat) (v1 v2 : Value) (x1 x2 : List Nat) (b1 o1 b2 o2 : Nat) (w : World) (hp1 : PicAt w b1 o1 W1 H v1 x1) (hp2 : PicAt w b2 o2 W2 H v2 x2)
    (hl1 : x1.length = W1 * H) (hl2 : x2.length = W2 * H) (hW1 : W1 ≤ 16) (hW2 : W2 ≤ 16) (hH : H ≤ 16) (ho0 : 1 ≤ ov) (ho1 : ov ≤ W1) (ho2 : ov ≤ W2) :
    Calls Try.prog 75 #[.pointer (some ⟨b1, o1, none⟩), .pointer (some ⟨b2, o2, none⟩), .int .i64 ov] w fun e w' =>
      ∃ r, e = .returned (fv r) ∧ Fl.nf .f32 r = errV W1 H x1 W2 x2 ov ∧ Below w.heap.size w w' := by
  have hcall := l07Differences_any W1 W2 H ov v1 v2 x1 x2 b1 o1 b2 o2 w hp1 hp2 hl1 hl2 hW1 hW2 hH ho0 ho1 ho2
  obtain ⟨G, hG⟩ : ∃ G, G = grid ov H (apartV W1 x1 W2 x2 ov) := ⟨_, rfl⟩
  have hGl : G.length = ov * H := by rw [hG, grid_len]
  have hmn : ov * H ≤ 256 := by have : ov * H ≤ 16 * 16 := Nat.mul_le_mul (by omega) (by omega); omega
  have he : errV W1 H x1 W2 x2 ov = Fl.fop .quo .f32 (sumG 0 G) (floatOfInt .f32 (G.length : Nat)) := by rw [errV, ← hG, hGl]
  rw [← hG] at hcall
  have He := hid he
  have hGl' : G.length ≤ 256 := by omega
  have HG := hid hGl'
  clear hp1 hp2 hl1 hl2 hG hGl hmn he hGl'
  go_enter Try.func75, Try.ntmps75
  go_wp2_with fail
  refine hcall.mono ?_
  rintro e w1 ⟨v, ys, rfl, hown, hys, hb1⟩
  obtain ⟨ad, cap, rfl, -⟩ := own_form hown
  have hyl : ys.length = G.length := by rw [← hys, nl, List.length_map]
  have bk := Blk.new w1 [.int .i64 ov, .int .i64 H, .slice ad ys.length cap] 24
  have hsl := (Sl.of_own hown).alloc (.cells #[.int .i64 ov, .int .i64 H, .slice ad ys.length cap] 24)
  replace hb1 := hb1.alloc hb1.size (.cells #[.int .i64 ov, .int .i64 H, .slice ad ys.length cap] 24)
  obtain ⟨B, hB⟩ : ∃ B, B = w1.heap.size := ⟨_, rfl⟩
  obtain ⟨n, hn⟩ : ∃ n, n = ys.length := ⟨_, rfl⟩
  rw [← hn] at bk hsl hb1 hyl
  have hn256 : n ≤ 256 := by rw [hyl]; exact HG.out
  have Hn := hid hn
  have Hyl := hid hyl
  have hsum : sumG 0 ys = sumG 0 G := by rw [← hys, sumG_nl]
  have Hsum := hid hsum
  rw [← hB] at bk
  have r2 := bk.cell 2
  rw [hB] at r2
  rw [← hn]
  clear hn hyl hys hown hsum
  go_wp2
  rw [← hB]
  clear r2 hB
  generalize w1.alloc (.cells #[.int .i64 ov, .int .i64 H, .slice ad n cap] 24) = w2 at bk hsl hb1 ⊢
  clear w1
  go_loopw [8, 9, 17] (fun o _ i wr => ∃ (k r : Nat), k ≤ n ∧ i = .int .i64 k ∧ o = fv r ∧ sumG 0 ys = sumG (Fl.nf .f32 r) (ys.drop k) ∧ Below w2.heap.size w2 wr) (fun _ _ i _ => n - (intOf i).toNat)
  case atStart => exact ⟨0, 0, Nat.zero_le _, rfl, rfl, by rw [nf_zero]; rfl, Below.refl _ _⟩
  case round =>
    obtain ⟨k, r, hk, rfl, rfl, hidx, hb⟩ := hrel
    have Hidx := hid hidx
    clear hidx
    have r2 := (bk.below hb bk.lt).cell 2
    by_cases hlt : k < n
    · obtain ⟨b, off, c, rfl, hci, hcell, hbs⟩ := (hsl.mono hb).at k hlt
      have hkx : k < ys.length := by rw [← Hn.out]; exact hlt
      have hdrop : ys.drop k = ys[k] :: ys.drop (k + 1) := List.drop_eq_getElem_cons hkx
      have hc : c = fv ys[k] := by
        rw [List.getElem?_map, List.getElem?_eq_getElem hkx] at hci
        exact (Option.some.inj hci).symm
      rw [hc] at hcell
      obtain ⟨x, hxk⟩ : ∃ x, x = ys[k] := ⟨_, rfl⟩
      rw [← hxk] at hdrop hcell
      have hstep : ∀ q, Fl.nf .f32 q = Fl.fop .add .f32 r x → sumG 0 ys = sumG (Fl.nf .f32 q) (ys.drop (k + 1)) := by
        intro q hq
        rw [Hidx.out, hdrop, hq, ← fop_nf_l]
        rfl
      have Hstep := hid hstep
      clear hdrop hc hci hxk hstep
      go_wp2
      go_roundw
      case rel => exact ⟨k + 1, _, by omega, by go_num, rfl, Hstep.out _ (Fl.nf_fres _ _ _ _ _), Below.drewN' _ hb⟩
      case measure => simp [intOf]; omega
    · have hke : k = n := by omega
      have hz : Fl.nf .f32 r = sumG 0 G := by rw [← Hsum.out, Hidx.out, hke, Hn.out, List.drop_length]; rfl
      have Hz := hid hz
      clear hz hke
      go_wp2
      go_ret
      exact ⟨_, rfl, by rw [Fl.nf_fres, He.out, ← fop_nf_l, Hz.out, ← Hyl.out], Below.drewN' _ (hb1.trans (hb.mono hb1.size))⟩

end Go.Proofs.Ytjennldpjfeppaa
