/-
  CutSeam by the program.
  Conditions: the lights and the seam are rows of cells that read.
-/
import Derived.Test.YtggbdmgonobefaaA11
import Derived.Test.YtggbdmgonobefaaLInv
namespace Go.Proofs.Ytggbdmgonobefaa
open Go.RowKit
set_option linter.unusedVariables false
set_option linter.unusedSimpArgs false

def cutV (W : Nat) (xs : List Nat) (s : List Int) (x y : Nat) : Nat := Fl.nf .f32 (xs.getD (y * W + if s.getD y 0 ≤ x then x + 1 else x) 0)
def cutR (W H : Int) (xs : List Nat) (s : List Int) : Option Pic :=
  if seamB W H xs s && decide (2 ≤ W) then some ⟨W - 1, H, grid (W.toNat - 1) H.toNat (cutV W.toNat xs s)⟩ else none

theorem seam_nat {W H : Int} {xs : List Nat} {s : List Int} (h : seamB W H xs s = true) :
    ∃ m n : Nat, W = m ∧ H = n ∧ 1 ≤ m ∧ m ≤ 16 ∧ 1 ≤ n ∧ n ≤ 16 ∧ xs.length = m * n ∧ s.length = n ∧ ∀ k, k < n → 0 ≤ s.getD k 0 ∧ s.getD k 0 < m := by
  simp only [seamB, Bool.and_eq_true, validB, inB_spec, beq_iff_eq] at h
  obtain ⟨⟨⟨⟨⟨a1, a2⟩, a3⟩, -⟩, b⟩, c⟩ := h
  obtain ⟨m, rfl⟩ := Int.eq_ofNat_of_zero_le (show 0 ≤ W by omega)
  obtain ⟨n, rfl⟩ := Int.eq_ofNat_of_zero_le (show 0 ≤ H by omega)
  have hs : s.length = n := by omega
  refine ⟨m, n, rfl, rfl, by omega, by omega, by omega, by omega, by exact_mod_cast a3, hs, fun k hk => ?_⟩
  simp only [seamOk, List.all_eq_true, List.mem_range] at c
  have := c k (by omega)
  simp only [seamAt, Bool.and_eq_true, inB_spec] at this
  omega

set_option maxHeartbeats 1000000 in
theorem cutSeam1_any (W H : Nat) (v : Value) (xs : List Nat) (s : List Int) (sv : Value) (b1 b2 x y : Nat) (w : World) (hp : PicAt w b1 0 W H v xs) (hc : w.cell? ⟨b2, 0, none⟩ = some sv) (hs : Sl w sv (s.map iv))
    (hl : xs.length = W * H) (hsl : s.length = H) (hW : W ≤ 16) (hH : H ≤ 16) (hin : ∀ k, k < H → 0 ≤ s.getD k 0 ∧ s.getD k 0 < W) (hx : x < W - 1) (hy : y < H) :
    Calls Try.prog 173 #[.int .i64 x, .int .i64 y, .pointer (some ⟨b2, 0, none⟩), .pointer (some ⟨b1, 0, none⟩)] w fun e w' => ∃ r, e = .returned (fv r) ∧ Fl.nf .f32 r = cutV W xs s x y ∧ Below w.heap.size w w' := by
  obtain ⟨ad, cap, hv⟩ := hs.form
  rw [List.length_map, hsl] at hv
  subst hv
  have c0 := hp.c0
  have c1 := hp.c1
  have c2 := hp.c2
  rw [Nat.zero_add] at c1 c2
  obtain ⟨ba, off, rfl, hcell, hbs⟩ := hs.int hsl y hy
  obtain ⟨z, hz⟩ : ∃ z, z = s.getD y 0 := ⟨_, rfl⟩
  rw [← hz] at hcell
  have hcut : cutV W xs s x y = Fl.nf .f32 (xs.getD (y * W + if z ≤ x then x + 1 else x) 0) := by rw [cutV, hz]
  have hin' := hin y hy
  rw [← hz] at hin'
  by_cases h : z ≤ x
  · have hcall := at_any W H v xs (x + 1) y w hp.sl (by rw [hl]; exact at_lt (by omega) hy) hW (by omega) (by omega)
    rw [if_pos h] at hcut
    obtain ⟨A, hA⟩ : ∃ A, A = xs.getD (y * W + (x + 1)) 0 := ⟨_, rfl⟩
    rw [← hA] at hcall hcut
    have Hcut := hid hcut
    clear hp hs hl hsl hin hz hcut hA
    rw [show ((x + 1 : Nat) : Int) = (x : Int) + 1 by simp] at hcall
    go_enter Try.func173, Try.ntmps173
    go_wp2_with fail
    refine hcall.mono ?_
    rintro e w1 ⟨rfl, hb⟩
    go_wp2
    go_ret
    exact ⟨_, rfl, Hcut.out.symm, hb⟩
  · have hcall := at_any W H v xs x y w hp.sl (by rw [hl]; exact at_lt (by omega) hy) hW (by omega) (by omega)
    rw [if_neg h] at hcut
    obtain ⟨A, hA⟩ : ∃ A, A = xs.getD (y * W + x) 0 := ⟨_, rfl⟩
    rw [← hA] at hcall hcut
    have Hcut := hid hcut
    clear hp hs hl hsl hin hz hcut hA
    have h' : (x : Int) < z := by omega
    go_enter Try.func173, Try.ntmps173
    go_wp2_with fail
    refine hcall.mono ?_
    rintro e w1 ⟨rfl, hb⟩
    go_wp2
    go_ret
    exact ⟨_, rfl, Hcut.out.symm, hb⟩

theorem entCut (args : Array Value) (w : World) : (callFunc 173 args).run Try.prog w = .ok (.enter 173 args) w := by kernel_rfl

set_option maxHeartbeats 2000000 in
set_option maxRecDepth 100000 in
theorem cutSeam_any (W H : Nat) (v : Value) (xs : List Nat) (s : List Int) (sv : Value) (w : World) (hx : Sl w v (xs.map fv)) (hs : Sl w sv (s.map iv))
    (hl : xs.length = W * H) (hsl : s.length = H) (hW : W ≤ 16) (hH : H ≤ 16) (hW1 : 1 ≤ W) (hin : ∀ k, k < H → 0 ≤ s.getD k 0 ∧ s.getD k 0 < W) :
    Calls Try.prog 128 #[.agg #[.int .i64 W, .int .i64 H, v], sv] w fun e w' =>
      ∃ v ys, e = .returned (.agg #[.int .i64 (W - 1 : Nat), .int .i64 H, v]) ∧ w'.ownsRow w.heap.size 52 1 v ys.length (ys.map fv) ∧ nl ys = grid (W - 1) H (cutV W xs s) ∧ Below w.heap.size w w' := by
  have hmf : ∀ (fn : Fn) (first cap : Array Value) (w : World), (Instr.makeFunc fn first cap).run Try.prog w = .ok (.func fn first cap) w := fun _ _ _ _ => rfl
  obtain ⟨ads, caps, hsv⟩ := hs.form
  subst hsv
  obtain ⟨ns, hns⟩ : ∃ n, n = (s.map iv).length := ⟨_, rfl⟩
  rw [← hns] at hs ⊢
  clear hns
  have hI := ((Inv.start w).alloc [.int .i64 W, .int .i64 H, v] 32).alloc [.slice ads ns caps] 51
  replace hI := hI.alloc [.int .i64 0, .int .i64 0, .slice none 0 0] 32
  simp only [size_alloc1] at hI
  obtain ⟨w1, hw1⟩ : ∃ w1, w1 = ((w.alloc (.cells #[.int .i64 W, .int .i64 H, v] 32)).alloc (.cells #[.slice ads ns caps] 51)).alloc (.cells #[.int .i64 0, .int .i64 0, .slice none 0 0] 32) := ⟨_, rfl⟩
  rw [show ((w.alloc (.cells [Value.int .i64 W, .int .i64 H, v].toArray 32)).alloc (.cells [Value.slice ads ns caps].toArray 51)).alloc (.cells [Value.int .i64 0, .int .i64 0, .slice none 0 0].toArray 32) = w1 from hw1.symm] at hI
  have hx1 := hI.arg hx
  have hs1 := hI.arg hs
  have k1 := hI.blk 2 rfl
  have k2 := hI.blk 1 rfl
  have k3 := hI.blk 0 rfl
  have hcall := drawn_any (W - 1) H (by omega) hH 173 #[.pointer (some ⟨w.heap.size + 1, 0, none⟩), .pointer (some ⟨w.heap.size, 0, none⟩)] (cutV W xs s) w1 entCut
    (fun x y w2 hx' hy' hb2 => cutSeam1_any W H v xs s _ w.heap.size (w.heap.size + 1) x y w2
      ⟨(k1.below hb2 k1.lt).cell 0, (k1.below hb2 k1.lt).cell 1, (k1.below hb2 k1.lt).cell 2, hx1.mono hb2⟩ ((k2.below hb2 k2.lt).cell 0) (hs1.mono hb2) hl hsl hW hH hin hx' hy')
  have hW2 : ((W - 1 : Nat) : Int) = (W : Int) - 1 := by omega
  rw [hW2] at hcall ⊢
  have Hk4 := hid k3
  have Hb1 := hid hI.below
  have Hsz := hid k3.lt
  clear k1 k2 k3 hx hs hx1 hs1 hl hsl hI hW2
  go_enter Try.func128, Try.ntmps128
  go_wp2_with fail
  rw [← hw1]
  clear hw1
  refine hcall.mono ?_
  rintro e w2 ⟨v, ys, rfl, hown, hys, hb2⟩
  obtain ⟨ad', cap', rfl, -⟩ := own_form hown
  have hres2 := Hk4.out.below hb2 Hsz.out
  have r0 : w2.cell? ⟨w.heap.size + 1 + 1, 0, none⟩ = some (.int .i64 0) := hres2.cell 0
  have r1 : w2.cell? ⟨w.heap.size + 1 + 1, 1, none⟩ = some (.int .i64 0) := hres2.cell 1
  have r2 : w2.cell? ⟨w.heap.size + 1 + 1, 2, none⟩ = some (.slice none 0 0) := hres2.cell 2
  have f0 : w2.frozen? ⟨w.heap.size + 1 + 1, 0, none⟩ = false := hres2.frozen 0
  have f1 : w2.frozen? ⟨w.heap.size + 1 + 1, 1, none⟩ = false := hres2.frozen 1
  have f2 : w2.frozen? ⟨w.heap.size + 1 + 1, 2, none⟩ = false := hres2.frozen 2
  have hsz := Hsz.out
  have Hown := hid hown
  have Hys := hid hys
  have Hb := hid (Hb1.out.trans (hb2.mono Hb1.out.size))
  clear hown hys hb2 hres2
  go_wp2
  refine bodyPost_ret (v := .agg #[.int .i64 (W - 1), .int .i64 H, .slice ad' ys.length cap']) (by simp [results, Try.results128, go_sem, r0, r1, r2, f0, f1, f2]) rfl ⟨_, ys, rfl, ?_, Hys.out, ?_⟩
  · exact own_base (by omega) (ownsRow_setCell_below (ownsRow_setCell_below (ownsRow_setCell_below Hown.out (by simp; omega) _) (by simp; omega) _) (by simp; omega) _)
  · exact (((Hb.out).setCell (by simp; omega) _).setCell (by simp; omega) _).setCell (by simp; omega) _

end Go.Proofs.Ytggbdmgonobefaa
