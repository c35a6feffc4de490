/-
  The light at a place that is held back to the picture, and a picture of its own, by the reference.
  Conditions: the lights are a row of cells that reads.
-/
import Derived.Test.YtggbdmgonobefaaA26
import Derived.Test.YtggbdmgonobefaaAppN
namespace Go.Proofs.Ytggbdmgonobefaa
open Go.RowKit
set_option linter.unusedVariables false
set_option linter.unusedSimpArgs false
attribute [local go_sem] Fl.run_fadd Fl.run_fsub Fl.run_fmul Fl.run_fquo Fl.run_wide Fl.run_store_float

set_option maxHeartbeats 2000000 in
set_option maxRecDepth 100000 in
theorem l02At_any (W H : Nat) (v : Value) (xs : List Nat) (b1 o1 : Nat) (x y : Int) (q p : Nat) (w : World) (hp : PicAt w b1 o1 W H v xs) (hl : xs.length = W * H) (hW : W ≤ 16) (hH : H ≤ 16)
    (hq : max 0 (min ((W : Int) - 1) x) = q) (hpq : max 0 (min ((H : Int) - 1) y) = p) (hq' : q < W) (hp' : p < H) :
    Calls Try.prog 161 #[.pointer (some ⟨b1, o1, none⟩), .int .i64 x, .int .i64 y] w fun e w' => e = .returned (fv (xs.getD (p * W + q) 0)) ∧ Below w.heap.size w w' := by
  obtain ⟨ad, cap, hv⟩ := hp.sl.form
  rw [List.length_map] at hv
  obtain ⟨n, hn⟩ : ∃ n, n = xs.length := ⟨_, rfl⟩
  have c0 := hp.c0
  have c1 := hp.c1
  have c2 := hp.c2
  rw [← hn] at hv
  subst hv
  have hB := hp.lt
  have hlt : p * W + q < n := by rw [hn, hl]; exact at_lt hq' hp'
  obtain ⟨b, off, c, rfl, hc, hcell, hbl⟩ := hp.sl.at (p * W + q) hlt
  obtain ⟨A, hA⟩ : ∃ A, A = xs.getD (p * W + q) 0 := ⟨_, rfl⟩
  have hcv : c = fv A := by
    rw [List.getElem?_map, List.getElem?_eq_getElem (by omega)] at hc
    rw [← Option.some.inj hc, hA]
    simp [show p * W + q < xs.length by omega]
  rw [hcv] at hcell
  rw [← hA]
  obtain ⟨j, hj⟩ : ∃ j, j = p * W + q := ⟨_, rfl⟩
  have hjI : (p : Int) * (W : Int) + q = j := by rw [hj]; simp
  have hpW : (0 : Int) ≤ (p : Int) * W ∧ (p : Int) * W ≤ 256 := by
    have h0 : p * W ≤ 16 * 16 := Nat.mul_le_mul (by omega) hW
    have e : (p : Int) * (W : Int) = ((p * W : Nat) : Int) := by simp
    omega
  rw [← hj] at hcell hlt
  have n1 := fun w3 => l00Min_any ((W : Int) - 1) x w3
  have n2 := fun w3 => l00Max_any 0 (min ((W : Int) - 1) x) w3
  have n3 := fun w3 => l00Min_any ((H : Int) - 1) y w3
  have n4 := fun w3 => l00Max_any 0 (min ((H : Int) - 1) y) w3
  rw [hq] at n2
  rw [hpq] at n4
  obtain ⟨m1, hm1⟩ : ∃ m, m = min ((W : Int) - 1) x := ⟨_, rfl⟩
  obtain ⟨m3, hm3⟩ : ∃ m, m = min ((H : Int) - 1) y := ⟨_, rfl⟩
  rw [← hm1] at n1 n2
  rw [← hm3] at n3 n4
  clear hp hl hc hcv hA hj hn hq hpq hm1 hm3
  go_enter Try.func161, Try.ntmps161
  go_wp2_with fail
  refine (n1 _).mono ?_
  rintro e w' ⟨rfl, rfl⟩
  go_wp2_with fail
  refine (n2 _).mono ?_
  rintro e w' ⟨rfl, rfl⟩
  go_wp2_with fail
  refine (n3 _).mono ?_
  rintro e w' ⟨rfl, rfl⟩
  go_wp2_with fail
  refine (n4 _).mono ?_
  rintro e w' ⟨rfl, rfl⟩
  go_wp2
  refine Mix.wp_mix [.S, .S, .S, .S, .S, .S, .S, .S, .S, .S, .S, .S, .S, .S, .S] [0, 1, 2, 3, 4, 5, 6, 7, 8, 9, 10, 11, 12, 13, 14] (Below w.heap.size w) (by kernel_rfl) (by kernel_rfl) ((Below.refl _ _).drew) ?_
  have hC : Below w.heap.size w w.drew := (Below.refl _ _).drew
  generalize w.drew = w2 at hC ⊢
  repeat (first | (refine Mix.sf_S rfl rfl rfl rfl rfl (Mix.valOp_spec rfl) hC ?_; apply Exists.intro; refine ⟨?_, ?_⟩; · (intro w' hC' K hK; have hk := (bcell hC').1; go_step; exact hK)) | (refine Mix.sf_skipS rfl rfl rfl rfl ?_; apply Exists.intro; refine ⟨?_, ?_⟩; · (intro K hK; go_step; exact hK)) | (refine Mix.sf_skipA rfl rfl rfl rfl ?_; apply Exists.intro; refine ⟨?_, ?_⟩; · (intro K hK; go_step; exact hK)) | (refine Mix.sf_skipL rfl rfl rfl rfl ?_ hC; apply Exists.intro; refine ⟨?_, ?_⟩; · (intro K hK; go_step; exact hK); clear hC; intro wL hC))
  refine Mix.sf_nil ?_
  go_wp2
  go_ret
  exact ⟨by simp, hC⟩

set_option maxHeartbeats 4000000 in
set_option maxRecDepth 100000 in
theorem l02Own_any (W H : Int) (v : Value) (xs : List Nat) (b1 o1 : Nat) (w : World) (hp : PicAt w b1 o1 W H v xs) (h1 : 0 < xs.length) (hl : xs.length ≤ 1048576) :
    Calls Try.prog 97 #[.pointer (some ⟨b1, o1, none⟩)] w fun e w' => ∃ ad cap, e = .returned (.agg #[.int .i64 W, .int .i64 H, .slice ad xs.length cap]) ∧ w'.ownsRow w.heap.size 52 1 (.slice ad xs.length cap) xs.length (xs.map fv) ∧ Below w.heap.size w w' := by
  obtain ⟨i0, hi, hz0, hz1, hz2⟩ := info_parts Try.infoF
  obtain ⟨ad, cap, hv⟩ := hp.sl.form
  rw [List.length_map] at hv
  obtain ⟨n, hn⟩ : ∃ n, n = xs.length := ⟨_, rfl⟩
  have c0 := hp.c0
  have c1 := hp.c1
  have c2 := hp.c2
  rw [← hn] at hv h1 hl ⊢
  subst hv
  have hB := hp.lt
  obtain ⟨b, off, c, rfl, -, -, hbl⟩ := hp.sl.at 0 h1
  have hcells : ∀ j u, (xs.map fv)[j]? = some u → w.cell? ⟨b, off + j, none⟩ = some u := by
    intro j u hj
    have hjn : j < n := by
      have := (List.getElem?_eq_some_iff.1 hj).1
      rw [List.length_map] at this
      omega
    obtain ⟨b', off', c', he, hc', hcell', -⟩ := hp.sl.at j hjn
    simp only [Option.some.injEq, Addr.mk.injEq, and_true] at he
    obtain ⟨rfl, rfl⟩ := he
    rw [hcell', ← hc', hj]
  have Hcells := hid hcells
  have hlm : (xs.map fv).length = n := by rw [List.length_map, hn]
  have Hlm := hid hlm
  have hI := (Inv.start w).alloc [.int .i64 0, .int .i64 0, .slice none 0 0] 32
  clear hp hn hcells hlm
  go_enter Try.func97, Try.ntmps97
  go_wp2
  have hsz1 : (w.alloc (.cells [Value.int .i64 0, .int .i64 0, .slice none 0 0].toArray 32)).heap.size = w.heap.size + 1 := by simp
  obtain ⟨w1, hw1⟩ : ∃ w1, w1 = w.alloc (.cells #[.int .i64 0, .int .i64 0, .slice none 0 0] 32) := ⟨_, rfl⟩
  rw [show w.alloc (.cells [Value.int .i64 0, .int .i64 0, .slice none 0 0].toArray 32) = w1 from hw1.symm] at hI hsz1
  rw [← hw1]
  clear hw1
  have k0 := (hI.below.cell hB).trans c0
  have k1 := (hI.below.cell hB).trans c1
  have k2 := (hI.below.cell hB).trans c2
  have hBw : b1 < w1.heap.size := by omega
  refine Mix.wp_mix [.S, .S, .S, .S, .S, .S, .S, .S, .A, .S, .S, .S, .S, .A, .S, .T] [0, 1, 2, 3, 4, 5, 6, 7, 9, 10, 11, 12, 8, 13, 14, 15] (Below w1.heap.size w1) (by kernel_rfl) (by kernel_rfl) ((Below.refl _ _).drew) ?_
  have hC : Below w1.heap.size w1 w1.drew := (Below.refl _ _).drew
  generalize w1.drew = w2 at hC ⊢
  repeat (first | (refine Mix.sf_S rfl rfl rfl rfl rfl (Mix.valOp_spec rfl) hC ?_; apply Exists.intro; refine ⟨?_, ?_⟩; · (intro w' hC' K hK; have hk := (bcell hC').1; go_step; exact hK)) | (refine Mix.sf_skipS rfl rfl rfl rfl ?_; apply Exists.intro; refine ⟨?_, ?_⟩; · (intro K hK; go_step; exact hK)) | (refine Mix.sf_skipA rfl rfl rfl rfl ?_; apply Exists.intro; refine ⟨?_, ?_⟩; · (intro K hK; go_step; exact hK)) | (refine Mix.sf_skipL rfl rfl rfl rfl ?_ hC; apply Exists.intro; refine ⟨?_, ?_⟩; · (intro K hK; go_step; exact hK); clear hC; intro wL hC))
  refine Mix.sf_A rfl rfl rfl ?_; intro K hK; go_step
  refine hK _ _ (hC.alloc hC.size _) ?_
  clear hK K
  have hres2 := ((hI.call hC).blk 0 rfl).alloc (.cells #[] 52)
  have hsz2 : w.heap.size + 1 ≤ w2.heap.size := by have := hC.size; omega
  have hown0 := World.ownsRow_lit (base := w.heap.size + 1) (e := 52) (size := 1) w2 #[] 0 hsz2 (by decide) rfl
  have hC3 : Below w1.heap.size w1 (w2.alloc (.cells #[] 52)) := hC.alloc hC.size _
  have hsz3 : w.heap.size + 1 ≤ (w2.alloc (.cells #[] 52)).heap.size := by simp; omega
  have hIb := hI.below
  have Hown0 := hid hown0
  have Hres2 := hid hres2
  have HC3 := hid hC3
  have HIb := hid hIb
  clear hC hI hown0 hres2 hC3 hIb
  generalize w2.alloc (.cells #[] 52) = w3 at Hown0 Hres2 HC3 hsz3 ⊢
  generalize w2.heap.size = B2 at Hown0 hsz2 ⊢
  refine Mix.sf_AappN rfl rfl rfl rfl rfl (w.heap.size + 1) 52 i0 (.float .f32 0) 4 Try.underlying22 hi hz0 hz1 hz2 rfl (.slice (some ⟨B2, 0, none⟩) 0 0) 0 [] rfl Hown0.out b off n cap (xs.map fv) Hlm.out rfl
    (fun j u hj => ((HC3.out.cell (p := ⟨b, off + j, none⟩) (by show b < _; omega)).trans (HIb.out.cell (p := ⟨b, off + j, none⟩) hbl)).trans (Hcells.out j u hj))
    (fun u hu => by obtain ⟨a, -, rfl⟩ := List.mem_map.1 hu; rfl) (by unfold maxLen; omega) (by omega) hsz3 (fun w' hg => below_grown HC3.out hg Hown0.out (by omega) (by omega)) ?_
  intro ad' cap' w4 hC4 hown4 hg4
  have hres4 := Hres2.out.grown hg4 (own_block_ge Hown0.out (by omega))
  rw [Nat.zero_add, List.nil_append] at hown4
  have Hown4 := hid hown4
  have Hres4 := hid hres4
  have hB4 : w.heap.size < w4.heap.size := hres4.lt
  apply Exists.intro
  refine ⟨?_, ?_⟩
  · (intro K hK; go_step; exact hK)
  clear hown4 hg4 hres4 Hown0 Hres2
  have hC := hC4
  repeat (first | (refine Mix.sf_S rfl rfl rfl rfl rfl (Mix.valOp_spec rfl) hC ?_; apply Exists.intro; refine ⟨?_, ?_⟩; · (intro w' hC' K hK; have hk := (bcell hC').1; go_step; exact hK)) | (refine Mix.sf_skipS rfl rfl rfl rfl ?_; apply Exists.intro; refine ⟨?_, ?_⟩; · (intro K hK; go_step; exact hK)) | (refine Mix.sf_skipA rfl rfl rfl rfl ?_; apply Exists.intro; refine ⟨?_, ?_⟩; · (intro K hK; go_step; exact hK)) | (refine Mix.sf_skipL rfl rfl rfl rfl ?_ hC; apply Exists.intro; refine ⟨?_, ?_⟩; · (intro K hK; go_step; exact hK); clear hC; intro wL hC))
  have r0 : w4.cell? ⟨w.heap.size, 0, none⟩ = some (.int .i64 0) := Hres4.out.cell 0
  have r1 : w4.cell? ⟨w.heap.size, 1, none⟩ = some (.int .i64 0) := Hres4.out.cell 1
  have r2 : w4.cell? ⟨w.heap.size, 2, none⟩ = some (.slice none 0 0) := Hres4.out.cell 2
  have f0 : w4.frozen? ⟨w.heap.size, 0, none⟩ = false := Hres4.out.frozen 0
  have f1 : w4.frozen? ⟨w.heap.size, 1, none⟩ = false := Hres4.out.frozen 1
  have f2 : w4.frozen? ⟨w.heap.size, 2, none⟩ = false := Hres4.out.frozen 2
  refine Mix.sf_T rfl rfl rfl ?_; intro K hK; go_step
  refine hK _ _ ?_
  clear hK K
  refine Mix.sf_nil ?_
  go_wp2
  refine bodyPost_ret (v := .agg #[.int .i64 W, .int .i64 H, .slice ad' n cap']) (by simp [results, Try.results97, go_sem, r0, r1, r2, f0, f1, f2]) rfl ⟨ad', cap', rfl, ?_, ?_⟩
  · exact own_base (by omega) (ownsRow_setCell_below (ownsRow_setCell_below (ownsRow_setCell_below Hown4.out (by simp) _) (by simp) _) (by simp) _)
  · exact (((HIb.out.trans (hC4.mono (by omega))).setCell (by simp) _).setCell (by simp) _).setCell (by simp) _

end Go.Proofs.Ytggbdmgonobefaa
