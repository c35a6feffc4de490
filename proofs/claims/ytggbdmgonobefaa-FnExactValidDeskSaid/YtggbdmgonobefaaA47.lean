/-
  What curves and desks are valid, by the reference; desks by the program.
  Conditions: they read; lengths fit.
-/
import Derived.Test.YtggbdmgonobefaaA46
namespace Go.Proofs.Ytggbdmgonobefaa
open Go.RowKit
set_option linter.unusedVariables false
set_option linter.unusedSimpArgs false

theorem incr_no {xs : List Nat} {k : Nat} (h0 : 0 < k) (hk : k < xs.length) (h : gtB (xs.getD k 0) (xs.getD (k - 1) 0) = false) : incr xs = false := by
  refine decide_eq_false fun hh => ?_
  rw [hh k hk h0] at h
  cases h

set_option maxHeartbeats 8000000 in
set_option maxRecDepth 100000 in
theorem l04Is_any (cx cy : List Nat) (x1 y1 : Value) (b1 o1 : Nat) (w : World) (k1 : w.cell? ⟨b1, o1, none⟩ = some x1) (k2 : w.cell? ⟨b1, o1 + 1, none⟩ = some y1) (h1 : Sl w x1 (cx.map fv)) (h2 : Sl w y1 (cy.map fv)) (l1 : cx.length ≤ 140737488351232) (l2 : cy.length ≤ 140737488351232) :
    Calls Try.prog 140 #[.pointer (some ⟨b1, o1, none⟩)] w fun e w' => e = .returned (.bool (validC cx cy)) ∧ Below w.heap.size w w' := by
  have hc1 := fun w2 (h : Below w.heap.size w w2) => l02Finite_any cx x1 w2 (h1.mono h) l1
  have hc2 := fun w2 (h : Below w.heap.size w w2) => l02Finite_any cy y1 w2 (h2.mono h) l2
  have hB := World.block_lt_of_cell? w _ k1
  obtain ⟨a1, p1, hv1⟩ := h1.form
  obtain ⟨a2, p2, hv2⟩ := h2.form
  rw [List.length_map] at hv1 hv2
  obtain ⟨n, hn⟩ : ∃ n, n = cx.length := ⟨_, rfl⟩
  obtain ⟨m, hm⟩ : ∃ n, n = cy.length := ⟨_, rfl⟩
  rw [← hn] at hv1 l1
  rw [← hm] at hv2 l2
  subst hv1 hv2
  have Hn := hid hn
  have Hm := hid hm
  have H1 := hid h1
  have hR : validC cx cy = (decide (2 ≤ n ∧ n ≤ 16) && decide (m = n) && allFin cx && allFin cy && incr cx) := by rw [validC, hn, hm]
  have HR := hid hR
  clear hn hm h1 h2 hR
  rcases (show n < 2 ∨ (2 ≤ n ∧ 16 < n) ∨ (2 ≤ n ∧ n ≤ 16 ∧ m ≠ n) ∨ (2 ≤ n ∧ n ≤ 16 ∧ m = n ∧ allFin cx = false) ∨ (2 ≤ n ∧ n ≤ 16 ∧ m = n ∧ allFin cx = true ∧ allFin cy = false) ∨ (2 ≤ n ∧ n ≤ 16 ∧ m = n ∧ allFin cx = true ∧ allFin cy = true) by
    cases allFin cx <;> cases allFin cy <;> simp <;> omega) with h | ⟨h, h'⟩ | ⟨h, h', h3⟩ | ⟨h, h', h3, h4⟩ | ⟨h, h', h3, h4, h5⟩ | ⟨h, h', h3, h4, h5⟩
  · have HR2 := hid (show validC cx cy = false by rw [HR.out, decide_eq_false (by omega)]; simp)
    go_enter Try.func140, Try.ntmps140
    go_wp2
    refine Mix.wp_mix [.S, .S, .S, .S, .S, .S, .S, .S, .S, .S, .S, .S, .S, .S, .S, .S, .S, .S, .S, .S, .S, .S, .S, .S, .S, .S, .S, .S, .S, .S, .S, .S, .A, .S, .S, .S, .S, .S, .S, .S, .A, .S, .S] [0, 1, 2, 3, 4, 5, 6, 7, 8, 9, 10, 11, 12, 13, 14, 15, 16, 17, 18, 19, 20, 21, 22, 23, 24, 25, 26, 27, 28, 29, 30, 31, 32, 33, 34, 35, 36, 37, 38, 39, 40, 41, 42] (Below w.heap.size w) (by kernel_rfl) (by kernel_rfl) ((Below.refl _ _).drew) ?_
    have hC : Below w.heap.size w w.drew := (Below.refl _ _).drew
    generalize w.drew = w2 at hC ⊢
    have d1 : decide ((n : Int) < 2) = true := by simp; omega
    repeat (first | (refine Mix.sf_S rfl rfl rfl rfl rfl (Mix.valOp_spec rfl) hC ?_; apply Exists.intro; refine ⟨?_, ?_⟩; · (intro w' hC' K hK; have hk := (bcell hC').1; go_step; exact hK)) | (refine Mix.sf_skipS rfl rfl rfl rfl ?_; apply Exists.intro; refine ⟨?_, ?_⟩; · (intro K hK; go_step; exact hK)) | (refine Mix.sf_skipA rfl rfl rfl rfl ?_; apply Exists.intro; refine ⟨?_, ?_⟩; · (intro K hK; go_step; exact hK)) | (refine Mix.sf_skipL rfl rfl rfl rfl ?_ hC; apply Exists.intro; refine ⟨?_, ?_⟩; · (intro K hK; go_step; exact hK); clear hC; intro wL hC))
    refine Mix.sf_nil ?_
    clear d1
    go_wp2
    go_ret
    exact ⟨ret_bool HR2.out.symm, hC⟩
  · have HR2 := hid (show validC cx cy = false by rw [HR.out, decide_eq_false (by omega)]; simp)
    go_enter Try.func140, Try.ntmps140
    go_wp2
    refine Mix.wp_mix [.S, .S, .S, .S, .S, .S, .S, .S, .S, .S, .S, .S, .S, .S, .S, .S, .S, .S, .S, .S, .S, .S, .S, .S, .S, .S, .S, .S, .S, .S, .S, .S, .A, .S, .S, .S, .S, .S, .S, .S, .A, .S, .S] [0, 1, 2, 3, 4, 5, 6, 7, 8, 9, 10, 11, 12, 13, 14, 15, 16, 17, 18, 19, 20, 21, 22, 23, 24, 25, 26, 27, 28, 29, 30, 31, 32, 33, 34, 35, 36, 37, 38, 39, 40, 41, 42] (Below w.heap.size w) (by kernel_rfl) (by kernel_rfl) ((Below.refl _ _).drew) ?_
    have hC : Below w.heap.size w w.drew := (Below.refl _ _).drew
    generalize w.drew = w2 at hC ⊢
    have d1 : decide ((n : Int) < 2) = false := by simp; omega
    have d2 : decide ((16 : Int) < n) = true := by simp; omega
    repeat (first | (refine Mix.sf_S rfl rfl rfl rfl rfl (Mix.valOp_spec rfl) hC ?_; apply Exists.intro; refine ⟨?_, ?_⟩; · (intro w' hC' K hK; have hk := (bcell hC').1; go_step; exact hK)) | (refine Mix.sf_skipS rfl rfl rfl rfl ?_; apply Exists.intro; refine ⟨?_, ?_⟩; · (intro K hK; go_step; exact hK)) | (refine Mix.sf_skipA rfl rfl rfl rfl ?_; apply Exists.intro; refine ⟨?_, ?_⟩; · (intro K hK; go_step; exact hK)) | (refine Mix.sf_skipL rfl rfl rfl rfl ?_ hC; apply Exists.intro; refine ⟨?_, ?_⟩; · (intro K hK; go_step; exact hK); clear hC; intro wL hC))
    refine Mix.sf_nil ?_
    clear d1 d2
    go_wp2
    go_ret
    exact ⟨ret_bool HR2.out.symm, hC⟩
  · have HR2 := hid (show validC cx cy = false by rw [HR.out, decide_eq_false h3]; simp)
    go_enter Try.func140, Try.ntmps140
    go_wp2
    refine Mix.wp_mix [.S, .S, .S, .S, .S, .S, .S, .S, .S, .S, .S, .S, .S, .S, .S, .S, .S, .S, .S, .S, .S, .S, .S, .S, .S, .S, .S, .S, .S, .S, .S, .S, .A, .S, .S, .S, .S, .S, .S, .S, .A, .S, .S] [0, 1, 2, 3, 4, 5, 6, 7, 8, 9, 10, 11, 12, 13, 14, 15, 16, 17, 18, 19, 20, 21, 22, 23, 24, 25, 26, 27, 28, 29, 30, 31, 32, 33, 34, 35, 36, 37, 38, 39, 40, 41, 42] (Below w.heap.size w) (by kernel_rfl) (by kernel_rfl) ((Below.refl _ _).drew) ?_
    have hC : Below w.heap.size w w.drew := (Below.refl _ _).drew
    generalize w.drew = w2 at hC ⊢
    have d1 : decide ((n : Int) < 2) = false := by simp; omega
    have d2 : decide ((16 : Int) < n) = false := by simp; omega
    have d3 : ((m : Int) != n) = true := by simp; omega
    repeat (first | (refine Mix.sf_S rfl rfl rfl rfl rfl (Mix.valOp_spec rfl) hC ?_; apply Exists.intro; refine ⟨?_, ?_⟩; · (intro w' hC' K hK; have hk := (bcell hC').1; go_step; exact hK)) | (refine Mix.sf_skipS rfl rfl rfl rfl ?_; apply Exists.intro; refine ⟨?_, ?_⟩; · (intro K hK; go_step; exact hK)) | (refine Mix.sf_skipA rfl rfl rfl rfl ?_; apply Exists.intro; refine ⟨?_, ?_⟩; · (intro K hK; go_step; exact hK)) | (refine Mix.sf_skipL rfl rfl rfl rfl ?_ hC; apply Exists.intro; refine ⟨?_, ?_⟩; · (intro K hK; go_step; exact hK); clear hC; intro wL hC))
    refine Mix.sf_nil ?_
    clear d1 d2 d3
    go_wp2
    go_ret
    exact ⟨ret_bool HR2.out.symm, hC⟩
  · have HR2 := hid (show validC cx cy = false by rw [HR.out, h4]; simp)
    rw [h4] at hc1
    subst h3
    go_enter Try.func140, Try.ntmps140
    go_wp2
    refine Mix.wp_mix [.S, .S, .S, .S, .S, .S, .S, .S, .S, .S, .S, .S, .S, .S, .S, .S, .S, .S, .S, .S, .S, .S, .S, .S, .S, .S, .S, .S, .S, .S, .S, .S, .A, .S, .S, .S, .S, .S, .S, .S, .A, .S, .S] [0, 1, 2, 3, 4, 5, 6, 7, 8, 9, 10, 11, 12, 13, 14, 15, 16, 17, 18, 19, 20, 21, 22, 23, 24, 25, 26, 27, 28, 29, 30, 31, 32, 33, 34, 35, 36, 37, 38, 39, 40, 41, 42] (Below w.heap.size w) (by kernel_rfl) (by kernel_rfl) ((Below.refl _ _).drew) ?_
    have hC : Below w.heap.size w w.drew := (Below.refl _ _).drew
    generalize w.drew = w2 at hC ⊢
    have d1 : decide ((m : Int) < 2) = false := by simp; omega
    have d2 : decide ((16 : Int) < m) = false := by simp; omega
    repeat (first | (refine Mix.sf_S rfl rfl rfl rfl rfl (Mix.valOp_spec rfl) hC ?_; apply Exists.intro; refine ⟨?_, ?_⟩; · (intro w' hC' K hK; have hk := (bcell hC').1; go_step; exact hK)) | (refine Mix.sf_skipS rfl rfl rfl rfl ?_; apply Exists.intro; refine ⟨?_, ?_⟩; · (intro K hK; go_step; exact hK)) | (refine Mix.sf_skipA rfl rfl rfl rfl ?_; apply Exists.intro; refine ⟨?_, ?_⟩; · (intro K hK; go_step; exact hK)) | (refine Mix.sf_skipL rfl rfl rfl rfl ?_ hC; apply Exists.intro; refine ⟨?_, ?_⟩; · (intro K hK; go_step; exact hK); clear hC; intro wL hC))
    refine Mix.sf_A rfl rfl rfl ?_; intro K hK; go_step
    refine (hc1 _ hC).mono ?_
    rintro e w' ⟨rfl, hb3⟩
    refine hK _ _ (hC.trans (hb3.mono hC.size)) ?_
    replace hC := hC.trans (hb3.mono hC.size)
    clear hK K hb3
    repeat (first | (refine Mix.sf_S rfl rfl rfl rfl rfl (Mix.valOp_spec rfl) hC ?_; apply Exists.intro; refine ⟨?_, ?_⟩; · (intro w' hC' K hK; have hk := (bcell hC').1; go_step; exact hK)) | (refine Mix.sf_skipS rfl rfl rfl rfl ?_; apply Exists.intro; refine ⟨?_, ?_⟩; · (intro K hK; go_step; exact hK)) | (refine Mix.sf_skipA rfl rfl rfl rfl ?_; apply Exists.intro; refine ⟨?_, ?_⟩; · (intro K hK; go_step; exact hK)) | (refine Mix.sf_skipL rfl rfl rfl rfl ?_ hC; apply Exists.intro; refine ⟨?_, ?_⟩; · (intro K hK; go_step; exact hK); clear hC; intro wL hC))
    refine Mix.sf_nil ?_
    clear d1 d2
    go_wp2
    go_ret
    exact ⟨ret_bool HR2.out.symm, hC⟩
  · have HR2 := hid (show validC cx cy = false by rw [HR.out, h5]; simp)
    rw [h4] at hc1
    rw [h5] at hc2
    subst h3
    go_enter Try.func140, Try.ntmps140
    go_wp2
    refine Mix.wp_mix [.S, .S, .S, .S, .S, .S, .S, .S, .S, .S, .S, .S, .S, .S, .S, .S, .S, .S, .S, .S, .S, .S, .S, .S, .S, .S, .S, .S, .S, .S, .S, .S, .A, .S, .S, .S, .S, .S, .S, .S, .A, .S, .S] [0, 1, 2, 3, 4, 5, 6, 7, 8, 9, 10, 11, 12, 13, 14, 15, 16, 17, 18, 19, 20, 21, 22, 23, 24, 25, 26, 27, 28, 29, 30, 31, 32, 33, 34, 35, 36, 37, 38, 39, 40, 41, 42] (Below w.heap.size w) (by kernel_rfl) (by kernel_rfl) ((Below.refl _ _).drew) ?_
    have hC : Below w.heap.size w w.drew := (Below.refl _ _).drew
    generalize w.drew = w2 at hC ⊢
    have d1 : decide ((m : Int) < 2) = false := by simp; omega
    have d2 : decide ((16 : Int) < m) = false := by simp; omega
    repeat (first | (refine Mix.sf_S rfl rfl rfl rfl rfl (Mix.valOp_spec rfl) hC ?_; apply Exists.intro; refine ⟨?_, ?_⟩; · (intro w' hC' K hK; have hk := (bcell hC').1; go_step; exact hK)) | (refine Mix.sf_skipS rfl rfl rfl rfl ?_; apply Exists.intro; refine ⟨?_, ?_⟩; · (intro K hK; go_step; exact hK)) | (refine Mix.sf_skipA rfl rfl rfl rfl ?_; apply Exists.intro; refine ⟨?_, ?_⟩; · (intro K hK; go_step; exact hK)) | (refine Mix.sf_skipL rfl rfl rfl rfl ?_ hC; apply Exists.intro; refine ⟨?_, ?_⟩; · (intro K hK; go_step; exact hK); clear hC; intro wL hC))
    refine Mix.sf_A rfl rfl rfl ?_; intro K hK; go_step
    refine (hc1 _ hC).mono ?_
    rintro e w' ⟨rfl, hb3⟩
    refine hK _ _ (hC.trans (hb3.mono hC.size)) ?_
    replace hC := hC.trans (hb3.mono hC.size)
    clear hK K hb3
    repeat (first | (refine Mix.sf_S rfl rfl rfl rfl rfl (Mix.valOp_spec rfl) hC ?_; apply Exists.intro; refine ⟨?_, ?_⟩; · (intro w' hC' K hK; have hk := (bcell hC').1; go_step; exact hK)) | (refine Mix.sf_skipS rfl rfl rfl rfl ?_; apply Exists.intro; refine ⟨?_, ?_⟩; · (intro K hK; go_step; exact hK)) | (refine Mix.sf_skipA rfl rfl rfl rfl ?_; apply Exists.intro; refine ⟨?_, ?_⟩; · (intro K hK; go_step; exact hK)) | (refine Mix.sf_skipL rfl rfl rfl rfl ?_ hC; apply Exists.intro; refine ⟨?_, ?_⟩; · (intro K hK; go_step; exact hK); clear hC; intro wL hC))
    refine Mix.sf_A rfl rfl rfl ?_; intro K hK; go_step
    refine (hc2 _ hC).mono ?_
    rintro e w' ⟨rfl, hb3⟩
    refine hK _ _ (hC.trans (hb3.mono hC.size)) ?_
    replace hC := hC.trans (hb3.mono hC.size)
    clear hK K hb3
    repeat (first | (refine Mix.sf_S rfl rfl rfl rfl rfl (Mix.valOp_spec rfl) hC ?_; apply Exists.intro; refine ⟨?_, ?_⟩; · (intro w' hC' K hK; have hk := (bcell hC').1; go_step; exact hK)) | (refine Mix.sf_skipS rfl rfl rfl rfl ?_; apply Exists.intro; refine ⟨?_, ?_⟩; · (intro K hK; go_step; exact hK)) | (refine Mix.sf_skipA rfl rfl rfl rfl ?_; apply Exists.intro; refine ⟨?_, ?_⟩; · (intro K hK; go_step; exact hK)) | (refine Mix.sf_skipL rfl rfl rfl rfl ?_ hC; apply Exists.intro; refine ⟨?_, ?_⟩; · (intro K hK; go_step; exact hK); clear hC; intro wL hC))
    refine Mix.sf_nil ?_
    clear d1 d2
    go_wp2
    go_ret
    exact ⟨ret_bool HR2.out.symm, hC⟩
  · have HR2 := hid (show validC cx cy = incr cx by rw [HR.out, decide_eq_true ⟨h, h'⟩, decide_eq_true h3, h4, h5]; rfl)
    rw [h4] at hc1
    rw [h5] at hc2
    subst h3
    go_enter Try.func140, Try.ntmps140
    go_wp2
    refine Mix.wp_mix [.S, .S, .S, .S, .S, .S, .S, .S, .S, .S, .S, .S, .S, .S, .S, .S, .S, .S, .S, .S, .S, .S, .S, .S, .S, .S, .S, .S, .S, .S, .S, .S, .A, .S, .S, .S, .S, .S, .S, .S, .A, .S, .S] [0, 1, 2, 3, 4, 5, 6, 7, 8, 9, 10, 11, 12, 13, 14, 15, 16, 17, 18, 19, 20, 21, 22, 23, 24, 25, 26, 27, 28, 29, 30, 31, 32, 33, 34, 35, 36, 37, 38, 39, 40, 41, 42] (Below w.heap.size w) (by kernel_rfl) (by kernel_rfl) ((Below.refl _ _).drew) ?_
    have hC : Below w.heap.size w w.drew := (Below.refl _ _).drew
    generalize w.drew = w2 at hC ⊢
    have d1 : decide ((m : Int) < 2) = false := by simp; omega
    have d2 : decide ((16 : Int) < m) = false := by simp; omega
    repeat (first | (refine Mix.sf_S rfl rfl rfl rfl rfl (Mix.valOp_spec rfl) hC ?_; apply Exists.intro; refine ⟨?_, ?_⟩; · (intro w' hC' K hK; have hk := (bcell hC').1; go_step; exact hK)) | (refine Mix.sf_skipS rfl rfl rfl rfl ?_; apply Exists.intro; refine ⟨?_, ?_⟩; · (intro K hK; go_step; exact hK)) | (refine Mix.sf_skipA rfl rfl rfl rfl ?_; apply Exists.intro; refine ⟨?_, ?_⟩; · (intro K hK; go_step; exact hK)) | (refine Mix.sf_skipL rfl rfl rfl rfl ?_ hC; apply Exists.intro; refine ⟨?_, ?_⟩; · (intro K hK; go_step; exact hK); clear hC; intro wL hC))
    refine Mix.sf_A rfl rfl rfl ?_; intro K hK; go_step
    refine (hc1 _ hC).mono ?_
    rintro e w' ⟨rfl, hb3⟩
    refine hK _ _ (hC.trans (hb3.mono hC.size)) ?_
    replace hC := hC.trans (hb3.mono hC.size)
    clear hK K hb3
    repeat (first | (refine Mix.sf_S rfl rfl rfl rfl rfl (Mix.valOp_spec rfl) hC ?_; apply Exists.intro; refine ⟨?_, ?_⟩; · (intro w' hC' K hK; have hk := (bcell hC').1; go_step; exact hK)) | (refine Mix.sf_skipS rfl rfl rfl rfl ?_; apply Exists.intro; refine ⟨?_, ?_⟩; · (intro K hK; go_step; exact hK)) | (refine Mix.sf_skipA rfl rfl rfl rfl ?_; apply Exists.intro; refine ⟨?_, ?_⟩; · (intro K hK; go_step; exact hK)) | (refine Mix.sf_skipL rfl rfl rfl rfl ?_ hC; apply Exists.intro; refine ⟨?_, ?_⟩; · (intro K hK; go_step; exact hK); clear hC; intro wL hC))
    refine Mix.sf_A rfl rfl rfl ?_; intro K hK; go_step
    refine (hc2 _ hC).mono ?_
    rintro e w' ⟨rfl, hb3⟩
    refine hK _ _ (hC.trans (hb3.mono hC.size)) ?_
    replace hC := hC.trans (hb3.mono hC.size)
    clear hK K hb3
    repeat (first | (refine Mix.sf_S rfl rfl rfl rfl rfl (Mix.valOp_spec rfl) hC ?_; apply Exists.intro; refine ⟨?_, ?_⟩; · (intro w' hC' K hK; have hk := (bcell hC').1; go_step; exact hK)) | (refine Mix.sf_skipS rfl rfl rfl rfl ?_; apply Exists.intro; refine ⟨?_, ?_⟩; · (intro K hK; go_step; exact hK)) | (refine Mix.sf_skipA rfl rfl rfl rfl ?_; apply Exists.intro; refine ⟨?_, ?_⟩; · (intro K hK; go_step; exact hK)) | (refine Mix.sf_skipL rfl rfl rfl rfl ?_ hC; apply Exists.intro; refine ⟨?_, ?_⟩; · (intro K hK; go_step; exact hK); clear hC; intro wL hC))
    refine Mix.sf_nil ?_
    clear d1 d2 hc1 hc2
    go_wp2
    go_loopw [3] (fun i wr => ∃ k : Nat, 1 ≤ k ∧ k ≤ m ∧ i = .int .i64 k ∧ (∀ j, j < k → 0 < j → gtB (cx.getD j 0) (cx.getD (j - 1) 0) = true) ∧ Below w.heap.size w wr) (fun i _ => m - (intOf i).toNat)
    case atStart => exact ⟨1, by omega, by omega, rfl, fun j h1 h2 => by omega, hC⟩
    case round =>
      obtain ⟨k, hk1, hk, rfl, hidx, hbw⟩ := hrel
      have Hidx := hid hidx
      clear hidx
      have e1 := (hbw.cell hB).trans k1
      have e2 := (hbw.cell hB).trans k2
      have hBw : b1 < wr.heap.size := Nat.lt_of_lt_of_le hB hbw.size
      by_cases hlt : k < m
      · obtain ⟨j, rfl⟩ : ∃ j, k = j + 1 := ⟨k - 1, by omega⟩
        obtain ⟨b, off, rfl, hc1, hbb⟩ := (H1.out.mono hbw).lightD Hn.out (j + 1) hlt
        obtain ⟨b', off', he, hc2, -⟩ := (H1.out.mono hbw).lightD Hn.out j (by omega)
        simp only [Option.some.injEq, Addr.mk.injEq, and_true] at he
        obtain ⟨rfl, rfl⟩ := he
        have hno : gtB (cx.getD (j + 1) 0) (cx.getD j 0) = false → incr cx = false := fun h => incr_no (Nat.succ_pos _) (by rw [← Hn.out]; exact hlt) h
        have hyes : gtB (cx.getD (j + 1) 0) (cx.getD j 0) = true → ∀ i, i < j + 1 + 1 → 0 < i → gtB (cx.getD i 0) (cx.getD (i - 1) 0) = true := fun h i hi h0 => by
          by_cases hij : i = j + 1
          · subst hij; exact h
          · exact Hidx.out i (by omega) h0
        obtain ⟨x, hx⟩ : ∃ x, x = cx.getD (j + 1) 0 := ⟨_, rfl⟩
        obtain ⟨y, hy⟩ : ∃ y, y = cx.getD j 0 := ⟨_, rfl⟩
        rw [← hx] at hc1 hno hyes
        rw [← hy] at hc2 hno hyes
        have Hno := hid hno
        have Hyes := hid hyes
        clear hno hyes hx hy
        cases hg : (FloatKind.f32.format.order x y == some .gt)
        · have HR3 := hid (show validC cx cy = false by rw [HR2.out]; exact Hno.out hg)
          go_wp2
          refine Mix.wp_mix [.S, .S, .S, .S, .S, .S, .S, .S, .S, .S, .S, .S, .S, .S, .S, .S, .S] [0, 1, 2, 3, 4, 5, 6, 7, 8, 9, 10, 11, 12, 13, 14, 15, 16] (Below wr.heap.size wr) (by kernel_rfl) (by kernel_rfl) ((Below.refl _ _).drew) ?_
          have hC : Below wr.heap.size wr wr.drew := (Below.refl _ _).drew
          generalize wr.drew = w2 at hC ⊢
          repeat (first | (refine Mix.sf_S rfl rfl rfl rfl rfl (Mix.valOp_spec rfl) hC ?_; apply Exists.intro; refine ⟨?_, ?_⟩; · (intro w' hC' K hK; have hk := (bcell hC').1; go_step; exact hK)) | (refine Mix.sf_skipS rfl rfl rfl rfl ?_; apply Exists.intro; refine ⟨?_, ?_⟩; · (intro K hK; go_step; exact hK)) | (refine Mix.sf_skipA rfl rfl rfl rfl ?_; apply Exists.intro; refine ⟨?_, ?_⟩; · (intro K hK; go_step; exact hK)) | (refine Mix.sf_skipL rfl rfl rfl rfl ?_ hC; apply Exists.intro; refine ⟨?_, ?_⟩; · (intro K hK; go_step; exact hK); clear hC; intro wL hC))
          refine Mix.sf_nil ?_
          clear e1 e2 hc1 hc2
          go_wp2
          go_ret
          exact ⟨ret_bool HR3.out.symm, hbw.trans (hC.mono hbw.size)⟩
        · have HR3 := hid (Hyes.out hg)
          go_wp2
          refine Mix.wp_mix [.S, .S, .S, .S, .S, .S, .S, .S, .S, .S, .S, .S, .S, .S, .S, .S, .S] [0, 1, 2, 3, 4, 5, 6, 7, 8, 9, 10, 11, 12, 13, 14, 15, 16] (Below wr.heap.size wr) (by kernel_rfl) (by kernel_rfl) ((Below.refl _ _).drew) ?_
          have hC : Below wr.heap.size wr wr.drew := (Below.refl _ _).drew
          generalize wr.drew = w2 at hC ⊢
          repeat (first | (refine Mix.sf_S rfl rfl rfl rfl rfl (Mix.valOp_spec rfl) hC ?_; apply Exists.intro; refine ⟨?_, ?_⟩; · (intro w' hC' K hK; have hk := (bcell hC').1; go_step; exact hK)) | (refine Mix.sf_skipS rfl rfl rfl rfl ?_; apply Exists.intro; refine ⟨?_, ?_⟩; · (intro K hK; go_step; exact hK)) | (refine Mix.sf_skipA rfl rfl rfl rfl ?_; apply Exists.intro; refine ⟨?_, ?_⟩; · (intro K hK; go_step; exact hK)) | (refine Mix.sf_skipL rfl rfl rfl rfl ?_ hC; apply Exists.intro; refine ⟨?_, ?_⟩; · (intro K hK; go_step; exact hK); clear hC; intro wL hC))
          refine Mix.sf_nil ?_
          clear e1 e2 hc1 hc2
          go_wp2
          go_roundw
          case rel => exact ⟨j + 1 + 1, by omega, by omega, by go_num, HR3.out, hbw.trans (hC.mono hbw.size)⟩
          case measure => simp [intOf]; omega
      · have hke : k = m := by omega
        have HR3 := hid (show validC cx cy = true by rw [HR2.out]; exact decide_eq_true fun j hj h0 => Hidx.out j (by rw [hke, Hn.out]; exact hj) h0)
        clear hke
        go_wp2
        go_ret
        exact ⟨ret_bool HR3.out.symm, hbw⟩

def validD (d : DkD) : Bool := validB d.W d.H d.xs && validC d.cx d.cy && arePgs d.ps

theorem validD_cases (d : DkD) : validB d.W d.H d.xs = false ∨ (validB d.W d.H d.xs = true ∧ validC d.cx d.cy = false) ∨ (validB d.W d.H d.xs = true ∧ validC d.cx d.cy = true) := by
  cases validB d.W d.H d.xs <;> cases validC d.cx d.cy <;> simp

set_option maxHeartbeats 4000000 in
set_option maxRecDepth 100000 in
theorem implValidDesk_any (d : DkD) (va : Value) (w : World) (ha : DkV w va d) (f1 : d.ok) :
    Calls Try.prog 25 #[va] w fun x w' => x = .returned (.bool (validD d)) ∧ Below w.heap.size w w' := by
  obtain ⟨lv, xv, yv, pv, rfl, s1, s2, s3, s4⟩ := ha
  have hI := (Inv.start w).alloc [.int .i64 d.W, .int .i64 d.H, lv, xv, yv, pv] 36
  obtain ⟨w1, hw1⟩ : ∃ w1, w1 = w.alloc (.cells #[.int .i64 d.W, .int .i64 d.H, lv, xv, yv, pv] 36) := ⟨_, rfl⟩
  rw [show w.alloc (.cells [Value.int .i64 d.W, .int .i64 d.H, lv, xv, yv, pv].toArray 36) = w1 from hw1.symm] at hI
  have hc1 := ValidPicture_any d.W d.H d.xs lv w1 (hI.arg s1) f1.lx
  have hc2 := fun w2 (h : Below w1.heap.size w1 w2) => ValidCurve_any d.cx d.cy xv yv w2 ((hI.arg s2).mono h) ((hI.arg s3).mono h) f1.lcx f1.lcy
  have hc3 := fun w2 (h : Below w1.heap.size w1 w2) => implArePages_any d.ps pv w2 ((s4.mono hI.below).mono h) f1.lps (fun p hp => ⟨(f1.fps p hp).1, (f1.fps p hp).2.1⟩)
  obtain ⟨a1, p1, hv1⟩ := s1.form
  obtain ⟨a2, p2, hv2⟩ := s2.form
  obtain ⟨a3, p3, hv3⟩ := s3.form
  obtain ⟨a4, p4, hv4⟩ := s4.form
  obtain ⟨n1, hn1⟩ : ∃ n, n = (d.xs.map fv).length := ⟨_, rfl⟩
  obtain ⟨n2, hn2⟩ : ∃ n, n = (d.cx.map fv).length := ⟨_, rfl⟩
  obtain ⟨n3, hn3⟩ : ∃ n, n = (d.cy.map fv).length := ⟨_, rfl⟩
  obtain ⟨n4, hn4⟩ : ∃ n, n = d.ps.length := ⟨_, rfl⟩
  rw [← hn1] at hv1
  rw [← hn2] at hv2
  rw [← hn3] at hv3
  rw [← hn4] at hv4
  subst hv1 hv2 hv3 hv4
  clear s1 s2 s3 s4 hn1 hn2 hn3 hn4
  have hR : validD d = (validB d.W d.H d.xs && validC d.cx d.cy && arePgs d.ps) := rfl
  have HR := hid hR
  clear hR
  rcases validD_cases d with k1 | ⟨k1, k2⟩ | ⟨k1, k2⟩
  all_goals
    rw [k1] at hc1
    go_enter Try.func25, Try.ntmps25
    go_wp2_with fail
    rw [← hw1]
    clear hw1
    refine hc1.mono ?_
    rintro x w2 ⟨rfl, hb2⟩
    have hI2 := hI.call hb2
    have hbl := hI2.below
  · go_wp2
    go_ret
    exact ⟨ret_bool (by rw [HR.out, k1]; rfl), hbl⟩
  all_goals
    have hcc := hc2 _ hb2
    rw [k2] at hcc
    have g3 := (hI2.blk 0 rfl).cell 3
    have g4 := (hI2.blk 0 rfl).cell 4
    clear hc1 hc2
    go_wp2_with fail
    refine hcc.mono ?_
    rintro x w3 ⟨rfl, hb3⟩
    have hb13 := hb2.trans (hb3.mono hb2.size)
    have hI3 := hI.call hb13
    have hbl3 := hI3.below
    clear hcc g3 g4 hI2 hbl
  · go_wp2
    go_ret
    exact ⟨ret_bool (by rw [HR.out, k1, k2]; rfl), hbl3⟩
  · have hcc := hc3 _ hb13
    have g5 := (hI3.blk 0 rfl).cell 5
    have HR2 := hid (show validD d = arePgs d.ps by rw [HR.out, k1, k2]; rfl)
    clear hc3 k1 k2
    go_wp2_with fail
    refine hcc.mono ?_
    rintro x w4 ⟨rfl, hb4⟩
    have HI := hid (hI3.call hb4)
    clear hcc hb4 hI3 hI
    go_wp2
    go_ret
    exact ⟨ret_bool HR2.out.symm, HI.out.below⟩

set_option maxHeartbeats 4000000 in
set_option maxRecDepth 100000 in
theorem specValidDesk_any (d : DkD) (va : Value) (w : World) (ha : DkV w va d) (f1 : d.ok) :
    Calls Try.prog 24 #[va] w fun x w' => x = .returned (.bool (validD d)) ∧ Below w.heap.size w w' := by
  obtain ⟨lv, xv, yv, pv, rfl, s1, s2, s3, s4⟩ := ha
  have hI := (Inv.start w).alloc [.int .i64 d.W, .int .i64 d.H, lv, xv, yv, pv] 36
  obtain ⟨w1, hw1⟩ : ∃ w1, w1 = w.alloc (.cells #[.int .i64 d.W, .int .i64 d.H, lv, xv, yv, pv] 36) := ⟨_, rfl⟩
  rw [show w.alloc (.cells [Value.int .i64 d.W, .int .i64 d.H, lv, xv, yv, pv].toArray 36) = w1 from hw1.symm] at hI
  obtain ⟨b, hbe⟩ : ∃ b, b = w.heap.size := ⟨_, rfl⟩
  rw [← hbe] at hI
  have hcall : Calls Try.prog 75 #[.pointer (some ⟨b, 0, none⟩)] w1 fun x w' => x = .returned (.bool (validD d)) ∧ Below w1.heap.size w1 w' := by
    have hc1 := l02Is_any b 0 d.W d.H lv d.xs w1 ⟨(hI.blk 0 rfl).cell 0, (hI.blk 0 rfl).cell 1, (hI.blk 0 rfl).cell 2, hI.arg s1⟩ f1.lx
    have hc2 := fun w2 (h : Below w1.heap.size w1 w2) => l04Is_any d.cx d.cy xv yv b 3 w2 (((hI.call h).blk 0 rfl).cell 3) (((hI.call h).blk 0 rfl).cell 4) ((hI.arg s2).mono h) ((hI.arg s3).mono h) f1.lcx f1.lcy
    have hc3 := fun w2 (h : Below w1.heap.size w1 w2) => l07List_any d.ps pv w2 ((s4.mono hI.below).mono h) f1.lps (fun p hp => ⟨(f1.fps p hp).1, (f1.fps p hp).2.1⟩)
    obtain ⟨a4, p4, hv4⟩ := s4.form
    obtain ⟨n4, hn4⟩ : ∃ n, n = d.ps.length := ⟨_, rfl⟩
    rw [← hn4] at hv4
    subst hv4
    have hB := (hI.blk 0 rfl).lt
    have hR : validD d = (validB d.W d.H d.xs && validC d.cx d.cy && arePgs d.ps) := rfl
    have HR := hid hR
    clear hR s1 s2 s3 s4 hn4 hw1 hbe
    rcases validD_cases d with k1 | ⟨k1, k2⟩ | ⟨k1, k2⟩
    all_goals
      rw [k1] at hc1
      go_enter Try.func75, Try.ntmps75
      go_wp2_with fail
      refine hc1.mono ?_
      rintro x w2 ⟨rfl, hb2⟩
      have hB2 : b < w2.heap.size := Nat.lt_of_lt_of_le hB hb2.size
    · go_wp2
      go_ret
      exact ⟨ret_bool (by rw [HR.out, k1]; rfl), hb2⟩
    all_goals
      have hcc := hc2 _ hb2
      rw [k2] at hcc
      clear hc1 hc2
      go_wp2_with fail
      refine hcc.mono ?_
      rintro x w3 ⟨rfl, hb3⟩
      have hb13 := hb2.trans (hb3.mono hb2.size)
      have hB3 : b < w3.heap.size := Nat.lt_of_lt_of_le hB hb13.size
      clear hcc
    · go_wp2
      go_ret
      exact ⟨ret_bool (by rw [HR.out, k1, k2]; rfl), hb13⟩
    · have hcc := hc3 _ hb13
      have g5 := ((hI.call hb13).blk 0 rfl).cell 5
      have HR2 := hid (show validD d = arePgs d.ps by rw [HR.out, k1, k2]; rfl)
      clear hc3 k1 k2
      go_wp2_with fail
      refine hcc.mono ?_
      rintro x w4 ⟨rfl, hb4⟩
      have HB := hid (hb13.trans (hb4.mono hb13.size))
      clear hcc hb4 hI g5
      go_wp2
      go_ret
      exact ⟨ret_bool HR2.out.symm, HB.out⟩
  have hbl := hI.below
  clear hI s1 s2 s3 s4
  go_enter Try.func24, Try.ntmps24
  go_wp2_with fail
  rw [← hw1, ← hbe]
  clear hw1 hbe
  refine hcall.mono ?_
  rintro x w2 ⟨rfl, hb2⟩
  go_wp2
  go_ret
  exact ⟨rfl, hbl.trans (hb2.mono hbl.size)⟩

end Go.Proofs.Ytggbdmgonobefaa
