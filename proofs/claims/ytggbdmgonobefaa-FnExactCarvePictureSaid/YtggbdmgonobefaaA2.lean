import Derived.Test.YtggbdmgonobefaaA1
namespace Go.Proofs.Ytggbdmgonobefaa
open Go.RowKit
set_option linter.unusedVariables false
set_option linter.unusedSimpArgs false
attribute [local go_sem] Fl.run_fadd Fl.run_fsub Fl.run_fmul Fl.run_fquo Fl.run_wide Fl.run_store_float

def validB (W H : Int) (xs : List Nat) : Bool := inB W 1 16 && inB H 1 16 && ((xs.length : Int) == W * H) && allFin xs

theorem inB_spec {n lo hi : Int} : inB n lo hi = true ↔ lo ≤ n ∧ n ≤ hi := by simp [inB]
theorem side_mul {W H : Int} (h1 : inB W 1 16 = true) (h2 : inB H 1 16 = true) : 1 ≤ W * H ∧ W * H ≤ 256 := by
  obtain ⟨a1, a2⟩ := inB_spec.1 h1
  obtain ⟨b1, b2⟩ := inB_spec.1 h2
  have e1 : 1 * 1 ≤ W * H := Int.mul_le_mul a1 b1 (by omega) (by omega)
  have e2 : W * H ≤ 16 * 16 := Int.mul_le_mul a2 b2 (by omega) (by omega)
  omega

set_option maxHeartbeats 1000000 in
theorem ValidPicture_any (W H : Int) (xs : List Nat) (lv : Value) (w : World) (hx : Sl w lv (xs.map fv)) (hlen : xs.length ≤ 140737488351232) :
    Calls Try.prog 76 #[.agg #[.int .i64 W, .int .i64 H, lv]] w fun e w' => e = .returned (.bool (validB W H xs)) ∧ Below w.heap.size w w' := by
  obtain ⟨ad, cap, hv⟩ := hx.form
  rw [List.length_map] at hv
  obtain ⟨n, hn⟩ : ∃ n, n = xs.length := ⟨_, rfl⟩
  rw [← hn] at hv hlen
  rw [hv] at hx ⊢
  have hvb : validB W H xs = (inB W 1 16 && inB H 1 16 && ((n : Int) == W * H) && allFin xs) := by rw [validB, hn]
  have Hvb := hid hvb
  have Hn := hid hn
  clear hv hvb hn
  obtain ⟨w1, hw1⟩ : ∃ w1, w1 = w.alloc (.cells #[.int .i64 W, .int .i64 H, .slice ad n cap] 32) := ⟨_, rfl⟩
  have hb1 : Below w.heap.size w w1 := by rw [hw1]; exact (Below.refl _ _).alloc (Nat.le_refl _) _
  have hc0 : w1.cell? ⟨w.heap.size, 0, none⟩ = some (.int .i64 W) := by rw [hw1]; simp
  have hc1 : w1.cell? ⟨w.heap.size, 1, none⟩ = some (.int .i64 H) := by rw [hw1]; simp
  have hc2 : w1.cell? ⟨w.heap.size, 2, none⟩ = some (.slice ad n cap) := by rw [hw1]; simp
  have hB : w.heap.size < w1.heap.size := World.block_lt_of_cell? w1 _ hc0
  have hfin := fun w3 (h : Below w1.heap.size w1 w3) => areFinite_any xs (.slice ad n cap) w3 (((hx.mono hb1)).mono h) (by rw [← Hn.out]; exact hlen)
  have Hx := hid hx
  clear hx
  go_enter Try.func76, Try.ntmps76
  go_wp2
  rw [← hw1]
  refine Mix.wp_mix [.S, .S, .A, .S, .S, .S, .A, .S, .S, .S, .S, .A, .S, .S, .S, .S, .S, .S, .S, .S, .S, .S, .A, .S, .S] [0, 1, 2, 3, 4, 5, 6, 7, 8, 9, 10, 12, 13, 14, 15, 16, 11, 17, 18, 19, 20, 21, 22, 23, 24] (Below w1.heap.size w1) (by kernel_rfl) (by kernel_rfl) ((Below.refl _ _).drew) ?_
  have hC : Below w1.heap.size w1 w1.drew := (Below.refl _ _).drew
  generalize w1.drew = w2 at hC ⊢
  rcases (show inB W 1 16 = false ∨ (inB W 1 16 = true ∧ inB H 1 16 = false) ∨ (inB W 1 16 = true ∧ inB H 1 16 = true ∧ ((n : Int) == W * H) = false) ∨ (inB W 1 16 = true ∧ inB H 1 16 = true ∧ ((n : Int) == W * H) = true) by
    cases inB W 1 16 <;> cases inB H 1 16 <;> cases ((n : Int) == W * H) <;> simp) with h1 | ⟨h1, h2⟩ | ⟨h1, h2, h3⟩ | ⟨h1, h2, h3⟩
  all_goals try have hWH := side_mul h1 h2
  all_goals
    repeat (first | (refine Mix.sf_S rfl rfl rfl rfl rfl (Mix.valOp_spec rfl) hC ?_; apply Exists.intro; refine ⟨?_, ?_⟩; · (intro w' hC' K hK; have hk := (bcell hC').1; go_step; exact hK)) | (refine Mix.sf_skipS rfl rfl rfl rfl ?_; apply Exists.intro; refine ⟨?_, ?_⟩; · (intro K hK; go_step; exact hK)) | (refine Mix.sf_skipA rfl rfl rfl rfl ?_; apply Exists.intro; refine ⟨?_, ?_⟩; · (intro K hK; go_step; exact hK)) | (refine Mix.sf_skipL rfl rfl rfl rfl ?_ hC; apply Exists.intro; refine ⟨?_, ?_⟩; · (intro K hK; go_step; exact hK); clear hC; intro wL hC))
    refine Mix.sf_A rfl rfl rfl ?_; intro K hK; go_step
    refine (between_any _ _ _ _).mono ?_
    rintro e w' ⟨rfl, rfl⟩
    rw [h1]
    refine hK _ _ hC ?_
    clear hK K
    repeat (first | (refine Mix.sf_S rfl rfl rfl rfl rfl (Mix.valOp_spec rfl) hC ?_; apply Exists.intro; refine ⟨?_, ?_⟩; · (intro w' hC' K hK; have hk := (bcell hC').1; go_step; exact hK)) | (refine Mix.sf_skipS rfl rfl rfl rfl ?_; apply Exists.intro; refine ⟨?_, ?_⟩; · (intro K hK; go_step; exact hK)) | (refine Mix.sf_skipA rfl rfl rfl rfl ?_; apply Exists.intro; refine ⟨?_, ?_⟩; · (intro K hK; go_step; exact hK)) | (refine Mix.sf_skipL rfl rfl rfl rfl ?_ hC; apply Exists.intro; refine ⟨?_, ?_⟩; · (intro K hK; go_step; exact hK); clear hC; intro wL hC))
    try (refine Mix.sf_A rfl rfl rfl ?_; intro K hK; go_step
         refine (between_any _ _ _ _).mono ?_
         rintro e w' ⟨rfl, rfl⟩
         rw [h2]
         refine hK _ _ hC ?_
         clear hK K
         repeat (first | (refine Mix.sf_S rfl rfl rfl rfl rfl (Mix.valOp_spec rfl) hC ?_; apply Exists.intro; refine ⟨?_, ?_⟩; · (intro w' hC' K hK; have hk := (bcell hC').1; go_step; exact hK)) | (refine Mix.sf_skipS rfl rfl rfl rfl ?_; apply Exists.intro; refine ⟨?_, ?_⟩; · (intro K hK; go_step; exact hK)) | (refine Mix.sf_skipA rfl rfl rfl rfl ?_; apply Exists.intro; refine ⟨?_, ?_⟩; · (intro K hK; go_step; exact hK)) | (refine Mix.sf_skipL rfl rfl rfl rfl ?_ hC; apply Exists.intro; refine ⟨?_, ?_⟩; · (intro K hK; go_step; exact hK); clear hC; intro wL hC)))
    try (refine Mix.sf_A rfl rfl rfl ?_; intro K hK; go_step
         refine (size_any _ _ _ _).mono ?_
         rintro e w' ⟨rfl, rfl⟩
         refine hK _ _ hC ?_
         clear hK K
         repeat (first | (refine Mix.sf_S rfl rfl rfl rfl rfl (Mix.valOp_spec rfl) hC ?_; apply Exists.intro; refine ⟨?_, ?_⟩; · (intro w' hC' K hK; have hk := (bcell hC').1; go_step; exact hK)) | (refine Mix.sf_skipS rfl rfl rfl rfl ?_; apply Exists.intro; refine ⟨?_, ?_⟩; · (intro K hK; go_step; exact hK)) | (refine Mix.sf_skipA rfl rfl rfl rfl ?_; apply Exists.intro; refine ⟨?_, ?_⟩; · (intro K hK; go_step; exact hK)) | (refine Mix.sf_skipL rfl rfl rfl rfl ?_ hC; apply Exists.intro; refine ⟨?_, ?_⟩; · (intro K hK; go_step; exact hK); clear hC; intro wL hC)))
    try (refine Mix.sf_A rfl rfl rfl ?_; intro K hK; go_step
         refine (hfin _ hC).mono ?_
         rintro e w' ⟨rfl, hb3⟩
         refine hK _ _ (hC.trans (hb3.mono hC.size)) ?_
         replace hC := hC.trans (hb3.mono hC.size)
         clear hK K hb3
         repeat (first | (refine Mix.sf_S rfl rfl rfl rfl rfl (Mix.valOp_spec rfl) hC ?_; apply Exists.intro; refine ⟨?_, ?_⟩; · (intro w' hC' K hK; have hk := (bcell hC').1; go_step; exact hK)) | (refine Mix.sf_skipS rfl rfl rfl rfl ?_; apply Exists.intro; refine ⟨?_, ?_⟩; · (intro K hK; go_step; exact hK)) | (refine Mix.sf_skipA rfl rfl rfl rfl ?_; apply Exists.intro; refine ⟨?_, ?_⟩; · (intro K hK; go_step; exact hK)) | (refine Mix.sf_skipL rfl rfl rfl rfl ?_ hC; apply Exists.intro; refine ⟨?_, ?_⟩; · (intro K hK; go_step; exact hK); clear hC; intro wL hC)))
    refine Mix.sf_nil ?_
    go_wp2
    go_ret
    refine ⟨ret_bool ?_, hb1.trans (hC.mono hb1.size)⟩
    rw [Hvb.out]
    simp [*]

end Go.Proofs.Ytggbdmgonobefaa
