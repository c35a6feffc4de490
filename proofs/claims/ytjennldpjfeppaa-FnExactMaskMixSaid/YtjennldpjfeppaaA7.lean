/-
  What a seam is: the program's test, and the reference's over a picture by value.
  Conditions: the lights and the seam are rows of cells that read.
-/
import Derived.Test.YtjennldpjfeppaaA6
namespace Go.Proofs.Ytjennldpjfeppaa
open Go.RowKit
set_option linter.unusedVariables false
set_option linter.unusedSimpArgs false

set_option maxHeartbeats 1000000 in
theorem specIsSeam_any (W H : Int) (v : Value) (xs : List Nat) (s : List Int) (sv : Value) (w : World) (hx : Sl w v (xs.map fv)) (hlen : xs.length ≤ 140737488351232) (hs : Sl w sv (s.map iv)) (hslen : s.length ≤ 140737488351232) :
    Calls Try.prog 21 #[.agg #[.int .i64 W, .int .i64 H, v], sv] w fun e w' => e = .returned (.bool (seamB W H xs s)) ∧ Below w.heap.size w w' := by
  have hcall := l07Is_any w.heap.size 0 W H v xs s sv (w.alloc (.cells #[.int .i64 W, .int .i64 H, v] 24)) (PicAt.box w W H v xs 24 hx) hlen (hs.alloc _) hslen
  clear hx hs
  go_enter Try.func21, Try.ntmps21
  go_wp2_with fail
  refine hcall.mono ?_
  rintro e w1 ⟨rfl, hb1⟩
  go_wp2
  go_ret
  exact ⟨rfl, ((Below.refl _ _).alloc (Nat.le_refl _) _).trans (hb1.mono (by simp))⟩

set_option maxHeartbeats 4000000 in
set_option maxRecDepth 100000 in
theorem implIsSeam_any (W H : Int) (v : Value) (xs : List Nat) (s : List Int) (sv : Value) (w : World) (hx : Sl w v (xs.map fv)) (hlen : xs.length ≤ 140737488351232) (hs : Sl w sv (s.map iv)) (hslen : s.length ≤ 140737488351232) :
    Calls Try.prog 24 #[.agg #[.int .i64 W, .int .i64 H, v], sv] w fun e w' => e = .returned (.bool (seamB W H xs s)) ∧ Below w.heap.size w w' := by
  obtain ⟨ad, cap, hv⟩ := hs.form
  rw [List.length_map] at hv
  obtain ⟨n, hn⟩ : ∃ n, n = s.length := ⟨_, rfl⟩
  rw [← hn] at hv hslen
  rw [hv] at hs ⊢
  have Hn := hid hn.symm
  clear hv hn
  obtain ⟨w1, hw1⟩ : ∃ w1, w1 = w.alloc (.cells #[.int .i64 W, .int .i64 H, v] 24) := ⟨_, rfl⟩
  obtain ⟨b, hbe⟩ : ∃ b, b = w.heap.size := ⟨_, rfl⟩
  have hp : PicAt w1 b 0 W H v xs := by rw [hw1, hbe]; exact PicAt.box w W H v xs _ hx
  have hb1 : Below w.heap.size w w1 := by rw [hw1]; exact (Below.refl _ _).alloc (Nat.le_refl _) _
  have hc0 := hp.c0
  have hc1 := hp.c1
  have hc2 := hp.c2
  have hB := hp.lt
  have hvalid := fun w3 (h : Below w1.heap.size w1 w3) => ValidPicture_any W H xs v w3 (hp.sl.mono h) hlen
  replace hs := hs.mono hb1
  obtain ⟨vb, hvb⟩ : ∃ vb, vb = validB W H xs := ⟨_, rfl⟩
  have hsides := fun h : vb = true => validB_sides (hvb ▸ h)
  have hsb : seamB W H xs s = (vb && ((n : Int) == H) && seamOk W s) := by rw [seamB, hvb, Hn.out]
  rw [← hvb] at hvalid
  have Hsb := hid hsb
  clear hsb hvb hp hx
  go_enter Try.func24, Try.ntmps24
  go_wp2
  rw [← hw1, ← hbe]
  have Hw1 := hid hw1
  have Hbe := hid hbe
  clear hw1 hbe
  refine Mix.wp_mix [.S, .A, .S, .S, .S, .A, .S, .S, .S, .S] [0, 1, 2, 3, 4, 6, 7, 5, 8, 9] (Below w1.heap.size w1) (by kernel_rfl) (by kernel_rfl) ((Below.refl _ _).drew) ?_
  have hC : Below w1.heap.size w1 w1.drew := (Below.refl _ _).drew
  generalize w1.drew = w2 at hC ⊢
  rcases (show vb = false ∨ (vb = true ∧ ¬ ((n : Int) = H)) ∨ (vb = true ∧ (n : Int) = H) by
    cases vb
    · exact .inl rfl
    · by_cases h : (n : Int) = H
      · exact .inr (.inr ⟨rfl, h⟩)
      · exact .inr (.inl ⟨rfl, h⟩)) with h1 | ⟨h1, h2⟩ | ⟨h1, h2⟩
  · subst h1
    have hr : seamB W H xs s = false := by rw [Hsb.out]; rfl
    have Hr := hid hr
    clear hr
    repeat (first | (refine Mix.sf_S rfl rfl rfl rfl rfl (Mix.valOp_spec rfl) hC ?_; apply Exists.intro; refine ⟨?_, ?_⟩; · (intro w' hC' K hK; have hk := (bcell hC').1; go_step; exact hK)) | (refine Mix.sf_skipS rfl rfl rfl rfl ?_; apply Exists.intro; refine ⟨?_, ?_⟩; · (intro K hK; go_step; exact hK)) | (refine Mix.sf_skipA rfl rfl rfl rfl ?_; apply Exists.intro; refine ⟨?_, ?_⟩; · (intro K hK; go_step; exact hK)) | (refine Mix.sf_skipL rfl rfl rfl rfl ?_ hC; apply Exists.intro; refine ⟨?_, ?_⟩; · (intro K hK; go_step; exact hK); clear hC; intro wL hC))
    refine Mix.sf_A rfl rfl rfl ?_; intro K hK; go_step
    refine (hvalid _ hC).mono ?_
    rintro e w' ⟨rfl, hb3⟩
    refine hK _ _ (hC.trans (hb3.mono hC.size)) ?_
    replace hC := hC.trans (hb3.mono hC.size)
    clear hK K hb3
    repeat (first | (refine Mix.sf_S rfl rfl rfl rfl rfl (Mix.valOp_spec rfl) hC ?_; apply Exists.intro; refine ⟨?_, ?_⟩; · (intro w' hC' K hK; have hk := (bcell hC').1; go_step; exact hK)) | (refine Mix.sf_skipS rfl rfl rfl rfl ?_; apply Exists.intro; refine ⟨?_, ?_⟩; · (intro K hK; go_step; exact hK)) | (refine Mix.sf_skipA rfl rfl rfl rfl ?_; apply Exists.intro; refine ⟨?_, ?_⟩; · (intro K hK; go_step; exact hK)) | (refine Mix.sf_skipL rfl rfl rfl rfl ?_ hC; apply Exists.intro; refine ⟨?_, ?_⟩; · (intro K hK; go_step; exact hK); clear hC; intro wL hC))
    refine Mix.sf_nil ?_
    go_wp2
    go_ret
    exact ⟨ret_bool Hr.out.symm, hb1.trans (hC.mono hb1.size)⟩
  · subst h1
    have hr : seamB W H xs s = false := by rw [Hsb.out]; simp [h2]
    have Hr := hid hr
    have hne : ((n : Int) == H) = false := by simp [h2]
    clear hr h2
    repeat (first | (refine Mix.sf_S rfl rfl rfl rfl rfl (Mix.valOp_spec rfl) hC ?_; apply Exists.intro; refine ⟨?_, ?_⟩; · (intro w' hC' K hK; have hk := (bcell hC').1; go_step; exact hK)) | (refine Mix.sf_skipS rfl rfl rfl rfl ?_; apply Exists.intro; refine ⟨?_, ?_⟩; · (intro K hK; go_step; exact hK)) | (refine Mix.sf_skipA rfl rfl rfl rfl ?_; apply Exists.intro; refine ⟨?_, ?_⟩; · (intro K hK; go_step; exact hK)) | (refine Mix.sf_skipL rfl rfl rfl rfl ?_ hC; apply Exists.intro; refine ⟨?_, ?_⟩; · (intro K hK; go_step; exact hK); clear hC; intro wL hC))
    refine Mix.sf_A rfl rfl rfl ?_; intro K hK; go_step
    refine (hvalid _ hC).mono ?_
    rintro e w' ⟨rfl, hb3⟩
    refine hK _ _ (hC.trans (hb3.mono hC.size)) ?_
    replace hC := hC.trans (hb3.mono hC.size)
    clear hK K hb3
    repeat (first | (refine Mix.sf_S rfl rfl rfl rfl rfl (Mix.valOp_spec rfl) hC ?_; apply Exists.intro; refine ⟨?_, ?_⟩; · (intro w' hC' K hK; have hk := (bcell hC').1; go_step; exact hK)) | (refine Mix.sf_skipS rfl rfl rfl rfl ?_; apply Exists.intro; refine ⟨?_, ?_⟩; · (intro K hK; go_step; exact hK)) | (refine Mix.sf_skipA rfl rfl rfl rfl ?_; apply Exists.intro; refine ⟨?_, ?_⟩; · (intro K hK; go_step; exact hK)) | (refine Mix.sf_skipL rfl rfl rfl rfl ?_ hC; apply Exists.intro; refine ⟨?_, ?_⟩; · (intro K hK; go_step; exact hK); clear hC; intro wL hC))
    refine Mix.sf_A rfl rfl rfl ?_; intro K hK; go_step
    refine (sizeI_any _ _ _ _).mono ?_
    rintro e w' ⟨rfl, rfl⟩
    refine hK _ _ hC ?_
    clear hK K
    repeat (first | (refine Mix.sf_S rfl rfl rfl rfl rfl (Mix.valOp_spec rfl) hC ?_; apply Exists.intro; refine ⟨?_, ?_⟩; · (intro w' hC' K hK; have hk := (bcell hC').1; go_step; exact hK)) | (refine Mix.sf_skipS rfl rfl rfl rfl ?_; apply Exists.intro; refine ⟨?_, ?_⟩; · (intro K hK; go_step; exact hK)) | (refine Mix.sf_skipA rfl rfl rfl rfl ?_; apply Exists.intro; refine ⟨?_, ?_⟩; · (intro K hK; go_step; exact hK)) | (refine Mix.sf_skipL rfl rfl rfl rfl ?_ hC; apply Exists.intro; refine ⟨?_, ?_⟩; · (intro K hK; go_step; exact hK); clear hC; intro wL hC))
    refine Mix.sf_nil ?_
    go_wp2
    go_ret
    exact ⟨ret_bool Hr.out.symm, hb1.trans (hC.mono hb1.size)⟩
  · subst h1
    obtain ⟨⟨hW1, hW2⟩, hH1, hH2⟩ := hsides rfl
    clear hsides
    have hsb : seamB W H xs s = seamOk W s := by rw [Hsb.out]; simp [h2]
    clear Hsb
    have Hsb := hid hsb
    clear hsb
    subst h2
    repeat (first | (refine Mix.sf_S rfl rfl rfl rfl rfl (Mix.valOp_spec rfl) hC ?_; apply Exists.intro; refine ⟨?_, ?_⟩; · (intro w' hC' K hK; have hk := (bcell hC').1; go_step; exact hK)) | (refine Mix.sf_skipS rfl rfl rfl rfl ?_; apply Exists.intro; refine ⟨?_, ?_⟩; · (intro K hK; go_step; exact hK)) | (refine Mix.sf_skipA rfl rfl rfl rfl ?_; apply Exists.intro; refine ⟨?_, ?_⟩; · (intro K hK; go_step; exact hK)) | (refine Mix.sf_skipL rfl rfl rfl rfl ?_ hC; apply Exists.intro; refine ⟨?_, ?_⟩; · (intro K hK; go_step; exact hK); clear hC; intro wL hC))
    refine Mix.sf_A rfl rfl rfl ?_; intro K hK; go_step
    refine (hvalid _ hC).mono ?_
    rintro e w5 ⟨rfl, hb3⟩
    refine hK _ _ (hC.trans (hb3.mono hC.size)) ?_
    replace hC := hC.trans (hb3.mono hC.size)
    clear hK K hb3
    repeat (first | (refine Mix.sf_S rfl rfl rfl rfl rfl (Mix.valOp_spec rfl) hC ?_; apply Exists.intro; refine ⟨?_, ?_⟩; · (intro w' hC' K hK; have hk := (bcell hC').1; go_step; exact hK)) | (refine Mix.sf_skipS rfl rfl rfl rfl ?_; apply Exists.intro; refine ⟨?_, ?_⟩; · (intro K hK; go_step; exact hK)) | (refine Mix.sf_skipA rfl rfl rfl rfl ?_; apply Exists.intro; refine ⟨?_, ?_⟩; · (intro K hK; go_step; exact hK)) | (refine Mix.sf_skipL rfl rfl rfl rfl ?_ hC; apply Exists.intro; refine ⟨?_, ?_⟩; · (intro K hK; go_step; exact hK); clear hC; intro wL hC))
    refine Mix.sf_A rfl rfl rfl ?_; intro K hK; go_step
    refine (sizeI_any _ _ _ _).mono ?_
    rintro e w' ⟨rfl, rfl⟩
    refine hK _ _ hC ?_
    clear hK K
    repeat (first | (refine Mix.sf_S rfl rfl rfl rfl rfl (Mix.valOp_spec rfl) hC ?_; apply Exists.intro; refine ⟨?_, ?_⟩; · (intro w' hC' K hK; have hk := (bcell hC').1; go_step; exact hK)) | (refine Mix.sf_skipS rfl rfl rfl rfl ?_; apply Exists.intro; refine ⟨?_, ?_⟩; · (intro K hK; go_step; exact hK)) | (refine Mix.sf_skipA rfl rfl rfl rfl ?_; apply Exists.intro; refine ⟨?_, ?_⟩; · (intro K hK; go_step; exact hK)) | (refine Mix.sf_skipL rfl rfl rfl rfl ?_ hC; apply Exists.intro; refine ⟨?_, ?_⟩; · (intro K hK; go_step; exact hK); clear hC; intro wL hC))
    refine Mix.sf_nil ?_
    replace hc0 := (hC.cell hB).trans hc0
    replace hs := hs.mono hC
    replace hB := Nat.lt_of_lt_of_le hB hC.size
    replace hb1 := hb1.trans (hC.mono hb1.size)
    clear hC hc1 hc2 hvalid
    clear Hw1
    go_wp2
    go_loopw [5, 6, 19] (fun _ _ i wr => ∃ k : Nat, k ≤ n ∧ i = .int .i64 k ∧ (∀ j, j < k → seamAt W s j = true) ∧ Below w5.heap.size w5 wr) (fun _ _ i _ => n - (intOf i).toNat)
    case atStart => exact ⟨0, Nat.zero_le _, rfl, fun j hj => absurd hj (Nat.not_lt_zero _), Below.refl _ _⟩
    case round =>
      obtain ⟨k, hk, rfl, hall, hbr⟩ := hrel
      have Hall := hid hall
      clear hall
      by_cases hlt : k < n
      · obtain ⟨ba, off, rfl, hcell, hbs⟩ := (hs.mono hbr).int Hn.out k hlt
        have hcW := (hbr.cell hB).trans hc0
        have hstep : ∀ v, seamAt W s k = v → (v = false → seamOk W s = false) ∧ (v = true → ∀ j, j < k + 1 → seamAt W s j = true) := by
          intro v hv
          refine ⟨fun h => seamOk_false (by rw [Hn.out]; exact hlt) (hv.trans h), fun h j hj => ?_⟩
          by_cases hjk : j = k
          · rw [hjk]; exact hv.trans h
          · exact Hall.out j (by omega)
        have hprev : ∀ m, k = m + 1 → 0 ≤ s.getD m 0 ∧ s.getD m 0 ≤ W - 1 := by
          intro m hm
          have := Hall.out m (by omega)
          simp only [seamAt, Bool.and_eq_true, inB_spec] at this
          exact this.1
        have hB' := Nat.lt_of_lt_of_le hB hbr.size
        obtain ⟨x, hx⟩ : ∃ x, x = s.getD k 0 := ⟨_, rfl⟩
        rw [← hx] at hcell
        have hat : seamAt W s k = (inB x 0 (W - 1) && (k == 0 || inB (x - s.getD (k - 1) 0) (-1) 1)) := by rw [seamAt, hx]
        clear hx
        cases h1 : inB x 0 (W - 1)
        · have hz := (hstep _ hat).1 (by rw [h1]; rfl)
          have Hz := hid hz
          clear hstep hat hz hprev
          go_wp2_with fail
          refine (between_any _ _ _ _).mono ?_
          rintro e w' ⟨rfl, rfl⟩
          rw [h1]
          go_wp2
          go_ret
          exact ⟨ret_bool (Hsb.out.trans Hz.out).symm, hb1.trans (hbr.mono hb1.size)⟩
        · rcases Nat.eq_zero_or_eq_succ_pred k with hk0 | hk1
          · have hz := (hstep _ hat).2 (by rw [h1, hk0]; rfl)
            have Hz := hid hz
            clear hstep hat hz hprev
            subst hk0
            rw [Nat.add_zero] at hcell
            go_wp2_with fail
            refine (between_any _ _ _ _).mono ?_
            rintro e w' ⟨rfl, rfl⟩
            rw [h1]
            go_wp2
            go_roundw
            case rel => exact ⟨1, by omega, by go_num, Hz.out, hbr⟩
            case measure => simp [intOf]; omega
          · obtain ⟨m, hm⟩ : ∃ m, m = k.pred := ⟨_, rfl⟩
            rw [← hm] at hk1
            clear hm
            subst hk1
            obtain ⟨p, hp⟩ : ∃ p, p = s.getD m 0 := ⟨_, rfl⟩
            have hp1 := hprev m rfl
            obtain ⟨ba', off', hbo, hcell', hbs'⟩ := (hs.mono hbr).int Hn.out m (by omega)
            simp only [Option.some.injEq, Addr.mk.injEq, and_true] at hbo
            obtain ⟨rfl, rfl⟩ := hbo
            rw [← hp] at hp1 hcell'
            have hat' : seamAt W s (m + 1) = inB (x - p) (-1) 1 := by rw [hat, h1, hp]; simp
            clear hat hp hprev
            have hx1 := inB_spec.1 h1
            have hkp : (0 : Int) < ((m + 1 : Nat) : Int) := by omega
            have hkm : ((m + 1 : Nat) : Int) - 1 = (m : Int) := by omega
            cases g3 : inB (x - p) (-1) 1
            all_goals
              have hz := hstep _ hat'
              rw [g3] at hz
              have Hz := hid hz
              clear hstep hat' hz
              go_wp2_with fail
              refine (between_any _ _ _ _).mono ?_
              rintro e w' ⟨rfl, rfl⟩
              rw [h1]
              go_wp2_with fail
              refine (between_any _ _ _ _).mono ?_
              rintro e w' ⟨rfl, rfl⟩
              rw [g3]
            · go_wp2
              go_ret
              exact ⟨ret_bool (Hsb.out.trans (Hz.out.1 (by trivial))).symm, hb1.trans (hbr.mono hb1.size)⟩
            · go_wp2
              go_roundw
              case rel => exact ⟨m + 1 + 1, by omega, by go_num, Hz.out.2 (by trivial), hbr⟩
              case measure => simp [intOf]; omega
      · have hke : k = n := by omega
        have hz : seamOk W s = true := seamOk_true fun j hj => Hall.out j (by rw [hke, ← Hn.out]; exact hj)
        have Hz := hid hz
        clear hz
        go_wp2
        go_ret
        exact ⟨ret_bool (Hsb.out.trans Hz.out).symm, hb1.trans (hbr.mono hb1.size)⟩

end Go.Proofs.Ytjennldpjfeppaa
