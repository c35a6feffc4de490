/-
  What a seam is: the program's test and the reference's.
  Conditions: the lights and the seam are rows of cells that read.
-/
import Derived.Test.YtjennldpjfeppaaL3
namespace Go.Proofs.Ytjennldpjfeppaa
open Go.RowKit
set_option linter.unusedVariables false
set_option linter.unusedSimpArgs false

def seamAt (W : Int) (s : List Int) (k : Nat) : Bool := inB (s.getD k 0) 0 (W - 1) && (k == 0 || inB (s.getD k 0 - s.getD (k - 1) 0) (-1) 1)
def seamOk (W : Int) (s : List Int) : Bool := (List.range s.length).all (seamAt W s)
def seamB (W H : Int) (xs : List Nat) (s : List Int) : Bool := validB W H xs && ((s.length : Int) == H) && seamOk W s

theorem seamOk_true {W : Int} {s : List Int} (h : ∀ k, k < s.length → seamAt W s k = true) : seamOk W s = true := by
  simpa [seamOk] using h
theorem seamOk_false {W : Int} {s : List Int} {k : Nat} (hk : k < s.length) (h : seamAt W s k = false) : seamOk W s = false := by
  rw [seamOk, List.all_eq_false]
  exact ⟨k, List.mem_range.2 hk, by simp [h]⟩
theorem validB_sides {W H : Int} {xs : List Nat} (h : validB W H xs = true) : (1 ≤ W ∧ W ≤ 16) ∧ 1 ≤ H ∧ H ≤ 16 := by
  simp only [validB, Bool.and_eq_true, inB_spec] at h
  exact ⟨h.1.1.1, h.1.1.2⟩

set_option maxHeartbeats 4000000 in
set_option maxRecDepth 100000 in
theorem l07Is_any (b o : Nat) (W H : Int) (v : Value) (xs : List Nat) (s : List Int) (sv : Value) (w : World) (hp : PicAt w b o W H v xs) (hlen : xs.length ≤ 140737488351232) (hs : Sl w sv (s.map iv)) (hslen : s.length ≤ 140737488351232) :
    Calls Try.prog 63 #[.pointer (some ⟨b, o, none⟩), sv] w fun e w' => e = .returned (.bool (seamB W H xs s)) ∧ Below w.heap.size w w' := by
  obtain ⟨ad, cap, hv⟩ := hs.form
  rw [List.length_map] at hv
  obtain ⟨n, hn⟩ : ∃ n, n = s.length := ⟨_, rfl⟩
  rw [← hn] at hv hslen
  rw [hv] at hs ⊢
  have Hn := hid hn.symm
  clear hv hn
  have hc0 := hp.c0
  have hc1 := hp.c1
  have hB := hp.lt
  have hvalid := l02Is_any b o W H v xs w hp hlen
  obtain ⟨vb, hvb⟩ : ∃ vb, vb = validB W H xs := ⟨_, rfl⟩
  have hsides := fun h : vb = true => validB_sides (hvb ▸ h)
  have hsb : seamB W H xs s = (vb && ((n : Int) == H) && seamOk W s) := by rw [seamB, hvb, Hn.out]
  rw [← hvb] at hvalid
  have Hsb := hid hsb
  clear hsb hvb hp
  cases vb
  · have hr : seamB W H xs s = false := by rw [Hsb.out]; rfl
    have Hr := hid hr
    clear hr
    go_enter Try.func63, Try.ntmps63
    go_wp2_with fail
    refine hvalid.mono ?_
    rintro e w1 ⟨rfl, hb1⟩
    go_wp2
    go_ret
    exact ⟨ret_bool Hr.out.symm, hb1⟩
  obtain ⟨⟨hW1, hW2⟩, hH1, hH2⟩ := hsides rfl
  clear hsides
  by_cases hnH : (n : Int) = H
  · have hsb : seamB W H xs s = seamOk W s := by rw [Hsb.out]; simp [hnH]
    clear Hsb
    subst hnH
    have Hsb := hid hsb
    clear hsb
    go_enter Try.func63, Try.ntmps63
    go_wp2_with fail
    refine hvalid.mono ?_
    rintro e w1 ⟨rfl, hb1⟩
    have hc0 := (hb1.cell hB).trans hc0
    have hc1 := (hb1.cell hB).trans hc1
    have hs := hs.mono hb1
    go_wp2
    go_loopw [5, 20] (fun _ i wr => ∃ k : Nat, k ≤ n ∧ i = .int .i64 k ∧ (∀ j, j < k → seamAt W s j = true) ∧ Below w1.heap.size w1 wr) (fun _ i _ => n - (intOf i).toNat)
    case atStart => exact ⟨0, Nat.zero_le _, rfl, fun j hj => absurd hj (Nat.not_lt_zero _), Below.refl _ _⟩
    case round =>
      obtain ⟨k, hk, rfl, hall, hbr⟩ := hrel
      have Hall := hid hall
      clear hall
      by_cases hlt : k < n
      · obtain ⟨ba, off, rfl, hcell, hbs⟩ := (hs.mono hbr).int Hn.out k hlt
        have hcW := (hbr.cell (Nat.lt_of_lt_of_le hB hb1.size)).trans hc0
        have hstep : ∀ v, seamAt W s k = v → (v = false → seamOk W s = false) ∧ (v = true → ∀ j, j < k + 1 → seamAt W s j = true) := by
          intro v hv
          refine ⟨fun h => seamOk_false (by rw [Hn.out]; exact hlt) (hv.trans h), fun h j hj => ?_⟩
          by_cases hjk : j = k
          · rw [hjk]; exact hv.trans h
          · exact Hall.out j (by omega)
        have hprev : ∀ m, k = m + 1 → 0 ≤ s.getD m 0 ∧ s.getD m 0 ≤ W - 1 := by
          intro m hm
          have := Hall.out m (by omega)
          simp only [seamAt, Bool.and_eq_true, inB_spec] at this
          exact this.1
        have hB' := Nat.lt_of_lt_of_le hB (Nat.le_trans hb1.size hbr.size)
        obtain ⟨x, hx⟩ : ∃ x, x = s.getD k 0 := ⟨_, rfl⟩
        rw [← hx] at hcell
        have hat : seamAt W s k = (inB x 0 (W - 1) && (k == 0 || inB (x - s.getD (k - 1) 0) (-1) 1)) := by rw [seamAt, hx]
        clear hx
        cases h1 : inB x 0 (W - 1)
        · have hz := (hstep _ hat).1 (by rw [h1]; rfl)
          have Hz := hid hz
          clear hstep hat hz hprev
          go_wp2
          refine Mix.wp_mix [.S, .S, .S, .S, .S, .S, .S, .S, .S, .A, .S, .S, .S, .S, .S, .S, .S, .S, .S, .S, .S, .S, .S, .S, .S, .S, .S, .S, .S, .S, .S, .S, .S, .S, .S, .S, .S, .S, .S, .S, .S] [0, 1, 2, 3, 4, 5, 6, 7, 8, 9, 10, 11, 12, 13, 14, 15, 16, 17, 18, 19, 20, 21, 22, 23, 24, 25, 26, 27, 28, 29, 30, 31, 32, 33, 34, 35, 36, 37, 38, 39, 40] (Below wr.heap.size wr) (by kernel_rfl) (by kernel_rfl) ((Below.refl _ _).drew) ?_
          have hC : Below wr.heap.size wr wr.drew := (Below.refl _ _).drew
          generalize wr.drew = w2 at hC ⊢
          repeat (first | (refine Mix.sf_S rfl rfl rfl rfl rfl (Mix.valOp_spec rfl) hC ?_; apply Exists.intro; refine ⟨?_, ?_⟩; · (intro w' hC' K hK; have hk := (bcell hC').1; go_step; exact hK)) | (refine Mix.sf_skipS rfl rfl rfl rfl ?_; apply Exists.intro; refine ⟨?_, ?_⟩; · (intro K hK; go_step; exact hK)) | (refine Mix.sf_skipA rfl rfl rfl rfl ?_; apply Exists.intro; refine ⟨?_, ?_⟩; · (intro K hK; go_step; exact hK)) | (refine Mix.sf_skipL rfl rfl rfl rfl ?_ hC; apply Exists.intro; refine ⟨?_, ?_⟩; · (intro K hK; go_step; exact hK); clear hC; intro wL hC))
          refine Mix.sf_A rfl rfl rfl ?_; intro K hK; go_step
          refine (l00In_any _ _ _ _).mono ?_
          rintro e w' ⟨rfl, rfl⟩
          rw [h1]
          refine hK _ _ hC ?_
          clear hK K
          repeat (first | (refine Mix.sf_S rfl rfl rfl rfl rfl (Mix.valOp_spec rfl) hC ?_; apply Exists.intro; refine ⟨?_, ?_⟩; · (intro w' hC' K hK; have hk := (bcell hC').1; go_step; exact hK)) | (refine Mix.sf_skipS rfl rfl rfl rfl ?_; apply Exists.intro; refine ⟨?_, ?_⟩; · (intro K hK; go_step; exact hK)) | (refine Mix.sf_skipA rfl rfl rfl rfl ?_; apply Exists.intro; refine ⟨?_, ?_⟩; · (intro K hK; go_step; exact hK)) | (refine Mix.sf_skipL rfl rfl rfl rfl ?_ hC; apply Exists.intro; refine ⟨?_, ?_⟩; · (intro K hK; go_step; exact hK); clear hC; intro wL hC))
          refine Mix.sf_nil ?_
          go_wp2
          go_ret
          exact ⟨ret_bool (Hsb.out.trans Hz.out).symm, hb1.trans ((hbr.trans (hC.mono hbr.size)).mono hb1.size)⟩
        · rcases Nat.eq_zero_or_eq_succ_pred k with hk0 | hk1
          · have hz := (hstep _ hat).2 (by rw [h1, hk0]; rfl)
            have Hz := hid hz
            clear hstep hat hz hprev
            subst hk0
            rw [Nat.add_zero] at hcell
            go_wp2
            refine Mix.wp_mix [.S, .S, .S, .S, .S, .S, .S, .S, .S, .A, .S, .S, .S, .S, .S, .S, .S, .S, .S, .S, .S, .S, .S, .S, .S, .S, .S, .S, .S, .S, .S, .S, .S, .S, .S, .S, .S, .S, .S, .S, .S] [0, 1, 2, 3, 4, 5, 6, 7, 8, 9, 10, 11, 12, 13, 14, 15, 16, 17, 18, 19, 20, 21, 22, 23, 24, 25, 26, 27, 28, 29, 30, 31, 32, 33, 34, 35, 36, 37, 38, 39, 40] (Below wr.heap.size wr) (by kernel_rfl) (by kernel_rfl) ((Below.refl _ _).drew) ?_
            have hC : Below wr.heap.size wr wr.drew := (Below.refl _ _).drew
            generalize wr.drew = w2 at hC ⊢
            repeat (first | (refine Mix.sf_S rfl rfl rfl rfl rfl (Mix.valOp_spec rfl) hC ?_; apply Exists.intro; refine ⟨?_, ?_⟩; · (intro w' hC' K hK; have hk := (bcell hC').1; go_step; exact hK)) | (refine Mix.sf_skipS rfl rfl rfl rfl ?_; apply Exists.intro; refine ⟨?_, ?_⟩; · (intro K hK; go_step; exact hK)) | (refine Mix.sf_skipA rfl rfl rfl rfl ?_; apply Exists.intro; refine ⟨?_, ?_⟩; · (intro K hK; go_step; exact hK)) | (refine Mix.sf_skipL rfl rfl rfl rfl ?_ hC; apply Exists.intro; refine ⟨?_, ?_⟩; · (intro K hK; go_step; exact hK); clear hC; intro wL hC))
            refine Mix.sf_A rfl rfl rfl ?_; intro K hK; go_step
            refine (l00In_any _ _ _ _).mono ?_
            rintro e w' ⟨rfl, rfl⟩
            rw [h1]
            refine hK _ _ hC ?_
            clear hK K
            repeat (first | (refine Mix.sf_S rfl rfl rfl rfl rfl (Mix.valOp_spec rfl) hC ?_; apply Exists.intro; refine ⟨?_, ?_⟩; · (intro w' hC' K hK; have hk := (bcell hC').1; go_step; exact hK)) | (refine Mix.sf_skipS rfl rfl rfl rfl ?_; apply Exists.intro; refine ⟨?_, ?_⟩; · (intro K hK; go_step; exact hK)) | (refine Mix.sf_skipA rfl rfl rfl rfl ?_; apply Exists.intro; refine ⟨?_, ?_⟩; · (intro K hK; go_step; exact hK)) | (refine Mix.sf_skipL rfl rfl rfl rfl ?_ hC; apply Exists.intro; refine ⟨?_, ?_⟩; · (intro K hK; go_step; exact hK); clear hC; intro wL hC))
            refine Mix.sf_nil ?_
            go_wp2
            go_roundw
            case rel => exact ⟨1, by omega, by go_num, Hz.out, hbr.trans (hC.mono hbr.size)⟩
            case measure => simp [intOf]; omega
          · obtain ⟨m, hm⟩ : ∃ m, m = k.pred := ⟨_, rfl⟩
            rw [← hm] at hk1
            clear hm
            subst hk1
            obtain ⟨p, hp⟩ : ∃ p, p = s.getD m 0 := ⟨_, rfl⟩
            have hp1 := hprev m rfl
            obtain ⟨ba', off', hbo, hcell', hbs'⟩ := (hs.mono hbr).int Hn.out m (by omega)
            simp only [Option.some.injEq, Addr.mk.injEq, and_true] at hbo
            obtain ⟨rfl, rfl⟩ := hbo
            rw [← hp] at hp1 hcell'
            have hat' : seamAt W s (m + 1) = inB (x - p) (-1) 1 := by rw [hat, h1, hp]; simp
            clear hat hp hprev
            have hx1 := inB_spec.1 h1
            have hkp : (0 : Int) < ((m + 1 : Nat) : Int) := by omega
            have hkm : ((m + 1 : Nat) : Int) - 1 = (m : Int) := by omega
            obtain ⟨t1, ht1⟩ : ∃ t, t = decide (p + 1 < x) := ⟨_, rfl⟩
            obtain ⟨t2, ht2⟩ : ∃ t, t = decide (x < p - 1) := ⟨_, rfl⟩
            have Ht1 := hid ht1
            have Ht2 := hid ht2
            clear ht1 ht2
            rcases (show (t1 = true ∧ inB (x - p) (-1) 1 = false) ∨ (t1 = false ∧ t2 = true ∧ inB (x - p) (-1) 1 = false) ∨ (t1 = false ∧ t2 = false ∧ inB (x - p) (-1) 1 = true) by
              rw [Ht1.out, Ht2.out]
              by_cases q1 : p + 1 < x
              · refine .inl ⟨by simp [q1], ?_⟩; simp [inB]; omega
              · by_cases q2 : x < p - 1
                · refine .inr (.inl ⟨by simp [q1], by simp [q2], ?_⟩); simp [inB]; omega
                · refine .inr (.inr ⟨by simp [q1], by simp [q2], ?_⟩); simp [inB]; omega) with ⟨rfl, g3⟩ | ⟨rfl, rfl, g3⟩ | ⟨rfl, rfl, g3⟩
            all_goals
              have hz := hstep _ hat'
              rw [g3] at hz
              have Hz := hid hz
              clear hstep hat' hz
              go_wp2
              refine Mix.wp_mix [.S, .S, .S, .S, .S, .S, .S, .S, .S, .A, .S, .S, .S, .S, .S, .S, .S, .S, .S, .S, .S, .S, .S, .S, .S, .S, .S, .S, .S, .S, .S, .S, .S, .S, .S, .S, .S, .S, .S, .S, .S] [0, 1, 2, 3, 4, 5, 6, 7, 8, 9, 10, 11, 12, 13, 14, 15, 16, 17, 18, 19, 20, 21, 22, 23, 24, 25, 26, 27, 28, 29, 30, 31, 32, 33, 34, 35, 36, 37, 38, 39, 40] (Below wr.heap.size wr) (by kernel_rfl) (by kernel_rfl) ((Below.refl _ _).drew) ?_
              have hC : Below wr.heap.size wr wr.drew := (Below.refl _ _).drew
              generalize wr.drew = w2 at hC ⊢
              have e1 := Ht1.out.symm
              have e2 := Ht2.out.symm
              repeat (first | (refine Mix.sf_S rfl rfl rfl rfl rfl (Mix.valOp_spec rfl) hC ?_; apply Exists.intro; refine ⟨?_, ?_⟩; · (intro w' hC' K hK; have hk := (bcell hC').1; go_step; exact hK)) | (refine Mix.sf_skipS rfl rfl rfl rfl ?_; apply Exists.intro; refine ⟨?_, ?_⟩; · (intro K hK; go_step; exact hK)) | (refine Mix.sf_skipA rfl rfl rfl rfl ?_; apply Exists.intro; refine ⟨?_, ?_⟩; · (intro K hK; go_step; exact hK)) | (refine Mix.sf_skipL rfl rfl rfl rfl ?_ hC; apply Exists.intro; refine ⟨?_, ?_⟩; · (intro K hK; go_step; exact hK); clear hC; intro wL hC))
              refine Mix.sf_A rfl rfl rfl ?_; intro K hK; go_step
              refine (l00In_any _ _ _ _).mono ?_
              rintro e w' ⟨rfl, rfl⟩
              rw [h1]
              refine hK _ _ hC ?_
              clear hK K
              repeat (first | (refine Mix.sf_S rfl rfl rfl rfl rfl (Mix.valOp_spec rfl) hC ?_; apply Exists.intro; refine ⟨?_, ?_⟩; · (intro w' hC' K hK; have hk := (bcell hC').1; go_step; exact hK)) | (refine Mix.sf_skipS rfl rfl rfl rfl ?_; apply Exists.intro; refine ⟨?_, ?_⟩; · (intro K hK; go_step; exact hK)) | (refine Mix.sf_skipA rfl rfl rfl rfl ?_; apply Exists.intro; refine ⟨?_, ?_⟩; · (intro K hK; go_step; exact hK)) | (refine Mix.sf_skipL rfl rfl rfl rfl ?_ hC; apply Exists.intro; refine ⟨?_, ?_⟩; · (intro K hK; go_step; exact hK); clear hC; intro wL hC))
              refine Mix.sf_nil ?_
            · go_wp2
              go_ret
              exact ⟨ret_bool (Hsb.out.trans (Hz.out.1 (by trivial))).symm, hb1.trans ((hbr.trans (hC.mono hbr.size)).mono hb1.size)⟩
            · go_wp2
              go_ret
              exact ⟨ret_bool (Hsb.out.trans (Hz.out.1 (by trivial))).symm, hb1.trans ((hbr.trans (hC.mono hbr.size)).mono hb1.size)⟩
            · go_wp2
              go_roundw
              case rel => exact ⟨m + 1 + 1, by omega, by go_num, Hz.out.2 (by trivial), hbr.trans (hC.mono hbr.size)⟩
              case measure => simp [intOf]; omega
      · have hke : k = n := by omega
        have hz : seamOk W s = true := seamOk_true fun j hj => Hall.out j (by rw [hke, ← Hn.out]; exact hj)
        have Hz := hid hz
        clear hz
        go_wp2
        go_ret
        exact ⟨ret_bool (Hsb.out.trans Hz.out).symm, hb1.trans (hbr.mono hb1.size)⟩
  · have hr : seamB W H xs s = false := by rw [Hsb.out]; simp [hnH]
    have Hr := hid hr
    clear hr Hsb
    have hne : ((n : Int) == H) = false := by simp [hnH]
    go_enter Try.func63, Try.ntmps63
    go_wp2_with fail
    refine hvalid.mono ?_
    rintro e w1 ⟨rfl, hb1⟩
    have hc0 := (hb1.cell hB).trans hc0
    have hc1 := (hb1.cell hB).trans hc1
    go_wp2
    go_ret
    exact ⟨ret_bool Hr.out.symm, hb1⟩

end Go.Proofs.Ytjennldpjfeppaa
