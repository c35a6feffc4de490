/-
  Whether two pictures meet: the program's test and the reference's.
  Conditions: the lights are rows of cells that read.
-/
import Derived.Test.YtggbdmgonobefaaA9
namespace Go.Proofs.Ytggbdmgonobefaa
open Go.RowKit
set_option linter.unusedVariables false
set_option linter.unusedSimpArgs false

def meetsB (W1 H1 : Int) (x1 : List Nat) (W2 H2 : Int) (x2 : List Nat) (over : Int) : Bool := validB W1 H1 x1 && validB W2 H2 x2 && (H1 == H2) && inB over 1 (min W1 W2)

set_option maxHeartbeats 400000 in
theorem l00Min_any (a b : Int) (w : World) :
    Calls Try.prog 157 #[.int .i64 a, .int .i64 b] w fun e w' => e = .returned (.int .i64 (min a b)) ∧ w = w' := by
  by_cases h : a < b
  · have hm : min a b = a := by omega
    rw [hm]
    clear hm
    go_enter Try.func157, Try.ntmps157
    go_wp2
    go_ret
    exact ⟨rfl, rfl⟩
  · have hm : min a b = b := by omega
    rw [hm]
    clear hm
    go_enter Try.func157, Try.ntmps157
    go_wp2
    go_ret
    exact ⟨rfl, rfl⟩

set_option maxHeartbeats 2000000 in
set_option maxRecDepth 100000 in
theorem l07Meets_any (b1 o1 : Nat) (W1 H1 : Int) (v1 : Value) (x1 : List Nat) (b2 o2 : Nat) (W2 H2 : Int) (v2 : Value) (x2 : List Nat) (over : Int) (w : World) (hp1 : PicAt w b1 o1 W1 H1 v1 x1) (hp2 : PicAt w b2 o2 W2 H2 v2 x2)
    (hl1 : x1.length ≤ 140737488351232) (hl2 : x2.length ≤ 140737488351232) :
    Calls Try.prog 92 #[.pointer (some ⟨b1, o1, none⟩), .pointer (some ⟨b2, o2, none⟩), .int .i64 over] w fun e w' => e = .returned (.bool (meetsB W1 H1 x1 W2 H2 x2 over)) ∧ Below w.heap.size w w' := by
  have c0 := hp1.c0
  have c1 := hp1.c1
  have hB1 := hp1.lt
  have d0 := hp2.c0
  have d1 := hp2.c1
  have hB2 := hp2.lt
  have hcall1 := fun w3 (h : Below w.heap.size w w3) => l02Is_any b1 o1 W1 H1 v1 x1 w3 (hp1.mono h) hl1
  have hcall2 := fun w3 (h : Below w.heap.size w w3) => l02Is_any b2 o2 W2 H2 v2 x2 w3 (hp2.mono h) hl2
  have hm : meetsB W1 H1 x1 W2 H2 x2 over = (validB W1 H1 x1 && validB W2 H2 x2 && (H1 == H2) && inB over 1 (min W1 W2)) := rfl
  have Hm := hid hm
  clear hp1 hp2 hm
  go_enter Try.func92, Try.ntmps92
  go_wp2
  refine Mix.wp_mix [.S, .A, .S, .S, .A, .S, .S, .S, .S, .S, .S, .S, .S, .S, .S, .S, .S, .S, .S, .S, .S, .S, .S, .S, .S, .S, .S, .A, .A, .S, .S] [0, 1, 2, 3, 4, 5, 6, 7, 8, 9, 10, 11, 12, 13, 14, 15, 16, 17, 18, 19, 20, 21, 22, 23, 24, 25, 26, 27, 28, 29, 30] (Below w.heap.size w) (by kernel_rfl) (by kernel_rfl) ((Below.refl _ _).drew) ?_
  have hC : Below w.heap.size w w.drew := (Below.refl _ _).drew
  generalize w.drew = w2 at hC ⊢
  rcases (show validB W1 H1 x1 = false ∨ (validB W1 H1 x1 = true ∧ validB W2 H2 x2 = false) ∨ (validB W1 H1 x1 = true ∧ validB W2 H2 x2 = true ∧ (H1 == H2) = false) ∨ (validB W1 H1 x1 = true ∧ validB W2 H2 x2 = true ∧ (H1 == H2) = true) by
    cases validB W1 H1 x1 <;> cases validB W2 H2 x2 <;> cases (H1 == H2) <;> simp) with h1 | ⟨h1, h2⟩ | ⟨h1, h2, h3⟩ | ⟨h1, h2, h3⟩
  all_goals
    repeat (first | (refine Mix.sf_S rfl rfl rfl rfl rfl (Mix.valOp_spec rfl) hC ?_; apply Exists.intro; refine ⟨?_, ?_⟩; · (intro w' hC' K hK; have hk := (bcell hC').1; go_step; exact hK)) | (refine Mix.sf_skipS rfl rfl rfl rfl ?_; apply Exists.intro; refine ⟨?_, ?_⟩; · (intro K hK; go_step; exact hK)) | (refine Mix.sf_skipA rfl rfl rfl rfl ?_; apply Exists.intro; refine ⟨?_, ?_⟩; · (intro K hK; go_step; exact hK)) | (refine Mix.sf_skipL rfl rfl rfl rfl ?_ hC; apply Exists.intro; refine ⟨?_, ?_⟩; · (intro K hK; go_step; exact hK); clear hC; intro wL hC))
    refine Mix.sf_A rfl rfl rfl ?_; intro K hK; go_step
    refine (hcall1 _ hC).mono ?_
    rintro e w' ⟨rfl, hb3⟩
    rw [h1]
    refine hK _ _ (hC.trans (hb3.mono hC.size)) ?_
    replace hC := hC.trans (hb3.mono hC.size)
    clear hK K hb3
    repeat (first | (refine Mix.sf_S rfl rfl rfl rfl rfl (Mix.valOp_spec rfl) hC ?_; apply Exists.intro; refine ⟨?_, ?_⟩; · (intro w' hC' K hK; have hk := (bcell hC').1; go_step; exact hK)) | (refine Mix.sf_skipS rfl rfl rfl rfl ?_; apply Exists.intro; refine ⟨?_, ?_⟩; · (intro K hK; go_step; exact hK)) | (refine Mix.sf_skipA rfl rfl rfl rfl ?_; apply Exists.intro; refine ⟨?_, ?_⟩; · (intro K hK; go_step; exact hK)) | (refine Mix.sf_skipL rfl rfl rfl rfl ?_ hC; apply Exists.intro; refine ⟨?_, ?_⟩; · (intro K hK; go_step; exact hK); clear hC; intro wL hC))
    try (refine Mix.sf_A rfl rfl rfl ?_; intro K hK; go_step
         refine (hcall2 _ hC).mono ?_
         rintro e w' ⟨rfl, hb3⟩
         rw [h2]
         refine hK _ _ (hC.trans (hb3.mono hC.size)) ?_
         replace hC := hC.trans (hb3.mono hC.size)
         clear hK K hb3
         repeat (first | (refine Mix.sf_S rfl rfl rfl rfl rfl (Mix.valOp_spec rfl) hC ?_; apply Exists.intro; refine ⟨?_, ?_⟩; · (intro w' hC' K hK; have hk := (bcell hC').1; go_step; exact hK)) | (refine Mix.sf_skipS rfl rfl rfl rfl ?_; apply Exists.intro; refine ⟨?_, ?_⟩; · (intro K hK; go_step; exact hK)) | (refine Mix.sf_skipA rfl rfl rfl rfl ?_; apply Exists.intro; refine ⟨?_, ?_⟩; · (intro K hK; go_step; exact hK)) | (refine Mix.sf_skipL rfl rfl rfl rfl ?_ hC; apply Exists.intro; refine ⟨?_, ?_⟩; · (intro K hK; go_step; exact hK); clear hC; intro wL hC)))
    try (refine Mix.sf_A rfl rfl rfl ?_; intro K hK; go_step
         refine (l00Min_any _ _ _).mono ?_
         rintro e w' ⟨rfl, rfl⟩
         refine hK _ _ hC ?_
         clear hK K
         repeat (first | (refine Mix.sf_S rfl rfl rfl rfl rfl (Mix.valOp_spec rfl) hC ?_; apply Exists.intro; refine ⟨?_, ?_⟩; · (intro w' hC' K hK; have hk := (bcell hC').1; go_step; exact hK)) | (refine Mix.sf_skipS rfl rfl rfl rfl ?_; apply Exists.intro; refine ⟨?_, ?_⟩; · (intro K hK; go_step; exact hK)) | (refine Mix.sf_skipA rfl rfl rfl rfl ?_; apply Exists.intro; refine ⟨?_, ?_⟩; · (intro K hK; go_step; exact hK)) | (refine Mix.sf_skipL rfl rfl rfl rfl ?_ hC; apply Exists.intro; refine ⟨?_, ?_⟩; · (intro K hK; go_step; exact hK); clear hC; intro wL hC))
         refine Mix.sf_A rfl rfl rfl ?_; intro K hK; go_step
         refine (l00In_any _ _ _ _).mono ?_
         rintro e w' ⟨rfl, rfl⟩
         refine hK _ _ hC ?_
         clear hK K
         repeat (first | (refine Mix.sf_S rfl rfl rfl rfl rfl (Mix.valOp_spec rfl) hC ?_; apply Exists.intro; refine ⟨?_, ?_⟩; · (intro w' hC' K hK; have hk := (bcell hC').1; go_step; exact hK)) | (refine Mix.sf_skipS rfl rfl rfl rfl ?_; apply Exists.intro; refine ⟨?_, ?_⟩; · (intro K hK; go_step; exact hK)) | (refine Mix.sf_skipA rfl rfl rfl rfl ?_; apply Exists.intro; refine ⟨?_, ?_⟩; · (intro K hK; go_step; exact hK)) | (refine Mix.sf_skipL rfl rfl rfl rfl ?_ hC; apply Exists.intro; refine ⟨?_, ?_⟩; · (intro K hK; go_step; exact hK); clear hC; intro wL hC)))
    refine Mix.sf_nil ?_
    go_wp2
    go_ret
    refine ⟨ret_bool ?_, hC⟩
    rw [Hm.out]
    simp [*]

set_option maxHeartbeats 2000000 in
set_option maxRecDepth 100000 in
theorem isOver_any (W1 H1 : Int) (v1 : Value) (x1 : List Nat) (W2 H2 : Int) (v2 : Value) (x2 : List Nat) (over : Int) (w : World) (hx1 : Sl w v1 (x1.map fv)) (hx2 : Sl w v2 (x2.map fv))
    (hl1 : x1.length ≤ 140737488351232) (hl2 : x2.length ≤ 140737488351232) :
    Calls Try.prog 94 #[.agg #[.int .i64 W1, .int .i64 H1, v1], .agg #[.int .i64 W2, .int .i64 H2, v2], .int .i64 over] w fun e w' => e = .returned (.bool (meetsB W1 H1 x1 W2 H2 x2 over)) ∧ Below w.heap.size w w' := by
  obtain ⟨w1, hw1⟩ : ∃ w1, w1 = (w.alloc (.cells #[.int .i64 W1, .int .i64 H1, v1] 32)).alloc (.cells #[.int .i64 W2, .int .i64 H2, v2] 32) := ⟨_, rfl⟩
  have hb1 : Below w.heap.size w w1 := by rw [hw1]; exact ((Below.refl _ _).alloc (Nat.le_refl _) _).alloc (by simp) _
  obtain ⟨b1, hb1e⟩ : ∃ b, b = w.heap.size := ⟨_, rfl⟩
  have k1 : Blk w1 b1 [.int .i64 W1, .int .i64 H1, v1] 32 := by rw [hw1, hb1e]; exact (Blk.new w _ _).alloc _
  have k2 : Blk w1 (b1 + 1) [.int .i64 W2, .int .i64 H2, v2] 32 := by
    rw [hw1, hb1e]
    have := Blk.new (w.alloc (.cells #[.int .i64 W1, .int .i64 H1, v1] 32)) [.int .i64 W2, .int .i64 H2, v2] 32
    simpa using this
  have hm : meetsB W1 H1 x1 W2 H2 x2 over = (validB W1 H1 x1 && validB W2 H2 x2 && (H1 == H2) && inB over 1 (min W1 W2)) := rfl
  have Hm := hid hm
  have hcall1 := fun w3 (h : Below w1.heap.size w1 w3) => ValidPicture_any W1 H1 x1 v1 w3 ((hx1.mono hb1).mono h) hl1
  have hcall2 := fun w3 (h : Below w1.heap.size w1 w3) => ValidPicture_any W2 H2 x2 v2 w3 ((hx2.mono hb1).mono h) hl2
  clear hx1 hx2 hm
  go_enter Try.func94, Try.ntmps94
  go_wp2_with fail
  rw [← hw1, ← hb1e]
  clear hw1 hb1e
  refine (hcall1 _ (Below.refl _ _)).mono ?_
  rintro e w2 ⟨rfl, hb⟩
  replace k1 := k1.below hb k1.lt
  replace k2 := k2.below hb k2.lt
  have hC : Below w1.heap.size w1 w2 := hb
  clear hb
  have r0 := k1.cell 0
  have r1 := k1.cell 1
  have q0 := k2.cell 0
  have q1 := k2.cell 1
  have q2 := k2.cell 2
  rcases (show validB W1 H1 x1 = false ∨ (validB W1 H1 x1 = true ∧ validB W2 H2 x2 = false) ∨ (validB W1 H1 x1 = true ∧ validB W2 H2 x2 = true) by
    cases validB W1 H1 x1 <;> cases validB W2 H2 x2 <;> simp) with h1 | ⟨h1, h2⟩ | ⟨h1, h2⟩
  · rw [h1]
    go_wp2
    go_ret
    exact ⟨ret_bool (by rw [Hm.out]; simp [h1]), hb1.trans (hC.mono hb1.size)⟩
  · rw [h1]
    go_wp2_with fail
    refine (hcall2 _ hC).mono ?_
    rintro e w3 ⟨rfl, hb⟩
    rw [h2]
    go_wp2
    go_ret
    exact ⟨ret_bool (by rw [Hm.out]; simp [h1, h2]), hb1.trans ((hC.trans (hb.mono hC.size)).mono hb1.size)⟩
  · rw [h1]
    go_wp2_with fail
    refine (hcall2 _ hC).mono ?_
    rintro e w3 ⟨rfl, hb⟩
    clear r0 r1 q0 q1 q2
    replace k1 := k1.below hb k1.lt
    replace k2 := k2.below hb k2.lt
    replace hC := hC.trans (hb.mono hC.size)
    clear hb
    have r0 := k1.cell 0
    have r1 := k1.cell 1
    have q0 := k2.cell 0
    have q1 := k2.cell 1
    rw [h2]
    by_cases h3 : H1 = H2
    · subst h3
      by_cases h4 : W1 ≤ W2
      · have hmin : min W1 W2 = W1 := by omega
        have Hmin := hid hmin
        clear hmin
        go_wp2_with fail
        refine (between_any _ _ _ _).mono ?_
        rintro e w' ⟨rfl, rfl⟩
        go_wp2
        go_ret
        exact ⟨ret_bool (by rw [Hm.out, Hmin.out]; simp [h1, h2]), hb1.trans (hC.mono hb1.size)⟩
      · have hmin : min W1 W2 = W2 := by omega
        have Hmin := hid hmin
        clear hmin
        go_wp2_with fail
        refine (between_any _ _ _ _).mono ?_
        rintro e w' ⟨rfl, rfl⟩
        go_wp2
        go_ret
        exact ⟨ret_bool (by rw [Hm.out, Hmin.out]; simp [h1, h2]), hb1.trans (hC.mono hb1.size)⟩
    · have h3' : (H1 == H2) = false := by simp [h3]
      go_wp2
      go_ret
      exact ⟨ret_bool (by rw [Hm.out]; simp [h1, h2, h3]), hb1.trans (hC.mono hb1.size)⟩

end Go.Proofs.Ytggbdmgonobefaa
