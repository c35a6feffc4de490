/-
  Two pictures of equal sides, a picture that is a shot, and what lies between two lights: by the program and by the reference.
  Conditions: the lights are rows of cells that read.
-/
import Derived.Test.YtjennldpjfeppaaA14
import Derived.Test.YtjennldpjfeppaaInvX
namespace Go.Proofs.Ytjennldpjfeppaa
open Go.RowKit
set_option linter.unusedVariables false
set_option linter.unusedSimpArgs false
attribute [local go_sem] Fl.run_fadd Fl.run_fsub Fl.run_fmul Fl.run_fquo Fl.run_wide Fl.run_store_float

def bothB (W1 H1 : Int) (x1 : List Nat) (W2 H2 : Int) (x2 : List Nat) : Bool := validB W1 H1 x1 && validB W2 H2 x2 && (W1 == W2) && (H1 == H2)
/-- From 0 to 1. -/
def shareB (x : Nat) : Bool := (FloatKind.f32.format.order x 0 == some .gt || FloatKind.f32.format.order x 0 == some .eq) && (FloatKind.f32.format.order x 1065353216 == some .lt || FloatKind.f32.format.order x 1065353216 == some .eq)
def shotB (W H : Int) (xs : List Nat) : Bool := validB W H xs && xs.all shareB
def mixV (a b m : Nat) : Nat := Fl.fop .add .f32 a (Fl.fop .mul .f32 m (Fl.fop .sub .f32 b a))

theorem both_cases (W1 H1 : Int) (x1 : List Nat) (W2 H2 : Int) (x2 : List Nat) : validB W1 H1 x1 = false ∨ (validB W1 H1 x1 = true ∧ validB W2 H2 x2 = false) ∨ (validB W1 H1 x1 = true ∧ validB W2 H2 x2 = true ∧ (W1 == W2) = false) ∨ (validB W1 H1 x1 = true ∧ validB W2 H2 x2 = true ∧ (W1 == W2) = true ∧ (H1 == H2) = false) ∨ (validB W1 H1 x1 = true ∧ validB W2 H2 x2 = true ∧ (W1 == W2) = true ∧ (H1 == H2) = true) := by
  cases validB W1 H1 x1 <;> cases validB W2 H2 x2 <;> cases (W1 == W2) <;> cases (H1 == H2) <;> simp

set_option maxHeartbeats 2000000 in
set_option maxRecDepth 100000 in
theorem likeSides_any (W1 H1 : Int) (v1 : Value) (x1 : List Nat) (W2 H2 : Int) (v2 : Value) (x2 : List Nat) (w : World) (hx1 : Sl w v1 (x1.map fv)) (hx2 : Sl w v2 (x2.map fv)) (hl1 : x1.length ≤ 140737488351232) (hl2 : x2.length ≤ 140737488351232) :
    Calls Try.prog 85 #[.agg #[.int .i64 W1, .int .i64 H1, v1], .agg #[.int .i64 W2, .int .i64 H2, v2]] w fun e w' => e = .returned (.bool (bothB W1 H1 x1 W2 H2 x2)) ∧ Below w.heap.size w w' := by
  have hI := ((Inv.start w).alloc [.int .i64 W1, .int .i64 H1, v1] 24).alloc [.int .i64 W2, .int .i64 H2, v2] 24
  simp only [size_alloc1] at hI
  obtain ⟨w1, hw1⟩ : ∃ w1, w1 = (w.alloc (.cells #[.int .i64 W1, .int .i64 H1, v1] 24)).alloc (.cells #[.int .i64 W2, .int .i64 H2, v2] 24) := ⟨_, rfl⟩
  rw [show (w.alloc (.cells [Value.int .i64 W1, .int .i64 H1, v1].toArray 24)).alloc (.cells [Value.int .i64 W2, .int .i64 H2, v2].toArray 24) = w1 from hw1.symm] at hI
  obtain ⟨b, hbe⟩ : ∃ b, b = w.heap.size := ⟨_, rfl⟩
  rw [← hbe] at hI
  have hc1 := ValidPicture_any W1 H1 x1 _ w1 (hI.arg hx1) hl1
  have hc2 := fun w2 (h : Below w1.heap.size w1 w2) => ValidPicture_any W2 H2 x2 _ w2 ((hI.arg hx2).mono h) hl2
  have hR : bothB W1 H1 x1 W2 H2 x2 = (validB W1 H1 x1 && validB W2 H2 x2 && (W1 == W2) && (H1 == H2)) := rfl
  have HR := hid hR
  clear hR hx1 hx2
  rcases both_cases W1 H1 x1 W2 H2 x2 with h1 | ⟨h1, h2⟩ | ⟨h1, h2, h3⟩ | ⟨h1, h2, h3, h4⟩ | ⟨h1, h2, h3, h4⟩
  all_goals
    rw [h1] at hc1
    go_enter Try.func85, Try.ntmps85
    go_wp2_with fail
    rw [← hw1, ← hbe]
    have Hbe := hid hbe
    clear hw1 hbe
    refine hc1.mono ?_
    rintro e w2 ⟨rfl, hb2⟩
    have hI2 := hI.call hb2
    have q0 := (hI2.blk 0 rfl).cell 0
    have q1 := (hI2.blk 0 rfl).cell 1
    have q2 := (hI2.blk 0 rfl).cell 2
    have p0 := (hI2.blk 1 rfl).cell 0
    have p1 := (hI2.blk 1 rfl).cell 1
    have hbl := hI2.below
    clear hI
  · have HI := hid hI2
    clear hI2
    go_wp2
    go_ret
    exact ⟨ret_bool (by rw [HR.out, h1]; rfl), hbl⟩
  all_goals
    have hcc := hc2 _ hb2
    rw [h2] at hcc
    have HI := hid hI2
    clear hI2 hc1 hc2 hb2
    go_wp2_with fail
    refine hcc.mono ?_
    rintro e w3 ⟨rfl, hb3⟩
    have HI := hid (HI.out.call hb3)
    have q0 := (HI.out.blk 0 rfl).cell 0
    have q1 := (HI.out.blk 0 rfl).cell 1
    have p0 := (HI.out.blk 1 rfl).cell 0
    have p1 := (HI.out.blk 1 rfl).cell 1
    clear hcc hb3
    go_wp2
    go_ret
    exact ⟨ret_bool (by rw [HR.out, h1, h2]; simp_all), HI.out.below⟩

set_option maxHeartbeats 2000000 in
set_option maxRecDepth 100000 in
theorem l02Both_any (b1 o1 : Nat) (W1 H1 : Int) (v1 : Value) (x1 : List Nat) (b2 o2 : Nat) (W2 H2 : Int) (v2 : Value) (x2 : List Nat) (w : World) (hp1 : PicAt w b1 o1 W1 H1 v1 x1) (hp2 : PicAt w b2 o2 W2 H2 v2 x2)
    (hl1 : x1.length ≤ 140737488351232) (hl2 : x2.length ≤ 140737488351232) :
    Calls Try.prog 81 #[.pointer (some ⟨b1, o1, none⟩), .pointer (some ⟨b2, o2, none⟩)] w fun e w' => e = .returned (.bool (bothB W1 H1 x1 W2 H2 x2)) ∧ Below w.heap.size w w' := by
  have c0 := hp1.c0
  have c1 := hp1.c1
  have hB1 := hp1.lt
  have d0 := hp2.c0
  have d1 := hp2.c1
  have hB2 := hp2.lt
  have hcall1 := fun w3 (h : Below w.heap.size w w3) => l02Is_any b1 o1 W1 H1 v1 x1 w3 (hp1.mono h) hl1
  have hcall2 := fun w3 (h : Below w.heap.size w w3) => l02Is_any b2 o2 W2 H2 v2 x2 w3 (hp2.mono h) hl2
  have hR : bothB W1 H1 x1 W2 H2 x2 = (validB W1 H1 x1 && validB W2 H2 x2 && (W1 == W2) && (H1 == H2)) := rfl
  have HR := hid hR
  clear hp1 hp2 hR
  go_enter Try.func81, Try.ntmps81
  go_wp2
  refine Mix.wp_mix [.S, .A, .S, .S, .A, .S, .S, .S, .S, .S, .S, .S, .S, .S, .S, .S, .S, .S, .S, .S, .S, .S, .S, .S, .S, .S, .S, .S, .S] [0, 1, 2, 3, 4, 5, 6, 7, 8, 9, 10, 11, 12, 13, 14, 15, 16, 17, 18, 19, 20, 21, 22, 23, 24, 25, 26, 27, 28] (Below w.heap.size w) (by kernel_rfl) (by kernel_rfl) ((Below.refl _ _).drew) ?_
  have hC : Below w.heap.size w w.drew := (Below.refl _ _).drew
  generalize w.drew = w2 at hC ⊢
  rcases both_cases W1 H1 x1 W2 H2 x2 with h1 | ⟨h1, h2⟩ | ⟨h1, h2, h3⟩ | ⟨h1, h2, h3, h4⟩ | ⟨h1, h2, h3, h4⟩
  all_goals
    repeat (first | (refine Mix.sf_S rfl rfl rfl rfl rfl (Mix.valOp_spec rfl) hC ?_; apply Exists.intro; refine ⟨?_, ?_⟩; · (intro w' hC' K hK; have hk := (bcell hC').1; go_step; exact hK)) | (refine Mix.sf_skipS rfl rfl rfl rfl ?_; apply Exists.intro; refine ⟨?_, ?_⟩; · (intro K hK; go_step; exact hK)) | (refine Mix.sf_skipA rfl rfl rfl rfl ?_; apply Exists.intro; refine ⟨?_, ?_⟩; · (intro K hK; go_step; exact hK)) | (refine Mix.sf_skipL rfl rfl rfl rfl ?_ hC; apply Exists.intro; refine ⟨?_, ?_⟩; · (intro K hK; go_step; exact hK); clear hC; intro wL hC))
    refine Mix.sf_A rfl rfl rfl ?_; intro K hK; go_step
    refine (hcall1 _ hC).mono ?_
    rintro e w' ⟨rfl, hb3⟩
    rw [h1]
    refine hK _ _ (hC.trans (hb3.mono hC.size)) ?_
    replace hC := hC.trans (hb3.mono hC.size)
    clear hK K hb3
    repeat (first | (refine Mix.sf_S rfl rfl rfl rfl rfl (Mix.valOp_spec rfl) hC ?_; apply Exists.intro; refine ⟨?_, ?_⟩; · (intro w' hC' K hK; have hk := (bcell hC').1; go_step; exact hK)) | (refine Mix.sf_skipS rfl rfl rfl rfl ?_; apply Exists.intro; refine ⟨?_, ?_⟩; · (intro K hK; go_step; exact hK)) | (refine Mix.sf_skipA rfl rfl rfl rfl ?_; apply Exists.intro; refine ⟨?_, ?_⟩; · (intro K hK; go_step; exact hK)) | (refine Mix.sf_skipL rfl rfl rfl rfl ?_ hC; apply Exists.intro; refine ⟨?_, ?_⟩; · (intro K hK; go_step; exact hK); clear hC; intro wL hC))
    try (refine Mix.sf_A rfl rfl rfl ?_; intro K hK; go_step
         refine (hcall2 _ hC).mono ?_
         rintro e w' ⟨rfl, hb3⟩
         rw [h2]
         refine hK _ _ (hC.trans (hb3.mono hC.size)) ?_
         replace hC := hC.trans (hb3.mono hC.size)
         clear hK K hb3
         repeat (first | (refine Mix.sf_S rfl rfl rfl rfl rfl (Mix.valOp_spec rfl) hC ?_; apply Exists.intro; refine ⟨?_, ?_⟩; · (intro w' hC' K hK; have hk := (bcell hC').1; go_step; exact hK)) | (refine Mix.sf_skipS rfl rfl rfl rfl ?_; apply Exists.intro; refine ⟨?_, ?_⟩; · (intro K hK; go_step; exact hK)) | (refine Mix.sf_skipA rfl rfl rfl rfl ?_; apply Exists.intro; refine ⟨?_, ?_⟩; · (intro K hK; go_step; exact hK)) | (refine Mix.sf_skipL rfl rfl rfl rfl ?_ hC; apply Exists.intro; refine ⟨?_, ?_⟩; · (intro K hK; go_step; exact hK); clear hC; intro wL hC)))
    refine Mix.sf_nil ?_
    go_wp2
    go_ret
    exact ⟨ret_bool (by rw [HR.out]; simp_all), hC⟩

set_option maxHeartbeats 1000000 in
theorem isShare_any (x : Nat) (w : World) : Calls Try.prog 113 #[fv x] w fun e w' => e = .returned (.bool (shareB x)) ∧ w = w' := by
  have hR : shareB x = ((FloatKind.f32.format.order x 0 == some .gt || FloatKind.f32.format.order x 0 == some .eq) && (FloatKind.f32.format.order x 1065353216 == some .lt || FloatKind.f32.format.order x 1065353216 == some .eq)) := rfl
  have HR := hid hR
  clear hR
  cases h1 : (FloatKind.f32.format.order x 0 == some .gt || FloatKind.f32.format.order x 0 == some .eq)
  all_goals
    go_enter Try.func113, Try.ntmps113
    go_wp2
    go_ret
    exact ⟨ret_bool (by rw [HR.out, h1]; simp), rfl⟩

set_option maxHeartbeats 1000000 in
theorem l02Share_any (x : Nat) (w : World) : Calls Try.prog 110 #[fv x] w fun e w' => e = .returned (.bool (shareB x)) ∧ w = w' := by
  have hR : shareB x = ((FloatKind.f32.format.order x 0 == some .gt || FloatKind.f32.format.order x 0 == some .eq) && (FloatKind.f32.format.order x 1065353216 == some .lt || FloatKind.f32.format.order x 1065353216 == some .eq)) := rfl
  have HR := hid hR
  clear hR
  cases h1 : (FloatKind.f32.format.order x 0 == some .gt || FloatKind.f32.format.order x 0 == some .eq)
  all_goals
    go_enter Try.func110, Try.ntmps110
    go_wp2
    go_ret
    exact ⟨ret_bool (by rw [HR.out, h1]; simp), rfl⟩

set_option maxHeartbeats 1000000 in
theorem isShot1_any (x : Nat) (w : World) : Calls Try.prog 112 #[fv x] w fun e w' => e = .returned (.bool (!shareB x)) ∧ w = w' := by
  have hcall := fun w2 => isShare_any x w2
  go_enter Try.func112, Try.ntmps112
  go_wp2_with fail
  refine (hcall _).mono ?_
  rintro e w2 ⟨rfl, rfl⟩
  go_wp2
  go_ret
  exact ⟨rfl, rfl⟩

theorem entIsShot (args : Array Value) (w : World) : (callFunc 112 args).run Try.prog w = .ok (.enter 112 args) w := by kernel_rfl

theorem any_not_share (xs : List Nat) : (!xs.any fun x => !shareB x) = xs.all shareB := by
  induction xs with
  | nil => rfl
  | cons x xs ih => simp only [List.any_cons, List.all_cons, Bool.not_or, Bool.not_not, ih]

set_option maxHeartbeats 2000000 in
set_option maxRecDepth 100000 in
theorem isShot_any (W H : Int) (v : Value) (xs : List Nat) (w : World) (hx : Sl w v (xs.map fv)) (hl : xs.length ≤ 140737488351232) :
    Calls Try.prog 86 #[.agg #[.int .i64 W, .int .i64 H, v]] w fun e w' => e = .returned (.bool (shotB W H xs)) ∧ Below w.heap.size w w' := by
  have hI := (Inv.start w).alloc [.int .i64 W, .int .i64 H, v] 24
  obtain ⟨w1, hw1⟩ : ∃ w1, w1 = w.alloc (.cells #[.int .i64 W, .int .i64 H, v] 24) := ⟨_, rfl⟩
  rw [show w.alloc (.cells [Value.int .i64 W, .int .i64 H, v].toArray 24) = w1 from hw1.symm] at hI
  have hc1 := ValidPicture_any W H xs _ w1 (hI.arg hx) hl
  have hc2 := fun w2 (h : Below w1.heap.size w1 w2) => ContainsFunc_any 112 #[] (fun x => !shareB x) xs v w2 ((hI.arg hx).mono h) hl entIsShot
    (fun x w3 _ _ => (isShot1_any x w3).mono fun e w' ⟨he, hw⟩ => ⟨he, hw ▸ Below.refl _ _⟩)
  have hR : shotB W H xs = (validB W H xs && !(xs.any fun x => !shareB x)) := by rw [shotB, any_not_share]
  have HR := hid hR
  clear hR hx
  cases h1 : validB W H xs
  · rw [h1] at hc1
    go_enter Try.func86, Try.ntmps86
    go_wp2_with fail
    rw [← hw1]
    clear hw1
    refine hc1.mono ?_
    rintro e w2 ⟨rfl, hb2⟩
    have HI := hid (hI.call hb2)
    clear hI
    go_wp2
    go_ret
    exact ⟨ret_bool (by rw [HR.out, h1]; rfl), HI.out.below⟩
  · rw [h1] at hc1
    go_enter Try.func86, Try.ntmps86
    go_wp2_with fail
    rw [← hw1]
    clear hw1
    refine hc1.mono ?_
    rintro e w2 ⟨rfl, hb2⟩
    have hcc := hc2 _ hb2
    have hI2 := hI.call hb2
    have q2 := (hI2.blk 0 rfl).cell 2
    have HI := hid hI2
    clear hI hI2 hc2 hc1 hb2
    go_wp2_with fail
    refine hcc.mono ?_
    rintro e w3 ⟨rfl, hb3⟩
    have HI := hid (HI.out.call hb3)
    clear hcc hb3 q2
    go_wp2
    go_ret
    exact ⟨ret_bool (by rw [HR.out, h1]; rfl), HI.out.below⟩

theorem all_drop {g : Nat → Bool} {xs : List Nat} {k : Nat} (hk : k < xs.length) (hx : g xs[k] = true) : (xs.drop k).all g = (xs.drop (k + 1)).all g := by
  rw [List.drop_eq_getElem_cons hk, List.all_cons, hx, Bool.true_and]
theorem all_drop_no {g : Nat → Bool} {xs : List Nat} {k : Nat} (hk : k < xs.length) (hx : g xs[k] = false) : (xs.drop k).all g = false := by
  rw [List.drop_eq_getElem_cons hk, List.all_cons, hx, Bool.false_and]

set_option maxHeartbeats 2000000 in
set_option maxRecDepth 100000 in
theorem l03Shot_any (b o : Nat) (W H : Int) (v : Value) (xs : List Nat) (w : World) (hp : PicAt w b o W H v xs) (hl : xs.length ≤ 140737488351232) :
    Calls Try.prog 82 #[.pointer (some ⟨b, o, none⟩)] w fun e w' => e = .returned (.bool (shotB W H xs)) ∧ Below w.heap.size w w' := by
  have hcall := l02Is_any b o W H v xs w hp hl
  obtain ⟨ad, cap, hv⟩ := hp.sl.form
  rw [List.length_map] at hv
  obtain ⟨n, hn⟩ : ∃ n, n = xs.length := ⟨_, rfl⟩
  rw [← hn] at hv hl
  subst hv
  have c2 := hp.c2
  have hB := hp.lt
  have Hsl := hid hp.sl
  have Hn := hid hn
  have hR : shotB W H xs = (validB W H xs && xs.all shareB) := rfl
  have HR := hid hR
  clear hp hn hR
  cases h1 : validB W H xs
  · rw [h1] at hcall
    go_enter Try.func82, Try.ntmps82
    go_wp2_with fail
    refine hcall.mono ?_
    rintro e w2 ⟨rfl, hb2⟩
    go_wp2
    go_ret
    exact ⟨ret_bool (by rw [HR.out, h1]; rfl), hb2⟩
  · rw [h1] at hcall
    have HR := hid (show shotB W H xs = xs.all shareB by rw [HR.out, h1, Bool.true_and])
    go_enter Try.func82, Try.ntmps82
    go_wp2_with fail
    refine hcall.mono ?_
    rintro e w2 ⟨rfl, hb2⟩
    have k2 := (hb2.cell hB).trans c2
    have hB2 : b < w2.heap.size := Nat.lt_of_lt_of_le hB hb2.size
    clear hcall
    go_wp2
    clear k2
    go_loopw [3, 12] (fun _ i wr => ∃ k : Nat, k ≤ n ∧ i = .int .i64 k ∧ xs.all shareB = (xs.drop k).all shareB ∧ Below w.heap.size w wr) (fun _ i _ => n - (intOf i).toNat)
    case atStart => exact ⟨0, Nat.zero_le _, rfl, rfl, hb2⟩
    case round =>
      obtain ⟨k, hk, rfl, hidx, hbw⟩ := hrel
      have Hidx := hid hidx
      clear hidx
      by_cases hlt : k < n
      · have hkx : k < xs.length := by rw [← Hn.out]; exact hlt
        obtain ⟨bl, off, rfl, hc1, hb1⟩ := (Hsl.out.mono hbw).light k hlt hkx
        have e2 := (hbw.cell hB).trans c2
        have hno := fun h => all_drop_no (g := shareB) hkx h
        have hyes := fun h => all_drop (g := shareB) hkx h
        obtain ⟨x, hxe⟩ : ∃ x, x = xs[k] := ⟨_, rfl⟩
        rw [← hxe] at hc1 hno hyes
        have Hno := hid hno
        have Hyes := hid hyes
        have hsh := fun w3 => l02Share_any x w3
        clear hno hyes hxe
        cases hs : shareB x
        · rw [hs] at hsh
          have HR2 := hid (show shotB W H xs = false by rw [HR.out, Hidx.out, Hno.out hs])
          clear hs
          go_wp2_with fail
          refine (hsh _).mono ?_
          rintro e w3 ⟨rfl, rfl⟩
          go_wp2
          go_ret
          exact ⟨ret_bool HR2.out.symm, hbw⟩
        · rw [hs] at hsh
          have HR2 := hid (Hidx.out.trans (Hyes.out hs))
          clear hs
          go_wp2_with fail
          refine (hsh _).mono ?_
          rintro e w3 ⟨rfl, rfl⟩
          clear e2 hc1
          go_wp2
          go_roundw
          case rel => exact ⟨k + 1, by omega, by go_num, HR2.out, hbw⟩
          case measure => simp [intOf]; omega
      · have hke : k = n := by omega
        have HR2 := hid (show shotB W H xs = true by rw [HR.out, Hidx.out, hke, Hn.out, List.drop_length]; rfl)
        clear hke
        go_wp2
        go_ret
        exact ⟨ret_bool HR2.out.symm, hbw⟩

set_option maxHeartbeats 1000000 in
theorem mix_any (a b m : Nat) (w : World) : Calls Try.prog 89 #[fv a, fv b, fv m] w fun e w' => ∃ r, e = .returned (fv r) ∧ Fl.nf .f32 r = mixV a b m ∧ Below w.heap.size w w' := by
  go_enter Try.func89, Try.ntmps89
  go_wp2
  go_ret
  refine ⟨_, rfl, ?_, Below.drewN' _ (Below.refl _ _)⟩
  rw [Fl.nf_fres, mixV, ← fop_nf_r, Fl.nf_fres, ← fop_nf_r .mul, Fl.nf_fres]

end Go.Proofs.Ytjennldpjfeppaa
