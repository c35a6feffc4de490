/-
  When two pictures are the same, by the reference; when two lists of pages are, by both.
  Conditions: the lights are rows of cells that read, each word of 32 bits.
-/
import Derived.Test.YtggbdmgonobefaaA34
import Derived.Test.YtggbdmgonobefaaA32
namespace Go.Proofs.Ytggbdmgonobefaa
open Go.RowKit
set_option linter.unusedVariables false
set_option linter.unusedSimpArgs false

set_option maxHeartbeats 4000000 in
set_option maxRecDepth 100000 in
theorem l02Same_any (W1 H1 : Int) (xs : List Nat) (va : Value) (W2 H2 : Int) (ys : List Nat) (vb : Value) (b1 o1 b2 o2 : Nat) (w : World) (ha : PicAt w b1 o1 W1 H1 va xs) (hb : PicAt w b2 o2 W2 H2 vb ys) (hl : xs.length ≤ 140737488351232) (hl2 : ys.length ≤ 140737488351232) (f1 : ∀ x ∈ xs, x < 4294967296) (f2 : ∀ x ∈ ys, x < 4294967296) :
    Calls Try.prog 60 #[.pointer (some ⟨b1, o1, none⟩), .pointer (some ⟨b2, o2, none⟩)] w fun e w' => e = .returned (.bool (sameP W1 H1 xs W2 H2 ys)) ∧ Below w.heap.size w w' := by
  have hcall := fun w2 (h : Below w.heap.size w w2) => l01SameAll_any xs ys va vb w2 (ha.sl.mono h) (hb.sl.mono h) hl hl2 f1 f2
  obtain ⟨ad, cp, hv⟩ := ha.sl.form
  obtain ⟨bd, dp, hv2⟩ := hb.sl.form
  obtain ⟨n, hn⟩ : ∃ n, n = (xs.map fv).length := ⟨_, rfl⟩
  obtain ⟨m, hm⟩ : ∃ n, n = (ys.map fv).length := ⟨_, rfl⟩
  have c0 := ha.c0
  have c1 := ha.c1
  have c2 := ha.c2
  have hB1 := ha.lt
  have d0 := hb.c0
  have d1 := hb.c1
  have d2 := hb.c2
  have hB2 := hb.lt
  rw [← hn] at hv
  rw [← hm] at hv2
  subst hv hv2
  clear ha hb f1 f2 hl hl2 hn hm
  go_enter Try.func60, Try.ntmps60
  go_wp2
  refine Mix.wp_mix [.S, .S, .S, .S, .S, .S, .S, .S, .S, .S, .S, .S, .S, .S, .S, .S, .S, .S, .S, .S, .S, .S, .S, .S, .S, .S, .S, .S, .S, .A, .S, .S] [0, 1, 2, 3, 4, 5, 6, 7, 8, 9, 10, 11, 12, 13, 14, 15, 16, 17, 18, 19, 20, 21, 22, 23, 24, 25, 26, 27, 28, 29, 30, 31] (Below w.heap.size w) (by kernel_rfl) (by kernel_rfl) ((Below.refl _ _).drew) ?_
  have hC : Below w.heap.size w w.drew := (Below.refl _ _).drew
  generalize w.drew = w2 at hC ⊢
  cases hW : (W1 == W2)
  · have HR := hid (show sameP W1 H1 xs W2 H2 ys = false by rw [sameP, hW]; rfl)
    repeat (first | (refine Mix.sf_S rfl rfl rfl rfl rfl (Mix.valOp_spec rfl) hC ?_; apply Exists.intro; refine ⟨?_, ?_⟩; · (intro w' hC' K hK; have hk := (bcell hC').1; go_step; exact hK)) | (refine Mix.sf_skipS rfl rfl rfl rfl ?_; apply Exists.intro; refine ⟨?_, ?_⟩; · (intro K hK; go_step; exact hK)) | (refine Mix.sf_skipA rfl rfl rfl rfl ?_; apply Exists.intro; refine ⟨?_, ?_⟩; · (intro K hK; go_step; exact hK)) | (refine Mix.sf_skipL rfl rfl rfl rfl ?_ hC; apply Exists.intro; refine ⟨?_, ?_⟩; · (intro K hK; go_step; exact hK); clear hC; intro wL hC))
    refine Mix.sf_nil ?_
    go_wp2
    go_ret
    exact ⟨ret_bool HR.out.symm, hC⟩
  · cases hH : (H1 == H2)
    · have HR := hid (show sameP W1 H1 xs W2 H2 ys = false by rw [sameP, hW, hH]; rfl)
      repeat (first | (refine Mix.sf_S rfl rfl rfl rfl rfl (Mix.valOp_spec rfl) hC ?_; apply Exists.intro; refine ⟨?_, ?_⟩; · (intro w' hC' K hK; have hk := (bcell hC').1; go_step; exact hK)) | (refine Mix.sf_skipS rfl rfl rfl rfl ?_; apply Exists.intro; refine ⟨?_, ?_⟩; · (intro K hK; go_step; exact hK)) | (refine Mix.sf_skipA rfl rfl rfl rfl ?_; apply Exists.intro; refine ⟨?_, ?_⟩; · (intro K hK; go_step; exact hK)) | (refine Mix.sf_skipL rfl rfl rfl rfl ?_ hC; apply Exists.intro; refine ⟨?_, ?_⟩; · (intro K hK; go_step; exact hK); clear hC; intro wL hC))
      refine Mix.sf_nil ?_
      go_wp2
      go_ret
      exact ⟨ret_bool HR.out.symm, hC⟩
    · have HR := hid (show sameP W1 H1 xs W2 H2 ys = sameL xs ys by rw [sameP, hW, hH]; rfl)
      repeat (first | (refine Mix.sf_S rfl rfl rfl rfl rfl (Mix.valOp_spec rfl) hC ?_; apply Exists.intro; refine ⟨?_, ?_⟩; · (intro w' hC' K hK; have hk := (bcell hC').1; go_step; exact hK)) | (refine Mix.sf_skipS rfl rfl rfl rfl ?_; apply Exists.intro; refine ⟨?_, ?_⟩; · (intro K hK; go_step; exact hK)) | (refine Mix.sf_skipA rfl rfl rfl rfl ?_; apply Exists.intro; refine ⟨?_, ?_⟩; · (intro K hK; go_step; exact hK)) | (refine Mix.sf_skipL rfl rfl rfl rfl ?_ hC; apply Exists.intro; refine ⟨?_, ?_⟩; · (intro K hK; go_step; exact hK); clear hC; intro wL hC))
      refine Mix.sf_A rfl rfl rfl ?_; intro K hK; go_step
      refine (hcall _ hC).mono ?_
      rintro e w3 ⟨rfl, hb3⟩
      refine hK _ _ (hC.trans (hb3.mono hC.size)) ?_
      replace hC := hC.trans (hb3.mono hC.size)
      clear hK K hb3
      repeat (first | (refine Mix.sf_S rfl rfl rfl rfl rfl (Mix.valOp_spec rfl) hC ?_; apply Exists.intro; refine ⟨?_, ?_⟩; · (intro w' hC' K hK; have hk := (bcell hC').1; go_step; exact hK)) | (refine Mix.sf_skipS rfl rfl rfl rfl ?_; apply Exists.intro; refine ⟨?_, ?_⟩; · (intro K hK; go_step; exact hK)) | (refine Mix.sf_skipA rfl rfl rfl rfl ?_; apply Exists.intro; refine ⟨?_, ?_⟩; · (intro K hK; go_step; exact hK)) | (refine Mix.sf_skipL rfl rfl rfl rfl ?_ hC; apply Exists.intro; refine ⟨?_, ?_⟩; · (intro K hK; go_step; exact hK); clear hC; intro wL hC))
      refine Mix.sf_nil ?_
      go_wp2
      go_ret
      exact ⟨ret_bool HR.out.symm, hC⟩

set_option maxHeartbeats 1000000 in
theorem specSamePicture_any (W1 H1 : Int) (xs : List Nat) (va : Value) (W2 H2 : Int) (ys : List Nat) (vb : Value) (w : World) (ha : Sl w va (xs.map fv)) (hb : Sl w vb (ys.map fv)) (hl : xs.length ≤ 140737488351232) (hl2 : ys.length ≤ 140737488351232) (f1 : ∀ x ∈ xs, x < 4294967296) (f2 : ∀ x ∈ ys, x < 4294967296) :
    Calls Try.prog 130 #[.agg #[.int .i64 W1, .int .i64 H1, va], .agg #[.int .i64 W2, .int .i64 H2, vb]] w fun e w' => e = .returned (.bool (sameP W1 H1 xs W2 H2 ys)) ∧ Below w.heap.size w w' := by
  have hI := ((Inv.start w).alloc [.int .i64 W1, .int .i64 H1, va] 32).alloc [.int .i64 W2, .int .i64 H2, vb] 32
  simp only [size_alloc1] at hI
  have hcall := l02Same_any W1 H1 xs va W2 H2 ys vb w.heap.size 0 (w.heap.size + 1) 0 _ ⟨(hI.blk 1 rfl).cell 0, (hI.blk 1 rfl).cell 1, (hI.blk 1 rfl).cell 2, hI.arg ha⟩ ⟨(hI.blk 0 rfl).cell 0, (hI.blk 0 rfl).cell 1, (hI.blk 0 rfl).cell 2, hI.arg hb⟩ hl hl2 f1 f2
  have hbl := hI.below
  clear hI ha hb
  go_enter Try.func130, Try.ntmps130
  go_wp2_with fail
  refine hcall.mono ?_
  rintro e w2 ⟨rfl, hb2⟩
  go_wp2
  go_ret
  exact ⟨rfl, hbl.trans (hb2.mono hbl.size)⟩

/-- Whether two pages are the same, and whether two lists of pages are. -/
def samePg (p q : PgD) : Bool := (p.m.toList == q.m.toList) && sameP p.W p.H p.xs q.W q.H q.xs
def samePgs : List PgD → List PgD → Bool
  | [], [] => true
  | p :: ps, q :: qs => samePg p q && samePgs ps qs
  | _, _ => false

theorem samePgs_len : ∀ {ps qs : List PgD}, ps.length ≠ qs.length → samePgs ps qs = false
  | [], [], h => absurd rfl h
  | [], _ :: _, _ => rfl
  | _ :: _, [], _ => rfl
  | p :: ps, q :: qs, h => by
    rw [samePgs, samePgs_len (by simpa using h), Bool.and_false]
theorem samePgs_no : ∀ {ps qs : List PgD} {k : Nat} (h1 : k < ps.length) (h2 : k < qs.length), samePg ps[k] qs[k] = false → samePgs ps qs = false
  | p :: ps, q :: qs, 0, _, _, h => by
    rw [samePgs]
    rw [show samePg p q = false from h, Bool.false_and]
  | p :: ps, q :: qs, k + 1, h1, h2, h => by
    rw [samePgs, samePgs_no (k := k) (by simpa using h1) (by simpa using h2) h, Bool.and_false]
theorem samePgs_yes : ∀ {ps qs : List PgD}, ps.length = qs.length → (∀ k (h1 : k < ps.length) (h2 : k < qs.length), samePg ps[k] qs[k] = true) → samePgs ps qs = true
  | [], [], _, _ => rfl
  | p :: ps, q :: qs, h, ha => by
    rw [samePgs, show samePg p q = true from ha 0 (by simp) (by simp), Bool.true_and]
    exact samePgs_yes (by simpa using h) fun k h1 h2 => ha (k + 1) (by simpa using h1) (by simpa using h2)


set_option maxHeartbeats 2000000 in
theorem SamePages1_any (p q : PgD) (va vb : Value) (w : World) (ha : Sl w va (p.xs.map fv)) (hb : Sl w vb (q.xs.map fv)) (hp : p.ok) (hq : q.ok) :
    Calls Try.prog 134 #[.agg #[.string p.m, .int .i64 p.W, .int .i64 p.H, va], .agg #[.string q.m, .int .i64 q.W, .int .i64 q.H, vb]] w fun e w' => e = .returned (.bool (samePg p q)) ∧ Below w.heap.size w w' := by
  have hcall := fun w2 (h : Below w.heap.size w w2) => SamePicture_any p.W p.H p.xs va q.W q.H q.xs vb w2 (ha.mono h) (hb.mono h) hp.2.1 hq.2.1 hp.2.2 hq.2.2
  have hb1 : ∀ o1 o2, Below w.heap.size w ((w.alloc o1).alloc o2) := fun o1 o2 => ((Below.refl _ _).alloc (Nat.le_refl _) _).alloc (by simp) _
  obtain ⟨ad, cp, hv⟩ := ha.form
  obtain ⟨bd, dp, hv2⟩ := hb.form
  obtain ⟨n, hn⟩ : ∃ n, n = (p.xs.map fv).length := ⟨_, rfl⟩
  obtain ⟨m, hm⟩ : ∃ n, n = (q.xs.map fv).length := ⟨_, rfl⟩
  rw [← hn] at hv
  rw [← hm] at hv2
  subst hv hv2
  clear ha hb hp hq hn hm
  cases hM : (p.m.toList == q.m.toList)
  · have HR := hid (show samePg p q = false by rw [samePg, hM]; rfl)
    go_enter Try.func134, Try.ntmps134
    go_wp2
    go_ret
    exact ⟨ret_bool HR.out.symm, hb1 _ _⟩
  · have HR := hid (show samePg p q = sameP p.W p.H p.xs q.W q.H q.xs by rw [samePg, hM]; rfl)
    go_enter Try.func134, Try.ntmps134
    go_wp2_with fail
    refine (hcall _ (hb1 _ _)).mono ?_
    rintro e w2 ⟨rfl, hb2⟩
    go_wp2
    go_ret
    exact ⟨ret_bool HR.out.symm, (hb1 _ _).trans (hb2.mono (hb1 _ _).size)⟩

end Go.Proofs.Ytggbdmgonobefaa
