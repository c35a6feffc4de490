/-
  When two curves and two desks are the same: by the program and by the reference.
  Conditions: they read; lengths and words fit.
-/
import Derived.Test.YtggbdmgonobefaaDk
import Derived.Test.YtggbdmgonobefaaA36
namespace Go.Proofs.Ytggbdmgonobefaa
open Go.RowKit
set_option linter.unusedVariables false
set_option linter.unusedSimpArgs false

def sameC (cx cy dx dy : List Nat) : Bool := sameL cx dx && sameL cy dy

set_option maxHeartbeats 4000000 in
set_option maxRecDepth 100000 in
theorem SameCurve_any (cx cy dx dy : List Nat) (x1 y1 x2 y2 : Value) (w : World) (h1 : Sl w x1 (cx.map fv)) (h2 : Sl w y1 (cy.map fv)) (h3 : Sl w x2 (dx.map fv)) (h4 : Sl w y2 (dy.map fv))
    (l1 : cx.length ≤ 140737488351232) (l2 : cy.length ≤ 140737488351232) (l3 : dx.length ≤ 140737488351232) (l4 : dy.length ≤ 140737488351232)
    (f1 : ∀ x ∈ cx, x < 4294967296) (f2 : ∀ x ∈ cy, x < 4294967296) (f3 : ∀ x ∈ dx, x < 4294967296) (f4 : ∀ x ∈ dy, x < 4294967296) :
    Calls Try.prog 65 #[.agg #[x1, y1], .agg #[x2, y2]] w fun e w' => e = .returned (.bool (sameC cx cy dx dy)) ∧ Below w.heap.size w w' := by
  have hI := ((Inv.start w).alloc [x1, y1] 33).alloc [x2, y2] 33
  simp only [size_alloc1] at hI
  obtain ⟨w1, hw1⟩ : ∃ w1, w1 = (w.alloc (.cells #[x1, y1] 33)).alloc (.cells #[x2, y2] 33) := ⟨_, rfl⟩
  rw [show (w.alloc (.cells [x1, y1].toArray 33)).alloc (.cells [x2, y2].toArray 33) = w1 from hw1.symm] at hI
  have hc1 := EqualFuncF_any cx dx x1 x2 w1 (hI.arg h1) (hI.arg h3) l1 l3 f1 f3
  have hc2 := fun w2 (h : Below w1.heap.size w1 w2) => EqualFuncF_any cy dy y1 y2 w2 ((hI.arg h2).mono h) ((hI.arg h4).mono h) l2 l4 f2 f4
  obtain ⟨a1, p1, hv1⟩ := h1.form
  obtain ⟨a2, p2, hv2⟩ := h2.form
  obtain ⟨a3, p3, hv3⟩ := h3.form
  obtain ⟨a4, p4, hv4⟩ := h4.form
  obtain ⟨n1, hn1⟩ : ∃ n, n = (cx.map fv).length := ⟨_, rfl⟩
  obtain ⟨n2, hn2⟩ : ∃ n, n = (cy.map fv).length := ⟨_, rfl⟩
  obtain ⟨n3, hn3⟩ : ∃ n, n = (dx.map fv).length := ⟨_, rfl⟩
  obtain ⟨n4, hn4⟩ : ∃ n, n = (dy.map fv).length := ⟨_, rfl⟩
  rw [← hn1] at hv1
  rw [← hn2] at hv2
  rw [← hn3] at hv3
  rw [← hn4] at hv4
  subst hv1 hv2 hv3 hv4
  clear h1 h2 h3 h4 hn1 hn2 hn3 hn4 f1 f2 f3 f4 l1 l2 l3 l4
  cases hs : sameL cx dx
  · have HR := hid (show sameC cx cy dx dy = false by rw [sameC, hs]; rfl)
    rw [hs] at hc1
    clear hs
    go_enter Try.func65, Try.ntmps65
    go_wp2_with fail
    rw [← hw1]
    clear hw1
    refine hc1.mono ?_
    rintro e w2 ⟨rfl, hb2⟩
    have HI := hid (hI.call hb2)
    clear hI
    go_wp2
    go_ret
    exact ⟨ret_bool HR.out.symm, HI.out.below⟩
  · have HR := hid (show sameC cx cy dx dy = sameL cy dy by rw [sameC, hs]; rfl)
    rw [hs] at hc1
    clear hs
    go_enter Try.func65, Try.ntmps65
    go_wp2_with fail
    rw [← hw1]
    clear hw1
    refine hc1.mono ?_
    rintro e w2 ⟨rfl, hb2⟩
    have hcc := hc2 _ hb2
    have hI2 := hI.call hb2
    have q1 := (hI2.blk 1 rfl).cell 1
    have r1 := (hI2.blk 0 rfl).cell 1
    have HI := hid hI2
    clear hI hI2 hc2 hb2
    go_wp2_with fail
    refine hcc.mono ?_
    rintro e w3 ⟨rfl, hb3⟩
    have HI := hid (HI.out.call hb3)
    clear hcc hb3 q1 r1
    go_wp2
    go_ret
    exact ⟨ret_bool HR.out.symm, HI.out.below⟩

set_option maxHeartbeats 4000000 in
set_option maxRecDepth 100000 in
theorem l04Same_any (cx cy dx dy : List Nat) (x1 y1 x2 y2 : Value) (b1 o1 b2 o2 : Nat) (w : World) (k1 : w.cell? ⟨b1, o1, none⟩ = some x1) (k2 : w.cell? ⟨b1, o1 + 1, none⟩ = some y1) (k3 : w.cell? ⟨b2, o2, none⟩ = some x2) (k4 : w.cell? ⟨b2, o2 + 1, none⟩ = some y2)
    (h1 : Sl w x1 (cx.map fv)) (h2 : Sl w y1 (cy.map fv)) (h3 : Sl w x2 (dx.map fv)) (h4 : Sl w y2 (dy.map fv))
    (l1 : cx.length ≤ 140737488351232) (l2 : cy.length ≤ 140737488351232) (l3 : dx.length ≤ 140737488351232) (l4 : dy.length ≤ 140737488351232)
    (f1 : ∀ x ∈ cx, x < 4294967296) (f2 : ∀ x ∈ cy, x < 4294967296) (f3 : ∀ x ∈ dx, x < 4294967296) (f4 : ∀ x ∈ dy, x < 4294967296) :
    Calls Try.prog 61 #[.pointer (some ⟨b1, o1, none⟩), .pointer (some ⟨b2, o2, none⟩)] w fun e w' => e = .returned (.bool (sameC cx cy dx dy)) ∧ Below w.heap.size w w' := by
  have hc1 := fun w2 (h : Below w.heap.size w w2) => l01SameAll_any cx dx x1 x2 w2 (h1.mono h) (h3.mono h) l1 l3 f1 f3
  have hc2 := fun w2 (h : Below w.heap.size w w2) => l01SameAll_any cy dy y1 y2 w2 (h2.mono h) (h4.mono h) l2 l4 f2 f4
  have hB1 := World.block_lt_of_cell? w _ k1
  have hB2 := World.block_lt_of_cell? w _ k3
  obtain ⟨a1, p1, hv1⟩ := h1.form
  obtain ⟨a2, p2, hv2⟩ := h2.form
  obtain ⟨a3, p3, hv3⟩ := h3.form
  obtain ⟨a4, p4, hv4⟩ := h4.form
  obtain ⟨n1, hn1⟩ : ∃ n, n = (cx.map fv).length := ⟨_, rfl⟩
  obtain ⟨n2, hn2⟩ : ∃ n, n = (cy.map fv).length := ⟨_, rfl⟩
  obtain ⟨n3, hn3⟩ : ∃ n, n = (dx.map fv).length := ⟨_, rfl⟩
  obtain ⟨n4, hn4⟩ : ∃ n, n = (dy.map fv).length := ⟨_, rfl⟩
  rw [← hn1] at hv1
  rw [← hn2] at hv2
  rw [← hn3] at hv3
  rw [← hn4] at hv4
  subst hv1 hv2 hv3 hv4
  clear h1 h2 h3 h4 hn1 hn2 hn3 hn4 f1 f2 f3 f4 l1 l2 l3 l4
  go_enter Try.func61, Try.ntmps61
  go_wp2
  refine Mix.wp_mix [.S, .S, .S, .S, .S, .S, .S, .S, .A, .S, .S, .S, .S, .S, .S, .S, .S, .S, .A, .S, .S] [0, 1, 2, 3, 4, 5, 6, 7, 8, 9, 10, 11, 12, 13, 14, 15, 16, 17, 18, 19, 20] (Below w.heap.size w) (by kernel_rfl) (by kernel_rfl) ((Below.refl _ _).drew) ?_
  have hC : Below w.heap.size w w.drew := (Below.refl _ _).drew
  generalize w.drew = w2 at hC ⊢
  cases hs : sameL cx dx
  · have HR := hid (show sameC cx cy dx dy = false by rw [sameC, hs]; rfl)
    rw [hs] at hc1
    clear hs
    repeat (first | (refine Mix.sf_S rfl rfl rfl rfl rfl (Mix.valOp_spec rfl) hC ?_; apply Exists.intro; refine ⟨?_, ?_⟩; · (intro w' hC' K hK; have hk := (bcell hC').1; go_step; exact hK)) | (refine Mix.sf_skipS rfl rfl rfl rfl ?_; apply Exists.intro; refine ⟨?_, ?_⟩; · (intro K hK; go_step; exact hK)) | (refine Mix.sf_skipA rfl rfl rfl rfl ?_; apply Exists.intro; refine ⟨?_, ?_⟩; · (intro K hK; go_step; exact hK)) | (refine Mix.sf_skipL rfl rfl rfl rfl ?_ hC; apply Exists.intro; refine ⟨?_, ?_⟩; · (intro K hK; go_step; exact hK); clear hC; intro wL hC))
    refine Mix.sf_A rfl rfl rfl ?_; intro K hK; go_step
    refine (hc1 _ hC).mono ?_
    rintro e w' ⟨rfl, hb3⟩
    refine hK _ _ (hC.trans (hb3.mono hC.size)) ?_
    replace hC := hC.trans (hb3.mono hC.size)
    clear hK K hb3
    repeat (first | (refine Mix.sf_S rfl rfl rfl rfl rfl (Mix.valOp_spec rfl) hC ?_; apply Exists.intro; refine ⟨?_, ?_⟩; · (intro w' hC' K hK; have hk := (bcell hC').1; go_step; exact hK)) | (refine Mix.sf_skipS rfl rfl rfl rfl ?_; apply Exists.intro; refine ⟨?_, ?_⟩; · (intro K hK; go_step; exact hK)) | (refine Mix.sf_skipA rfl rfl rfl rfl ?_; apply Exists.intro; refine ⟨?_, ?_⟩; · (intro K hK; go_step; exact hK)) | (refine Mix.sf_skipL rfl rfl rfl rfl ?_ hC; apply Exists.intro; refine ⟨?_, ?_⟩; · (intro K hK; go_step; exact hK); clear hC; intro wL hC))
    refine Mix.sf_nil ?_
    go_wp2
    go_ret
    exact ⟨ret_bool HR.out.symm, hC⟩
  · have HR := hid (show sameC cx cy dx dy = sameL cy dy by rw [sameC, hs]; rfl)
    rw [hs] at hc1
    clear hs
    repeat (first | (refine Mix.sf_S rfl rfl rfl rfl rfl (Mix.valOp_spec rfl) hC ?_; apply Exists.intro; refine ⟨?_, ?_⟩; · (intro w' hC' K hK; have hk := (bcell hC').1; go_step; exact hK)) | (refine Mix.sf_skipS rfl rfl rfl rfl ?_; apply Exists.intro; refine ⟨?_, ?_⟩; · (intro K hK; go_step; exact hK)) | (refine Mix.sf_skipA rfl rfl rfl rfl ?_; apply Exists.intro; refine ⟨?_, ?_⟩; · (intro K hK; go_step; exact hK)) | (refine Mix.sf_skipL rfl rfl rfl rfl ?_ hC; apply Exists.intro; refine ⟨?_, ?_⟩; · (intro K hK; go_step; exact hK); clear hC; intro wL hC))
    refine Mix.sf_A rfl rfl rfl ?_; intro K hK; go_step
    refine (hc1 _ hC).mono ?_
    rintro e w' ⟨rfl, hb3⟩
    refine hK _ _ (hC.trans (hb3.mono hC.size)) ?_
    replace hC := hC.trans (hb3.mono hC.size)
    clear hK K hb3
    repeat (first | (refine Mix.sf_S rfl rfl rfl rfl rfl (Mix.valOp_spec rfl) hC ?_; apply Exists.intro; refine ⟨?_, ?_⟩; · (intro w' hC' K hK; have hk := (bcell hC').1; go_step; exact hK)) | (refine Mix.sf_skipS rfl rfl rfl rfl ?_; apply Exists.intro; refine ⟨?_, ?_⟩; · (intro K hK; go_step; exact hK)) | (refine Mix.sf_skipA rfl rfl rfl rfl ?_; apply Exists.intro; refine ⟨?_, ?_⟩; · (intro K hK; go_step; exact hK)) | (refine Mix.sf_skipL rfl rfl rfl rfl ?_ hC; apply Exists.intro; refine ⟨?_, ?_⟩; · (intro K hK; go_step; exact hK); clear hC; intro wL hC))
    refine Mix.sf_A rfl rfl rfl ?_; intro K hK; go_step
    refine (hc2 _ hC).mono ?_
    rintro e w' ⟨rfl, hb3⟩
    refine hK _ _ (hC.trans (hb3.mono hC.size)) ?_
    replace hC := hC.trans (hb3.mono hC.size)
    clear hK K hb3
    repeat (first | (refine Mix.sf_S rfl rfl rfl rfl rfl (Mix.valOp_spec rfl) hC ?_; apply Exists.intro; refine ⟨?_, ?_⟩; · (intro w' hC' K hK; have hk := (bcell hC').1; go_step; exact hK)) | (refine Mix.sf_skipS rfl rfl rfl rfl ?_; apply Exists.intro; refine ⟨?_, ?_⟩; · (intro K hK; go_step; exact hK)) | (refine Mix.sf_skipA rfl rfl rfl rfl ?_; apply Exists.intro; refine ⟨?_, ?_⟩; · (intro K hK; go_step; exact hK)) | (refine Mix.sf_skipL rfl rfl rfl rfl ?_ hC; apply Exists.intro; refine ⟨?_, ?_⟩; · (intro K hK; go_step; exact hK); clear hC; intro wL hC))
    refine Mix.sf_nil ?_
    go_wp2
    go_ret
    exact ⟨ret_bool HR.out.symm, hC⟩

/-- Whether two desks are the same. -/
def sameD (d e : DkD) : Bool := sameP d.W d.H d.xs e.W e.H e.xs && sameC d.cx d.cy e.cx e.cy && samePgs d.ps e.ps

theorem sameD_cases (d e : DkD) : sameP d.W d.H d.xs e.W e.H e.xs = false ∨ (sameP d.W d.H d.xs e.W e.H e.xs = true ∧ sameC d.cx d.cy e.cx e.cy = false) ∨ (sameP d.W d.H d.xs e.W e.H e.xs = true ∧ sameC d.cx d.cy e.cx e.cy = true) := by
  cases sameP d.W d.H d.xs e.W e.H e.xs <;> cases sameC d.cx d.cy e.cx e.cy <;> simp

set_option maxHeartbeats 4000000 in
set_option maxRecDepth 100000 in
theorem implSameDesk_any (d e : DkD) (va vb : Value) (w : World) (ha : DkV w va d) (hb : DkV w vb e) (f1 : d.ok) (f2 : e.ok) :
    Calls Try.prog 17 #[va, vb] w fun x w' => x = .returned (.bool (sameD d e)) ∧ Below w.heap.size w w' := by
  obtain ⟨lv, xv, yv, pv, rfl, s1, s2, s3, s4⟩ := ha
  obtain ⟨lv', xv', yv', pv', rfl, t1, t2, t3, t4⟩ := hb
  have hI := ((Inv.start w).alloc [.int .i64 d.W, .int .i64 d.H, lv, xv, yv, pv] 36).alloc [.int .i64 e.W, .int .i64 e.H, lv', xv', yv', pv'] 36
  simp only [size_alloc1] at hI
  obtain ⟨w1, hw1⟩ : ∃ w1, w1 = (w.alloc (.cells #[.int .i64 d.W, .int .i64 d.H, lv, xv, yv, pv] 36)).alloc (.cells #[.int .i64 e.W, .int .i64 e.H, lv', xv', yv', pv'] 36) := ⟨_, rfl⟩
  rw [show (w.alloc (.cells [Value.int .i64 d.W, .int .i64 d.H, lv, xv, yv, pv].toArray 36)).alloc (.cells [Value.int .i64 e.W, .int .i64 e.H, lv', xv', yv', pv'].toArray 36) = w1 from hw1.symm] at hI
  have hc1 := SamePicture_any d.W d.H d.xs lv e.W e.H e.xs lv' w1 (hI.arg s1) (hI.arg t1) f1.lx f2.lx f1.fx f2.fx
  have hc2 := fun w2 (h : Below w1.heap.size w1 w2) => SameCurve_any d.cx d.cy e.cx e.cy xv yv xv' yv' w2 ((hI.arg s2).mono h) ((hI.arg s3).mono h) ((hI.arg t2).mono h) ((hI.arg t3).mono h) f1.lcx f1.lcy f2.lcx f2.lcy f1.fcx f1.fcy f2.fcx f2.fcy
  have hc3 := fun w2 (h : Below w1.heap.size w1 w2) => implSamePages_any d.ps e.ps pv pv' w2 ((s4.mono hI.below).mono h) ((t4.mono hI.below).mono h) f1.lps f2.lps f1.fps f2.fps
  obtain ⟨a1, p1, hv1⟩ := s1.form
  obtain ⟨a2, p2, hv2⟩ := s2.form
  obtain ⟨a3, p3, hv3⟩ := s3.form
  obtain ⟨a4, p4, hv4⟩ := s4.form
  obtain ⟨b1, q1, hu1⟩ := t1.form
  obtain ⟨b2, q2, hu2⟩ := t2.form
  obtain ⟨b3, q3, hu3⟩ := t3.form
  obtain ⟨b4, q4, hu4⟩ := t4.form
  obtain ⟨n1, hn1⟩ : ∃ n, n = (d.xs.map fv).length := ⟨_, rfl⟩
  obtain ⟨n2, hn2⟩ : ∃ n, n = (d.cx.map fv).length := ⟨_, rfl⟩
  obtain ⟨n3, hn3⟩ : ∃ n, n = (d.cy.map fv).length := ⟨_, rfl⟩
  obtain ⟨n4, hn4⟩ : ∃ n, n = d.ps.length := ⟨_, rfl⟩
  obtain ⟨m1, hm1⟩ : ∃ n, n = (e.xs.map fv).length := ⟨_, rfl⟩
  obtain ⟨m2, hm2⟩ : ∃ n, n = (e.cx.map fv).length := ⟨_, rfl⟩
  obtain ⟨m3, hm3⟩ : ∃ n, n = (e.cy.map fv).length := ⟨_, rfl⟩
  obtain ⟨m4, hm4⟩ : ∃ n, n = e.ps.length := ⟨_, rfl⟩
  rw [← hn1] at hv1
  rw [← hn2] at hv2
  rw [← hn3] at hv3
  rw [← hn4] at hv4
  rw [← hm1] at hu1
  rw [← hm2] at hu2
  rw [← hm3] at hu3
  rw [← hm4] at hu4
  subst hv1 hv2 hv3 hv4 hu1 hu2 hu3 hu4
  clear s1 s2 s3 s4 t1 t2 t3 t4 hn1 hn2 hn3 hn4 hm1 hm2 hm3 hm4
  have hR : sameD d e = (sameP d.W d.H d.xs e.W e.H e.xs && sameC d.cx d.cy e.cx e.cy && samePgs d.ps e.ps) := rfl
  have HR := hid hR
  clear hR
  rcases sameD_cases d e with k1 | ⟨k1, k2⟩ | ⟨k1, k2⟩
  all_goals
    rw [k1] at hc1
    go_enter Try.func17, Try.ntmps17
    go_wp2_with fail
    rw [← hw1]
    clear hw1
    refine hc1.mono ?_
    rintro x w2 ⟨rfl, hb2⟩
    have hI2 := hI.call hb2
    have hbl := hI2.below
  · go_wp2
    go_ret
    exact ⟨ret_bool (by rw [HR.out, k1]; rfl), hbl⟩
  all_goals
    have hcc := hc2 _ hb2
    rw [k2] at hcc
    have g3 := (hI2.blk 1 rfl).cell 3
    have g4 := (hI2.blk 1 rfl).cell 4
    have h3 := (hI2.blk 0 rfl).cell 3
    have h4 := (hI2.blk 0 rfl).cell 4
    clear hc1 hc2
    go_wp2_with fail
    refine hcc.mono ?_
    rintro x w3 ⟨rfl, hb3⟩
    have hb13 := hb2.trans (hb3.mono hb2.size)
    have hI3 := hI.call hb13
    have hbl3 := hI3.below
    clear hcc g3 g4 h3 h4 hI2 hbl
  · go_wp2
    go_ret
    exact ⟨ret_bool (by rw [HR.out, k1, k2]; rfl), hbl3⟩
  · have hcc := hc3 _ hb13
    have g5 := (hI3.blk 1 rfl).cell 5
    have h5 := (hI3.blk 0 rfl).cell 5
    have HR2 := hid (show sameD d e = samePgs d.ps e.ps by rw [HR.out, k1, k2]; rfl)
    clear hc3 k1 k2
    go_wp2_with fail
    refine hcc.mono ?_
    rintro x w4 ⟨rfl, hb4⟩
    have HI := hid (hI3.call hb4)
    clear hcc hb4 hI3 hI
    go_wp2
    go_ret
    exact ⟨ret_bool HR2.out.symm, HI.out.below⟩

set_option maxHeartbeats 4000000 in
set_option maxRecDepth 100000 in
theorem specSameDesk_any (d e : DkD) (va vb : Value) (w : World) (ha : DkV w va d) (hb : DkV w vb e) (f1 : d.ok) (f2 : e.ok) :
    Calls Try.prog 15 #[va, vb] w fun x w' => x = .returned (.bool (sameD d e)) ∧ Below w.heap.size w w' := by
  obtain ⟨lv, xv, yv, pv, rfl, s1, s2, s3, s4⟩ := ha
  obtain ⟨lv', xv', yv', pv', rfl, t1, t2, t3, t4⟩ := hb
  have hI := ((Inv.start w).alloc [.int .i64 d.W, .int .i64 d.H, lv, xv, yv, pv] 36).alloc [.int .i64 e.W, .int .i64 e.H, lv', xv', yv', pv'] 36
  simp only [size_alloc1] at hI
  obtain ⟨w1, hw1⟩ : ∃ w1, w1 = (w.alloc (.cells #[.int .i64 d.W, .int .i64 d.H, lv, xv, yv, pv] 36)).alloc (.cells #[.int .i64 e.W, .int .i64 e.H, lv', xv', yv', pv'] 36) := ⟨_, rfl⟩
  rw [show (w.alloc (.cells [Value.int .i64 d.W, .int .i64 d.H, lv, xv, yv, pv].toArray 36)).alloc (.cells [Value.int .i64 e.W, .int .i64 e.H, lv', xv', yv', pv'].toArray 36) = w1 from hw1.symm] at hI
  obtain ⟨b, hbe⟩ : ∃ b, b = w.heap.size := ⟨_, rfl⟩
  rw [← hbe] at hI
  have hc1 := l02Same_any d.W d.H d.xs lv e.W e.H e.xs lv' b 0 (b + 1) 0 w1 ⟨(hI.blk 1 rfl).cell 0, (hI.blk 1 rfl).cell 1, (hI.blk 1 rfl).cell 2, hI.arg s1⟩ ⟨(hI.blk 0 rfl).cell 0, (hI.blk 0 rfl).cell 1, (hI.blk 0 rfl).cell 2, hI.arg t1⟩ f1.lx f2.lx f1.fx f2.fx
  have hc2 := fun w2 (h : Below w1.heap.size w1 w2) => l04Same_any d.cx d.cy e.cx e.cy xv yv xv' yv' b 3 (b + 1) 3 w2 (((hI.call h).blk 1 rfl).cell 3) (((hI.call h).blk 1 rfl).cell 4) (((hI.call h).blk 0 rfl).cell 3) (((hI.call h).blk 0 rfl).cell 4) ((hI.arg s2).mono h) ((hI.arg s3).mono h) ((hI.arg t2).mono h) ((hI.arg t3).mono h) f1.lcx f1.lcy f2.lcx f2.lcy f1.fcx f1.fcy f2.fcx f2.fcy
  have hc3 := fun w2 (h : Below w1.heap.size w1 w2) => specSamePages_any d.ps e.ps pv pv' w2 ((s4.mono hI.below).mono h) ((t4.mono hI.below).mono h) f1.lps f2.lps f1.fps f2.fps
  obtain ⟨a4, p4, hv4⟩ := s4.form
  obtain ⟨b4, q4, hu4⟩ := t4.form
  obtain ⟨n4, hn4⟩ : ∃ n, n = d.ps.length := ⟨_, rfl⟩
  obtain ⟨m4, hm4⟩ : ∃ n, n = e.ps.length := ⟨_, rfl⟩
  rw [← hn4] at hv4
  rw [← hm4] at hu4
  subst hv4 hu4
  clear s1 s2 s3 s4 t1 t2 t3 t4 hn4 hm4
  have hR : sameD d e = (sameP d.W d.H d.xs e.W e.H e.xs && sameC d.cx d.cy e.cx e.cy && samePgs d.ps e.ps) := rfl
  have HR := hid hR
  clear hR
  rcases sameD_cases d e with k1 | ⟨k1, k2⟩ | ⟨k1, k2⟩
  all_goals
    rw [k1] at hc1
    go_enter Try.func15, Try.ntmps15
    go_wp2_with fail
    rw [← hw1, ← hbe]
    clear hw1 hbe
    refine hc1.mono ?_
    rintro x w2 ⟨rfl, hb2⟩
    have hbl := (hI.call hb2).below
  · go_wp2
    go_ret
    exact ⟨ret_bool (by rw [HR.out, k1]; rfl), hbl⟩
  all_goals
    have hcc := hc2 _ hb2
    rw [k2] at hcc
    clear hc1 hc2
    go_wp2_with fail
    refine hcc.mono ?_
    rintro x w3 ⟨rfl, hb3⟩
    have hb13 := hb2.trans (hb3.mono hb2.size)
    have hI3 := hI.call hb13
    have hbl3 := hI3.below
    clear hcc hbl
  · go_wp2
    go_ret
    exact ⟨ret_bool (by rw [HR.out, k1, k2]; rfl), hbl3⟩
  · have hcc := hc3 _ hb13
    have g5 := (hI3.blk 1 rfl).cell 5
    have h5 := (hI3.blk 0 rfl).cell 5
    have HR2 := hid (show sameD d e = samePgs d.ps e.ps by rw [HR.out, k1, k2]; rfl)
    clear hc3 k1 k2
    go_wp2_with fail
    refine hcc.mono ?_
    rintro x w4 ⟨rfl, hb4⟩
    have HI := hid (hI3.call hb4)
    clear hcc hb4 hI3 hI
    go_wp2
    go_ret
    exact ⟨ret_bool HR2.out.symm, HI.out.below⟩

end Go.Proofs.Ytggbdmgonobefaa
