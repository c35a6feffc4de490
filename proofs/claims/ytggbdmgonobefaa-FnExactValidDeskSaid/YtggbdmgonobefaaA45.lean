/-
  A desk copied, and compared with a copy.
  Conditions: it reads; lengths under the measure.
-/
import Derived.Test.YtggbdmgonobefaaA43
namespace Go.Proofs.Ytggbdmgonobefaa
open Go.RowKit
set_option linter.unusedVariables false
set_option linter.unusedSimpArgs false

set_option maxHeartbeats 4000000 in
set_option maxRecDepth 100000 in
theorem eqCurve_yes (cx cy dx dy : List Nat) (x1 y1 x2 y2 : Value) (w : World) (h1 : Sl w x1 (cx.map fv)) (h2 : Sl w y1 (cy.map fv)) (h3 : Sl w x2 (dx.map fv)) (h4 : Sl w y2 (dy.map fv))
    (l1 : cx.length ≤ 140737488351232) (l2 : cy.length ≤ 140737488351232) (e1 : nl cx = nl dx) (e2 : nl cy = nl dy) :
    Calls Try.prog 67 #[.agg #[x1, y1], .agg #[x2, y2]] w fun e w' => e = .returned (.bool true) ∧ Below w.heap.size w w' := by
  have hI := ((Inv.start w).alloc [x1, y1] 33).alloc [x2, y2] 33
  simp only [size_alloc1] at hI
  obtain ⟨w1, hw1⟩ : ∃ w1, w1 = (w.alloc (.cells #[x1, y1] 33)).alloc (.cells #[x2, y2] 33) := ⟨_, rfl⟩
  rw [show (w.alloc (.cells [x1, y1].toArray 33)).alloc (.cells [x2, y2].toArray 33) = w1 from hw1.symm] at hI
  have hc1 := eqFloat32S_yes cx dx x1 x2 w1 (hI.arg h1) (hI.arg h3) l1 e1
  have hc2 := fun w2 (h : Below w1.heap.size w1 w2) => eqFloat32S_yes cy dy y1 y2 w2 ((hI.arg h2).mono h) ((hI.arg h4).mono h) l2 e2
  obtain ⟨a1, p1, hv1⟩ := h1.form
  obtain ⟨a2, p2, hv2⟩ := h2.form
  obtain ⟨a3, p3, hv3⟩ := h3.form
  obtain ⟨a4, p4, hv4⟩ := h4.form
  obtain ⟨n1, hn1⟩ : ∃ n, n = (cx.map fv).length := ⟨_, rfl⟩
  obtain ⟨n2, hn2⟩ : ∃ n, n = (cy.map fv).length := ⟨_, rfl⟩
  obtain ⟨n3, hn3⟩ : ∃ n, n = (dx.map fv).length := ⟨_, rfl⟩
  obtain ⟨n4, hn4⟩ : ∃ n, n = (dy.map fv).length := ⟨_, rfl⟩
  rw [← hn1] at hv1
  rw [← hn2] at hv2
  rw [← hn3] at hv3
  rw [← hn4] at hv4
  subst hv1 hv2 hv3 hv4
  clear h1 h2 h3 h4 hn1 hn2 hn3 hn4 l1 l2 e1 e2
  go_enter Try.func67, Try.ntmps67
  go_wp2_with fail
  rw [← hw1]
  clear hw1
  refine hc1.mono ?_
  rintro e w2 ⟨rfl, hb2⟩
  have hcc := hc2 _ hb2
  have hI2 := hI.call hb2
  have q1 := (hI2.blk 1 rfl).cell 1
  have r1 := (hI2.blk 0 rfl).cell 1
  have HI := hid hI2
  clear hI hI2 hc2 hb2
  go_wp2_with fail
  refine hcc.mono ?_
  rintro e w3 ⟨rfl, hb3⟩
  have HI := hid (HI.out.call hb3)
  clear hcc hb3 q1 r1
  go_wp2
  go_ret
  exact ⟨rfl, HI.out.below⟩

set_option maxHeartbeats 4000000 in
set_option maxRecDepth 100000 in
/-- Two readings of one desk. -/
theorem eqDesk_self (d : DkD) (va vb : Value) (w : World) (ha : DkV w va d) (hb : DkV w vb d) (f1 : d.ok) :
    Calls Try.prog 18 #[va, vb] w fun x w' => x = .returned (.bool true) ∧ Below w.heap.size w w' := by
  obtain ⟨lv, xv, yv, pv, rfl, s1, s2, s3, s4⟩ := ha
  obtain ⟨lv', xv', yv', pv', rfl, t1, t2, t3, t4⟩ := hb
  have hI := ((Inv.start w).alloc [.int .i64 d.W, .int .i64 d.H, lv, xv, yv, pv] 36).alloc [.int .i64 d.W, .int .i64 d.H, lv', xv', yv', pv'] 36
  simp only [size_alloc1] at hI
  obtain ⟨w1, hw1⟩ : ∃ w1, w1 = (w.alloc (.cells #[.int .i64 d.W, .int .i64 d.H, lv, xv, yv, pv] 36)).alloc (.cells #[.int .i64 d.W, .int .i64 d.H, lv', xv', yv', pv'] 36) := ⟨_, rfl⟩
  rw [show (w.alloc (.cells [Value.int .i64 d.W, .int .i64 d.H, lv, xv, yv, pv].toArray 36)).alloc (.cells [Value.int .i64 d.W, .int .i64 d.H, lv', xv', yv', pv'].toArray 36) = w1 from hw1.symm] at hI
  have hc1 := eqPicture_yes d.W d.H d.xs d.xs lv lv' w1 (hI.arg s1) (hI.arg t1) f1.lx rfl
  have hc2 := fun w2 (h : Below w1.heap.size w1 w2) => eqCurve_yes d.cx d.cy d.cx d.cy xv yv xv' yv' w2 ((hI.arg s2).mono h) ((hI.arg s3).mono h) ((hI.arg t2).mono h) ((hI.arg t3).mono h) f1.lcx f1.lcy rfl rfl
  have hc3 := fun w2 (h : Below w1.heap.size w1 w2) => eqPageS_yes d.ps d.ps pv pv' w2 ((s4.mono hI.below).mono h) ((t4.mono hI.below).mono h) f1.lps (fun p hp => (f1.fps p hp).2.1) rfl (fun k _ _ => ⟨rfl, rfl, rfl, rfl⟩)
  obtain ⟨a1, p1, hv1⟩ := s1.form
  obtain ⟨a2, p2, hv2⟩ := s2.form
  obtain ⟨a3, p3, hv3⟩ := s3.form
  obtain ⟨a4, p4, hv4⟩ := s4.form
  obtain ⟨b1, q1, hu1⟩ := t1.form
  obtain ⟨b2, q2, hu2⟩ := t2.form
  obtain ⟨b3, q3, hu3⟩ := t3.form
  obtain ⟨b4, q4, hu4⟩ := t4.form
  obtain ⟨n1, hn1⟩ : ∃ n, n = (d.xs.map fv).length := ⟨_, rfl⟩
  obtain ⟨n2, hn2⟩ : ∃ n, n = (d.cx.map fv).length := ⟨_, rfl⟩
  obtain ⟨n3, hn3⟩ : ∃ n, n = (d.cy.map fv).length := ⟨_, rfl⟩
  obtain ⟨n4, hn4⟩ : ∃ n, n = d.ps.length := ⟨_, rfl⟩
  rw [← hn1] at hv1 hu1
  rw [← hn2] at hv2 hu2
  rw [← hn3] at hv3 hu3
  rw [← hn4] at hv4 hu4
  subst hv1 hv2 hv3 hv4 hu1 hu2 hu3 hu4
  clear s1 s2 s3 s4 t1 t2 t3 t4 hn1 hn2 hn3 hn4
  go_enter Try.func18, Try.ntmps18
  go_wp2_with fail
  rw [← hw1]
  clear hw1
  refine hc1.mono ?_
  rintro x w2 ⟨rfl, hb2⟩
  have hI2 := hI.call hb2
  have hcc := hc2 _ hb2
  have g3 := (hI2.blk 1 rfl).cell 3
  have g4 := (hI2.blk 1 rfl).cell 4
  have h3 := (hI2.blk 0 rfl).cell 3
  have h4 := (hI2.blk 0 rfl).cell 4
  clear hc1 hc2
  go_wp2_with fail
  refine hcc.mono ?_
  rintro x w3 ⟨rfl, hb3⟩
  have hb13 := hb2.trans (hb3.mono hb2.size)
  have hI3 := hI.call hb13
  have hcc := hc3 _ hb13
  have g5 := (hI3.blk 1 rfl).cell 5
  have h5 := (hI3.blk 0 rfl).cell 5
  clear hc3 g3 g4 h3 h4 hI2
  go_wp2_with fail
  refine hcc.mono ?_
  rintro x w4 ⟨rfl, hb4⟩
  have HI := hid (hI3.call hb4)
  clear hcc hb4 hI3 hI g5 h5
  go_wp2
  go_ret
  exact ⟨rfl, HI.out.below⟩

theorem PgOwn.parts {w0 w : World} {v : Value} {ps : List PgD} (h : PgOwn w0 w v ps) : ∃ B lvs, v = .slice (some ⟨B, 0, none⟩) ps.length ps.length ∧ lvs.length = ps.length ∧ Inv w0 w [(B, pgCells ps lvs, 96)] (pgRows 52 ps lvs) ∧ w0.heap.size ≤ B := by
  obtain ⟨B, lvs, h1, h2, h3⟩ := h
  exact ⟨B, lvs, h1, h2, h3, (h3.box _ (List.mem_singleton.2 rfl)).2⟩

set_option maxHeartbeats 8000000 in
set_option maxRecDepth 100000 in
theorem toDesk_any (v : Value) (d : DkD) (w : World) (hd : DkV w v d) (hs : d.small) :
    Calls Try.prog 16 #[v] w fun e w' => ∃ v', e = .returned v' ∧ DkOwn w w' v' d := by
  obtain ⟨lv, xv, yv, pv, rfl, s1, s2, s3, s4⟩ := hd
  obtain ⟨a1, p1, hv1⟩ := s1.form
  obtain ⟨a2, p2, hv2⟩ := s2.form
  obtain ⟨a3, p3, hv3⟩ := s3.form
  obtain ⟨a4, p4, hv4⟩ := s4.form
  rw [List.length_map] at hv1 hv2 hv3
  have hI0 := ((Inv.start w).alloc [.int .i64 d.W, .int .i64 d.H, lv, xv, yv, pv] 29).alloc [.int .i64 0, .int .i64 0, .slice none 0 0, .slice none 0 0, .slice none 0 0, .slice none 0 0] 36
  have hI := hI0.alloc [.int .i64 0, .int .i64 0, .slice none 0 0, .slice none 0 0, .slice none 0 0, .slice none 0 0] 36
  simp only [size_alloc1] at hI
  obtain ⟨w1, hw1⟩ : ∃ w1, w1 = ((w.alloc (.cells #[.int .i64 d.W, .int .i64 d.H, lv, xv, yv, pv] 29)).alloc (.cells #[.int .i64 0, .int .i64 0, .slice none 0 0, .slice none 0 0, .slice none 0 0, .slice none 0 0] 36)).alloc (.cells #[.int .i64 0, .int .i64 0, .slice none 0 0, .slice none 0 0, .slice none 0 0, .slice none 0 0] 36) := ⟨_, rfl⟩
  rw [show ((w.alloc (.cells [Value.int .i64 d.W, .int .i64 d.H, lv, xv, yv, pv].toArray 29)).alloc (.cells [Value.int .i64 0, .int .i64 0, .slice none 0 0, .slice none 0 0, .slice none 0 0, .slice none 0 0].toArray 36)).alloc (.cells [Value.int .i64 0, .int .i64 0, .slice none 0 0, .slice none 0 0, .slice none 0 0, .slice none 0 0].toArray 36) = w1 from hw1.symm] at hI
  obtain ⟨b, hbe⟩ : ∃ b, b = w.heap.size := ⟨_, rfl⟩
  rw [← hbe] at hI
  obtain ⟨D0, hD0⟩ : ∃ D, D = [Value.int .i64 d.W, .int .i64 d.H, lv, xv, yv, pv] := ⟨_, rfl⟩
  have hne : ∀ x ∈ [(b + 1, [Value.int .i64 0, .int .i64 0, .slice none 0 0, .slice none 0 0, .slice none 0 0, .slice none 0 0], (36 : TypeId)), (b, D0, 29)], x.1 ≠ b + 1 + 1 := by simp; omega
  rw [← hD0] at hI
  have S1 := hid s1
  have S2 := hid s2
  have S3 := hid s3
  have S4 := hid s4
  have Hs := hid hs
  have Hne := hid hne
  have q0 : w1.cell? ⟨b, 0, none⟩ = some (.int .i64 d.W) := ((hI.blk 2 rfl).cell 0).trans (by rw [hD0]; rfl)
  have q1 : w1.cell? ⟨b, 1, none⟩ = some (.int .i64 d.H) := ((hI.blk 2 rfl).cell 1).trans (by rw [hD0]; rfl)
  have q2 : w1.cell? ⟨b, 2, none⟩ = some lv := ((hI.blk 2 rfl).cell 2).trans (by rw [hD0]; rfl)
  have hcall := toPicture_any d.W d.H _ d.xs rfl lv w1 (hI.arg s1) hs.lx
  clear hI0 hne s1 s2 s3 s4 hs
  subst hv1 hv2 hv3 hv4
  go_enter Try.func16, Try.ntmps16
  go_wp2_with fail
  rw [← hw1, ← hbe]
  have Hbe := hid hbe
  clear hw1 hbe
  refine hcall.mono ?_
  rintro e w2 ⟨lv', rfl, ho2, hb2⟩
  obtain ⟨g1, c1, rfl, -⟩ := own_form ho2
  have hI2 := hI.fresh hb2 ho2
  have k0 := (hI2.blk 0 rfl).cell 0
  have k1 := (hI2.blk 0 rfl).cell 1
  have k2 := (hI2.blk 0 rfl).cell 2
  have f0 := (hI2.blk 0 rfl).frozen 0
  have f1 := (hI2.blk 0 rfl).frozen 1
  have f2 := (hI2.blk 0 rfl).frozen 2
  have hlt2 := (hI2.blk 0 rfl).lt
  have hI3 := ((hI2.sethead Hne.out 0 (.int .i64 d.W)).sethead Hne.out 1 (.int .i64 d.H)).sethead Hne.out 2 (.slice g1 d.xs.length c1)
  obtain ⟨w3, hw3⟩ : ∃ w3, w3 = ((w2.setCell ⟨b + 1 + 1, 0, none⟩ (.int .i64 d.W)).setCell ⟨b + 1 + 1, 1, none⟩ (.int .i64 d.H)).setCell ⟨b + 1 + 1, 2, none⟩ (.slice g1 d.xs.length c1) := ⟨_, rfl⟩
  rw [← hw3] at hI3
  have q3 : w2.cell? ⟨b, 3, none⟩ = some (.slice a2 d.cx.length p2) := ((hI2.blk 2 rfl).cell 3).trans (by rw [hD0]; rfl)
  have q4 : w2.cell? ⟨b, 4, none⟩ = some (.slice a3 d.cy.length p3) := ((hI2.blk 2 rfl).cell 4).trans (by rw [hD0]; rfl)
  have hcall2 := toCurve_any _ _ d.cx d.cy w3 (hI3.arg S2.out) (hI3.arg S3.out) Hs.out.lcx Hs.out.lcy
  have HI3 := hid hI3
  clear hI hI2 hI3 ho2 hb2 hcall q0 q1 q2
  go_wp2_with fail
  rw [← hw3]
  clear hw3 k0 k1 k2 f0 f1 f2 q3 q4 hlt2
  refine hcall2.mono ?_
  rintro e w4 ⟨xv', yv', rfl, hJ⟩
  have hI4 := HI3.out.join hJ
  obtain ⟨g2, c2, rfl, -⟩ := own_form (hJ.row 1 rfl)
  obtain ⟨g3, c3, rfl, -⟩ := own_form (hJ.row 0 rfl)
  rw [List.length_map, List.length_map] at hI4 hJ ⊢
  have k3 := (hI4.blk 0 rfl).cell 3
  have k4 := (hI4.blk 0 rfl).cell 4
  have f3 := (hI4.blk 0 rfl).frozen 3
  have f4 := (hI4.blk 0 rfl).frozen 4
  have hlt4 := (hI4.blk 0 rfl).lt
  have q5 : w4.cell? ⟨b, 5, none⟩ = some (.slice a4 d.ps.length p4) := ((hI4.blk 2 rfl).cell 5).trans (by rw [hD0]; rfl)
  have hI5 := (Inv.sethead (bs := [(b + 1, [Value.int .i64 0, .int .i64 0, .slice none 0 0, .slice none 0 0, .slice none 0 0, .slice none 0 0], (36 : TypeId)), (b, D0, 29)]) hI4 Hne.out 3 (.slice g2 d.cx.length c2)).sethead Hne.out 4 (.slice g3 d.cy.length c3)
  obtain ⟨w5, hw5⟩ : ∃ w5, w5 = (w4.setCell ⟨b + 1 + 1, 3, none⟩ (.slice g2 d.cx.length c2)).setCell ⟨b + 1 + 1, 4, none⟩ (.slice g3 d.cy.length c3) := ⟨_, rfl⟩
  rw [← hw5] at hI5
  have hcall3 := toPageS_any _ d.ps w5 (S4.out.mono hI5.below) Hs.out.fps Hs.out.lps
  have hlt5 := (hI5.blk 0 rfl).lt
  have HI5 := hid hI5
  clear hI4 hI5 hJ hcall2
  go_wp2_with fail
  rw [← hw5]
  clear hw5 k3 k4 f3 f4 q5 hlt4
  refine hcall3.mono ?_
  rintro e w6 ⟨pv', rfl, ho6⟩
  obtain ⟨B, lvs, rfl, hll, hJ, hBge⟩ := ho6.parts
  have hI6 := HI5.out.join hJ
  have k5 := (hI6.blk 1 rfl).cell 5
  have f5 := (hI6.blk 1 rfl).frozen 5
  have hlt6 := (hI6.blk 1 rfl).lt
  have T0 := (hI6.blk 1 rfl).cell 0
  have T1 := (hI6.blk 1 rfl).cell 1
  have T2 := (hI6.blk 1 rfl).cell 2
  have T3 := (hI6.blk 1 rfl).cell 3
  have T4 := (hI6.blk 1 rfl).cell 4
  have r0 := (hI6.blk 2 rfl).cell 0
  have r1 := (hI6.blk 2 rfl).cell 1
  have r2 := (hI6.blk 2 rfl).cell 2
  have r3 := (hI6.blk 2 rfl).cell 3
  have r4 := (hI6.blk 2 rfl).cell 4
  have r5 := (hI6.blk 2 rfl).cell 5
  have e0 := (hI6.blk 2 rfl).frozen 0
  have e1 := (hI6.blk 2 rfl).frozen 1
  have e2 := (hI6.blk 2 rfl).frozen 2
  have e3 := (hI6.blk 2 rfl).frozen 3
  have e4 := (hI6.blk 2 rfl).frozen 4
  have e5 := (hI6.blk 2 rfl).frozen 5
  have hltr := (hI6.blk 2 rfl).lt
  have hne6 : ∀ x ∈ [(B, pgCells d.ps lvs, (96 : TypeId))] ++ [(b + 1, [Value.int .i64 0, .int .i64 0, .slice none 0 0, .slice none 0 0, .slice none 0 0, .slice none 0 0], (36 : TypeId)), (b, D0, 29)], x.1 ≠ b + 1 + 1 := by simp; omega
  have hI7 := Inv.setmid [(B, pgCells d.ps lvs, (96 : TypeId))] [(b + 1, [Value.int .i64 0, .int .i64 0, .slice none 0 0, .slice none 0 0, .slice none 0 0, .slice none 0 0], (36 : TypeId)), (b, D0, 29)] hI6 hne6 5 (.slice (some ⟨B, 0, none⟩) d.ps.length d.ps.length)
  obtain ⟨T, hT⟩ : ∃ T, T = [Value.int .i64 d.W, .int .i64 d.H, .slice g1 d.xs.length c1, .slice g2 d.cx.length c2, .slice g3 d.cy.length c3, .slice (some ⟨B, 0, none⟩) d.ps.length d.ps.length] := ⟨_, rfl⟩
  have hI7 : Inv w (w6.setCell ⟨b + 1 + 1, 5, none⟩ (.slice (some ⟨B, 0, none⟩) d.ps.length d.ps.length)) ([(B, pgCells d.ps lvs, (96 : TypeId)), (b + 1 + 1, T, 36)] ++ (b + 1, [Value.int .i64 0, .int .i64 0, .slice none 0 0, .slice none 0 0, .slice none 0 0, .slice none 0 0], (36 : TypeId)) :: [(b, D0, 29)]) (pgRows 52 d.ps lvs ++ [(.slice g3 d.cy.length c3, 52, d.cy.map fv), (.slice g2 d.cx.length c2, 52, d.cx.map fv), (.slice g1 d.xs.length c1, 52, d.xs.map fv)]) := by
    rw [hT]
    exact hI7
  have hne7 : ∀ x ∈ [(B, pgCells d.ps lvs, (96 : TypeId)), (b + 1 + 1, T, 36)] ++ [(b, D0, (29 : TypeId))], x.1 ≠ b + 1 := by simp; omega
  have hI8 := (((((hI7.setmid _ _ hne7 0 (.int .i64 d.W)).setmid _ _ hne7 1 (.int .i64 d.H)).setmid _ _ hne7 2 (.slice g1 d.xs.length c1)).setmid _ _ hne7 3 (.slice g2 d.cx.length c2)).setmid _ _ hne7 4 (.slice g3 d.cy.length c3)).setmid _ _ hne7 5 (.slice (some ⟨B, 0, none⟩) d.ps.length d.ps.length)
  have HI8 := hid (hI8.boxsub (bs' := [(B, pgCells d.ps lvs, 96)]) (by simp))
  have Hll := hid hll
  clear hI6 hI7 hI8 hJ ho6 hcall3 hne6 hne7 hT hD0 hll
  go_wp2
  exact bodyPost_ret (v := .agg #[.int .i64 d.W, .int .i64 d.H, .slice g1 d.xs.length c1, .slice g2 d.cx.length c2, .slice g3 d.cy.length c3, .slice (some ⟨B, 0, none⟩) d.ps.length d.ps.length]) (by simp [results, Try.results16, go_sem, r0, r1, r2, r3, r4, r5, e0, e1, e2, e3, e4, e5]) rfl ⟨_, rfl, B, lvs, _, _, _, rfl, Hll.out, HI8.out⟩

end Go.Proofs.Ytggbdmgonobefaa
