/-
  Curves and desks: copied, and compared with a copy.
  Conditions: they read; lengths under the measure.
-/
import Derived.Test.YtggbdmgonobefaaA42
namespace Go.Proofs.Ytggbdmgonobefaa
open Go.RowKit
set_option linter.unusedVariables false
set_option linter.unusedSimpArgs false

set_option maxHeartbeats 4000000 in
set_option maxRecDepth 100000 in
theorem toCurve_any (xv yv : Value) (cx cy : List Nat) (w : World) (hx : Sl w xv (cx.map fv)) (hy : Sl w yv (cy.map fv)) (hl1 : cx.length ≤ 1048576) (hl2 : cy.length ≤ 1048576) :
    Calls Try.prog 63 #[.agg #[xv, yv]] w fun e w' => ∃ xv' yv', e = .returned (.agg #[xv', yv']) ∧ Inv w w' [] [(yv', 52, cy.map fv), (xv', 52, cx.map fv)] := by
  obtain ⟨d1, p1, hv1⟩ := hx.form
  obtain ⟨d2, p2, hv2⟩ := hy.form
  obtain ⟨n1, hn1⟩ : ∃ n, n = (cx.map fv).length := ⟨_, rfl⟩
  obtain ⟨n2, hn2⟩ : ∃ n, n = (cy.map fv).length := ⟨_, rfl⟩
  rw [← hn1] at hv1
  rw [← hn2] at hv2
  subst hv1 hv2
  have hI0 := ((Inv.start w).alloc [.slice d1 n1 p1, .slice d2 n2 p2] 26).alloc [.slice none 0 0, .slice none 0 0] 33
  have hne0 := hI0.box_ne
  have hI := hI0.alloc [.slice none 0 0, .slice none 0 0] 33
  simp only [size_alloc1] at hI hne0
  obtain ⟨w1, hw1⟩ : ∃ w1, w1 = ((w.alloc (.cells #[.slice d1 n1 p1, .slice d2 n2 p2] 26)).alloc (.cells #[.slice none 0 0, .slice none 0 0] 33)).alloc (.cells #[.slice none 0 0, .slice none 0 0] 33) := ⟨_, rfl⟩
  rw [show ((w.alloc (.cells [Value.slice d1 n1 p1, .slice d2 n2 p2].toArray 26)).alloc (.cells [Value.slice none 0 0, .slice none 0 0].toArray 33)).alloc (.cells [Value.slice none 0 0, .slice none 0 0].toArray 33) = w1 from hw1.symm] at hI
  obtain ⟨b, hbe⟩ : ∃ b, b = w.heap.size := ⟨_, rfl⟩
  rw [← hbe] at hI hne0
  have Hx := hid hx
  have Hy := hid hy
  have Hne := hid hne0
  have q0 := (hI.blk 2 rfl).cell 0
  have q1 := (hI.blk 2 rfl).cell 1
  have hcall := toFloat32S_any _ cx rfl _ w1 (hI.arg hx) hl1
  clear hI0 hne0 hx hy hn1 hn2
  go_enter Try.func63, Try.ntmps63
  go_wp2_with fail
  rw [← hw1, ← hbe]
  have Hbe := hid hbe
  clear hw1 hbe
  refine hcall.mono ?_
  rintro e w2 ⟨xv', rfl, ho2, hb2⟩
  have hI2 := hI.fresh hb2 ho2
  have s0 := (hI2.blk 0 rfl).cell 0
  have s1 := (hI2.blk 0 rfl).frozen 0
  have q1 := (hI2.blk 2 rfl).cell 1
  have hI3 := hI2.sethead Hne.out 0 xv'
  have q1' := (hI3.blk 2 rfl).cell 1
  have hcall2 := toFloat32S_any _ cy rfl _ (w2.setCell ⟨b + 1 + 1, 0, none⟩ xv') (hI3.arg Hy.out) hl2
  obtain ⟨ad3, cp3, rfl, -⟩ := own_form ho2
  have hlt2 := (hI2.blk 0 rfl).lt
  have HI3 := hid hI3
  clear hI hI2 hI3 ho2 hb2 hcall
  go_wp2_with fail
  refine hcall2.mono ?_
  rintro e w3 ⟨yv', rfl, ho3, hb3⟩
  obtain ⟨ad4, cp4, rfl, -⟩ := own_form ho3
  have hI4 := HI3.out.fresh hb3 ho3
  have t0 := (hI4.blk 0 rfl).cell 0
  have t1 := (hI4.blk 0 rfl).cell 1
  have g1 := (hI4.blk 0 rfl).frozen 1
  have r0 := (hI4.blk 1 rfl).cell 0
  have r1 := (hI4.blk 1 rfl).cell 1
  have f0 := (hI4.blk 1 rfl).frozen 0
  have f1 := (hI4.blk 1 rfl).frozen 1
  have hI5 := hI4.sethead Hne.out 1 (.slice ad4 cy.length cp4)
  have hne5 : ∀ x ∈ [(b + 1 + 1, [Value.slice ad3 cx.length cp3, .slice ad4 cy.length cp4], (33 : TypeId))] ++ [(b, [Value.slice d1 n1 p1, .slice d2 n2 p2], 26)], x.1 ≠ b + 1 := by simp
  have hI6 := (hI5.setmid [(b + 1 + 1, [Value.slice ad3 cx.length cp3, .slice ad4 cy.length cp4], 33)] [(b, [Value.slice d1 n1 p1, .slice d2 n2 p2], 26)] hne5 0 (.slice ad3 cx.length cp3)).setmid [(b + 1 + 1, [Value.slice ad3 cx.length cp3, .slice ad4 cy.length cp4], 33)] [(b, [Value.slice d1 n1 p1, .slice d2 n2 p2], 26)] hne5 1 (.slice ad4 cy.length cp4)
  have HI6 := hid (hI6.boxsub (bs' := []) (by simp))
  have hlt3 := (hI4.blk 0 rfl).lt
  have hlt4 := (hI4.blk 1 rfl).lt
  clear hI4 hI5 hI6 ho3 hb3 hcall2
  go_wp2
  exact bodyPost_ret (v := .agg #[.slice ad3 cx.length cp3, .slice ad4 cy.length cp4]) (by simp [results, Try.results63, go_sem, r0, r1, f0, f1]) rfl ⟨_, _, rfl, HI6.out⟩

end Go.Proofs.Ytggbdmgonobefaa
