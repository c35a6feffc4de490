/-
  Curves and desks: weighed, copied, compared with their copies.
  Conditions: they read; lengths within the reach.
-/
import Derived.Test.YtggbdmgonobefaaDk
import Derived.Test.YtggbdmgonobefaaA31
import Derived.Test.YtggbdmgonobefaaA32
import Derived.Test.YtggbdmgonobefaaA36
namespace Go.Proofs.Ytggbdmgonobefaa
open Go.RowKit
set_option linter.unusedVariables false
set_option linter.unusedSimpArgs false

theorem szB_cases (left : Int) (n : Nat) (h0 : 0 ≤ left) (hl : left ≤ 1099511627776) : szB left n = -1 ∨ (0 ≤ szB left n ∧ szB left n ≤ 1099511627776) := by
  unfold szB
  split <;> omega
theorem szPL_cases : ∀ (ps : List PgD) (left : Int), 0 ≤ left → szPL left ps = -1 ∨ 0 ≤ szPL left ps
  | [], left, h0 => .inr h0
  | p :: ps, left, h0 => by
    unfold szPL
    by_cases h : szPg left p < 0
    · rw [if_pos h]; exact .inl rfl
    · rw [if_neg h]; exact szPL_cases ps _ (by omega)
theorem szPS_cases (left : Int) (ps : List PgD) (h0 : 0 ≤ left) : szPS left ps = -1 ∨ 0 ≤ szPS left ps := by
  unfold szPS
  by_cases h : left < ps.length
  · rw [if_pos h]; exact .inl rfl
  · rw [if_neg h]; exact szPL_cases ps _ (by omega)

set_option maxHeartbeats 2000000 in
theorem szCurve_any (d1 : Option Addr) (n1 p1 : Nat) (d2 : Option Addr) (n2 p2 : Nat) (cx cy : List Nat) (left : Int) (w : World) (e1 : n1 = cx.length) (e2 : n2 = cy.length) (h0 : 0 ≤ left) (h1 : left ≤ 1099511627776) (hn1 : n1 ≤ 140737488351232) (hn2 : n2 ≤ 140737488351232) :
    Calls Try.prog 59 #[.agg #[.slice d1 n1 p1, .slice d2 n2 p2], .int .i64 left] w fun e w' => e = .returned (.int .i64 (szCv left cx cy)) ∧ Below w.heap.size w w' := by
  have hR : szCv left cx cy = if szB left n1 < 0 then -1 else szB (szB left n1) n2 := by rw [szCv, e1, e2]
  obtain ⟨z, hz⟩ : ∃ z, z = szB left n1 := ⟨_, rfl⟩
  have hzc := szB_cases left n1 h0 h1
  have hc1 := fun w2 => szFloat32S_any d1 n1 p1 left w2 h0 h1 hn1
  rw [← hz] at hR hzc hc1
  clear e1 e2 hz
  rcases hzc with hz1 | ⟨hz1, hz2⟩
  · rw [hz1] at hc1
    rw [if_pos (by omega)] at hR
    rw [hR]
    clear hR
    go_enter Try.func59, Try.ntmps59
    go_wp2_with fail
    refine (hc1 _).mono ?_
    rintro e w2 ⟨rfl, rfl⟩
    go_wp2
    go_ret
    exact ⟨rfl, (Below.refl _ _).alloc (Nat.le_refl _) _⟩
  · rw [if_neg (by omega)] at hR
    rw [hR]
    clear hR
    obtain ⟨y, hy⟩ : ∃ y, y = szB z n2 := ⟨_, rfl⟩
    have hyc := szB_cases z n2 hz1 hz2
    have hc2 := fun w2 => szFloat32S_any d2 n2 p2 z w2 hz1 hz2 hn2
    rw [← hy] at hyc hc2 ⊢
    clear hy
    rcases hyc with hy1 | ⟨hy1, hy2⟩
    · rw [hy1] at hc2 ⊢
      go_enter Try.func59, Try.ntmps59
      go_wp2_with fail
      refine (hc1 _).mono ?_
      rintro e w2 ⟨rfl, rfl⟩
      go_wp2_with fail
      refine (hc2 _).mono ?_
      rintro e w2 ⟨rfl, rfl⟩
      go_wp2
      go_ret
      exact ⟨rfl, (Below.refl _ _).alloc (Nat.le_refl _) _⟩
    · go_enter Try.func59, Try.ntmps59
      go_wp2_with fail
      refine (hc1 _).mono ?_
      rintro e w2 ⟨rfl, rfl⟩
      go_wp2_with fail
      refine (hc2 _).mono ?_
      rintro e w2 ⟨rfl, rfl⟩
      go_wp2
      go_ret
      exact ⟨rfl, (Below.refl _ _).alloc (Nat.le_refl _) _⟩

set_option maxHeartbeats 4000000 in
set_option maxRecDepth 100000 in
theorem szDesk_any (v : Value) (d : DkD) (left : Int) (w : World) (hd : DkV w v d) (hok : d.ok) (h0 : 0 ≤ left) (h1 : left ≤ 1048576) :
    Calls Try.prog 14 #[v, .int .i64 left] w fun e w' => e = .returned (.int .i64 (szDk left d)) ∧ Below w.heap.size w w' := by
  obtain ⟨lv, xv, yv, pv, rfl, s1, s2, s3, s4⟩ := hd
  obtain ⟨d1, p1, hv1⟩ := s1.form
  obtain ⟨d2, p2, hv2⟩ := s2.form
  obtain ⟨d3, p3, hv3⟩ := s3.form
  obtain ⟨d4, p4, hv4⟩ := s4.form
  rw [List.length_map] at hv1 hv2 hv3
  have hI := (Inv.start w).alloc [.int .i64 d.W, .int .i64 d.H, lv, xv, yv, pv] 29
  obtain ⟨w1, hw1⟩ : ∃ w1, w1 = w.alloc (.cells #[.int .i64 d.W, .int .i64 d.H, lv, xv, yv, pv] 29) := ⟨_, rfl⟩
  rw [show w.alloc (.cells [Value.int .i64 d.W, .int .i64 d.H, lv, xv, yv, pv].toArray 29) = w1 from hw1.symm] at hI
  obtain ⟨z, hz⟩ : ∃ z, z = szB left d.xs.length := ⟨_, rfl⟩
  have hzc := szB_cases left d.xs.length h0 (by omega)
  have hzl : 0 ≤ z → z ≤ left := fun h => by have := szB_le (left := left) (n := d.xs.length) (by omega); omega
  have hc1 := fun w2 => szPicture_any d.W d.H d1 d.xs.length p1 left w2 h0 (by omega) hok.lx
  have hR : szDk left d = if z < 0 then -1 else if szCv z d.cx d.cy < 0 then -1 else szPS (szCv z d.cx d.cy) d.ps := by rw [szDk, hz]
  have HR := hid hR
  rw [← hz] at hc1 hzc
  obtain ⟨n1, hn1⟩ : ∃ n, n = d.xs.length := ⟨_, rfl⟩
  obtain ⟨n2, hn2⟩ : ∃ n, n = d.cx.length := ⟨_, rfl⟩
  obtain ⟨n3, hn3⟩ : ∃ n, n = d.cy.length := ⟨_, rfl⟩
  obtain ⟨n4, hn4⟩ : ∃ n, n = d.ps.length := ⟨_, rfl⟩
  have hc2 := fun (h : 0 ≤ z) w2 => szCurve_any d2 n2 p2 d3 n3 p3 d.cx d.cy z w2 hn2 hn3 h (by have := hzl h; omega) (by rw [hn2]; exact hok.lcx) (by rw [hn3]; exact hok.lcy)
  have hc4 := fun (q : Int) (h : 0 ≤ q) (h' : q ≤ left) w2 (hb : Below w.heap.size w w2) => szPageS_any pv d.ps q w2 (s4.mono hb) (fun p hp => ⟨(hok.fps p hp).1, (hok.fps p hp).2.1⟩) hok.lps h (by omega)
  rw [← hn1] at hv1 hc1
  rw [← hn2] at hv2
  rw [← hn3] at hv3
  rw [← hn4] at hv4
  subst hv1 hv2 hv3 hv4
  have q0 := (hI.blk 0 rfl).cell 0
  have q1 := (hI.blk 0 rfl).cell 1
  have q2 := (hI.blk 0 rfl).cell 2
  have hC2 := hid hc2
  have hC4 := hid hc4
  have HI := hid hI
  clear hR hz hn1 hn2 hn3 hn4 s1 s2 s3 s4 hc2 hc4 hI
  rcases hzc with hz1 | ⟨hz1, hz2⟩
  · have HR := hid (show szDk left d = -1 by rw [HR.out, if_pos (by omega)])
    rw [hz1] at hc1
    go_enter Try.func14, Try.ntmps14
    go_wp2_with fail
    rw [← hw1]
    clear hw1
    refine (hc1 _).mono ?_
    rintro e w2 ⟨rfl, hb2⟩
    have HI := hid (HI.out.call hb2)
    go_wp2
    go_ret
    exact ⟨ret_int HR.out.symm, HI.out.below⟩
  have hc2 := hC2.out hz1
  obtain ⟨y, hy⟩ : ∃ y, y = szCv z d.cx d.cy := ⟨_, rfl⟩
  have hyl : ¬ y < 0 → y ≤ left := fun h => by have := szCv_le (left := z) (cx := d.cx) (cy := d.cy) (by omega); have := hzl hz1; omega
  have HR := hid (show szDk left d = if y < 0 then -1 else szPS y d.ps by rw [HR.out, if_neg (by omega), hy])
  have hyc : y < 0 → y = -1 := fun h => by
    have h1 := szB_cases z d.cx.length hz1 (by omega)
    rw [hy, szCv] at h ⊢
    by_cases h2 : szB z d.cx.length < 0
    · rw [if_pos h2]
    · rw [if_neg h2] at h ⊢
      rcases szB_cases (szB z d.cx.length) d.cy.length (by omega) (by omega) with h3 | h3 <;> omega
  rw [← hy] at hc2
  clear hy hC2
  by_cases hy1 : y < 0
  · have hye := hyc hy1
    have HR := hid (show szDk left d = -1 by rw [HR.out, if_pos hy1])
    rw [hye] at hc2
    clear hyc hyl
    go_enter Try.func14, Try.ntmps14
    go_wp2_with fail
    rw [← hw1]
    clear hw1
    refine (hc1 _).mono ?_
    rintro e w2 ⟨rfl, hb2⟩
    have HI := hid (HI.out.call hb2)
    have q3 := (HI.out.blk 0 rfl).cell 3
    have q4 := (HI.out.blk 0 rfl).cell 4
    clear hb2
    go_wp2_with fail
    refine (hc2 _).mono ?_
    rintro e w3 ⟨rfl, hb3⟩
    have HI := hid (HI.out.call hb3)
    clear hb3
    go_wp2
    go_ret
    exact ⟨ret_int HR.out.symm, HI.out.below⟩
  have hyl := hyl hy1
  have hcc := hC4.out y (by omega) hyl
  obtain ⟨u, hu⟩ : ∃ u, u = szPS y d.ps := ⟨_, rfl⟩
  have HR := hid (show szDk left d = u by rw [HR.out, if_neg hy1, hu])
  have huc := szPS_cases y d.ps (by omega)
  rw [← hu] at hcc huc
  clear hyc hu hC4
  rcases huc with hu1 | hu1
  all_goals
    try subst hu1
    go_enter Try.func14, Try.ntmps14
    go_wp2_with fail
    rw [← hw1]
    clear hw1
    refine (hc1 _).mono ?_
    rintro e w2 ⟨rfl, hb2⟩
    have HI := hid (HI.out.call hb2)
    have q3 := (HI.out.blk 0 rfl).cell 3
    have q4 := (HI.out.blk 0 rfl).cell 4
    clear hb2
    go_wp2_with fail
    refine (hc2 _).mono ?_
    rintro e w3 ⟨rfl, hb3⟩
    have HI := hid (HI.out.call hb3)
    have q5 := (HI.out.blk 0 rfl).cell 5
    clear hb3 q3 q4
    go_wp2_with fail
    refine (hcc _ HI.out.below).mono ?_
    rintro e w4 ⟨rfl, hb4⟩
    have HI := hid (HI.out.call hb4)
    clear hb4 q5
    go_wp2
    go_ret
    exact ⟨ret_int HR.out.symm, HI.out.below⟩

end Go.Proofs.Ytggbdmgonobefaa
