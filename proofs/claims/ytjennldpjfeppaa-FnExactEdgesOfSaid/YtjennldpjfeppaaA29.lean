/-
  EdgesOf by the program and by the reference.
  Conditions: the lights are a row of cells that reads.
-/
import Derived.Test.YtjennldpjfeppaaA28
namespace Go.Proofs.Ytjennldpjfeppaa
open Go.RowKit
set_option linter.unusedVariables false
set_option linter.unusedSimpArgs false

theorem valid_nat {W H : Int} {xs : List Nat} (h : validB W H xs = true) : ∃ m n : Nat, W = m ∧ H = n ∧ 1 ≤ m ∧ m ≤ 16 ∧ 1 ≤ n ∧ n ≤ 16 ∧ xs.length = m * n := by
  simp only [validB, Bool.and_eq_true, inB_spec, beq_iff_eq] at h
  obtain ⟨⟨⟨a1, a2⟩, a3⟩, -⟩ := h
  obtain ⟨m, rfl⟩ := Int.eq_ofNat_of_zero_le (show 0 ≤ W by omega)
  obtain ⟨n, rfl⟩ := Int.eq_ofNat_of_zero_le (show 0 ≤ H by omega)
  exact ⟨m, n, rfl, rfl, by omega, by omega, by omega, by omega, by exact_mod_cast a3⟩

def edgesR (W H : Int) (xs : List Nat) : Option Pic :=
  if validB W H xs then (if validB W H (grid W.toNat H.toNat (edgeV W.toNat H.toNat xs)) then some ⟨W, H, grid W.toNat H.toNat (edgeV W.toNat H.toNat xs)⟩ else none) else none

theorem edgesR_len (W H : Int) (xs : List Nat) : ((edgesR W H xs).getD ⟨0, 0, []⟩).L.length ≤ 1048576 := by
  cases hok : validB W H xs
  · simp [edgesR, hok]
  · obtain ⟨m, n, rfl, rfl, g1, g2, g3, g4, -⟩ := valid_nat hok
    simp only [edgesR, hok, if_true, Int.toNat_natCast]
    split
    · simp only [Option.getD_some, grid_len]
      have : m * n ≤ 16 * 16 := Nat.mul_le_mul g2 g4
      omega
    · simp

set_option maxHeartbeats 4000000 in
set_option maxRecDepth 100000 in
theorem implEdgesOf_any (W H : Int) (v : Value) (xs : List Nat) (w : World) (hx : Sl w v (xs.map fv)) (hlen : xs.length ≤ 140737488351232) :
    Calls Try.prog 49 #[.agg #[.int .i64 W, .int .i64 H, v]] w (PicRes w (edgesR W H xs)) := by
  have hI := ((Inv.start w).alloc [.int .i64 W, .int .i64 H, v] 24).alloc [.int .i64 0, .int .i64 0, .slice none 0 0] 24
  simp only [size_alloc1] at hI
  obtain ⟨w1, hw1⟩ : ∃ w1, w1 = (w.alloc (.cells #[.int .i64 W, .int .i64 H, v] 24)).alloc (.cells #[.int .i64 0, .int .i64 0, .slice none 0 0] 24) := ⟨_, rfl⟩
  rw [show (w.alloc (.cells [Value.int .i64 W, .int .i64 H, v].toArray 24)).alloc (.cells [Value.int .i64 0, .int .i64 0, .slice none 0 0].toArray 24) = w1 from hw1.symm] at hI
  obtain ⟨b, hbe⟩ : ∃ b, b = w.heap.size := ⟨_, rfl⟩
  rw [← hbe] at hI
  have hcall := ValidPicture_any W H xs _ w1 (hI.arg hx) hlen
  cases hok : validB W H xs
  · have hr : edgesR W H xs = none := by simp [edgesR, hok]
    rw [hr]
    rw [hok] at hcall
    clear hr
    go_enter Try.func49, Try.ntmps49
    go_wp2_with fail
    rw [← hw1, ← hbe]
    have Hbe := hid hbe
    clear hw1 hbe
    refine hcall.mono ?_
    rintro e w2 ⟨rfl, hb2⟩
    replace hI := hI.call hb2
    have hres := hI.blk 0 rfl
    have r0 := hres.cell 0
    have r1 := hres.cell 1
    have r2 := hres.cell 2
    have f0 := hres.frozen 0
    have f1 := hres.frozen 1
    have f2 := hres.frozen 2
    go_wp2
    refine bodyPost_ret (v := .tuple #[.agg #[.int .i64 0, .int .i64 0, .slice none 0 0], .bool false]) (by simp [results, Try.results49, go_sem, r0, r1, r2, f0, f1, f2]) rfl ⟨rfl, ?_⟩
    have hsz := Hbe.out
    exact ((hI.below.setCell (by simp; omega) _).setCell (by simp; omega) _).setCell (by simp; omega) _
  · obtain ⟨m, n, rfl, rfl, g1, g2, g3, g4, g5⟩ := valid_nat hok
    have hr : edgesR (m : Int) (n : Int) xs = if validB m n (grid m n (edgeV m n xs)) then some ⟨m, n, grid m n (edgeV m n xs)⟩ else none := by
      simp only [edgesR, hok, if_true, Int.toNat_natCast]
    rw [hr]
    rw [hok] at hcall
    clear hr hok
    have hed := fun (w2 : World) (hb : Below w1.heap.size w1 w2) => edges_any m n v xs w2 ((hI.arg hx).mono hb) g5 g2 g4
    obtain ⟨G, hG⟩ : ∃ G, G = grid m n (edgeV m n xs) := ⟨_, rfl⟩
    have hGl : G.length ≤ 256 := by
      rw [hG, grid_len]
      have : m * n ≤ 16 * 16 := Nat.mul_le_mul g2 g4
      omega
    rw [← hG] at hed ⊢
    obtain ⟨R, hR⟩ : ∃ R, R = (if validB (m : Int) n G then some (⟨m, n, G⟩ : Pic) else none) := ⟨_, rfl⟩
    rw [← hR]
    have HR := hid hR
    have HGl := hid hGl
    clear hG hR hGl hx g5
    go_enter Try.func49, Try.ntmps49
    go_wp2_with fail
    rw [← hw1, ← hbe]
    have Hbe := hid hbe
    clear hw1 hbe
    refine hcall.mono ?_
    rintro e w2 ⟨rfl, hb2⟩
    replace hI := hI.call hb2
    have hed2 := hed w2 hb2
    have q0 := (hI.blk 1 rfl).cell 0
    have q1 := (hI.blk 1 rfl).cell 1
    have q2 := (hI.blk 1 rfl).cell 2
    clear hed hb2
    go_wp2_with fail
    clear q0 q1 q2
    refine hed2.mono ?_
    rintro e w3 ⟨v3, ys, rfl, hown, hys, hb3⟩
    obtain ⟨ad', cap', rfl, -⟩ := own_form hown
    have hyl : ys.length ≤ 140737488351232 := by
      have h1 : ys.length = G.length := by rw [← hys, nl, List.length_map]
      have := HGl.out
      omega
    have hfail := orFail_any (m : Int) n _ ys w3 (Sl.of_own hown) hyl
    have hvb := validB_nl (m : Int) n (show nl ys = nl (nl ys) by simp [nl, Fl.nf_nf])
    rw [hys] at hvb
    have HI := hid hI
    have Hown := hid hown
    have Hb3 := hid hb3
    have Hys := hid hys
    have Hvb := hid hvb
    clear hI hown hb3 hys hvb hyl hed2
    go_wp2_with fail
    refine hfail.mono ?_
    rintro e w4 ⟨hcase, hb4⟩
    have hI4 := (HI.out.call Hb3.out).call hb4
    have hres := hI4.blk 0 rfl
    have r0 := hres.cell 0
    have r1 := hres.cell 1
    have r2 := hres.cell 2
    have f0 := hres.frozen 0
    have f1 := hres.frozen 1
    have f2 := hres.frozen 2
    have Hown4 := hid (own_below Hown.out hb4)
    have HI4 := hid hI4
    have hsz : w.heap.size ≤ w2.heap.size := HI.out.below.size
    have hsz2 : b + 1 < w2.heap.size := (HI.out.blk 0 rfl).lt
    clear hI4 hres hb4
    rcases hcase with ⟨hv, rfl⟩ | ⟨hv, rfl⟩
    · have hR1 : R = some (⟨m, n, G⟩ : Pic) := by rw [HR.out, ← Hvb.out, hv]; rfl
      have HR1 := hid hR1
      clear hv HR Hvb hR1
      go_wp2
      refine bodyPost_ret (v := .tuple #[.agg #[.int .i64 m, .int .i64 n, .slice ad' ys.length cap'], .bool true]) (by simp [results, Try.results49, go_sem, r0, r1, r2, f0, f1, f2]) rfl (show PicRes w R _ _ from ?_)
      rw [HR1.out]
      refine ⟨_, ys, rfl, ?_, Hys.out, ?_⟩
      · have hz := Hbe.out
        exact own_base hsz (ownsRow_setCell_below (ownsRow_setCell_below (ownsRow_setCell_below Hown4.out (by simp; omega) _) (by simp; omega) _) (by simp; omega) _)
      · have hz := Hbe.out
        exact (((HI4.out.below).setCell (by simp; omega) _).setCell (by simp; omega) _).setCell (by simp; omega) _
    · have hR1 : R = none := by rw [HR.out, ← Hvb.out, hv]; rfl
      have HR1 := hid hR1
      clear hv HR Hvb hR1
      go_wp2
      refine bodyPost_ret (v := .tuple #[.agg #[.int .i64 0, .int .i64 0, .slice none 0 0], .bool false]) (by simp [results, Try.results49, go_sem, r0, r1, r2, f0, f1, f2]) rfl (show PicRes w R _ _ from ?_)
      rw [HR1.out]
      refine ⟨rfl, ?_⟩
      have hz := Hbe.out
      exact (((HI4.out.below).setCell (by simp; omega) _).setCell (by simp; omega) _).setCell (by simp; omega) _

set_option maxHeartbeats 4000000 in
set_option maxRecDepth 100000 in
theorem specEdgesOf_any (W H : Int) (v : Value) (xs : List Nat) (w : World) (hx : Sl w v (xs.map fv)) (hlen : xs.length ≤ 140737488351232) :
    Calls Try.prog 48 #[.agg #[.int .i64 W, .int .i64 H, v]] w (PicRes w (edgesR W H xs)) := by
  have hI := ((Inv.start w).alloc [.int .i64 W, .int .i64 H, v] 24).alloc [.int .i64 0, .int .i64 0, .slice none 0 0] 24
  simp only [size_alloc1] at hI
  obtain ⟨w1, hw1⟩ : ∃ w1, w1 = (w.alloc (.cells #[.int .i64 W, .int .i64 H, v] 24)).alloc (.cells #[.int .i64 0, .int .i64 0, .slice none 0 0] 24) := ⟨_, rfl⟩
  rw [show (w.alloc (.cells [Value.int .i64 W, .int .i64 H, v].toArray 24)).alloc (.cells [Value.int .i64 0, .int .i64 0, .slice none 0 0].toArray 24) = w1 from hw1.symm] at hI
  obtain ⟨b, hbe⟩ : ∃ b, b = w.heap.size := ⟨_, rfl⟩
  rw [← hbe] at hI
  have hcall := l02Is_any b 0 W H _ xs w1 ⟨(hI.blk 1 rfl).cell 0, (hI.blk 1 rfl).cell 1, (hI.blk 1 rfl).cell 2, hI.arg hx⟩ hlen
  cases hok : validB W H xs
  · have hr : edgesR W H xs = none := by simp [edgesR, hok]
    rw [hr]
    rw [hok] at hcall
    clear hr
    go_enter Try.func48, Try.ntmps48
    go_wp2_with fail
    rw [← hw1, ← hbe]
    have Hbe := hid hbe
    clear hw1 hbe
    refine hcall.mono ?_
    rintro e w2 ⟨rfl, hb2⟩
    replace hI := hI.call hb2
    have hres := hI.blk 0 rfl
    have r0 := hres.cell 0
    have r1 := hres.cell 1
    have r2 := hres.cell 2
    have f0 := hres.frozen 0
    have f1 := hres.frozen 1
    have f2 := hres.frozen 2
    go_wp2
    refine bodyPost_ret (v := .tuple #[.agg #[.int .i64 0, .int .i64 0, .slice none 0 0], .bool false]) (by simp [results, Try.results48, go_sem, r0, r1, r2, f0, f1, f2]) rfl ⟨rfl, ?_⟩
    have hsz := Hbe.out
    exact ((hI.below.setCell (by simp; omega) _).setCell (by simp; omega) _).setCell (by simp; omega) _
  · obtain ⟨m, n, rfl, rfl, g1, g2, g3, g4, g5⟩ := valid_nat hok
    have hr : edgesR (m : Int) (n : Int) xs = if validB m n (grid m n (edgeV m n xs)) then some ⟨m, n, grid m n (edgeV m n xs)⟩ else none := by
      simp only [edgesR, hok, if_true, Int.toNat_natCast]
    rw [hr]
    rw [hok] at hcall
    clear hr hok
    have hed := fun (w2 : World) (hb : Below w1.heap.size w1 w2) => l07Edges_any m n v xs b 0 w2 ⟨((hI.call hb).blk 1 rfl).cell 0, ((hI.call hb).blk 1 rfl).cell 1, ((hI.call hb).blk 1 rfl).cell 2, (hI.call hb).arg hx⟩ g5 g2 g4 g1 g3
    obtain ⟨G, hG⟩ : ∃ G, G = grid m n (edgeV m n xs) := ⟨_, rfl⟩
    have hGl : G.length ≤ 256 := by
      rw [hG, grid_len]
      have : m * n ≤ 16 * 16 := Nat.mul_le_mul g2 g4
      omega
    rw [← hG] at hed ⊢
    obtain ⟨R, hR⟩ : ∃ R, R = (if validB (m : Int) n G then some (⟨m, n, G⟩ : Pic) else none) := ⟨_, rfl⟩
    rw [← hR]
    have HR := hid hR
    have HGl := hid hGl
    clear hG hR hGl hx g5
    go_enter Try.func48, Try.ntmps48
    go_wp2_with fail
    rw [← hw1, ← hbe]
    have Hbe := hid hbe
    clear hw1 hbe
    refine hcall.mono ?_
    rintro e w2 ⟨rfl, hb2⟩
    replace hI := hI.call hb2
    have hed2 := hed w2 hb2
    have q0 := (hI.blk 1 rfl).cell 0
    have q1 := (hI.blk 1 rfl).cell 1
    have q2 := (hI.blk 1 rfl).cell 2
    clear hed hb2
    go_wp2_with fail
    clear q0 q1 q2
    refine hed2.mono ?_
    rintro e w3 ⟨v3, ys, rfl, hown, hys, hb3⟩
    obtain ⟨ad', cap', rfl, -⟩ := own_form hown
    have hyl : ys.length ≤ 140737488351232 := by
      have h1 : ys.length = G.length := by rw [← hys, nl, List.length_map]
      have := HGl.out
      omega
    have hfail := l02Give_any (m : Int) n _ ys w3 (Sl.of_own hown) hyl
    have hvb := validB_nl (m : Int) n (show nl ys = nl (nl ys) by simp [nl, Fl.nf_nf])
    rw [hys] at hvb
    have HI := hid hI
    have Hown := hid hown
    have Hb3 := hid hb3
    have Hys := hid hys
    have Hvb := hid hvb
    clear hI hown hb3 hys hvb hyl hed2
    go_wp2_with fail
    refine hfail.mono ?_
    rintro e w4 ⟨hcase, hb4⟩
    have hI4 := (HI.out.call Hb3.out).call hb4
    have hres := hI4.blk 0 rfl
    have r0 := hres.cell 0
    have r1 := hres.cell 1
    have r2 := hres.cell 2
    have f0 := hres.frozen 0
    have f1 := hres.frozen 1
    have f2 := hres.frozen 2
    have Hown4 := hid (own_below Hown.out hb4)
    have HI4 := hid hI4
    have hsz : w.heap.size ≤ w2.heap.size := HI.out.below.size
    have hsz2 : b + 1 < w2.heap.size := (HI.out.blk 0 rfl).lt
    clear hI4 hres hb4
    rcases hcase with ⟨hv, rfl⟩ | ⟨hv, rfl⟩
    · have hR1 : R = some (⟨m, n, G⟩ : Pic) := by rw [HR.out, ← Hvb.out, hv]; rfl
      have HR1 := hid hR1
      clear hv HR Hvb hR1
      go_wp2
      refine bodyPost_ret (v := .tuple #[.agg #[.int .i64 m, .int .i64 n, .slice ad' ys.length cap'], .bool true]) (by simp [results, Try.results48, go_sem, r0, r1, r2, f0, f1, f2]) rfl (show PicRes w R _ _ from ?_)
      rw [HR1.out]
      refine ⟨_, ys, rfl, ?_, Hys.out, ?_⟩
      · have hz := Hbe.out
        exact own_base hsz (ownsRow_setCell_below (ownsRow_setCell_below (ownsRow_setCell_below Hown4.out (by simp; omega) _) (by simp; omega) _) (by simp; omega) _)
      · have hz := Hbe.out
        exact (((HI4.out.below).setCell (by simp; omega) _).setCell (by simp; omega) _).setCell (by simp; omega) _
    · have hR1 : R = none := by rw [HR.out, ← Hvb.out, hv]; rfl
      have HR1 := hid hR1
      clear hv HR Hvb hR1
      go_wp2
      refine bodyPost_ret (v := .tuple #[.agg #[.int .i64 0, .int .i64 0, .slice none 0 0], .bool false]) (by simp [results, Try.results48, go_sem, r0, r1, r2, f0, f1, f2]) rfl (show PicRes w R _ _ from ?_)
      rw [HR1.out]
      refine ⟨rfl, ?_⟩
      have hz := Hbe.out
      exact (((HI4.out.below).setCell (by simp; omega) _).setCell (by simp; omega) _).setCell (by simp; omega) _

end Go.Proofs.Ytjennldpjfeppaa
