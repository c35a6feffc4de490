/-
  CutSeam by the program, whole.
  Conditions: the lights and the seam are rows of cells that read.
-/
import Derived.Test.YtjennldpjfeppaaA15
namespace Go.Proofs.Ytjennldpjfeppaa
open Go.RowKit
set_option linter.unusedVariables false
set_option linter.unusedSimpArgs false

set_option maxHeartbeats 2000000 in
set_option maxRecDepth 100000 in
theorem implCutSeam_any (W H : Int) (v : Value) (xs : List Nat) (s : List Int) (sv : Value) (w : World) (hx : Sl w v (xs.map fv)) (hlen : xs.length ≤ 140737488351232) (hs : Sl w sv (s.map iv)) (hslen : s.length ≤ 140737488351232) :
    Calls Try.prog 46 #[.agg #[.int .i64 W, .int .i64 H, v], sv] w (PicRes w (cutR W H xs s)) := by
  have hI := ((Inv.start w).alloc [.int .i64 W, .int .i64 H, v] 24).alloc [.int .i64 0, .int .i64 0, .slice none 0 0] 24
  simp only [size_alloc1] at hI
  obtain ⟨w1, hw1⟩ : ∃ w1, w1 = (w.alloc (.cells #[.int .i64 W, .int .i64 H, v] 24)).alloc (.cells #[.int .i64 0, .int .i64 0, .slice none 0 0] 24) := ⟨_, rfl⟩
  rw [show (w.alloc (.cells [Value.int .i64 W, .int .i64 H, v].toArray 24)).alloc (.cells [Value.int .i64 0, .int .i64 0, .slice none 0 0].toArray 24) = w1 from hw1.symm] at hI
  obtain ⟨b, hbe⟩ : ∃ b, b = w.heap.size := ⟨_, rfl⟩
  rw [← hbe] at hI
  have hcall := implIsSeam_any W H v xs s sv w1 (hI.arg hx) hlen (hI.arg hs) hslen
  cases hok : seamB W H xs s
  · have hr : cutR W H xs s = none := by simp [cutR, hok]
    rw [hr]
    rw [hok] at hcall
    clear hr
    go_enter Try.func46, Try.ntmps46
    go_wp2_with fail
    rw [← hw1, ← hbe]
    have Hbe := hid hbe
    clear hw1 hbe
    refine hcall.mono ?_
    rintro e w2 ⟨rfl, hb2⟩
    replace hI := hI.call hb2
    have hres := hI.blk 0 rfl
    have r0 := hres.cell 0
    have r1 := hres.cell 1
    have r2 := hres.cell 2
    have f0 := hres.frozen 0
    have f1 := hres.frozen 1
    have f2 := hres.frozen 2
    go_wp2
    refine bodyPost_ret (v := .tuple #[.agg #[.int .i64 0, .int .i64 0, .slice none 0 0], .bool false]) (by simp [results, Try.results46, go_sem, r0, r1, r2, f0, f1, f2]) rfl ⟨rfl, ?_⟩
    have hsz := Hbe.out
    exact ((hI.below.setCell (by simp; omega) _).setCell (by simp; omega) _).setCell (by simp; omega) _
  · by_cases h2 : W < 2
    · have hr : cutR W H xs s = none := by simp [cutR, hok]; omega
      rw [hr]
      rw [hok] at hcall
      clear hr
      go_enter Try.func46, Try.ntmps46
      go_wp2_with fail
      rw [← hw1, ← hbe]
      have Hbe := hid hbe
      clear hw1 hbe
      refine hcall.mono ?_
      rintro e w2 ⟨rfl, hb2⟩
      replace hI := hI.call hb2
      have q0 := (hI.blk 1 rfl).cell 0
      have hres := hI.blk 0 rfl
      have r0 := hres.cell 0
      have r1 := hres.cell 1
      have r2 := hres.cell 2
      have f0 := hres.frozen 0
      have f1 := hres.frozen 1
      have f2 := hres.frozen 2
      go_wp2
      refine bodyPost_ret (v := .tuple #[.agg #[.int .i64 0, .int .i64 0, .slice none 0 0], .bool false]) (by simp [results, Try.results46, go_sem, r0, r1, r2, f0, f1, f2]) rfl ⟨rfl, ?_⟩
      have hsz := Hbe.out
      exact ((hI.below.setCell (by simp; omega) _).setCell (by simp; omega) _).setCell (by simp; omega) _
    · obtain ⟨m, n, rfl, rfl, g1, g2, g3, g4, g5, g6, g7⟩ := seam_nat hok
      have hr : cutR (m : Int) (n : Int) xs s = some ⟨(m : Int) - 1, n, grid (m - 1) n (cutV m xs s)⟩ := by simp [cutR, hok]; omega
      rw [hr]
      rw [hok] at hcall
      clear hr hok
      have hW2 : ((m - 1 : Nat) : Int) = (m : Int) - 1 := by omega
      have hcut := fun (w3 : World) (h : Below w1.heap.size w1 w3) => cutSeam_any m n v xs s sv w3 ((hI.arg hx).mono h) ((hI.arg hs).mono h) g5 g6 g2 g4 g1 g7
      rw [hW2] at hcut
      clear hx hs g5 g6 g7 hW2
      go_enter Try.func46, Try.ntmps46
      go_wp2_with fail
      rw [← hw1, ← hbe]
      have Hbe := hid hbe
      clear hw1 hbe
      refine hcall.mono ?_
      rintro e w2 ⟨rfl, hb2⟩
      replace hI := hI.call hb2
      have q0 := (hI.blk 1 rfl).cell 0
      have q1 := (hI.blk 1 rfl).cell 1
      have q2 := (hI.blk 1 rfl).cell 2
      go_wp2_with fail
      clear q0 q1 q2
      refine (hcut _ hb2).mono ?_
      rintro e w3 ⟨v3, ys, rfl, hown, hys, hb3⟩
      obtain ⟨ad', cap', rfl, -⟩ := own_form hown
      have hlt := (hI.blk 0 rfl).lt
      replace hI := hI.call hb3
      have hres := hI.blk 0 rfl
      have r0 := hres.cell 0
      have r1 := hres.cell 1
      have r2 := hres.cell 2
      have f0 := hres.frozen 0
      have f1 := hres.frozen 1
      have f2 := hres.frozen 2
      have Hown := hid hown
      have Hys := hid hys
      have HI := hid hI
      clear hown hys hb3 hb2 hcut hI hres
      go_wp2
      refine bodyPost_ret (v := .tuple #[.agg #[.int .i64 (m - 1), .int .i64 n, .slice ad' ys.length cap'], .bool true]) (by simp [results, Try.results46, go_sem, r0, r1, r2, f0, f1, f2]) rfl ⟨_, ys, rfl, ?_, Hys.out, ?_⟩
      · have hsz := Hbe.out
        exact own_base (by omega) (ownsRow_setCell_below (ownsRow_setCell_below (ownsRow_setCell_below Hown.out (by simp; omega) _) (by simp; omega) _) (by simp; omega) _)
      · have hsz := Hbe.out
        exact (((HI.out.below).setCell (by simp; omega) _).setCell (by simp; omega) _).setCell (by simp; omega) _

end Go.Proofs.Ytjennldpjfeppaa
