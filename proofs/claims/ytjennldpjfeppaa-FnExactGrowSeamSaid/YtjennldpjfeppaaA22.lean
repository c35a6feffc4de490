/-
  GrowSeam by the program.
  Conditions: the lights and the seam are rows of cells that read.
-/
import Derived.Test.YtjennldpjfeppaaA21
namespace Go.Proofs.Ytjennldpjfeppaa
open Go.RowKit
set_option linter.unusedVariables false
set_option linter.unusedSimpArgs false

def growR (W H : Int) (xs : List Nat) (s : List Int) : Option Pic :=
  if seamB W H xs s && decide (W < 16) then (if validB (W + 1) H (grid (W.toNat + 1) H.toNat (growV W.toNat xs s)) then some ⟨W + 1, H, grid (W.toNat + 1) H.toNat (growV W.toNat xs s)⟩ else none) else none

set_option maxHeartbeats 4000000 in
set_option maxRecDepth 100000 in
theorem implGrowSeam_any (W H : Int) (v : Value) (xs : List Nat) (s : List Int) (sv : Value) (w : World) (hx : Sl w v (xs.map fv)) (hlen : xs.length ≤ 140737488351232) (hs : Sl w sv (s.map iv)) (hslen : s.length ≤ 140737488351232) :
    Calls Try.prog 51 #[.agg #[.int .i64 W, .int .i64 H, v], sv] w (PicRes w (growR W H xs s)) := by
  have hmf : ∀ (fn : Fn) (first cap : Array Value) (w : World), (Instr.makeFunc fn first cap).run Try.prog w = .ok (.func fn first cap) w := fun _ _ _ _ => rfl
  obtain ⟨ads, caps, hsv⟩ := hs.form
  obtain ⟨ns, hns⟩ : ∃ n, n = (s.map iv).length := ⟨_, rfl⟩
  rw [← hns] at hsv
  clear hns
  subst hsv
  have hI := (((Inv.start w).alloc [.int .i64 W, .int .i64 H, v] 24).alloc [.slice ads ns caps] 31).alloc [.int .i64 0, .int .i64 0, .slice none 0 0] 24
  simp only [size_alloc1] at hI
  obtain ⟨w1, hw1⟩ : ∃ w1, w1 = ((w.alloc (.cells #[.int .i64 W, .int .i64 H, v] 24)).alloc (.cells #[.slice ads ns caps] 31)).alloc (.cells #[.int .i64 0, .int .i64 0, .slice none 0 0] 24) := ⟨_, rfl⟩
  rw [show ((w.alloc (.cells [Value.int .i64 W, .int .i64 H, v].toArray 24)).alloc (.cells [Value.slice ads ns caps].toArray 31)).alloc (.cells [Value.int .i64 0, .int .i64 0, .slice none 0 0].toArray 24) = w1 from hw1.symm] at hI
  obtain ⟨b, hbe⟩ : ∃ b, b = w.heap.size := ⟨_, rfl⟩
  rw [← hbe] at hI
  have hcall := implIsSeam_any W H v xs s _ w1 (hI.arg hx) hlen (hI.arg hs) hslen
  rcases (show seamB W H xs s = false ∨ (seamB W H xs s = true ∧ W = 16) ∨ (seamB W H xs s = true ∧ W < 16) by
    cases hok : seamB W H xs s
    · exact .inl rfl
    · obtain ⟨m, n, rfl, rfl, g1, g2, -⟩ := seam_nat hok
      by_cases h : m = 16
      · exact .inr (.inl ⟨rfl, by omega⟩)
      · exact .inr (.inr ⟨rfl, by omega⟩)) with hok | ⟨hok, h2⟩ | ⟨hok, h2⟩
  · have hr : growR W H xs s = none := by simp [growR, hok]
    rw [hr]
    rw [hok] at hcall
    clear hr
    go_enter Try.func51, Try.ntmps51
    go_wp2_with fail
    rw [← hw1, ← hbe]
    have Hbe := hid hbe
    clear hw1 hbe
    refine hcall.mono ?_
    rintro e w2 ⟨rfl, hb2⟩
    replace hI := hI.call hb2
    have hres := hI.blk 0 rfl
    have r0 := hres.cell 0
    have r1 := hres.cell 1
    have r2 := hres.cell 2
    have f0 := hres.frozen 0
    have f1 := hres.frozen 1
    have f2 := hres.frozen 2
    go_wp2
    refine bodyPost_ret (v := .tuple #[.agg #[.int .i64 0, .int .i64 0, .slice none 0 0], .bool false]) (by simp [results, Try.results51, go_sem, r0, r1, r2, f0, f1, f2]) rfl ⟨rfl, ?_⟩
    have hsz := Hbe.out
    exact ((hI.below.setCell (by simp; omega) _).setCell (by simp; omega) _).setCell (by simp; omega) _
  · have hr : growR W H xs s = none := by simp [growR, h2]
    rw [hr]
    rw [hok] at hcall
    clear hr
    subst h2
    go_enter Try.func51, Try.ntmps51
    go_wp2_with fail
    rw [← hw1, ← hbe]
    have Hbe := hid hbe
    clear hw1 hbe
    refine hcall.mono ?_
    rintro e w2 ⟨rfl, hb2⟩
    replace hI := hI.call hb2
    have q0 := (hI.blk 2 rfl).cell 0
    have hres := hI.blk 0 rfl
    have r0 := hres.cell 0
    have r1 := hres.cell 1
    have r2 := hres.cell 2
    have f0 := hres.frozen 0
    have f1 := hres.frozen 1
    have f2 := hres.frozen 2
    go_wp2
    refine bodyPost_ret (v := .tuple #[.agg #[.int .i64 0, .int .i64 0, .slice none 0 0], .bool false]) (by simp [results, Try.results51, go_sem, r0, r1, r2, f0, f1, f2]) rfl ⟨rfl, ?_⟩
    have hsz := Hbe.out
    exact ((hI.below.setCell (by simp; omega) _).setCell (by simp; omega) _).setCell (by simp; omega) _
  · obtain ⟨m, n, rfl, rfl, g1, g2, g3, g4, g5, g6, g7⟩ := seam_nat hok
    have hr : growR (m : Int) (n : Int) xs s = if validB ((m : Int) + 1) n (grid (m + 1) n (growV m xs s)) then some ⟨(m : Int) + 1, n, grid (m + 1) n (growV m xs s)⟩ else none := by
      simp only [growR, hok, h2, decide_true, Bool.and_self, if_true, Int.toNat_natCast]
    rw [hr]
    rw [hok] at hcall
    clear hr hok
    have k1 := hI.blk 2 rfl
    have k2 := hI.blk 1 rfl
    have hdr := fun (w2 : World) (h2' : Below w1.heap.size w1 w2) => drawn_any (m + 1) n (by omega) g4 97 #[.pointer (some ⟨b + 1, 0, none⟩), .pointer (some ⟨b, 0, none⟩)] (growV m xs s) w2 entGrow
      (fun x y w3 hx' hy' hb3 => growSeam1_any m n v xs s _ b (b + 1) x y w3
        ⟨((k1.below h2' k1.lt).below hb3 (k1.below h2' k1.lt).lt).cell 0, ((k1.below h2' k1.lt).below hb3 (k1.below h2' k1.lt).lt).cell 1, ((k1.below h2' k1.lt).below hb3 (k1.below h2' k1.lt).lt).cell 2, ((hI.arg hx).mono h2').mono hb3⟩
        (((k2.below h2' k2.lt).below hb3 (k2.below h2' k2.lt).lt).cell 0) (((hI.arg hs).mono h2').mono hb3) g5 g6 (by omega) g4 g7 hx' hy')
    rw [show ((m + 1 : Nat) : Int) = (m : Int) + 1 by simp] at hdr
    clear k1 k2 hx hs g5 g6 g7
    obtain ⟨G, hG⟩ : ∃ G, G = grid (m + 1) n (growV m xs s) := ⟨_, rfl⟩
    have hGl : G.length ≤ 256 := by
      rw [hG, grid, cellsTo, List.length_map, List.length_range]
      have : (m + 1) * n ≤ 16 * 16 := Nat.mul_le_mul (by omega) g4
      omega
    rw [← hG] at hdr ⊢
    obtain ⟨R, hR⟩ : ∃ R, R = (if validB ((m : Int) + 1) n G then some (⟨(m : Int) + 1, n, G⟩ : Pic) else none) := ⟨_, rfl⟩
    rw [← hR]
    have HR := hid hR
    have HGl := hid hGl
    clear hG hR hGl
    go_enter Try.func51, Try.ntmps51
    go_wp2_with fail
    rw [← hw1, ← hbe]
    have Hbe := hid hbe
    clear hw1 hbe
    refine hcall.mono ?_
    rintro e w2 ⟨rfl, hb2⟩
    replace hI := hI.call hb2
    have q0 := (hI.blk 2 rfl).cell 0
    have q1 := (hI.blk 2 rfl).cell 1
    go_wp2_with fail
    clear q0 q1
    refine (hdr _ hb2).mono ?_
    rintro e w3 ⟨v3, ys, rfl, hown, hys, hb3⟩
    obtain ⟨ad', cap', rfl, -⟩ := own_form hown
    have hyl : ys.length ≤ 140737488351232 := by
      have h1 : ys.length = G.length := by rw [← hys, nl, List.length_map]
      have := HGl.out
      omega
    have hfail := orFail_any ((m : Int) + 1) n _ ys w3 (Sl.of_own hown) hyl
    have hvb := validB_nl ((m : Int) + 1) n (show nl ys = nl (nl ys) by simp [nl, Fl.nf_nf])
    rw [hys] at hvb
    have HI := hid hI
    have Hown := hid hown
    have Hb3 := hid hb3
    have Hys := hid hys
    have Hvb := hid hvb
    clear hI hown hb3 hys hvb hyl
    go_wp2_with fail
    refine hfail.mono ?_
    rintro e w4 ⟨hcase, hb4⟩
    have hI4 := (HI.out.call Hb3.out).call hb4
    have hres := hI4.blk 0 rfl
    have r0 := hres.cell 0
    have r1 := hres.cell 1
    have r2 := hres.cell 2
    have f0 := hres.frozen 0
    have f1 := hres.frozen 1
    have f2 := hres.frozen 2
    have Hown4 := hid (own_below (own_base (b' := w2.heap.size) (Nat.le_refl _) Hown.out) hb4)
    have HI4 := hid hI4
    have hsz : w.heap.size ≤ w2.heap.size := HI.out.below.size
    have hsz2 : b + 1 + 1 < w2.heap.size := (HI.out.blk 0 rfl).lt
    clear hI4 hres hb4
    rcases hcase with ⟨hv, rfl⟩ | ⟨hv, rfl⟩
    · have hR1 : R = some (⟨(m : Int) + 1, n, G⟩ : Pic) := by rw [HR.out, ← Hvb.out, hv]; rfl
      have HR1 := hid hR1
      clear hv HR Hvb hR1
      go_wp2
      refine bodyPost_ret (v := .tuple #[.agg #[.int .i64 (m + 1), .int .i64 n, .slice ad' ys.length cap'], .bool true]) (by simp [results, Try.results51, go_sem, r0, r1, r2, f0, f1, f2]) rfl (show PicRes w R _ _ from ?_)
      rw [HR1.out]
      refine ⟨_, ys, rfl, ?_, Hys.out, ?_⟩
      · have hz := Hbe.out
        exact own_base hsz (ownsRow_setCell_below (ownsRow_setCell_below (ownsRow_setCell_below Hown4.out (by simp; omega) _) (by simp; omega) _) (by simp; omega) _)
      · have hz := Hbe.out
        exact (((HI4.out.below).setCell (by simp; omega) _).setCell (by simp; omega) _).setCell (by simp; omega) _
    · have hR1 : R = none := by rw [HR.out, ← Hvb.out, hv]; rfl
      have HR1 := hid hR1
      clear hv HR Hvb hR1
      go_wp2
      refine bodyPost_ret (v := .tuple #[.agg #[.int .i64 0, .int .i64 0, .slice none 0 0], .bool false]) (by simp [results, Try.results51, go_sem, r0, r1, r2, f0, f1, f2]) rfl (show PicRes w R _ _ from ?_)
      rw [HR1.out]
      refine ⟨rfl, ?_⟩
      have hz := Hbe.out
      exact (((HI4.out.below).setCell (by simp; omega) _).setCell (by simp; omega) _).setCell (by simp; omega) _

end Go.Proofs.Ytjennldpjfeppaa
