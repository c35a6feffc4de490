/-
  OverlapError: the program's and the reference's.
  Conditions: the lights are rows of cells that read.
-/
import Derived.Test.YtjennldpjfeppaaA13
namespace Go.Proofs.Ytjennldpjfeppaa
open Go.RowKit
set_option linter.unusedVariables false
set_option linter.unusedSimpArgs false
attribute [local go_sem] Fl.run_fadd Fl.run_fsub Fl.run_fmul Fl.run_fquo Fl.run_wide Fl.run_store_float

theorem meets_nat {W1 H1 : Int} {x1 : List Nat} {W2 H2 : Int} {x2 : List Nat} {over : Int} (h : meetsB W1 H1 x1 W2 H2 x2 over = true) :
    ∃ w1 hh w2 ov : Nat, W1 = w1 ∧ H1 = hh ∧ W2 = w2 ∧ H2 = hh ∧ over = ov ∧ x1.length = w1 * hh ∧ x2.length = w2 * hh ∧ w1 ≤ 16 ∧ w2 ≤ 16 ∧ hh ≤ 16 ∧ 1 ≤ ov ∧ ov ≤ w1 ∧ ov ≤ w2 := by
  simp only [meetsB, Bool.and_eq_true, validB, inB_spec, beq_iff_eq] at h
  obtain ⟨⟨⟨⟨⟨⟨a1, a2⟩, a3⟩, -⟩, ⟨⟨b1, b2⟩, b3⟩, -⟩, c⟩, d⟩ := h
  obtain ⟨w1, rfl⟩ := Int.eq_ofNat_of_zero_le (show 0 ≤ W1 by omega)
  obtain ⟨hh, rfl⟩ := Int.eq_ofNat_of_zero_le (show 0 ≤ H1 by omega)
  obtain ⟨w2, rfl⟩ := Int.eq_ofNat_of_zero_le (show 0 ≤ W2 by omega)
  obtain ⟨ov, rfl⟩ := Int.eq_ofNat_of_zero_le (show 0 ≤ over by omega)
  subst c
  refine ⟨w1, hh, w2, ov, rfl, rfl, rfl, rfl, rfl, ?_, ?_, by omega, by omega, by omega, by omega, by omega, by omega⟩
  · exact_mod_cast a3
  · exact_mod_cast b3

def ovOk (W1 H1 : Int) (x1 : List Nat) (W2 H2 : Int) (x2 : List Nat) (over : Int) : Bool := meetsB W1 H1 x1 W2 H2 x2 over && Fl.fin (errV W1.toNat H1.toNat x1 W2.toNat x2 over.toNat)
def ovV (W1 H1 : Int) (x1 : List Nat) (W2 H2 : Int) (x2 : List Nat) (over : Int) : Nat := if ovOk W1 H1 x1 W2 H2 x2 over then errV W1.toNat H1.toNat x1 W2.toNat x2 over.toNat else 0

/-- A light that may be none, and whether there is one. -/
def NumRes (w : World) (c : Nat) (ok : Bool) (e : Ending) (w' : World) : Prop := ∃ r, e = .returned (.tuple #[fv r, .bool ok]) ∧ Fl.nf .f32 r = c ∧ Below w.heap.size w w'

set_option maxHeartbeats 2000000 in
set_option maxRecDepth 100000 in
theorem specOverlap_any (W1 H1 : Int) (v1 : Value) (x1 : List Nat) (W2 H2 : Int) (v2 : Value) (x2 : List Nat) (over : Int) (w : World) (hx1 : Sl w v1 (x1.map fv)) (hx2 : Sl w v2 (x2.map fv))
    (hl1 : x1.length ≤ 140737488351232) (hl2 : x2.length ≤ 140737488351232) :
    Calls Try.prog 36 #[.agg #[.int .i64 W1, .int .i64 H1, v1], .agg #[.int .i64 W2, .int .i64 H2, v2], .int .i64 over] w (NumRes w (ovV W1 H1 x1 W2 H2 x2 over) (ovOk W1 H1 x1 W2 H2 x2 over)) := by
  obtain ⟨w1, hw1⟩ : ∃ w1, w1 = (w.alloc (.cells #[.int .i64 W1, .int .i64 H1, v1] 24)).alloc (.cells #[.int .i64 W2, .int .i64 H2, v2] 24) := ⟨_, rfl⟩
  have hb1 : Below w.heap.size w w1 := by rw [hw1]; exact ((Below.refl _ _).alloc (Nat.le_refl _) _).alloc (by simp) _
  have k1 : Blk w1 w.heap.size [.int .i64 W1, .int .i64 H1, v1] 24 := by rw [hw1]; exact (Blk.new w _ _).alloc _
  have k2 : Blk w1 (w.heap.size + 1) [.int .i64 W2, .int .i64 H2, v2] 24 := by
    rw [hw1]
    have := Blk.new (w.alloc (.cells #[.int .i64 W1, .int .i64 H1, v1] 24)) [.int .i64 W2, .int .i64 H2, v2] 24
    simpa using this
  have hp1 : PicAt w1 w.heap.size 0 W1 H1 v1 x1 := ⟨k1.cell 0, k1.cell 1, k1.cell 2, hx1.mono hb1⟩
  have hp2 : PicAt w1 (w.heap.size + 1) 0 W2 H2 v2 x2 := ⟨k2.cell 0, k2.cell 1, k2.cell 2, hx2.mono hb1⟩
  have hcall := l07Meets_any _ 0 W1 H1 v1 x1 _ 0 W2 H2 v2 x2 over w1 hp1 hp2 hl1 hl2
  clear k1 k2 hx1 hx2
  cases hm : meetsB W1 H1 x1 W2 H2 x2 over
  · have ho : ovOk W1 H1 x1 W2 H2 x2 over = false := by simp [ovOk, hm]
    have hv : ovV W1 H1 x1 W2 H2 x2 over = 0 := by simp [ovV, ho]
    rw [ho, hv]
    rw [hm] at hcall
    clear ho hv hp1 hp2
    go_enter Try.func36, Try.ntmps36
    go_wp2_with fail
    rw [← hw1]
    clear hw1
    refine hcall.mono ?_
    rintro e w2 ⟨rfl, hb2⟩
    go_wp2
    exact bodyPost_ret (v := .tuple #[fv 0, .bool false]) (by simp [results, Try.results36, go_sem]) rfl ⟨0, rfl, nf_zero, hb1.trans (hb2.mono hb1.size)⟩
  · have ho : ovOk W1 H1 x1 W2 H2 x2 over = Fl.fin (errV W1.toNat H1.toNat x1 W2.toNat x2 over.toNat) := by simp [ovOk, hm]
    have hv : ovV W1 H1 x1 W2 H2 x2 over = if Fl.fin (errV W1.toNat H1.toNat x1 W2.toNat x2 over.toNat) then errV W1.toNat H1.toNat x1 W2.toNat x2 over.toNat else 0 := by rw [ovV, ho]
    rw [ho, hv]
    rw [hm] at hcall
    clear ho hv
    obtain ⟨m1, hh, m2, ov, rfl, rfl, rfl, rfl, rfl, q1, q2, g1, g2, g3, g4, g5, g6⟩ := meets_nat hm
    simp only [Int.toNat_natCast]
    have herr := fun w3 (h : Below w1.heap.size w1 w3) => l07Error_any m1 m2 hh ov v1 v2 x1 x2 _ 0 _ 0 w3 (hp1.mono h) (hp2.mono h) q1 q2 g1 g2 g3 g4 g5 g6
    obtain ⟨E, hE⟩ : ∃ E, E = errV m1 hh x1 m2 x2 ov := ⟨_, rfl⟩
    rw [← hE] at herr ⊢
    clear hp1 hp2 q1 q2 hE hm
    obtain ⟨F, hF⟩ : ∃ F, F = Fl.fin E := ⟨_, rfl⟩
    rw [← hF]
    have HF := hid hF
    obtain ⟨C, hCv⟩ : ∃ C, C = if F = true then E else 0 := ⟨_, rfl⟩
    rw [← hCv]
    have HCv := hid hCv
    clear hF hCv
    go_enter Try.func36, Try.ntmps36
    go_wp2_with fail
    rw [← hw1]
    clear hw1
    refine hcall.mono ?_
    rintro e w2 ⟨rfl, hb2⟩
    go_wp2_with fail
    refine (herr _ hb2).mono ?_
    rintro e w3 ⟨r, rfl, hr, hb3⟩
    have hfin : Fl.fin r = F := by rw [HF.out, ← hr, Fl.fin_nf]
    have Hr := hid hr
    have Hb := hid (hb1.trans ((hb2.trans (hb3.mono hb2.size)).mono hb1.size))
    have Hfin := hid hfin
    clear hr hfin hb2 hb3
    go_wp2_with fail
    refine (l02Number_any r w3).mono ?_
    rintro e w4 ⟨rfl, hb4⟩
    rw [Hfin.out]
    clear HF Hfin
    cases F
    · go_wp2
      exact bodyPost_ret (v := .tuple #[fv 0, .bool false]) (by simp [results, Try.results36, go_sem]) rfl ⟨0, rfl, nf_zero.trans HCv.out.symm, Hb.out.trans (hb4.mono Hb.out.size)⟩
    · go_wp2
      exact bodyPost_ret (v := .tuple #[fv r, .bool true]) (by simp [results, Try.results36, go_sem]) rfl ⟨r, rfl, Hr.out.trans HCv.out.symm, Hb.out.trans (hb4.mono Hb.out.size)⟩

set_option maxHeartbeats 2000000 in
set_option maxRecDepth 100000 in
theorem implOverlap_any (W1 H1 : Int) (v1 : Value) (x1 : List Nat) (W2 H2 : Int) (v2 : Value) (x2 : List Nat) (over : Int) (w : World) (hx1 : Sl w v1 (x1.map fv)) (hx2 : Sl w v2 (x2.map fv))
    (hl1 : x1.length ≤ 140737488351232) (hl2 : x2.length ≤ 140737488351232) :
    Calls Try.prog 37 #[.agg #[.int .i64 W1, .int .i64 H1, v1], .agg #[.int .i64 W2, .int .i64 H2, v2], .int .i64 over] w (NumRes w (ovV W1 H1 x1 W2 H2 x2 over) (ovOk W1 H1 x1 W2 H2 x2 over)) := by
  obtain ⟨w1, hw1⟩ : ∃ w1, w1 = (w.alloc (.cells #[.int .i64 W1, .int .i64 H1, v1] 24)).alloc (.cells #[.int .i64 W2, .int .i64 H2, v2] 24) := ⟨_, rfl⟩
  have hb1 : Below w.heap.size w w1 := by rw [hw1]; exact ((Below.refl _ _).alloc (Nat.le_refl _) _).alloc (by simp) _
  obtain ⟨b, hbe⟩ : ∃ b, b = w.heap.size := ⟨_, rfl⟩
  have k1 : Blk w1 b [.int .i64 W1, .int .i64 H1, v1] 24 := by rw [hw1, hbe]; exact (Blk.new w _ _).alloc _
  have k2 : Blk w1 (b + 1) [.int .i64 W2, .int .i64 H2, v2] 24 := by
    rw [hw1, hbe]
    have := Blk.new (w.alloc (.cells #[.int .i64 W1, .int .i64 H1, v1] 24)) [.int .i64 W2, .int .i64 H2, v2] 24
    simpa using this
  replace hx1 := hx1.mono hb1
  replace hx2 := hx2.mono hb1
  have hcall := isOver_any W1 H1 v1 x1 W2 H2 v2 x2 over w1 hx1 hx2 hl1 hl2
  cases hm : meetsB W1 H1 x1 W2 H2 x2 over
  · have ho : ovOk W1 H1 x1 W2 H2 x2 over = false := by simp [ovOk, hm]
    have hv : ovV W1 H1 x1 W2 H2 x2 over = 0 := by simp [ovV, ho]
    rw [ho, hv]
    rw [hm] at hcall
    clear ho hv hx1 hx2
    go_enter Try.func37, Try.ntmps37
    go_wp2_with fail
    rw [← hw1]
    clear hw1
    refine hcall.mono ?_
    rintro e w2 ⟨rfl, hb2⟩
    go_wp2
    exact bodyPost_ret (v := .tuple #[fv 0, .bool false]) (by simp [results, Try.results37, go_sem]) rfl ⟨0, rfl, nf_zero, hb1.trans (hb2.mono hb1.size)⟩
  · have ho : ovOk W1 H1 x1 W2 H2 x2 over = Fl.fin (errV W1.toNat H1.toNat x1 W2.toNat x2 over.toNat) := by simp [ovOk, hm]
    have hv : ovV W1 H1 x1 W2 H2 x2 over = if Fl.fin (errV W1.toNat H1.toNat x1 W2.toNat x2 over.toNat) then errV W1.toNat H1.toNat x1 W2.toNat x2 over.toNat else 0 := by rw [ovV, ho]
    rw [ho, hv]
    rw [hm] at hcall
    clear ho hv
    obtain ⟨m1, hh, m2, ov, rfl, rfl, rfl, rfl, rfl, q1, q2, g1, g2, g3, g4, g5, g6⟩ := meets_nat hm
    simp only [Int.toNat_natCast]
    have hap := fun w3 (h : Below w1.heap.size w1 w3) => apart_any m1 m2 hh ov v1 v2 x1 x2 w3 (hx1.mono h) (hx2.mono h) q1 q2 g1 g2 g3 g5 g6
    obtain ⟨G, hG⟩ : ∃ G, G = grid ov hh (apartV m1 x1 m2 x2 ov) := ⟨_, rfl⟩
    have hGl : G.length = ov * hh := by rw [hG, grid_len]
    have hmn : ov * hh ≤ 256 := by have : ov * hh ≤ 16 * 16 := Nat.mul_le_mul (by omega) (by omega); omega
    obtain ⟨E, hE⟩ : ∃ E, E = errV m1 hh x1 m2 x2 ov := ⟨_, rfl⟩
    have he : E = Fl.fop .quo .f32 (sumG 0 G) (floatOfInt .f32 (G.length : Nat)) := by rw [hE, errV, ← hG, hGl]
    rw [← hE]
    rw [← hG] at hap
    have He := hid he
    have hGl' : G.length ≤ 256 := by omega
    have HG := hid hGl'
    clear hx1 hx2 q1 q2 hE hm hG hGl hmn he hGl'
    obtain ⟨F, hF⟩ : ∃ F, F = Fl.fin E := ⟨_, rfl⟩
    rw [← hF]
    have HF := hid hF
    obtain ⟨C, hCv⟩ : ∃ C, C = if F = true then E else 0 := ⟨_, rfl⟩
    rw [← hCv]
    have HCv := hid hCv
    clear hF hCv
    go_enter Try.func37, Try.ntmps37
    go_wp2_with fail
    rw [← hw1, ← hbe]
    clear hw1 hbe
    refine hcall.mono ?_
    rintro e w2 ⟨rfl, hb2⟩
    replace k1 := k1.below hb2 k1.lt
    replace k2 := k2.below hb2 k2.lt
    have r0 := k1.cell 0
    have r1 := k1.cell 1
    have r2 := k1.cell 2
    have s0 := k2.cell 0
    have s1 := k2.cell 1
    have s2 := k2.cell 2
    go_wp2_with fail
    clear r0 r1 r2 s0 s1 s2
    refine (hap _ hb2).mono ?_
    rintro e w3 ⟨v, ys, rfl, hown, hys, hb3⟩
    have hfl : ∀ (A B v : Value) (w : World), Sem.run Try.prog (Instr.field 24 (.agg #[A, B, v]) 2) w = .ok v w := fun _ _ _ _ => rfl
    have hyl : ys.length = G.length := by rw [← hys, nl, List.length_map]
    have hsum : sumG 0 ys = sumG 0 G := by rw [← hys, sumG_nl]
    have hmean := mean_any ys v w3 (Sl.of_own hown) (by rw [hyl]; have := HG.out; omega)
    rw [hsum, hyl, ← He.out] at hmean
    have Hb := hid (hb1.trans ((hb2.trans (hb3.mono hb2.size)).mono hb1.size))
    clear hb2 hb3 hown hys hyl hsum
    go_wp2_with fail
    refine hmean.mono ?_
    rintro e w4 ⟨r, rfl, hr, hb4⟩
    have hfin : Fl.fin r = F := by rw [HF.out, ← hr, Fl.fin_nf]
    have Hr := hid hr
    have Hfin := hid hfin
    clear hr hfin
    replace Hb := hid (Hb.out.trans (hb4.mono Hb.out.size))
    clear hb4
    go_wp2_with fail
    refine (numberOrFail_any r w4).mono ?_
    rintro e w5 ⟨rfl, hb5⟩
    rw [Hfin.out]
    clear HF Hfin
    cases F
    · go_wp2
      exact bodyPost_ret (v := .tuple #[fv 0, .bool false]) (by simp [results, Try.results37, go_sem]) rfl ⟨0, rfl, nf_zero.trans HCv.out.symm, Hb.out.trans (hb5.mono Hb.out.size)⟩
    · go_wp2
      exact bodyPost_ret (v := .tuple #[fv r, .bool true]) (by simp [results, Try.results37, go_sem]) rfl ⟨r, rfl, Hr.out.trans HCv.out.symm, Hb.out.trans (hb5.mono Hb.out.size)⟩

end Go.Proofs.Ytjennldpjfeppaa
