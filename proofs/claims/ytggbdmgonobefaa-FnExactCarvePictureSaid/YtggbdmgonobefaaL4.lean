/-
  Pages: copied, compared, weighed.
  Conditions: the lights a row of cells that reads.
-/
import Derived.Test.YtggbdmgonobefaaA8
namespace Go.Proofs.Ytggbdmgonobefaa
open Go.RowKit
set_option linter.unusedVariables false
set_option linter.unusedSimpArgs false

set_option maxHeartbeats 2000000 in
theorem toPage_any (m : ByteArray) (W H : Int) (cs : List Value) (xs : List Nat) (hxs : cs = xs.map fv) (v : Value) (w : World) (hx : Sl w v cs) (hlen : xs.length ≤ 1048576) :
    Calls Try.prog 71 #[.agg #[.string m, .int .i64 W, .int .i64 H, v]] w fun e w' => ∃ v', e = .returned (.agg #[.string m, .int .i64 W, .int .i64 H, v']) ∧ w'.ownsRow w.heap.size 52 1 v' xs.length cs ∧ Below w.heap.size w w' := by
  obtain ⟨ad, cap, hv⟩ := hx.form
  obtain ⟨n, hn⟩ : ∃ n, n = cs.length := ⟨_, rfl⟩
  rw [← hn] at hv
  clear hn
  subst hv
  have hcall := fun (w1 : World) (hb : Below w.heap.size w w1) => toPicture_any W H cs xs hxs _ w1 (hx.mono hb) hlen
  clear hx hxs
  go_enter Try.func71, Try.ntmps71
  go_wp2_with fail
  refine (hcall _ ?hb).mono ?_
  case hb => exact (((Below.refl _ _).alloc (Nat.le_refl _) _).alloc (by simp) _).alloc (by simp; omega) _
  rintro e w1 ⟨v', rfl, hown, hb1⟩
  obtain ⟨ad', cap', rfl, -⟩ := own_form hown
  have hb2 : Below w.heap.size w w1 := ((((Below.refl _ _).alloc (Nat.le_refl _) _).alloc (by simp) _).alloc (by simp; omega) _).trans (hb1.mono (by simp; omega))
  obtain ⟨hc, hf⟩ := bcell hb1
  have c0 : w1.cell? ⟨w.heap.size + 1 + 1, 0, none⟩ = some (.string m) := by rw [hc _ _ (by simp)]; simp [go_sem]
  have c1 : w1.cell? ⟨w.heap.size + 1 + 1, 1, none⟩ = some (.int .i64 0) := by rw [hc _ _ (by simp)]; simp [go_sem]
  have c2 : w1.cell? ⟨w.heap.size + 1 + 1, 2, none⟩ = some (.int .i64 0) := by rw [hc _ _ (by simp)]; simp [go_sem]
  have c3 : w1.cell? ⟨w.heap.size + 1 + 1, 3, none⟩ = some (.slice none 0 0) := by rw [hc _ _ (by simp)]; simp [go_sem]
  have f1 : w1.frozen? ⟨w.heap.size + 1 + 1, 1, none⟩ = false := by rw [hf _ _ (by simp)]; simp [go_sem]
  have f2 : w1.frozen? ⟨w.heap.size + 1 + 1, 2, none⟩ = false := by rw [hf _ _ (by simp)]; simp [go_sem]
  have f3 : w1.frozen? ⟨w.heap.size + 1 + 1, 3, none⟩ = false := by rw [hf _ _ (by simp)]; simp [go_sem]
  have d0 : w1.cell? ⟨w.heap.size + 1, 0, none⟩ = some (.string ⟨#[]⟩) := by rw [hc _ _ (by simp)]; simp [go_sem]
  have d1 : w1.cell? ⟨w.heap.size + 1, 1, none⟩ = some (.int .i64 0) := by rw [hc _ _ (by simp)]; simp [go_sem]
  have d2 : w1.cell? ⟨w.heap.size + 1, 2, none⟩ = some (.int .i64 0) := by rw [hc _ _ (by simp)]; simp [go_sem]
  have d3 : w1.cell? ⟨w.heap.size + 1, 3, none⟩ = some (.slice none 0 0) := by rw [hc _ _ (by simp)]; simp [go_sem]
  have g0 : w1.frozen? ⟨w.heap.size + 1, 0, none⟩ = false := by rw [hf _ _ (by simp)]; simp [go_sem]
  have g1 : w1.frozen? ⟨w.heap.size + 1, 1, none⟩ = false := by rw [hf _ _ (by simp)]; simp [go_sem]
  have g2 : w1.frozen? ⟨w.heap.size + 1, 2, none⟩ = false := by rw [hf _ _ (by simp)]; simp [go_sem]
  have g3 : w1.frozen? ⟨w.heap.size + 1, 3, none⟩ = false := by rw [hf _ _ (by simp)]; simp [go_sem]
  have Hown := hid hown
  have Hb1 := hid hb1
  have Hb2 := hid hb2
  clear hown hb1 hb2 hc hf
  go_wp2
  refine bodyPost_ret (v := .agg #[.string m, .int .i64 W, .int .i64 H, .slice ad' xs.length cap']) (by simp [results, Try.results71, go_sem, c0, c1, c2, c3, f1, f2, f3, d0, d1, d2, d3, g0, g1, g2, g3]) rfl ⟨_, rfl, ?_, ?_⟩
  · exact own_base (by simp; omega) (ownsRow_setCell_below (ownsRow_setCell_below (ownsRow_setCell_below (ownsRow_setCell_below (ownsRow_setCell_below (ownsRow_setCell_below (ownsRow_setCell_below Hown.out (by simp) _) (by simp) _) (by simp) _) (by simp) _) (by simp) _) (by simp) _) (by simp) _)
  · exact (((((((Hb2.out.setCell (by simp; omega) _).setCell (by simp; omega) _).setCell (by simp; omega) _).setCell (by simp) _).setCell (by simp) _).setCell (by simp) _).setCell (by simp) _)

set_option maxHeartbeats 1000000 in
theorem eqPage_yes (m : ByteArray) (W H : Int) (xs ys : List Nat) (va vb : Value) (w : World) (ha : Sl w va (xs.map fv)) (hb : Sl w vb (ys.map fv)) (hlen : xs.length ≤ 140737488351232) (h : nl xs = nl ys) :
    Calls Try.prog 74 #[.agg #[.string m, .int .i64 W, .int .i64 H, va], .agg #[.string m, .int .i64 W, .int .i64 H, vb]] w fun e w' => e = .returned (.bool true) ∧ Below w.heap.size w w' := by
  have hcall := fun (o1 o2 : Obj) => eqPicture_yes W H xs ys va vb ((w.alloc o1).alloc o2) ((ha.alloc o1).alloc o2) ((hb.alloc o1).alloc o2) hlen h
  clear ha hb h
  go_enter Try.func74, Try.ntmps74
  go_wp2_with fail
  refine (hcall _ _).mono ?_
  rintro e w1 ⟨rfl, hb1⟩
  go_wp2
  go_ret
  exact ⟨rfl, (((Below.refl _ _).alloc (Nat.le_refl _) _).alloc (by simp) _).trans (hb1.mono (by simp; omega))⟩

set_option maxHeartbeats 1000000 in
theorem szPage_any (m : ByteArray) (W H : Int) (ad : Option Addr) (n cap : Nat) (left : Int) (w : World) (h0 : 0 ≤ left) (h1 : left ≤ 1099511627776) (hm : m.size ≤ 140737488351232) (hn : n ≤ 140737488351232) :
    Calls Try.prog 68 #[.agg #[.string m, .int .i64 W, .int .i64 H, .slice ad n cap], .int .i64 left] w fun e w' => e = .returned (.int .i64 (if left < m.size then -1 else szB (left - m.size) n)) ∧ Below w.heap.size w w' := by
  by_cases h : left < m.size
  · rw [if_pos h]
    go_enter Try.func68, Try.ntmps68
    go_wp2
    go_ret
    exact ⟨rfl, (Below.refl _ _).alloc (Nat.le_refl _) _⟩
  · rw [if_neg h]
    obtain ⟨l, hl⟩ : ∃ l, l = left - m.size := ⟨_, rfl⟩
    have hcall := fun (o1 : Obj) => szPicture_any W H ad n cap (left - m.size) (w.alloc o1) (by omega) (by omega) hn
    obtain ⟨z, hz⟩ : ∃ z, z = szB (left - m.size) n := ⟨_, rfl⟩
    have hzz : z = -1 ∨ 0 ≤ z := by rw [hz, szB]; split <;> omega
    rw [← hz] at hcall ⊢
    clear hz
    rcases hzz with hz | hz
    · subst hz
      go_enter Try.func68, Try.ntmps68
      go_wp2_with fail
      refine (hcall _).mono ?_
      rintro e w1 ⟨rfl, hb⟩
      go_wp2
      go_ret
      exact ⟨rfl, ((Below.refl _ _).alloc (Nat.le_refl _) _).trans (hb.mono (by simp))⟩
    · go_enter Try.func68, Try.ntmps68
      go_wp2_with fail
      refine (hcall _).mono ?_
      rintro e w1 ⟨rfl, hb⟩
      go_wp2
      go_ret
      exact ⟨rfl, ((Below.refl _ _).alloc (Nat.le_refl _) _).trans (hb.mono (by simp))⟩

end Go.Proofs.Ytggbdmgonobefaa
