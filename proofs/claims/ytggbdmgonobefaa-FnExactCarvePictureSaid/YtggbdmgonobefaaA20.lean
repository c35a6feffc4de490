/-
  A picture, if it is valid: the program's and the reference's way to hand it back.
  Conditions: the lights are a row of cells that reads.
-/
import Derived.Test.YtggbdmgonobefaaA11
import Derived.Test.YtggbdmgonobefaaLInv
namespace Go.Proofs.Ytggbdmgonobefaa
open Go.RowKit
set_option linter.unusedVariables false
set_option linter.unusedSimpArgs false

theorem orFail_any (W H : Int) (v : Value) (xs : List Nat) (w : World) (hx : Sl w v (xs.map fv)) (hlen : xs.length ≤ 140737488351232) :
    Calls Try.prog 123 #[.agg #[.int .i64 W, .int .i64 H, v]] w fun e w' =>
      ((validB W H xs = true ∧ e = .returned (.tuple #[.agg #[.int .i64 W, .int .i64 H, v], .bool true])) ∨ (validB W H xs = false ∧ e = .returned (.tuple #[.agg #[.int .i64 0, .int .i64 0, .slice none 0 0], .bool false]))) ∧ Below w.heap.size w w' := by
  obtain ⟨ad, cap, hv⟩ := hx.form
  obtain ⟨n, hn⟩ : ∃ n, n = (xs.map fv).length := ⟨_, rfl⟩
  rw [← hn] at hv
  clear hn
  subst hv
  have hI := ((Inv.start w).alloc [.int .i64 W, .int .i64 H, .slice ad n cap] 32).alloc [.int .i64 0, .int .i64 0, .slice none 0 0] 32
  simp only [size_alloc1] at hI
  obtain ⟨w1, hw1⟩ : ∃ w1, w1 = (w.alloc (.cells #[.int .i64 W, .int .i64 H, .slice ad n cap] 32)).alloc (.cells #[.int .i64 0, .int .i64 0, .slice none 0 0] 32) := ⟨_, rfl⟩
  rw [show (w.alloc (.cells [Value.int .i64 W, .int .i64 H, .slice ad n cap].toArray 32)).alloc (.cells [Value.int .i64 0, .int .i64 0, .slice none 0 0].toArray 32) = w1 from hw1.symm] at hI
  obtain ⟨b, hbe⟩ : ∃ b, b = w.heap.size := ⟨_, rfl⟩
  rw [← hbe] at hI
  have hcall := ValidPicture_any W H xs _ w1 (hI.arg hx) hlen
  clear hx
  cases hok : validB W H xs
  all_goals
    rw [hok] at hcall
    go_enter Try.func123, Try.ntmps123
    go_wp2_with fail
    rw [← hw1, ← hbe]
    have Hbe := hid hbe
    clear hw1 hbe
    refine hcall.mono ?_
    rintro e w2 ⟨rfl, hb2⟩
    replace hI := hI.call hb2
    have hres := hI.blk 0 rfl
    have r0 := hres.cell 0
    have r1 := hres.cell 1
    have r2 := hres.cell 2
    have f0 := hres.frozen 0
    have f1 := hres.frozen 1
    have f2 := hres.frozen 2
    have q0 := (hI.blk 1 rfl).cell 0
    have q1 := (hI.blk 1 rfl).cell 1
    have q2 := (hI.blk 1 rfl).cell 2
    have HI := hid hI
    clear hI hres
    go_wp2
  · refine bodyPost_ret (v := .tuple #[.agg #[.int .i64 0, .int .i64 0, .slice none 0 0], .bool false]) (by simp [results, Try.results123, go_sem, r0, r1, r2, f0, f1, f2]) rfl ⟨.inr ⟨by trivial, rfl⟩, ?_⟩
    have hsz := Hbe.out
    exact ((HI.out.below.setCell (by simp; omega) _).setCell (by simp; omega) _).setCell (by simp; omega) _
  · refine bodyPost_ret (v := .tuple #[.agg #[.int .i64 W, .int .i64 H, .slice ad n cap], .bool true]) (by simp [results, Try.results123, go_sem, r0, r1, r2, f0, f1, f2]) rfl ⟨.inl ⟨by trivial, rfl⟩, ?_⟩
    have hsz := Hbe.out
    exact ((HI.out.below.setCell (by simp; omega) _).setCell (by simp; omega) _).setCell (by simp; omega) _

theorem l02Give_any (W H : Int) (v : Value) (xs : List Nat) (w : World) (hx : Sl w v (xs.map fv)) (hlen : xs.length ≤ 140737488351232) :
    Calls Try.prog 98 #[.agg #[.int .i64 W, .int .i64 H, v]] w fun e w' =>
      ((validB W H xs = true ∧ e = .returned (.tuple #[.agg #[.int .i64 W, .int .i64 H, v], .bool true])) ∨ (validB W H xs = false ∧ e = .returned (.tuple #[.agg #[.int .i64 0, .int .i64 0, .slice none 0 0], .bool false]))) ∧ Below w.heap.size w w' := by
  obtain ⟨ad, cap, hv⟩ := hx.form
  obtain ⟨n, hn⟩ : ∃ n, n = (xs.map fv).length := ⟨_, rfl⟩
  rw [← hn] at hv
  clear hn
  subst hv
  have hI := ((Inv.start w).alloc [.int .i64 W, .int .i64 H, .slice ad n cap] 32).alloc [.int .i64 0, .int .i64 0, .slice none 0 0] 32
  simp only [size_alloc1] at hI
  obtain ⟨w1, hw1⟩ : ∃ w1, w1 = (w.alloc (.cells #[.int .i64 W, .int .i64 H, .slice ad n cap] 32)).alloc (.cells #[.int .i64 0, .int .i64 0, .slice none 0 0] 32) := ⟨_, rfl⟩
  rw [show (w.alloc (.cells [Value.int .i64 W, .int .i64 H, .slice ad n cap].toArray 32)).alloc (.cells [Value.int .i64 0, .int .i64 0, .slice none 0 0].toArray 32) = w1 from hw1.symm] at hI
  obtain ⟨b, hbe⟩ : ∃ b, b = w.heap.size := ⟨_, rfl⟩
  rw [← hbe] at hI
  have hcall := l02Is_any b 0 W H _ xs w1 ⟨(hI.blk 1 rfl).cell 0, (hI.blk 1 rfl).cell 1, (hI.blk 1 rfl).cell 2, hI.arg hx⟩ hlen
  clear hx
  cases hok : validB W H xs
  all_goals
    rw [hok] at hcall
    go_enter Try.func98, Try.ntmps98
    go_wp2_with fail
    rw [← hw1, ← hbe]
    have Hbe := hid hbe
    clear hw1 hbe
    refine hcall.mono ?_
    rintro e w2 ⟨rfl, hb2⟩
    replace hI := hI.call hb2
    have hres := hI.blk 0 rfl
    have r0 := hres.cell 0
    have r1 := hres.cell 1
    have r2 := hres.cell 2
    have f0 := hres.frozen 0
    have f1 := hres.frozen 1
    have f2 := hres.frozen 2
    have q0 := (hI.blk 1 rfl).cell 0
    have q1 := (hI.blk 1 rfl).cell 1
    have q2 := (hI.blk 1 rfl).cell 2
    have HI := hid hI
    clear hI hres
    go_wp2
  · refine bodyPost_ret (v := .tuple #[.agg #[.int .i64 0, .int .i64 0, .slice none 0 0], .bool false]) (by simp [results, Try.results98, go_sem, r0, r1, r2, f0, f1, f2]) rfl ⟨.inr ⟨by trivial, rfl⟩, ?_⟩
    have hsz := Hbe.out
    exact ((HI.out.below.setCell (by simp; omega) _).setCell (by simp; omega) _).setCell (by simp; omega) _
  · refine bodyPost_ret (v := .tuple #[.agg #[.int .i64 W, .int .i64 H, .slice ad n cap], .bool true]) (by simp [results, Try.results98, go_sem, r0, r1, r2, f0, f1, f2]) rfl ⟨.inl ⟨by trivial, rfl⟩, ?_⟩
    have hsz := Hbe.out
    exact ((HI.out.below.setCell (by simp; omega) _).setCell (by simp; omega) _).setCell (by simp; omega) _

/-- A fresh picture, handed back if it is valid. -/
theorem give_uni {w w1 w2 : World} {W H : Int} {ad : Option Addr} {cap : Nat} {ys : List Nat} {e : Ending} (ho : w1.ownsRow w.heap.size 52 1 (.slice ad ys.length cap) ys.length (ys.map fv)) (hb1 : Below w.heap.size w w1) (hb2 : Below w1.heap.size w1 w2)
    (h : (validB W H ys = true ∧ e = .returned (.tuple #[.agg #[.int .i64 W, .int .i64 H, .slice ad ys.length cap], .bool true])) ∨ (validB W H ys = false ∧ e = .returned (.tuple #[.agg #[.int .i64 0, .int .i64 0, .slice none 0 0], .bool false]))) :
    PicRes w (if validB W H ys then some ⟨W, H, nl ys⟩ else none) e w2 := by
  rcases h with ⟨hv, he⟩ | ⟨hv, he⟩
  · rw [hv, if_pos rfl]
    exact ⟨_, ys, he, own_below ho hb2, rfl, hb1.trans (hb2.mono hb1.size)⟩
  · rw [hv, if_neg Bool.false_ne_true]
    exact ⟨he, hb1.trans (hb2.mono hb1.size)⟩

theorem validB_nl (W H : Int) {xs ys : List Nat} (h : nl xs = nl ys) : validB W H xs = validB W H ys := by
  have hl : xs.length = ys.length := by have := congrArg List.length h; simpa [nl] using this
  have hf : ∀ zs : List Nat, allFin (nl zs) = allFin zs := fun zs => by
    simp only [allFin, nl, List.all_map]
    congr 1
    funext z
    exact Fl.fin_nf z
  rw [validB, validB, hl, ← hf xs, h, hf ys]

end Go.Proofs.Ytggbdmgonobefaa
