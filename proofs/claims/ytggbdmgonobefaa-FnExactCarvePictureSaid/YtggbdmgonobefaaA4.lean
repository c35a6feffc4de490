import Derived.Test.YtggbdmgonobefaaA3
namespace Go.Proofs.Ytggbdmgonobefaa
open Go.RowKit
set_option linter.unusedVariables false
set_option linter.unusedSimpArgs false
attribute [local go_sem] Fl.run_fadd Fl.run_fsub Fl.run_fmul Fl.run_fquo Fl.run_wide Fl.run_store_float

/-! ### What a function that hands back a picture and a Bool leaves -/

/-- A picture as data: its sides and its lights, canonical. -/
structure Pic where
  W : Int
  H : Int
  L : List Nat

def PicRes (w : World) (r : Option Pic) (e : Ending) (w' : World) : Prop :=
  match r with
  | none => e = .returned (.tuple #[.agg #[.int .i64 0, .int .i64 0, .slice none 0 0], .bool false]) ∧ Below w.heap.size w w'
  | some p => ∃ v ys, e = .returned (.tuple #[.agg #[.int .i64 p.W, .int .i64 p.H, v], .bool true]) ∧ w'.ownsRow w.heap.size 52 1 v ys.length (ys.map fv) ∧ nl ys = p.L ∧ Below w.heap.size w w'

set_option maxHeartbeats 400000 in
theorem l00In_any (n lo hi : Int) (w : World) :
    Calls Try.prog 96 #[.int .i64 n, .int .i64 lo, .int .i64 hi] w fun e w' => e = .returned (.bool (inB n lo hi)) ∧ w = w' := by
  go_enter Try.func96, Try.ntmps96
  go_wp2
  · have h : lo ≤ n := by assumption
    go_ret
    exact ⟨by simp [inB, h], rfl⟩
  · have h : n < lo := by assumption
    go_ret
    exact ⟨by simp [inB]; omega, rfl⟩

set_option maxHeartbeats 400000 in
theorem areSides_any (W H : Int) (w : World) :
    Calls Try.prog 147 #[.int .i64 W, .int .i64 H] w fun e w' => e = .returned (.bool (inB W 1 16 && inB H 1 16)) ∧ w = w' := by
  have hb := between_any
  cases h1 : inB W 1 16
  all_goals
    go_enter Try.func147, Try.ntmps147
    go_wp2_with fail
    refine (hb _ _ _ _).mono ?_
    rintro e w' ⟨rfl, rfl⟩
    rw [h1]
    go_wp2_with fail
  · go_ret
    exact ⟨rfl, rfl⟩
  · refine (hb _ _ _ _).mono ?_
    rintro e w' ⟨rfl, rfl⟩
    go_wp2
    go_ret
    exact ⟨by simp, rfl⟩

/-! ### FeatherMask -/

def featherV (at' over : Int) (x : Nat) : Nat :=
  if (x : Int) < at' then 0 else if at' + over ≤ x then 1065353216 else Fl.fop .quo .f32 (floatOfInt .f32 (x - at' + 1)) (floatOfInt .f32 (over + 1))

theorem nf_zero : Fl.nf .f32 0 = 0 := by decide +kernel
theorem nf_one : Fl.nf .f32 1065353216 = 1065353216 := by decide +kernel

def featherR (W H at' over : Int) : Option Pic :=
  if inB W 1 16 && inB H 1 16 && inB at' 0 16 && inB over 0 16 then some ⟨W, H, grid W.toNat H.toNat fun x _ => featherV at' over x⟩ else none

/-! ### The reference -/

theorem grownBy_of_drewN {w w' : World} {n : Nat} {o : Obj} {row : Option Nat} (h : ((w.drewN n).alloc o).grownBy w' row) : (w.alloc o).grownBy w' row := ⟨h.os, h.tape, h.output, h.size, h.block⟩
theorem own_drewN {w : World} {b : Nat} {e : TypeId} {sz : Nat} {v : Value} {n : Nat} {cs : List Value} (k : Nat) (h : w.ownsRow b e sz v n cs) : (w.drewN k).ownsRow b e sz v n cs := h

end Go.Proofs.Ytggbdmgonobefaa
