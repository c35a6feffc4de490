/-
  Lists of integers held against their marks; seams as results of a law.
  Conditions: the list reads as marks.
-/
import Derived.Test.YtggbdmgonobefaaL5
import Derived.Test.YtggbdmgonobefaaA54
namespace Go.Proofs.Ytggbdmgonobefaa
open Go.RowKit
set_option linter.unusedVariables false
set_option linter.unusedSimpArgs false

set_option maxHeartbeats 1000000 in
theorem heldInt64S_any (v : Value) (n : Nat) (k : Int) (w : World) (hx : Sl w v (marksI k n)) (h0 : 0 ≤ k) (h1 : k + n ≤ 1099511627776) :
    Calls Try.prog 39 #[v, .int .i64 k] w fun e w' => e = .returned (.int .i64 (k + n)) ∧ Below w.heap.size w w' := by
  obtain ⟨ad, cap, hv⟩ := hx.form
  rw [marksI_length] at hv
  subst hv
  go_enter Try.func39, Try.ntmps39
  go_wp2
  go_loop [1, 5] (fun q i => ∃ j : Nat, j ≤ n ∧ i = .int .i64 j ∧ q = .int .i64 (k + j)) (fun _ i => n - (intOf i).toNat)
  case atStart => exact ⟨0, Nat.zero_le _, rfl, by simp⟩
  case round =>
    obtain ⟨j, hj, rfl, rfl⟩ := hrel
    by_cases hlt : j < n
    · obtain ⟨b, off, c, rfl, hci, hcell, hbs⟩ := hx.at j hlt
      rw [marksI_get k n j hlt] at hci
      obtain rfl : iv (k + j) = c := Option.some.inj hci
      clear hci hx
      go_wp2
      go_round
      case rel => exact ⟨j + 1, by omega, by go_num, by go_num⟩
      case measure => simp [intOf]; omega
    · have hjn : j = n := by omega
      subst hjn
      go_wp2
      go_ret
      exact ⟨rfl, Below.refl _ _⟩

/-- A seam, its cost, a Bool and new memory. -/
def SeamUni (w : World) (s : List Int) (c : Nat) (ok : Bool) (e : Ending) (w' : World) : Prop :=
  ∃ ad cap r, e = .returned (.tuple #[.slice ad s.length cap, fv r, .bool ok]) ∧ Fl.nf .f32 r = c ∧ w'.ownsRow w.heap.size 2 1 (.slice ad s.length cap) s.length (s.map iv) ∧ Below w.heap.size w w'

theorem SeamRes.uni {w : World} {r : Option (List Int × Nat)} {e : Ending} {w' : World} (h : SeamRes w r e w') : SeamUni w (r.getD ([], 0)).1 (r.getD ([], 0)).2 r.isSome e w' := by
  cases r with
  | none => exact ⟨none, 0, 0, h.1, nf_zero, World.ownsRow_nil _ _ _ _, h.2⟩
  | some p =>
    obtain ⟨s, c⟩ := p
    obtain ⟨v, r, he, hr, ho, hb⟩ := h
    obtain ⟨ad, cap, rfl, _⟩ := own_form ho
    exact ⟨ad, cap, r, he, hr, ho, hb⟩

theorem leastR_len (W H : Nat) (xs : List Nat) : ((leastR W H xs).getD ([], 0)).1.length ≤ H := by
  unfold leastR
  split
  · simp [seamL_len]
  · simp

theorem seamOfR_len (W H : Int) (xs : List Nat) : ((seamOfR W H xs).getD ([], 0)).1.length ≤ 1048576 := by
  unfold seamOfR
  split
  · rename_i h
    have := leastR_len W.toNat H.toNat (grid W.toNat H.toNat (edgeV W.toNat H.toNat xs))
    have := validB_sides h
    omega
  · simp

end Go.Proofs.Ytggbdmgonobefaa
