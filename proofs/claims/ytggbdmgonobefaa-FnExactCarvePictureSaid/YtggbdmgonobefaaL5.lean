/-
  Lists of integers marked.
  Conditions: the list is a row of its own.
-/
import Derived.Test.YtggbdmgonobefaaL3
import Derived.Test.YtggbdmgonobefaaL4
namespace Go.Proofs.Ytggbdmgonobefaa
open Go.RowKit
set_option linter.unusedVariables false
set_option linter.unusedSimpArgs false

def marksI (k : Int) (n : Nat) : List Value := (List.range n).map fun (i : Nat) => iv (k + (i : Int))

theorem marksI_length (k : Int) (n : Nat) : (marksI k n).length = n := by simp [marksI]
theorem marksI_get (k : Int) (n j : Nat) (h : j < n) : (marksI k n)[j]? = some (iv (k + j)) := by simp [marksI, h]

theorem marksI_set (k : Int) (j : Nat) (cs : List Value) (h : j < cs.length) :
    (marksI k j ++ cs.drop j).set j (iv (k + j)) = marksI k (j + 1) ++ cs.drop (j + 1) := by
  rw [List.set_append_right _ _ (by rw [marksI_length]; exact Nat.le_refl _), marksI_length, Nat.sub_self, List.drop_eq_getElem_cons h, List.set_cons_zero]
  simp [marksI, List.range_succ]


set_option maxHeartbeats 1000000 in
theorem markInt64S_any (base : Nat) (v : Value) (n : Nat) (cs : List Value) (k : Int) (w : World) (hown : w.ownsRow base 2 1 v n cs) (h0 : 0 ≤ k) (h1 : k + n ≤ 1099511627776) :
    Calls Try.prog 38 #[v, .int .i64 k] w fun e w' => e = .returned (.int .i64 (k + n)) ∧ w'.ownsRow base 2 1 v n (marksI k n) ∧ w.grownBy w' v.ownBlock := by
  obtain ⟨ad, cap, hv, had⟩ := own_form hown
  have hlen : cs.length = n := by have := hown.1; omega
  have Hlen := hid hlen
  clear hlen
  subst hv
  go_enter Try.func38, Try.ntmps38
  go_wp2
  go_loopw [1, 5] (fun q i wr => ∃ j : Nat, j ≤ n ∧ i = .int .i64 j ∧ q = .int .i64 (k + j) ∧ wr.ownsRow base 2 1 (.slice ad n cap) n (marksI k j ++ cs.drop j) ∧ w.grownBy wr (Value.slice ad n cap).ownBlock) (fun _ i _ => n - (intOf i).toNat)
  case atStart => exact ⟨0, Nat.zero_le _, rfl, by simp, by simpa [marksI] using hown, grownBy_refl _ _⟩
  case round =>
    obtain ⟨j, hj, rfl, rfl, hownr, hgr⟩ := hrel
    by_cases hlt : j < n
    · obtain ⟨g, hg, hbg, hgs⟩ := had (by omega)
      have hcs : (marksI k j ++ cs.drop j).length = n := by rw [List.length_append, marksI_length, List.length_drop, Hlen.out]; omega
      have hst := marksI_set k j cs (by rw [Hlen.out]; exact hlt)
      have hob := ownBlock_slice (n := n) (cap := cap) hg
      rw [hob] at hgr
      rw [hg] at hownr
      have hc1 : ∃ c, wr.cell? ⟨g, j, none⟩ = some c := by
        rw [hownr.cellAt j (by omega)]
        exact ⟨_, List.getElem?_eq_getElem (by omega)⟩
      obtain ⟨c, hc1⟩ := hc1
      have hf1 := hownr.frozenAt j
      have hs := hownr.stored j (iv (k + j))
      rw [hst] at hs
      have Hs := hid hs
      have Hgr := hid hgr
      have Hob := hid hob
      clear hs hgr hownr hcs hst hown hob
      subst hg
      go_wp2
      go_roundw
      case rel => exact ⟨j + 1, by omega, by go_num, by go_num, Hs.out.1, by rw [Hob.out]; exact grownBy_trans Hgr.out Hs.out.2⟩
      case measure => simp [intOf]; omega
    · have hjn : j = n := by omega
      subst hjn
      go_wp2
      go_ret
      refine ⟨rfl, ?_, hgr⟩
      rwa [List.drop_of_length_le (by rw [Hlen.out]; exact Nat.le_refl _), List.append_nil] at hownr


end Go.Proofs.Ytggbdmgonobefaa
