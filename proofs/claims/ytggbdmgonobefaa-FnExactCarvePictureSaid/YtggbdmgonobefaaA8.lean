/-
  What a name is: the program's test and the reference's, and pages.
  Conditions: the length of a string within the reach; the lights a row of cells that reads.
-/
import Derived.Test.YtggbdmgonobefaaA7
namespace Go.Proofs.Ytggbdmgonobefaa
open Go.RowKit
set_option linter.unusedVariables false
set_option linter.unusedSimpArgs false

def nameB (s : ByteArray) : Bool := decide (∀ j, (h : j < s.size) → 97 ≤ s[j].toNat ∧ s[j].toNat ≤ 122) && (decide (1 ≤ s.size) && decide (s.size ≤ 8))

theorem nameB_bad {s : ByteArray} {k : Nat} (hk : k < s.size) (h : (s[k].toNat : Int) < 97 ∨ 122 < (s[k].toNat : Int)) : nameB s = false := by
  have : ¬ ∀ j, (h : j < s.size) → 97 ≤ s[j].toNat ∧ s[j].toNat ≤ 122 := by
    intro hh
    have := hh k hk
    omega
  rw [nameB, decide_eq_false this, Bool.false_and]
theorem nameB_all {s : ByteArray} (h : ∀ j, (h : j < s.size) → 97 ≤ s[j].toNat ∧ s[j].toNat ≤ 122) : nameB s = (decide (1 ≤ s.size) && decide (s.size ≤ 8)) := by
  rw [nameB, decide_eq_true h, Bool.true_and]

set_option maxHeartbeats 1000000 in
theorem IsName_any (s : ByteArray) (w : World) (hlen : s.size ≤ 140737488351232) :
    Calls Try.prog 177 #[.string s] w fun e w' => e = .returned (.bool (nameB s)) ∧ w = w' := by
  go_enter Try.func177, Try.ntmps177
  go_wp2
  go_loopw [3, 6] (fun _ i wr => ∃ k : Nat, k ≤ s.size ∧ i = .int .i64 k ∧ wr = w ∧ ∀ j, j < k → ∀ h : j < s.size, 97 ≤ s[j].toNat ∧ s[j].toNat ≤ 122) (fun _ i _ => s.size - (intOf i).toNat)
  case atStart => exact ⟨0, Nat.zero_le _, rfl, rfl, fun j hj => absurd hj (Nat.not_lt_zero _)⟩
  case round =>
    obtain ⟨k, hk, rfl, rfl, hall⟩ := hrel
    have Hall := hid hall
    clear hall
    by_cases hlt : k < s.size
    · rcases (show ((s[k].toNat : Int) < 97) ∨ (97 ≤ (s[k].toNat : Int) ∧ 122 < (s[k].toNat : Int)) ∨ (97 ≤ (s[k].toNat : Int) ∧ (s[k].toNat : Int) ≤ 122) by omega) with h1 | ⟨h1, h2⟩ | ⟨h1, h2⟩
      · have hz := nameB_bad hlt (.inl h1)
        have Hz := hid hz
        clear hz
        go_wp2
        go_ret
        exact ⟨ret_bool Hz.out.symm, rfl⟩
      · have hz := nameB_bad hlt (.inr h2)
        have Hz := hid hz
        clear hz
        go_wp2
        go_ret
        exact ⟨ret_bool Hz.out.symm, rfl⟩
      · have hz : ∀ j, j < k + 1 → ∀ h : j < s.size, 97 ≤ s[j].toNat ∧ s[j].toNat ≤ 122 := by
          intro j hj h
          by_cases hjk : j = k
          · subst hjk; omega
          · exact Hall.out j (by omega) h
        have Hz := hid hz
        clear hz
        go_wp2
        go_roundw
        case rel => exact ⟨k + 1, by omega, by go_num, trivial, Hz.out⟩
        case measure => simp [intOf]; omega
    · have hke : k = s.size := by omega
      have hz : nameB s = (decide (1 ≤ s.size) && decide (s.size ≤ 8)) := nameB_all fun j h => Hall.out j (by omega) h
      have Hz := hid hz
      clear hz
      by_cases h1 : (1 : Int) ≤ s.size
      · by_cases h2 : (s.size : Int) ≤ 8
        · go_wp2
          go_ret
          exact ⟨ret_bool (by rw [Hz.out]; symm; simp; omega), rfl⟩
        · go_wp2
          go_ret
          exact ⟨ret_bool (by rw [Hz.out]; symm; simp; omega), rfl⟩
      · go_wp2
        go_ret
        exact ⟨ret_bool (by rw [Hz.out]; symm; simp; omega), rfl⟩

set_option maxHeartbeats 1000000 in
theorem l07Name_any (s : ByteArray) (w : World) (hlen : s.size ≤ 140737488351232) :
    Calls Try.prog 176 #[.string s] w fun e w' => e = .returned (.bool (nameB s)) ∧ w = w' := by
  go_enter Try.func176, Try.ntmps176
  go_wp2
  go_loopw [3] (fun  i wr => ∃ k : Nat, k ≤ s.size ∧ i = .int .i64 k ∧ wr = w ∧ ∀ j, j < k → ∀ h : j < s.size, 97 ≤ s[j].toNat ∧ s[j].toNat ≤ 122) (fun  i _ => s.size - (intOf i).toNat)
  case atStart => exact ⟨0, Nat.zero_le _, rfl, rfl, fun j hj => absurd hj (Nat.not_lt_zero _)⟩
  case round =>
    obtain ⟨k, hk, rfl, rfl, hall⟩ := hrel
    have Hall := hid hall
    clear hall
    by_cases hlt : k < s.size
    · rcases (show ((s[k].toNat : Int) < 97) ∨ (97 ≤ (s[k].toNat : Int) ∧ 122 < (s[k].toNat : Int)) ∨ (97 ≤ (s[k].toNat : Int) ∧ (s[k].toNat : Int) ≤ 122) by omega) with h1 | ⟨h1, h2⟩ | ⟨h1, h2⟩
      · have hz := nameB_bad hlt (.inl h1)
        have Hz := hid hz
        clear hz
        go_wp2
        go_ret
        exact ⟨ret_bool Hz.out.symm, rfl⟩
      · have hz := nameB_bad hlt (.inr h2)
        have Hz := hid hz
        clear hz
        go_wp2
        go_ret
        exact ⟨ret_bool Hz.out.symm, rfl⟩
      · have hz : ∀ j, j < k + 1 → ∀ h : j < s.size, 97 ≤ s[j].toNat ∧ s[j].toNat ≤ 122 := by
          intro j hj h
          by_cases hjk : j = k
          · subst hjk; omega
          · exact Hall.out j (by omega) h
        have Hz := hid hz
        clear hz
        go_wp2
        go_roundw
        case rel => exact ⟨k + 1, by omega, by go_num, trivial, Hz.out⟩
        case measure => simp [intOf]; omega
    · have hke : k = s.size := by omega
      have hz : nameB s = (decide (1 ≤ s.size) && decide (s.size ≤ 8)) := nameB_all fun j h => Hall.out j (by omega) h
      have Hz := hid hz
      clear hz
      by_cases h1 : (1 : Int) ≤ s.size
      · by_cases h2 : (s.size : Int) ≤ 8
        · go_wp2
          go_ret
          exact ⟨ret_bool (by rw [Hz.out]; symm; simp; omega), rfl⟩
        · go_wp2
          go_ret
          exact ⟨ret_bool (by rw [Hz.out]; symm; simp; omega), rfl⟩
      · go_wp2
        go_ret
        exact ⟨ret_bool (by rw [Hz.out]; symm; simp; omega), rfl⟩

def pageB (m : ByteArray) (W H : Int) (xs : List Nat) : Bool := nameB m && validB W H xs

set_option maxHeartbeats 1000000 in
theorem l07Page_any (b o : Nat) (m : ByteArray) (W H : Int) (v : Value) (xs : List Nat) (w : World) (hc : w.cell? ⟨b, o, none⟩ = some (.string m)) (hp : PicAt w b (o + 1) W H v xs) (hm : m.size ≤ 140737488351232) (hlen : xs.length ≤ 140737488351232) :
    Calls Try.prog 135 #[.pointer (some ⟨b, o, none⟩)] w fun e w' => e = .returned (.bool (pageB m W H xs)) ∧ Below w.heap.size w w' := by
  have hpic := l02Is_any b (o + 1) W H v xs w hp hlen
  have hname := l07Name_any m w hm
  have hpg : pageB m W H xs = (nameB m && validB W H xs) := rfl
  have Hpg := hid hpg
  clear hp hpg
  cases hn : nameB m
  · rw [hn] at hname
    go_enter Try.func135, Try.ntmps135
    go_wp2_with fail
    refine hname.mono ?_
    rintro e w' ⟨rfl, rfl⟩
    go_wp2
    go_ret
    exact ⟨ret_bool (by rw [Hpg.out, hn]; rfl), Below.refl _ _⟩
  · rw [hn] at hname
    go_enter Try.func135, Try.ntmps135
    go_wp2_with fail
    refine hname.mono ?_
    rintro e w' ⟨rfl, rfl⟩
    go_wp2_with fail
    refine hpic.mono ?_
    rintro e w' ⟨rfl, hb⟩
    go_wp2
    go_ret
    exact ⟨ret_bool (by rw [Hpg.out, hn]; rfl), hb⟩

theorem PicAt.boxPage (w : World) (m : ByteArray) (W H : Int) (v : Value) (xs : List Nat) (t : TypeId) (hx : Sl w v (xs.map fv)) :
    (w.alloc (.cells #[.string m, .int .i64 W, .int .i64 H, v] t)).cell? ⟨w.heap.size, 0, none⟩ = some (.string m) ∧ PicAt (w.alloc (.cells #[.string m, .int .i64 W, .int .i64 H, v] t)) w.heap.size (0 + 1) W H v xs :=
  have b := Blk.new w [.string m, .int .i64 W, .int .i64 H, v] t
  ⟨b.cell 0, b.cell 1, b.cell 2, b.cell 3, hx.alloc _⟩

set_option maxHeartbeats 1000000 in
theorem implValidPage_any (m : ByteArray) (W H : Int) (v : Value) (xs : List Nat) (w : World) (hx : Sl w v (xs.map fv)) (hm : m.size ≤ 140737488351232) (hlen : xs.length ≤ 140737488351232) :
    Calls Try.prog 136 #[.agg #[.string m, .int .i64 W, .int .i64 H, v]] w fun e w' => e = .returned (.bool (pageB m W H xs)) ∧ Below w.heap.size w w' := by
  obtain ⟨w1, hw1⟩ : ∃ w1, w1 = w.alloc (.cells #[.string m, .int .i64 W, .int .i64 H, v] 96) := ⟨_, rfl⟩
  obtain ⟨b, hbe⟩ : ∃ b, b = w.heap.size := ⟨_, rfl⟩
  have bk : Blk w1 b [.string m, .int .i64 W, .int .i64 H, v] 96 := by rw [hw1, hbe]; exact Blk.new w _ _
  have hb1 : Below w.heap.size w w1 := by rw [hw1]; exact (Below.refl _ _).alloc (Nat.le_refl _) _
  replace hx := hx.mono hb1
  have hpic := ValidPicture_any W H xs v w1 hx hlen
  have hname := IsName_any m w1 hm
  have hpg : pageB m W H xs = (nameB m && validB W H xs) := rfl
  have Hpg := hid hpg
  have r0 := bk.cell 0
  have r1 := bk.cell 1
  have r2 := bk.cell 2
  have r3 := bk.cell 3
  rw [hw1, hbe] at r0 r1 r2 r3
  clear hx hpg
  cases hn : nameB m
  · rw [hn] at hname
    go_enter Try.func136, Try.ntmps136
    go_wp2_with fail
    rw [← hw1, ← hbe]
    clear r0 r1 r2 r3 hw1 hbe
    refine hname.mono ?_
    rintro e w' ⟨rfl, rfl⟩
    go_wp2
    go_ret
    exact ⟨ret_bool (by rw [Hpg.out, hn]; rfl), hb1⟩
  · rw [hn] at hname
    go_enter Try.func136, Try.ntmps136
    go_wp2_with fail
    rw [← hw1, ← hbe]
    clear r0 r1 r2 r3
    have r1 := bk.cell 1
    have r2 := bk.cell 2
    have r3 := bk.cell 3
    clear hw1 hbe
    refine hname.mono ?_
    rintro e w' ⟨rfl, rfl⟩
    go_wp2_with fail
    refine hpic.mono ?_
    rintro e w' ⟨rfl, hb⟩
    go_wp2
    go_ret
    exact ⟨ret_bool (by rw [Hpg.out, hn]; rfl), hb1.trans (hb.mono hb1.size)⟩

end Go.Proofs.Ytggbdmgonobefaa
