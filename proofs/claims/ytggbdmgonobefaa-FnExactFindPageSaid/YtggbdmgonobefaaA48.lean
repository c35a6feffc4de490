/-
  A page found by its name: two strings compared, and the search by halves.
  Conditions: the list reads as pages; its names go up.
-/
import Derived.Test.YtggbdmgonobefaaA38
namespace Go.Proofs.Ytggbdmgonobefaa
open Go.RowKit
set_option linter.unusedVariables false
set_option linter.unusedSimpArgs false

def cmpV (a b : List UInt8) : Int := if Op.bytesLess a b then -1 else if a == b then 0 else 1

theorem bytes_trans : ∀ {a b c : List UInt8}, Op.bytesLess a b = true → Op.bytesLess b c = true → Op.bytesLess a c = true
  | _, [], _, h, _ => by simp [Op.bytesLess] at h
  | _, _ :: _, [], _, h => by simp [Op.bytesLess] at h
  | [], _ :: _, _ :: _, _, _ => rfl
  | x :: a, y :: b, z :: c, h1, h2 => by
    simp only [Op.bytesLess, Bool.or_eq_true, Bool.and_eq_true, decide_eq_true_eq, beq_iff_eq] at h1 h2 ⊢
    have lt : ∀ p q : UInt8, p < q ↔ p.toNat < q.toNat := fun p q => Iff.rfl
    rcases h1 with h1 | ⟨rfl, h1⟩
    · rcases h2 with h2 | ⟨rfl, h2⟩
      · left
        rw [lt] at *
        omega
      · exact .inl h1
    · rcases h2 with h2 | ⟨rfl, h2⟩
      · exact .inl h2
      · exact .inr ⟨rfl, bytes_trans h1 h2⟩

theorem bytes_irrefl (a : List UInt8) : Op.bytesLess a a = false := by
  have := bytes_total a a
  cases h : Op.bytesLess a a
  · rfl
  · rw [h] at this
    simp at this

def nmAt (ps : List PgD) (k : Nat) : List UInt8 := (ps.getD k noPage).m.toList
theorem names_up {ps : List PgD} (h : arePgs ps = true) : ∀ j i, i < j → j < ps.length → Op.bytesLess (nmAt ps i) (nmAt ps j) = true
  | 0, i, hi, _ => absurd hi (Nat.not_lt_zero _)
  | j + 1, i, hi, hj => by
    simp only [arePgs, Bool.and_eq_true, decide_eq_true_eq] at h
    have h1 := h.1 (j + 1) hj
    simp only [okAt, Bool.and_eq_true, Bool.or_eq_true, Nat.add_sub_cancel] at h1
    have h2 : Op.bytesLess (nmAt ps j) (nmAt ps (j + 1)) = true := by
      rcases h1.2 with h3 | h3
      · simp at h3
      · exact h3
    by_cases hij : i = j
    · rw [hij]; exact h2
    · exact bytes_trans (names_up (by simp only [arePgs, Bool.and_eq_true, decide_eq_true_eq]; exact h) j i (by omega) (by omega)) h2

set_option maxHeartbeats 1000000 in
set_option maxRecDepth 100000 in
theorem cmpNaN_any (a : ByteArray) (w : World) : Calls Try.prog 178 #[.string a] w fun e w' => e = .returned (.bool false) ∧ w = w' := by
  go_enter Try.func178, Try.ntmps178
  go_wp2
  go_ret
  exact ⟨by simp, rfl⟩

set_option maxHeartbeats 1000000 in
set_option maxRecDepth 100000 in
theorem cmpCompare_any (a b : ByteArray) (w : World) : Calls Try.prog 139 #[.string a, .string b] w fun e w' => e = .returned (.int .i64 (cmpV a.toList b.toList)) ∧ w = w' := by
  have hR : cmpV a.toList b.toList = if Op.bytesLess a.toList b.toList then -1 else if a.toList == b.toList then 0 else 1 := rfl
  have HR := hid hR
  clear hR
  have n1 := fun w2 => cmpNaN_any a w2
  have n2 := fun w2 => cmpNaN_any b w2
  cases h1 : Op.bytesLess a.toList b.toList
  · cases h2 : (a.toList == b.toList)
    · have HR := hid (show cmpV a.toList b.toList = 1 by rw [HR.out, h1, h2]; rfl)
      go_enter Try.func139, Try.ntmps139
      go_wp2_with fail
      refine (n1 _).mono ?_
      rintro e w2 ⟨rfl, rfl⟩
      go_wp2_with fail
      refine (n2 _).mono ?_
      rintro e w2 ⟨rfl, rfl⟩
      go_wp2
      go_ret
      exact ⟨ret_int HR.out.symm, rfl⟩
    · have HR := hid (show cmpV a.toList b.toList = 0 by rw [HR.out, h1, h2]; rfl)
      go_enter Try.func139, Try.ntmps139
      go_wp2_with fail
      refine (n1 _).mono ?_
      rintro e w2 ⟨rfl, rfl⟩
      go_wp2_with fail
      refine (n2 _).mono ?_
      rintro e w2 ⟨rfl, rfl⟩
      go_wp2
      go_ret
      exact ⟨ret_int HR.out.symm, rfl⟩
  · have HR := hid (show cmpV a.toList b.toList = -1 by rw [HR.out, h1]; rfl)
    go_enter Try.func139, Try.ntmps139
    go_wp2_with fail
    refine (n1 _).mono ?_
    rintro e w2 ⟨rfl, rfl⟩
    go_wp2_with fail
    refine (n2 _).mono ?_
    rintro e w2 ⟨rfl, rfl⟩
    go_wp2
    go_ret
    exact ⟨ret_int HR.out.symm, rfl⟩

set_option maxHeartbeats 1000000 in
theorem findPage1_any (m : ByteArray) (W H : Int) (lv : Value) (s : ByteArray) (w : World) : Calls Try.prog 138 #[.agg #[.string m, .int .i64 W, .int .i64 H, lv], .string s] w fun e w' => e = .returned (.int .i64 (cmpV m.toList s.toList)) ∧ Below w.heap.size w w' := by
  have hcall := fun w2 => cmpCompare_any m s w2
  go_enter Try.func138, Try.ntmps138
  go_wp2_with fail
  refine (hcall _).mono ?_
  rintro e w2 ⟨rfl, rfl⟩
  go_wp2
  go_ret
  exact ⟨rfl, (Below.refl _ _).alloc (Nat.le_refl _) _⟩

theorem cmp_neg {a b : List UInt8} : decide (cmpV a b < 0) = Op.bytesLess a b := by
  unfold cmpV
  cases Op.bytesLess a b
  · cases (a == b) <;> rfl
  · rfl
theorem cmp_zero {a b : List UInt8} : (cmpV a b == 0) = (!Op.bytesLess a b && a == b) := by
  unfold cmpV
  cases Op.bytesLess a b
  · cases (a == b) <;> rfl
  · rfl

theorem entFind1 (args : Array Value) (w : World) : (callFunc 138 args).run Try.prog w = .ok (.enter 138 args) w := by kernel_rfl

/-- Where the search by halves comes to an end. -/
def posOk (ps : List PgD) (t : List UInt8) (p : Nat) : Prop := p ≤ ps.length ∧ (∀ k, k < p → Op.bytesLess (nmAt ps k) t = true) ∧ (∀ k, p ≤ k → k < ps.length → Op.bytesLess (nmAt ps k) t = false)

set_option maxHeartbeats 8000000 in
set_option maxRecDepth 100000 in
theorem BinarySearchFunc_any (ps : List PgD) (v : Value) (s : ByteArray) (w : World) (ha : PgL w v ps) (hl : ps.length ≤ 140737488351232) (hup : ∀ j i, i < j → j < ps.length → Op.bytesLess (nmAt ps i) (nmAt ps j) = true) :
    Calls Try.prog 137 #[v, .string s, .func (.func 138) #[] #[]] w fun e w' =>
      ∃ p : Nat, e = .returned (.tuple #[.int .i64 p, .bool (decide (p < ps.length) && nmAt ps p == s.toList)]) ∧ posOk ps s.toList p ∧ Below w.heap.size w w' := by
  obtain ⟨ad, cp, hv⟩ := ha.form
  obtain ⟨n, hn⟩ : ∃ n, n = ps.length := ⟨_, rfl⟩
  rw [← hn] at hv hl
  subst hv
  have hent := entFind1
  have Hn := hid hn
  have Ha := hid ha
  have Hup := hid hup
  clear hn ha hup
  go_enter Try.func137, Try.ntmps137
  go_wp2
  go_loopw [9, 10] (fun i j wr => ∃ a b : Nat, a ≤ b ∧ b ≤ n ∧ i = .int .i64 a ∧ j = .int .i64 b ∧ (∀ k, k < a → Op.bytesLess (nmAt ps k) s.toList = true) ∧ (∀ k, b ≤ k → k < n → Op.bytesLess (nmAt ps k) s.toList = false) ∧ Below w.heap.size w wr) (fun i j _ => (intOf j).toNat - (intOf i).toNat)
  case atStart => exact ⟨0, n, Nat.zero_le _, Nat.le_refl _, rfl, rfl, fun k h => absurd h (Nat.not_lt_zero _), fun k h1 h2 => by omega, Below.refl _ _⟩
  case round =>
    obtain ⟨a, b, hab, hbn, rfl, rfl, hlo, hhi, hbw⟩ := hrel
    have Hlo := hid hlo
    have Hhi := hid hhi
    clear hlo hhi
    by_cases hlt : a < b
    · obtain ⟨h, hh⟩ : ∃ h, h = (a + b) / 2 := ⟨_, rfl⟩
      have hhI : ((a : Int) + b) / 2 = h := by omega
      have hhb : h < b := by omega
      have hha : a ≤ h := by omega
      obtain ⟨bk, off, lv, rfl, hat⟩ := (Ha.out.mono hbw).page Hn.out h (by omega)
      obtain ⟨p, hp⟩ : ∃ p, p = ps.getD h noPage := ⟨_, rfl⟩
      have hnm : nmAt ps h = p.m.toList := by rw [nmAt, hp]
      rw [← hp] at hat
      have c0 := hat.c0
      have c1 := hat.c1
      have c2 := hat.c2
      have c3 := hat.c3
      have hbl := hat.lt
      have hcall := fun w2 => findPage1_any p.m p.W p.H lv s w2
      have Hnm := hid hnm
      clear hat hp hnm hh
      go_wp2_with fail
      refine (hcall _).mono ?_
      rintro e w2 ⟨rfl, hb2⟩
      obtain ⟨c, hc⟩ : ∃ c, c = cmpV p.m.toList s.toList := ⟨_, rfl⟩
      rw [← hc]
      have hcn : decide (c < 0) = Op.bytesLess (nmAt ps h) s.toList := by rw [hc, cmp_neg, Hnm.out]
      have Hcn := hid hcn
      clear hcn hc
      cases hbl2 : Op.bytesLess (nmAt ps h) s.toList
      · have Hb := hid hbl2
        have hc0 : ¬ c < 0 := of_decide_eq_false (by rw [Hcn.out, hbl2])
        clear Hcn hbl2
        go_wp2
        refine ⟨⟨a, h, hha, by omega, rfl, rfl, Hlo.out, fun k h1 h2 => ?_, hbw.trans (hb2.mono hbw.size)⟩, ?_⟩
        · rcases Nat.lt_or_ge k b with h3 | h3
          · rcases Nat.lt_or_ge h k with h4 | h4
            · cases h5 : Op.bytesLess (nmAt ps k) s.toList
              · rfl
              · rw [bytes_trans (Hup.out k h h4 (by rw [← Hn.out]; exact h2)) h5] at Hb
                exact absurd Hb.out (by simp)
            · rw [Nat.le_antisymm h4 h1]; exact Hb.out
          · exact Hhi.out k h3 h2
        · show (Int.toNat (h : Int)) - (Int.toNat (a : Int)) < (Int.toNat (b : Int)) - (Int.toNat (a : Int))
          omega
      · have Hb := hid hbl2
        have hc0 : c < 0 := of_decide_eq_true (by rw [Hcn.out, hbl2])
        clear Hcn hbl2
        go_wp2
        refine ⟨⟨h + 1, b, hhb, by omega, rfl, rfl, fun k h1 => ?_, Hhi.out, hbw.trans (hb2.mono hbw.size)⟩, ?_⟩
        · rcases Nat.lt_or_ge k h with h3 | h3
          · exact bytes_trans (Hup.out h k h3 (by rw [← Hn.out]; omega)) Hb.out
          · rw [Nat.le_antisymm (Nat.le_of_lt_succ h1) h3]; exact Hb.out
        · show (Int.toNat (b : Int)) - (Int.toNat (((h + 1 : Nat) : Int))) < (Int.toNat (b : Int)) - (Int.toNat (a : Int))
          omega
    · have hab2 : a = b := by omega
      subst hab2
      have hpos : posOk ps s.toList a := ⟨by rw [← Hn.out]; exact hbn, Hlo.out, by rw [← Hn.out]; exact Hhi.out⟩
      have Hpos := hid hpos
      clear hpos
      by_cases hal : a < n
      · obtain ⟨bk, off, lv, rfl, hat⟩ := (Ha.out.mono hbw).page Hn.out a (by omega)
        obtain ⟨p, hp⟩ : ∃ p, p = ps.getD a noPage := ⟨_, rfl⟩
        have hnm : nmAt ps a = p.m.toList := by rw [nmAt, hp]
        rw [← hp] at hat
        have c0 := hat.c0
        have c1 := hat.c1
        have c2 := hat.c2
        have c3 := hat.c3
        have hbl := hat.lt
        have hcall := fun w2 => findPage1_any p.m p.W p.H lv s w2
        have Hnm := hid hnm
        clear hat hp hnm
        go_wp2_with fail
        refine (hcall _).mono ?_
        rintro e w2 ⟨rfl, hb2⟩
        obtain ⟨c, hc⟩ : ∃ c, c = cmpV p.m.toList s.toList := ⟨_, rfl⟩
        rw [← hc]
        have Hc := hid hc
        clear hc
        go_wp2
        refine bodyPost_ret (v := .tuple #[.int .i64 a, .bool (c == 0)]) (by simp [results, Try.results137, go_sem]) rfl ⟨a, ?_, Hpos.out, hbw.trans (hb2.mono hbw.size)⟩
        rw [Hc.out, cmp_zero, ← Hnm.out, Hhi.out a (Nat.le_refl _) hal, ← Hn.out]
        simp [hal]
      · go_wp2
        refine bodyPost_ret (v := .tuple #[.int .i64 a, .bool false]) (by simp [results, Try.results137, go_sem]) rfl ⟨a, ?_, Hpos.out, hbw⟩
        rw [← Hn.out]
        simp [hal]

end Go.Proofs.Ytggbdmgonobefaa
