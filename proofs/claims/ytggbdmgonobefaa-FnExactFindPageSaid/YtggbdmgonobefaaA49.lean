/-
  FindPage of both: the page of a name.
  Conditions: the list reads as pages; lengths fit.
-/
import Derived.Test.YtggbdmgonobefaaA48
namespace Go.Proofs.Ytggbdmgonobefaa
open Go.RowKit
set_option linter.unusedVariables false
set_option linter.unusedSimpArgs false

/-- What a search for a name tells. -/
def FindOk (ps : List PgD) (t : List UInt8) (i : Int) (b : Bool) : Prop :=
  (arePgs ps = false ∧ b = false ∧ i = 0) ∨ (arePgs ps = true ∧ ((b = true ∧ ∃ k : Nat, k < ps.length ∧ i = k ∧ nmAt ps k = t) ∨ (b = false ∧ i = 0 ∧ ∀ k, k < ps.length → (nmAt ps k == t) = false)))

theorem FindOk.same {ps : List PgD} {t : List UInt8} {i j : Int} {b c : Bool} (h : FindOk ps t i b) (g : FindOk ps t j c) : i = j ∧ b = c := by
  rcases h with ⟨h, rfl, rfl⟩ | ⟨h, h2⟩
  · rcases g with ⟨g, rfl, rfl⟩ | ⟨g, g2⟩
    · exact ⟨rfl, rfl⟩
    · rw [h] at g; cases g
  · rcases g with ⟨g, rfl, rfl⟩ | ⟨g, g2⟩
    · rw [h] at g; cases g
    · rcases h2 with ⟨rfl, k, hk, rfl, hk2⟩ | ⟨rfl, rfl, hk2⟩
      · rcases g2 with ⟨rfl, l, hl, rfl, hl2⟩ | ⟨rfl, rfl, hl2⟩
        · refine ⟨?_, rfl⟩
          rcases Nat.lt_trichotomy k l with h3 | h3 | h3
          · have := names_up h l k h3 hl
            rw [hk2, hl2, bytes_irrefl] at this
            cases this
          · rw [h3]
          · have := names_up h k l h3 hk
            rw [hk2, hl2, bytes_irrefl] at this
            cases this
        · have := hl2 k hk
          rw [hk2] at this
          simp at this
      · rcases g2 with ⟨rfl, l, hl, rfl, hl2⟩ | ⟨rfl, rfl, hl2⟩
        · have := hk2 l hl
          rw [hl2] at this
          simp at this
        · exact ⟨rfl, rfl⟩

def FirstAt (ps : List PgD) (t : List UInt8) (r : Int) : Prop := (r = -1 ∧ ∀ k, k < ps.length → (nmAt ps k == t) = false) ∨ ∃ k : Nat, k < ps.length ∧ r = k ∧ nmAt ps k = t

set_option maxHeartbeats 4000000 in
set_option maxRecDepth 100000 in
theorem l07At_any (ps : List PgD) (v : Value) (s : ByteArray) (w : World) (ha : PgL w v ps) (hl : ps.length ≤ 140737488351232) :
    Calls Try.prog 69 #[v, .string s] w fun e w' => ∃ r : Int, e = .returned (.int .i64 r) ∧ FirstAt ps s.toList r ∧ Below w.heap.size w w' := by
  obtain ⟨ad, cp, hv⟩ := ha.form
  obtain ⟨n, hn⟩ : ∃ n, n = ps.length := ⟨_, rfl⟩
  rw [← hn] at hv hl
  subst hv
  have Hn := hid hn
  have Ha := hid ha
  clear hn ha
  go_enter Try.func69, Try.ntmps69
  go_wp2
  go_loopw [8] (fun i wr => ∃ k : Nat, k ≤ n ∧ i = .int .i64 k ∧ (∀ j, j < k → (nmAt ps j == s.toList) = false) ∧ Below w.heap.size w wr) (fun i _ => n - (intOf i).toNat)
  case atStart => exact ⟨0, Nat.zero_le _, rfl, fun j h => absurd h (Nat.not_lt_zero _), Below.refl _ _⟩
  case round =>
    obtain ⟨k, hk, rfl, hidx, hbw⟩ := hrel
    have Hidx := hid hidx
    clear hidx
    by_cases hlt : k < n
    · obtain ⟨bk, off, lv, rfl, hat⟩ := (Ha.out.mono hbw).page Hn.out k hlt
      obtain ⟨p, hp⟩ : ∃ p, p = ps.getD k noPage := ⟨_, rfl⟩
      have hnm : nmAt ps k = p.m.toList := by rw [nmAt, hp]
      rw [← hp] at hat
      have c0 := hat.c0
      have hbl := hat.lt
      have Hnm := hid hnm
      clear hat hp hnm
      cases heq : (p.m.toList == s.toList)
      · have Heq := hid heq
        go_wp2
        go_roundw
        case rel => exact ⟨k + 1, by omega, by go_num, fun j hj => by
          rcases Nat.lt_or_ge j k with h3 | h3
          · exact Hidx.out j h3
          · rw [Nat.le_antisymm (Nat.le_of_lt_succ hj) h3, Hnm.out]; exact Heq.out, hbw⟩
        case measure => simp [intOf]; omega
      · have Heq := hid heq
        go_wp2
        go_ret
        exact ⟨k, rfl, .inr ⟨k, by rw [← Hn.out]; exact hlt, rfl, by rw [Hnm.out]; simpa using Heq.out⟩, hbw⟩
    · have hke : k = n := by omega
      have HR : Hid (FirstAt ps s.toList (-1)) := hid (.inl ⟨rfl, fun j hj => Hidx.out j (by rw [hke, Hn.out]; exact hj)⟩)
      clear hke
      go_wp2
      go_ret
      exact ⟨_, rfl, HR.out, hbw⟩

set_option maxHeartbeats 4000000 in
set_option maxRecDepth 100000 in
theorem specFindPage_any (ps : List PgD) (v : Value) (s : ByteArray) (w : World) (ha : PgL w v ps) (hl : ps.length ≤ 140737488351232) (f1 : ∀ p ∈ ps, p.fits) :
    Calls Try.prog 20 #[v, .string s] w fun e w' => ∃ (i : Int) (b : Bool), e = .returned (.tuple #[.int .i64 i, .bool b]) ∧ FindOk ps s.toList i b ∧ Below w.heap.size w w' := by
  have hat := l07At_any ps v s w ha hl
  have hlist := fun w2 (h : Below w.heap.size w w2) => l07List_any ps v w2 (ha.mono h) hl f1
  obtain ⟨ad, cp, rfl⟩ := ha.form
  obtain ⟨n, hn⟩ : ∃ n, n = ps.length := ⟨_, rfl⟩
  rw [← hn] at hat hlist ⊢
  clear ha hl f1 hn
  go_enter Try.func20, Try.ntmps20
  go_wp2_with fail
  refine hat.mono ?_
  rintro e w2 ⟨r, rfl, hr, hb2⟩
  have Hr := hid hr
  clear hr hat
  replace hlist := hlist _ hb2
  cases hok : arePgs ps
  · have Hok := hid hok
    rw [hok] at hlist
    clear hok
    go_wp2_with fail
    refine hlist.mono ?_
    rintro e w3 ⟨rfl, hb3⟩
    clear hlist
    go_wp2
    exact bodyPost_ret (v := .tuple #[.int .i64 0, .bool false]) (by simp [results, Try.results20, go_sem]) rfl ⟨0, false, rfl, .inl ⟨Hok.out, rfl, rfl⟩, hb2.trans (hb3.mono hb2.size)⟩
  · have Hok := hid hok
    rw [hok] at hlist
    clear hok
    rcases Hr.out with ⟨rfl, hno⟩ | ⟨k, hk, rfl, hk2⟩
    · have Hno := hid hno
      clear hno Hr
      go_wp2_with fail
      refine hlist.mono ?_
      rintro e w3 ⟨rfl, hb3⟩
      clear hlist
      go_wp2
      exact bodyPost_ret (v := .tuple #[.int .i64 0, .bool false]) (by simp [results, Try.results20, go_sem]) rfl ⟨0, false, rfl, .inr ⟨Hok.out, .inr ⟨rfl, rfl, Hno.out⟩⟩, hb2.trans (hb3.mono hb2.size)⟩
    · have Hk2 := hid (And.intro hk hk2)
      clear hk hk2 Hr
      go_wp2_with fail
      refine hlist.mono ?_
      rintro e w3 ⟨rfl, hb3⟩
      clear hlist
      go_wp2
      exact bodyPost_ret (v := .tuple #[.int .i64 k, .bool true]) (by simp [results, Try.results20, go_sem]) rfl ⟨k, true, rfl, .inr ⟨Hok.out, .inl ⟨rfl, k, Hk2.out.1, rfl, Hk2.out.2⟩⟩, hb2.trans (hb3.mono hb2.size)⟩

theorem findPage_any (ps : List PgD) (v : Value) (s : ByteArray) (w : World) (ha : PgL w v ps) (hl : ps.length ≤ 140737488351232) (hup : ∀ j i, i < j → j < ps.length → Op.bytesLess (nmAt ps i) (nmAt ps j) = true) :
    Calls Try.prog 73 #[v, .string s] w fun e w' =>
      ∃ (p : Nat) (b : Bool), e = .returned (.tuple #[.int .i64 p, .bool b]) ∧ b = (decide (p < ps.length) && nmAt ps p == s.toList) ∧ posOk ps s.toList p ∧ Below w.heap.size w w' := by
  have hcall := BinarySearchFunc_any ps v s w ha hl hup
  obtain ⟨ad, cp, rfl⟩ := ha.form
  obtain ⟨n, hn⟩ : ∃ n, n = ps.length := ⟨_, rfl⟩
  rw [← hn] at hcall ⊢
  clear ha hl hup hn
  go_enter Try.func73, Try.ntmps73
  go_wp2_with fail
  refine hcall.mono ?_
  rintro e w2 ⟨p, rfl, hp, hb2⟩
  obtain ⟨b, hb⟩ : ∃ b, b = (decide (p < n) && nmAt ps p == s.toList) := ⟨_, rfl⟩
  rw [← hb]
  have Hb := hid hb
  clear hb
  go_wp2
  exact bodyPost_ret (v := .tuple #[.int .i64 p, .bool b]) (by simp [results, Try.results73, go_sem]) rfl ⟨p, b, rfl, Hb.out, hp, hb2⟩

theorem pos_find {ps : List PgD} {t : List UInt8} {p : Nat} {b : Bool} (hok : arePgs ps = true) (hb : b = (decide (p < ps.length) && nmAt ps p == t)) (hp : posOk ps t p) :
    FindOk ps t (if b then p else 0) b := by
  subst hb
  refine .inr ⟨hok, ?_⟩
  by_cases h1 : p < ps.length
  · cases h2 : (nmAt ps p == t)
    · right
      refine ⟨by simp, by simp, fun k hk => ?_⟩
      cases h3 : (nmAt ps k == t)
      · rfl
      · simp at h3
        rcases Nat.lt_trichotomy k p with h4 | h4 | h4
        · have := hp.2.1 k h4
          rw [h3, bytes_irrefl] at this
          cases this
        · rw [← h4, h3] at h2
          simp at h2
        · have h5 := names_up hok k p h4 hk
          rw [h3, hp.2.2 p (Nat.le_refl _) h1] at h5
          cases h5
    · left
      refine ⟨by simp [h1], p, h1, by simp [h1], by simpa using h2⟩
  · right
    refine ⟨by simp [h1], by simp [h1], fun k hk => ?_⟩
    cases h3 : (nmAt ps k == t)
    · rfl
    · simp at h3
      have := hp.2.1 k (by omega)
      rw [h3, bytes_irrefl] at this
      cases this

set_option maxHeartbeats 4000000 in
theorem implFindPage_any (ps : List PgD) (v : Value) (s : ByteArray) (w : World) (ha : PgL w v ps) (hl : ps.length ≤ 140737488351232) (f1 : ∀ p ∈ ps, p.fits) :
    Calls Try.prog 22 #[v, .string s] w fun e w' => ∃ (i : Int) (b : Bool), e = .returned (.tuple #[.int .i64 i, .bool b]) ∧ FindOk ps s.toList i b ∧ Below w.heap.size w w' := by
  have hlist := implArePages_any ps v w ha hl f1
  have hfind := fun w2 (h : Below w.heap.size w w2) (ho : arePgs ps = true) => findPage_any ps v s w2 (ha.mono h) hl (names_up ho)
  obtain ⟨ad, cp, rfl⟩ := ha.form
  obtain ⟨n, hn⟩ : ∃ n, n = ps.length := ⟨_, rfl⟩
  rw [← hn] at hfind hlist ⊢
  have Hn := hid hn
  clear ha hl f1 hn
  cases hok : arePgs ps
  · have Hok := hid hok
    rw [hok] at hlist
    clear hok hfind
    go_enter Try.func22, Try.ntmps22
    go_wp2_with fail
    refine hlist.mono ?_
    rintro e w3 ⟨rfl, hb3⟩
    clear hlist
    go_wp2
    exact bodyPost_ret (v := .tuple #[.int .i64 0, .bool false]) (by simp [results, Try.results22, go_sem]) rfl ⟨0, false, rfl, .inl ⟨Hok.out, rfl, rfl⟩, hb3⟩
  · have Hok := hid hok
    have Hf := hid (fun w2 (h : Below w.heap.size w w2) => hfind w2 h hok)
    rw [hok] at hlist
    clear hok hfind
    go_enter Try.func22, Try.ntmps22
    go_wp2_with fail
    refine hlist.mono ?_
    rintro e w3 ⟨rfl, hb3⟩
    clear hlist
    go_wp2_with fail
    refine (Hf.out _ hb3).mono ?_
    rintro e w4 ⟨p, b, rfl, hb, hp, hb4⟩
    have HR := hid (pos_find (b := b) Hok.out (by rw [← Hn.out]; exact hb) hp)
    clear hb hp
    cases b
    · go_wp2
      exact bodyPost_ret (v := .tuple #[.int .i64 0, .bool false]) (by simp [results, Try.results22, go_sem]) rfl ⟨0, false, rfl, by simpa using HR.out, hb3.trans (hb4.mono hb3.size)⟩
    · go_wp2
      exact bodyPost_ret (v := .tuple #[.int .i64 p, .bool true]) (by simp [results, Try.results22, go_sem]) rfl ⟨p, true, rfl, by simpa using HR.out, hb3.trans (hb4.mono hb3.size)⟩

end Go.Proofs.Ytggbdmgonobefaa
