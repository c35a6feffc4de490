/-
  For all arguments the program's SamePages answers as the reference's, and leaves its arguments alone.
  Conditions: the lists read as pages; lengths and words fit.
-/
import Derived.Test.YtjennldpjfeppaaA36
import Derived.Test.YtjennldpjfeppaaA31
namespace Go.Proofs.Ytjennldpjfeppaa
open Go.RowKit
set_option linter.unusedVariables false
set_option linter.unusedSimpArgs false

theorem PgOwn.below {w0 w : World} {v : Value} {ps : List PgD} (h : PgOwn w0 w v ps) : Below w0.heap.size w0 w := by
  obtain ⟨B, lvs, -, -, hI⟩ := h
  exact hI.below

theorem PgD.eqv_refl (p : PgD) : p.eqv p := ⟨rfl, rfl, rfl, rfl⟩

/-- Two copies of one list are the same. -/
theorem eqPageS_self (ps : List PgD) (va vb : Value) (w : World) (ha : PgL w va ps) (hb : PgL w vb ps) (hl : ps.length ≤ 140737488351232) (f1 : ∀ p ∈ ps, p.xs.length ≤ 140737488351232) :
    Calls Try.prog 35 #[va, vb] w fun e w' => e = .returned (.bool true) ∧ Below w.heap.size w w' :=
  eqPageS_yes ps ps va vb w ha hb hl f1 rfl fun k _ _ => PgD.eqv_refl _

set_option maxHeartbeats 4000000 in
set_option maxRecDepth 100000 in
theorem lawSamePages_any (ps qs : List PgD) (va vb : Value) (w : World) (ha : PgL w va ps) (hb : PgL w vb qs) (hl : ps.length ≤ 140737488351232) (hl2 : qs.length ≤ 140737488351232) (f1 : ∀ p ∈ ps, p.ok) (f2 : ∀ q ∈ qs, q.ok) :
    Calls Try.prog 6 #[va, vb] w fun e w' => e = .returned (.bool true) ∧ Below w.heap.size w w' := by
  have hs1 := szPageS_any va ps 1048576 w ha (fun p hp => ⟨(f1 p hp).1, (f1 p hp).2.1⟩) hl (by omega) (by omega)
  have Ha := hid ha
  have Hb := hid hb
  have F1 := hid f1
  have F2 := hid f2
  obtain ⟨ad, cp, hv⟩ := ha.form
  obtain ⟨bd, dp, hv2⟩ := hb.form
  obtain ⟨n, hn⟩ : ∃ n, n = ps.length := ⟨_, rfl⟩
  obtain ⟨m, hm⟩ : ∃ n, n = qs.length := ⟨_, rfl⟩
  rw [← hn] at hv
  rw [← hm] at hv2
  subst hv hv2
  clear ha hb f1 f2 hn hm
  go_enter Try.func6, Try.ntmps6
  go_wp2_with fail
  obtain ⟨l1, hl1⟩ : ∃ l, l = szPS 1048576 ps := ⟨_, rfl⟩
  rw [← hl1] at hs1
  refine hs1.mono ?_
  rintro e w1 ⟨rfl, hb1⟩
  by_cases hn1 : l1 < 0
  · clear hl1
    go_wp2
    go_ret
    exact ⟨rfl, hb1⟩
  obtain ⟨g1, g2, g3⟩ := szPS_le (ps := ps) (left := 1048576) (by omega) (by rw [← hl1]; exact hn1)
  rw [← hl1] at g1
  have G3 := hid g3
  clear hl1 g3 hs1
  have hs2 := szPageS_any _ qs l1 w1 (Hb.out.mono hb1) (fun p hp => ⟨(F2.out p hp).1, (F2.out p hp).2.1⟩) hl2 (by omega) (by omega)
  go_wp2_with fail
  obtain ⟨l2, hl2'⟩ : ∃ l, l = szPS l1 qs := ⟨_, rfl⟩
  rw [← hl2'] at hs2
  refine hs2.mono ?_
  rintro e w2 ⟨rfl, hb2⟩
  replace hb2 := hb1.trans (hb2.mono hb1.size)
  by_cases hn2 : l2 < 0
  · clear hl2'
    go_wp2
    go_ret
    exact ⟨rfl, hb2⟩
  obtain ⟨g4, g5, g6⟩ := szPS_le (ps := qs) (left := l1) (by omega) (by rw [← hl2']; exact hn2)
  have Fit1 := hid (show ∀ p ∈ ps, p.xs.length ≤ 1048576 from fun p hp => by have := (G3.out p hp).2; omega)
  have Fit2 := hid (show ∀ p ∈ qs, p.xs.length ≤ 1048576 from fun p hp => by have := (g6 p hp).2; omega)
  have Fit1' := hid (show ∀ p ∈ ps, p.xs.length ≤ 140737488351232 from fun p hp => by have := Fit1.out p hp; omega)
  have Fit2' := hid (show ∀ p ∈ qs, p.xs.length ≤ 140737488351232 from fun p hp => by have := Fit2.out p hp; omega)
  have HlenP := hid (show ps.length ≤ 1048576 by omega)
  have HlenQ := hid (show qs.length ≤ 1048576 by omega)
  clear hl2' g4 g5 g6 hs2 hb1 g1 g2
  have hc := fun w3 (h : Below w.heap.size w w3) => toPageS_any _ ps w3 (Ha.out.mono h) Fit1.out HlenP.out
  have hd := fun w3 (h : Below w.heap.size w w3) => toPageS_any _ qs w3 (Hb.out.mono h) Fit2.out HlenQ.out
  have Hc := hid hc
  have Hd := hid hd
  clear hc hd
  go_wp2_with fail
  refine (Hc.out _ hb2).mono ?_
  rintro e w3 ⟨v1, rfl, ho1⟩
  have hb3 := hb2.trans (ho1.below.mono hb2.size)
  obtain ⟨a1, c1, rfl⟩ := ho1.list.form
  have P1 := hid ho1.list
  clear ho1 hb2
  go_wp2_with fail
  refine (Hd.out _ hb3).mono ?_
  rintro e w4 ⟨v2, rfl, ho2⟩
  have hb4 := hb3.trans (ho2.below.mono hb3.size)
  obtain ⟨a2, c2, rfl⟩ := ho2.list.form
  have P1 := hid (P1.out.mono ho2.below)
  have P2 := hid ho2.list
  clear ho2 hb3
  go_wp2_with fail
  refine (specSamePages_any ps qs _ _ w4 P1.out P2.out hl hl2 F1.out F2.out).mono ?_
  rintro e w5 ⟨rfl, hb5⟩
  replace hb5 := hb4.trans (hb5.mono hb4.size)
  clear hb4
  obtain ⟨R, hR⟩ : ∃ R, R = samePgs ps qs := ⟨_, rfl⟩
  have HR := hid hR
  rw [← hR]
  clear hR
  go_wp2_with fail
  refine (Hc.out _ hb5).mono ?_
  rintro e w6 ⟨v3, rfl, ho3⟩
  have hb6 := hb5.trans (ho3.below.mono hb5.size)
  obtain ⟨a3, c3, rfl⟩ := ho3.list.form
  have P3 := hid ho3.list
  clear ho3 hb5
  go_wp2_with fail
  refine (Hd.out _ hb6).mono ?_
  rintro e w7 ⟨v4, rfl, ho4⟩
  have hb7 := hb6.trans (ho4.below.mono hb6.size)
  obtain ⟨a4, c4, rfl⟩ := ho4.list.form
  have P3 := hid (P3.out.mono ho4.below)
  have P4 := hid ho4.list
  clear ho4 hb6
  go_wp2_with fail
  refine (implSamePages_any ps qs _ _ w7 P3.out P4.out hl hl2 F1.out F2.out).mono ?_
  rintro e w8 ⟨rfl, hb8⟩
  have P3 := hid (P3.out.mono hb8)
  have P4 := hid (P4.out.mono hb8)
  replace hb8 := hb7.trans (hb8.mono hb7.size)
  clear hb7
  rw [← HR.out]
  go_wp2_with fail
  refine (Hc.out _ hb8).mono ?_
  rintro e w9 ⟨v5, rfl, ho5⟩
  have hb9 := hb8.trans (ho5.below.mono hb8.size)
  obtain ⟨a5, c5, rfl⟩ := ho5.list.form
  have P3 := hid (P3.out.mono ho5.below)
  have P4 := hid (P4.out.mono ho5.below)
  have P5 := hid ho5.list
  clear ho5 hb8
  go_wp2_with fail
  refine (eqPageS_self ps _ _ w9 P3.out P5.out hl Fit1'.out).mono ?_
  rintro e w10 ⟨rfl, hb10⟩
  have P4 := hid (P4.out.mono hb10)
  replace hb10 := hb9.trans (hb10.mono hb9.size)
  clear hb9
  go_wp2_with fail
  refine (Hd.out _ hb10).mono ?_
  rintro e w11 ⟨v6, rfl, ho6⟩
  have hb11 := hb10.trans (ho6.below.mono hb10.size)
  obtain ⟨a6, c6, rfl⟩ := ho6.list.form
  have P4 := hid (P4.out.mono ho6.below)
  have P6 := hid ho6.list
  clear ho6 hb10
  go_wp2_with fail
  refine (eqPageS_self qs _ _ w11 P4.out P6.out hl2 Fit2'.out).mono ?_
  rintro e w12 ⟨rfl, hb12⟩
  replace hb12 := hb11.trans (hb12.mono hb11.size)
  clear hb11
  go_wp2
  go_ret
  exact ⟨rfl, hb12⟩

end Go.Proofs.Ytjennldpjfeppaa
