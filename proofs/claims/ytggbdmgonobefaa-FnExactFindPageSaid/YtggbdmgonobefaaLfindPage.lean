/-
  For all arguments the program's FindPage answers as the reference's, and leaves its argument alone.
  Conditions: the list reads as pages; lengths and words fit.
-/
import Derived.Test.YtggbdmgonobefaaA49
import Derived.Test.YtggbdmgonobefaaLsamePages
namespace Go.Proofs.Ytggbdmgonobefaa
open Go.RowKit
set_option linter.unusedVariables false
set_option linter.unusedSimpArgs false

set_option maxHeartbeats 4000000 in
set_option maxRecDepth 100000 in
theorem lawFindPage_any (ps : List PgD) (va : Value) (s : ByteArray) (w : World) (ha : PgL w va ps) (hl : ps.length ≤ 140737488351232) (f1 : ∀ p ∈ ps, p.ok) :
    Calls Try.prog 4 #[va, .string s] w fun e w' => e = .returned (.bool true) ∧ Below w.heap.size w w' := by
  have hf : ∀ p ∈ ps, p.fits := fun p hp => ⟨(f1 p hp).1, (f1 p hp).2.1⟩
  have hs1 := szPageS_any va ps 1048576 w ha hf hl (by omega) (by omega)
  have Ha := hid ha
  have Hf := hid hf
  obtain ⟨ad, cp, hv⟩ := ha.form
  obtain ⟨n, hn⟩ : ∃ n, n = ps.length := ⟨_, rfl⟩
  rw [← hn] at hv
  subst hv
  clear ha f1 hn hf
  obtain ⟨sz, hsz⟩ : ∃ z, z = s.size := ⟨_, rfl⟩
  by_cases hlong : (sz : Int) > 1048576
  · go_enter Try.func4, Try.ntmps4
    go_wp2
    rw [← hsz]
    clear hsz hs1
    go_wp2
    go_ret
    exact ⟨rfl, Below.refl _ _⟩
  go_enter Try.func4, Try.ntmps4
  go_wp2_with fail
  rw [← hsz]
  clear hsz
  go_wp2_with fail
  obtain ⟨l1, hl1⟩ : ∃ l, l = szPS 1048576 ps := ⟨_, rfl⟩
  rw [← hl1] at hs1
  refine hs1.mono ?_
  rintro e w1 ⟨rfl, hb1⟩
  by_cases hn1 : l1 < 0
  · clear hl1
    go_wp2
    go_ret
    exact ⟨rfl, hb1⟩
  obtain ⟨g1, g2, g3⟩ := szPS_le (ps := ps) (left := 1048576) (by omega) (by rw [← hl1]; exact hn1)
  have Fit1 := hid (show ∀ p ∈ ps, p.xs.length ≤ 1048576 from fun p hp => by have := (g3 p hp).2; omega)
  have Fit1' := hid (show ∀ p ∈ ps, p.xs.length ≤ 140737488351232 from fun p hp => by have := Fit1.out p hp; omega)
  have HlenP := hid (show ps.length ≤ 1048576 by omega)
  clear hl1 g3 hs1 g1 g2
  have Hc := hid (fun w3 (h : Below w.heap.size w w3) => toPageS_any _ ps w3 (Ha.out.mono h) Fit1.out HlenP.out)
  go_wp2_with fail
  refine (Hc.out _ hb1).mono ?_
  rintro e w3 ⟨v1, rfl, ho1⟩
  have hb3 := hb1.trans (ho1.below.mono hb1.size)
  obtain ⟨a1, c1, rfl⟩ := ho1.list.form
  have P1 := hid ho1.list
  clear ho1 hb1
  go_wp2_with fail
  refine (specFindPage_any ps _ s w3 P1.out hl Hf.out).mono ?_
  rintro e w5 ⟨i1, b1, rfl, hr1, hb5⟩
  replace hb5 := hb3.trans (hb5.mono hb3.size)
  have R1 := hid hr1
  clear hb3 hr1
  go_wp2_with fail
  refine (Hc.out _ hb5).mono ?_
  rintro e w6 ⟨v3, rfl, ho3⟩
  have hb6 := hb5.trans (ho3.below.mono hb5.size)
  obtain ⟨a3, c3, rfl⟩ := ho3.list.form
  have P3 := hid ho3.list
  clear ho3 hb5
  go_wp2_with fail
  refine (implFindPage_any ps _ s w6 P3.out hl Hf.out).mono ?_
  rintro e w8 ⟨i2, b2, rfl, hr2, hb8⟩
  obtain ⟨rfl, rfl⟩ := R1.out.same hr2
  have P3 := hid (P3.out.mono hb8)
  replace hb8 := hb6.trans (hb8.mono hb6.size)
  clear hb6 hr2
  go_wp2_with fail
  refine (Hc.out _ hb8).mono ?_
  rintro e w9 ⟨v5, rfl, ho5⟩
  have hb9 := hb8.trans (ho5.below.mono hb8.size)
  obtain ⟨a5, c5, rfl⟩ := ho5.list.form
  have P3 := hid (P3.out.mono ho5.below)
  have P5 := hid ho5.list
  clear ho5 hb8
  go_wp2_with fail
  refine (eqPageS_self ps _ _ w9 P3.out P5.out hl Fit1'.out).mono ?_
  rintro e w10 ⟨rfl, hb10⟩
  replace hb10 := hb9.trans (hb10.mono hb9.size)
  clear hb9
  go_wp2
  go_ret
  exact ⟨rfl, hb10⟩

end Go.Proofs.Ytggbdmgonobefaa
