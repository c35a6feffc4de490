/-
  Lists of pages: weighed.
  Conditions: the list reads as pages; lengths within the reach.
-/
import Derived.Test.YtggbdmgonobefaaPg
namespace Go.Proofs.Ytggbdmgonobefaa
open Go.RowKit
set_option linter.unusedVariables false
set_option linter.unusedSimpArgs false

set_option maxHeartbeats 4000000 in
set_option maxRecDepth 100000 in
theorem szPageS_any (v : Value) (ps : List PgD) (left : Int) (w : World) (hp : PgL w v ps) (hfit : ∀ p ∈ ps, p.fits) (hlen : ps.length ≤ 140737488351232) (h0 : 0 ≤ left) (h1 : left ≤ 1099511627776) :
    Calls Try.prog 19 #[v, .int .i64 left] w fun e w' => e = .returned (.int .i64 (szPS left ps)) ∧ Below w.heap.size w w' := by
  obtain ⟨ad, cap, hv⟩ := hp.form
  obtain ⟨n, hn⟩ : ∃ n, n = ps.length := ⟨_, rfl⟩
  rw [← hn] at hv hlen
  subst hv
  by_cases hlt : left < n
  · have hr : szPS left ps = -1 := by rw [szPS, if_pos (by omega)]
    rw [hr]
    clear hr hn hp
    go_enter Try.func19, Try.ntmps19
    go_wp2
    go_ret
    exact ⟨rfl, Below.refl _ _⟩
  · have hr : szPS left ps = szPL (left - n) ps := by rw [szPS, if_neg (by omega), hn]
    rw [hr]
    have Hn := hid hn
    have Hp := hid hp
    have Hfit := hid hfit
    clear hr hn hp hfit
    go_enter Try.func19, Try.ntmps19
    go_wp2
    go_loopw [1, 5] (fun l i wr => ∃ (k : Nat) (q : Int), k ≤ n ∧ i = .int .i64 k ∧ l = .int .i64 q ∧ 0 ≤ q ∧ q ≤ 1099511627776 ∧ szPL (left - n) ps = szPL q (ps.drop k) ∧ Below w.heap.size w wr) (fun _ i _ => n - (intOf i).toNat)
    case atStart => exact ⟨0, left - n, Nat.zero_le _, rfl, rfl, by omega, by omega, rfl, Below.refl _ _⟩
    case round =>
      obtain ⟨k, q, hk, rfl, rfl, hq0, hq1, hidx, hb⟩ := hrel
      have Hidx := hid hidx
      clear hidx
      by_cases hkn : k < n
      · have hkx : k < ps.length := by rw [← Hn.out]; exact hkn
        have hdrop : ps.drop k = ps[k] :: ps.drop (k + 1) := List.drop_eq_getElem_cons hkx
        obtain ⟨b, off, lv, rfl, hat⟩ := (Hp.out.mono hb).at k (List.getElem?_eq_getElem hkx)
        obtain ⟨hm, hx⟩ := Hfit.out ps[k] (List.getElem_mem hkx)
        obtain ⟨p, hpe⟩ : ∃ p, p = ps[k] := ⟨_, rfl⟩
        rw [← hpe] at hdrop hat hm hx
        obtain ⟨ad2, cap2, hlv⟩ := hat.sl.form
        rw [List.length_map] at hlv
        subst hlv
        have c0 := hat.c0
        have c1 := hat.c1
        have c2 := hat.c2
        have c3 := hat.c3
        have hbl := hat.lt
        have Hdrop := hid hdrop
        have hcall := szPage_any p.m p.W p.H ad2 p.xs.length cap2 q wr hq0 hq1 hm hx
        rw [show (if q < p.m.size then (-1 : Int) else szB (q - p.m.size) p.xs.length) = szPg q p from rfl] at hcall
        clear hat hdrop hpe
        obtain ⟨z, hz⟩ : ∃ z, z = szPg q p := ⟨_, rfl⟩
        rw [← hz] at hcall
        by_cases hneg : z < 0
        · have hR : szPL (left - n) ps = -1 := by rw [Hidx.out, Hdrop.out, szPL, if_pos (by rw [← hz]; exact hneg)]
          have HR := hid hR
          clear hz hR
          go_wp2_with fail
          refine hcall.mono ?_
          rintro e w2 ⟨rfl, hb2⟩
          clear hcall c0 c1 c2 c3
          go_wp2
          go_ret
          exact ⟨ret_int HR.out.symm, hb.trans (hb2.mono hb.size)⟩
        · have hR : szPL (left - n) ps = szPL z (ps.drop (k + 1)) := by rw [Hidx.out, Hdrop.out, szPL, if_neg (by rw [← hz]; exact hneg), hz]
          have hzq : z ≤ q := by rw [hz]; exact (szPg_le (by rw [← hz]; exact hneg)).1
          have HR := hid hR
          clear hz hR
          go_wp2_with fail
          refine hcall.mono ?_
          rintro e w2 ⟨rfl, hb2⟩
          clear hcall c0 c1 c2 c3
          go_wp2
          go_roundw
          case rel => exact ⟨k + 1, z, by omega, by go_num, rfl, by omega, by omega, HR.out, hb.trans (hb2.mono hb.size)⟩
          case measure => simp [intOf]; omega
      · have hke : k = n := by omega
        have hR : szPL (left - n) ps = q := by rw [Hidx.out, hke, Hn.out, List.drop_length]; rfl
        have HR := hid hR
        clear hR hke
        go_wp2
        go_ret
        exact ⟨ret_int HR.out.symm, hb⟩

end Go.Proofs.Ytggbdmgonobefaa
