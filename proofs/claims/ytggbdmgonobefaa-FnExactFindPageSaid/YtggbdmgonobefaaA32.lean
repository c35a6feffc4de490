/-
  Lists of pages: copied.
  Conditions: the list reads as pages; lengths within the reach.
-/
import Derived.Test.YtggbdmgonobefaaPg2
namespace Go.Proofs.Ytggbdmgonobefaa
open Go.RowKit
set_option linter.unusedVariables false
set_option linter.unusedSimpArgs false

theorem Try.infoPg : (Try.prog.info? 96).map (fun i => (i.zero, i.size, i.bytes)) = some (some (.agg #[.string ⟨#[]⟩, .int .i64 0, .int .i64 0, .slice none 0 0]), 4, 56) := by kernel_rfl

set_option maxHeartbeats 4000000 in
set_option maxRecDepth 100000 in
theorem toPageS_any (v : Value) (ps : List PgD) (w : World) (hp : PgL w v ps) (hfit : ∀ p ∈ ps, p.xs.length ≤ 1048576) (hlen : ps.length ≤ 1048576) :
    Calls Try.prog 21 #[v] w fun e w' => ∃ v', e = .returned v' ∧ PgOwn w w' v' ps := by
  obtain ⟨ad, cap, hv⟩ := hp.form
  obtain ⟨n, hn⟩ : ∃ n, n = ps.length := ⟨_, rfl⟩
  rw [← hn] at hv hlen
  subst hv
  have Hn := hid hn
  have Hp := hid hp
  have Hfit := hid hfit
  obtain ⟨i0, hi, hz0, hz1, hz2⟩ := info_parts Try.infoPg
  clear hn hp hfit
  go_enter Try.func21, Try.ntmps21
  go_wp2_with (at_make; refine wpList_make_full _ rfl _ _ 34 rfl w.heap.size 96 i0 (.agg #[.string ⟨#[]⟩, .int .i64 0, .int .i64 0, .slice none 0 0]) 4 Try.underlying34 hi hz0 hz1 _ _ _ _ n rfl rfl (by omega) (by omega) ?c1 ?c2 ?c3 ?_)
  case c1 => rw [hz2]; omega
  case c2 => unfold maxLen; omega
  case c3 => exact Nat.le_refl _
  intro w1 hown hgrow
  obtain ⟨ds, hds⟩ : ∃ ds, ds = (madeCells #[Value.string ⟨#[]⟩, .int .i64 0, .int .i64 0, .slice none 0 0] (n * 4)).toList := ⟨_, rfl⟩
  have hown' : w1.ownsRow w.heap.size 96 4 (.slice (some ⟨w.heap.size, 0, none⟩) n n) n ds := by rw [hds]; exact hown
  have hdl : ds.length = n * 4 := hown'.1
  obtain ⟨B, hB⟩ : ∃ B, B = w.heap.size := ⟨_, rfl⟩
  have hI : Inv w w1 [(B, ds, 96)] [] := by
    refine ⟨(Below.refl _ _).grown hgrow (Nat.le_refl _) (fun k hk => by cases hk), fun b hb => ?_, by simp, .nil, by simp⟩
    rw [List.mem_singleton.1 hb, hB]
    exact Blk.of_full hown'
  have hI0 : ∃ lvs : List Value, lvs.length = 0 ∧ Inv w w1 [(B, pgCells (ps.take 0) lvs ++ ds.drop (0 * 4), 96)] (pgRows 52 (ps.take 0) lvs) := ⟨[], rfl, hI⟩
  have Hdl := hid hdl
  have HB := hid hB
  clear hown hown' hgrow hi hz0 hz1 hz2 hds hdl hI
  rw [← hB]
  clear hB
  go_wp2
  go_loopw [4] (fun i wr => ∃ (j : Nat) (lvs : List Value), j ≤ n ∧ i = .int .i64 j ∧ lvs.length = j ∧ Inv w wr [(B, pgCells (ps.take j) lvs ++ ds.drop (j * 4), 96)] (pgRows 52 (ps.take j) lvs)) (fun i _ => n - (intOf i).toNat)
  case atStart => obtain ⟨lvs, h1, h2⟩ := hI0; exact ⟨0, lvs, Nat.zero_le _, rfl, h1, h2⟩
  case round =>
    clear hI0
    obtain ⟨j, lvs, hj, rfl, hll, hI⟩ := hrel
    by_cases hlt : j < n
    · have hjx : j < ps.length := by rw [← Hn.out]; exact hlt
      obtain ⟨b, off, lv, rfl, hat⟩ := (Hp.out.mono hI.below).at j (List.getElem?_eq_getElem hjx)
      have hfx := Hfit.out ps[j] (List.getElem_mem hjx)
      have htk : ps.take (j + 1) = ps.take j ++ [ps[j]] := List.take_succ_eq_append_getElem hjx
      obtain ⟨p, hpe⟩ : ∃ p, p = ps[j] := ⟨_, rfl⟩
      rw [← hpe] at hat hfx htk
      have hcall := toPage_any p.m p.W p.H _ p.xs rfl lv wr hat.sl hfx
      have c0 := hat.c0
      have c1 := hat.c1
      have c2 := hat.c2
      have c3 := hat.c3
      have hbl := hat.lt
      have htl : (ps.take j).length = j := by rw [List.length_take]; omega
      have hpl := pgCells_len (ps.take j) lvs (by omega)
      rw [htl] at hpl
      have Htk := hid htk
      have Htl := hid htl
      have Hll := hid hll
      have Hpl := hid hpl
      have HI := hid hI
      clear hat hpe htk htl hll hpl hI
      go_wp2_with fail
      refine hcall.mono ?_
      rintro e w2 ⟨lv', rfl, hown, hb2⟩
      obtain ⟨ad2, cap2, rfl, -⟩ := own_form hown
      have hI := HI.out.fresh hb2 hown
      have hlen4 : 4 ≤ (ds.drop (j * 4)).length := by rw [List.length_drop, Hdl.out]; omega
      have hbk := hI.blk 0 rfl
      have hcg : ∀ q, q < 4 → ∃ u, w2.cell? ⟨B, j * 4 + q, none⟩ = some u := fun q hq => by
        rw [hbk.cell]
        exact ⟨_, List.getElem?_eq_getElem (by rw [List.length_append, Hpl.out]; omega)⟩
      obtain ⟨u0, g0⟩ := hcg 0 (by omega)
      obtain ⟨u1, g1⟩ := hcg 1 (by omega)
      obtain ⟨u2, g2⟩ := hcg 2 (by omega)
      obtain ⟨u3, g3⟩ := hcg 3 (by omega)
      rw [Nat.add_zero] at g0
      have f0 := hbk.frozen (j * 4)
      have f1 := hbk.frozen (j * 4 + 1)
      have f2 := hbk.frozen (j * 4 + 2)
      have f3 := hbk.frozen (j * 4 + 3)
      have hI2 := (((hI.setbox (j * 4) (.string p.m)).setbox (j * 4 + 1) (.int .i64 p.W)).setbox (j * 4 + 2) (.int .i64 p.H)).setbox (j * 4 + 3) (.slice ad2 p.xs.length cap2)
      rw [set_four _ _ j _ _ _ _ Hpl.out hlen4, ← pgCells_snoc _ _ _ _ (by rw [Hll.out, Htl.out]), List.drop_drop, show j * 4 + 4 = (j + 1) * 4 by omega, ← Htk.out] at hI2
      have hperm := hI2.perm (os' := pgRows 52 (ps.take (j + 1)) (lvs ++ [.slice ad2 p.xs.length cap2])) (by
        rw [Htk.out, pgRows_snoc _ _ _ _ _ (by rw [Hll.out, Htl.out])]
        exact List.perm_append_comm)
      have HI2 := hid hperm
      have Hll2 := hid (show (lvs ++ [Value.slice ad2 p.xs.length cap2]).length = j + 1 by rw [List.length_append, Hll.out]; rfl)
      clear hI hI2 hperm hbk hown hb2 hcall c0 c1 c2 c3 hlen4 hcg
      go_wp2
      go_roundw
      case rel => exact ⟨j + 1, lvs ++ [.slice ad2 p.xs.length cap2], by omega, by go_num, Hll2.out, HI2.out⟩
      case measure => simp [intOf]; omega
    · have hjn : j = n := by omega
      subst hjn
      have HI := hid hI
      have Hll := hid hll
      clear hI hll
      go_wp2
      go_ret
      have hI := HI.out
      rw [List.drop_of_length_le (by rw [Hdl.out]; exact Nat.le_refl _), List.append_nil, List.take_of_length_le (by rw [← Hn.out]; exact Nat.le_refl _)] at hI
      exact ⟨_, rfl, B, lvs, by rw [← Hn.out]; rfl, by rw [Hll.out, Hn.out], hI⟩

end Go.Proofs.Ytggbdmgonobefaa
