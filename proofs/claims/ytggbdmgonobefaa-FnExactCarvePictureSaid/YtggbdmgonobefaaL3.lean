/-
  Lists of integers: copied, compared, marked.
  Conditions: the list is a row of cells that reads.
-/
import Derived.Test.YtggbdmgonobefaaA5
namespace Go.Proofs.Ytggbdmgonobefaa
open Go.RowKit
set_option linter.unusedVariables false
set_option linter.unusedSimpArgs false

abbrev iv (x : Int) : Value := .int .i64 x

theorem Try.infoI : (Try.prog.info? 2).map (fun i => (i.zero, i.size, i.bytes)) = some (some (.int .i64 0), 1, 8) := by kernel_rfl

theorem Sl.int {w : World} {ad : Option Addr} {n cap : Nat} {s : List Int} (h : Sl w (.slice ad n cap) (s.map iv)) (hn : s.length = n) (i : Nat) (hi : i < n) :
    ∃ b off, ad = some ⟨b, off, none⟩ ∧ w.cell? ⟨b, off + i, none⟩ = some (iv (s.getD i 0)) ∧ b < w.heap.size := by
  obtain ⟨b, off, c, h1, h2, h3, h4⟩ := h.at i hi
  refine ⟨b, off, h1, ?_, h4⟩
  rw [h3, ← h2, List.getElem?_map, List.getElem?_eq_getElem (by omega)]
  simp [show i < s.length by omega]

set_option maxHeartbeats 2000000 in
theorem toInt64S_any (cs : List Value) (xs : List Int) (hxs : cs = xs.map iv) (v : Value) (w : World) (hx : Sl w v cs) (hlen : xs.length ≤ 1048576) :
    Calls Try.prog 53 #[v] w fun e w' => ∃ v', e = .returned v' ∧ w'.ownsRow w.heap.size 2 1 v' xs.length cs ∧ Below w.heap.size w w' := by
  obtain ⟨ad, cap, hv⟩ := hx.form
  obtain ⟨n, hn⟩ : ∃ n, n = cs.length := ⟨_, rfl⟩
  have hnl : xs.length = n := by rw [hn, hxs, List.length_map]
  rw [hnl] at hlen ⊢
  rw [← hn] at hv
  subst hv
  have Hn := hid hn
  clear hn hnl
  obtain ⟨i0, hi, hz0, hz1, hz2⟩ := info_parts Try.infoI
  go_enter Try.func53, Try.ntmps53
  go_wp2_with (at_make; refine wpList_make_full _ rfl _ _ 51 rfl w.heap.size 2 i0 (.int .i64 0) 1 Try.underlying51 hi hz0 hz1 _ _ _ _ n rfl rfl (by omega) (by omega) ?c1 ?c2 ?c3 ?_)
  case c1 => rw [hz2]; omega
  case c2 => unfold maxLen; omega
  case c3 => exact Nat.le_refl _
  intro w1 hown hgrow
  have hb1 : Below w.heap.size w w1 := (Below.refl _ _).grown hgrow (Nat.le_refl _) (fun k hk => by cases hk)
  have hcs : (madeCells #[Value.int .i64 0] n).toList.length = n := by have := hown.1; omega
  obtain ⟨ds, hds⟩ : ∃ ds, ds = (madeCells #[Value.int .i64 0] n).toList := ⟨_, rfl⟩
  rw [← hds] at hcs hown
  have Hcs := hid hcs
  clear hds hcs hgrow hi hz0 hz1 hz2
  go_wp2
  go_loopw [4] (fun i wr => ∃ j : Nat, j ≤ n ∧ i = .int .i64 j ∧ wr.ownsRow w.heap.size 2 1 (.slice (some ⟨w.heap.size, 0, none⟩) n n) n (cs.take j ++ ds.drop j) ∧ Below w.heap.size w wr) (fun i _ => n - (intOf i).toNat)
  case atStart => exact ⟨0, Nat.zero_le _, rfl, by simpa using hown, hb1⟩
  case round =>
    obtain ⟨j, hj, rfl, hownr, hbr⟩ := hrel
    by_cases hlt : j < n
    · obtain ⟨b, off, c, rfl, hci, hcell, hbs⟩ := (hx.mono hbr).at j hlt
      have hjc : j < cs.length := by rw [← Hn.out]; exact hlt
      have hcj : c = cs[j] := by rw [List.getElem?_eq_getElem hjc] at hci; exact (Option.some.inj hci).symm
      have hst := map_take_set cs ds j (by rw [Hcs.out, ← Hn.out]) hjc
      rw [← hcj] at hst
      obtain ⟨q, hq⟩ : ∃ q, c = iv q := by
        have hm : c ∈ xs.map iv := by rw [← hxs, hcj]; exact List.getElem_mem hjc
        obtain ⟨q, _, hq⟩ := List.mem_map.1 hm
        exact ⟨q, hq.symm⟩
      have hl2 : (cs.take j ++ ds.drop j).length = n := by have := hownr.1; omega
      have hc1 : ∃ c, wr.cell? ⟨w.heap.size, j, none⟩ = some c := by
        rw [hownr.cellAt j (by omega)]
        exact ⟨_, List.getElem?_eq_getElem (by omega)⟩
      obtain ⟨c1, hc1⟩ := hc1
      have hf1 := hownr.frozenAt j
      have hs := hownr.stored j c
      rw [hst] at hs
      rw [hq] at hs hcell
      have Hs := hid hs
      have hbne : b ≠ w.heap.size := by
        have := (hx.at j hlt)
        obtain ⟨b', _, _, h1, _, _, h2⟩ := this
        simp only [Option.some.injEq, Addr.mk.injEq] at h1
        omega
      clear hs hst hl2 hownr hci hcj hq hx hxs hown
      go_wp2
      go_roundw
      case rel => exact ⟨j + 1, by omega, by go_num, Hs.out.1, hbr.setCell (Nat.le_refl _) _⟩
      case measure => simp [intOf]; omega
    · have hjn : j = n := by omega
      subst hjn
      go_wp2
      go_ret
      refine ⟨_, rfl, ?_, hbr⟩
      rwa [List.drop_of_length_le (by rw [Hcs.out]; exact Nat.le_refl _), List.append_nil, Hn.out, List.take_length, ← Hn.out] at hownr


set_option maxHeartbeats 2000000 in
theorem eqInt64S_yes (xs : List Int) (va vb : Value) (w : World) (ha : Sl w va (xs.map iv)) (hb : Sl w vb (xs.map iv)) (hlen : xs.length ≤ 140737488351232) :
    Calls Try.prog 34 #[va, vb] w fun e w' => e = .returned (.bool true) ∧ Below w.heap.size w w' := by
  obtain ⟨ada, capa, hva⟩ := ha.form
  obtain ⟨adb, capb, hvb⟩ := hb.form
  rw [List.length_map] at hva hvb
  obtain ⟨n, hn⟩ : ∃ n, n = xs.length := ⟨_, rfl⟩
  rw [← hn] at hva hvb hlen
  rw [hva] at ha ⊢
  rw [hvb] at hb ⊢
  have Hn := hid hn.symm
  clear hva hvb hn
  go_enter Try.func34, Try.ntmps34
  go_wp2
  go_loopw [5] (fun i wr => ∃ k : Nat, k ≤ n ∧ i = .int .i64 k ∧ Below w.heap.size w wr) (fun i _ => n - (intOf i).toNat)
  case atStart => exact ⟨0, Nat.zero_le _, rfl, Below.refl _ _⟩
  case round =>
    obtain ⟨k, hk, rfl, hbw⟩ := hrel
    by_cases hlt : k < n
    · obtain ⟨ba, offa, rfl, hcella, hbsa⟩ := (ha.mono hbw).int Hn.out k hlt
      obtain ⟨bb, offb, rfl, hcellb, hbsb⟩ := (hb.mono hbw).int Hn.out k hlt
      obtain ⟨x, hx⟩ : ∃ x, x = xs.getD k 0 := ⟨_, rfl⟩
      rw [← hx] at hcella hcellb
      clear hx ha hb
      go_wp2
      refine Mix.wp_mix [.S, .S, .S, .S, .S, .S, .S, .S, .S] [0, 1, 2, 3, 4, 5, 6, 7, 8] (Below wr.heap.size wr) (by kernel_rfl) (by kernel_rfl) ((Below.refl _ _).drew) ?_
      have hC : Below wr.heap.size wr wr.drew := (Below.refl _ _).drew
      generalize wr.drew = w2 at hC ⊢
      repeat (first | (refine Mix.sf_S rfl rfl rfl rfl rfl (Mix.valOp_spec rfl) hC ?_; apply Exists.intro; refine ⟨?_, ?_⟩; · (intro w' hC' K hK; have hk := (bcell hC').1; go_step; exact hK)) | (refine Mix.sf_skipS rfl rfl rfl rfl ?_; apply Exists.intro; refine ⟨?_, ?_⟩; · (intro K hK; go_step; exact hK)) | (refine Mix.sf_skipA rfl rfl rfl rfl ?_; apply Exists.intro; refine ⟨?_, ?_⟩; · (intro K hK; go_step; exact hK)) | (refine Mix.sf_skipL rfl rfl rfl rfl ?_ hC; apply Exists.intro; refine ⟨?_, ?_⟩; · (intro K hK; go_step; exact hK); clear hC; intro wL hC))
      refine Mix.sf_nil ?_
      go_wp2
      go_roundw
      case rel => exact ⟨k + 1, by omega, by go_num, hbw.trans (hC.mono hbw.size)⟩
      case measure => simp [intOf]; omega
    · go_wp2
      go_ret
      exact ⟨rfl, hbw⟩

end Go.Proofs.Ytggbdmgonobefaa
