/-
  SeamCost by the program and by the reference.
  Conditions: the lights and the seam are rows of cells that read.
-/
import Derived.Test.YtjennldpjfeppaaA28
import Derived.Test.YtjennldpjfeppaaA15
namespace Go.Proofs.Ytjennldpjfeppaa
open Go.RowKit
set_option linter.unusedVariables false
set_option linter.unusedSimpArgs false
attribute [local go_sem] Fl.run_fadd Fl.run_fsub Fl.run_fmul Fl.run_fquo Fl.run_wide Fl.run_store_float

/-- The cost of the first n places of a seam. -/
def costV (W : Nat) (s : List Int) (G : List Nat) : Nat → Nat
  | 0 => 0
  | n + 1 => Fl.fop .add .f32 (costV W s G n) (G.getD (n * W + (s.getD n 0).toNat) 0)
def costG (W H : Int) (xs : List Nat) (s : List Int) : Nat := costV W.toNat s (grid W.toNat H.toNat (edgeV W.toNat H.toNat xs)) H.toNat
def costOk (W H : Int) (xs : List Nat) (s : List Int) : Bool := seamB W H xs s && Fl.fin (costG W H xs s)
def costR (W H : Int) (xs : List Nat) (s : List Int) : Nat := if costOk W H xs s then costG W H xs s else 0

theorem nl_getD {ys G : List Nat} (h : nl ys = G) (i : Nat) : Fl.nf .f32 (ys.getD i 0) = G.getD i 0 := by
  rw [← h, nl]
  by_cases hi : i < ys.length
  · simp [hi]
  · simp [Nat.le_of_not_lt hi, nf_zero]

theorem cost_step {W : Nat} {s : List Int} {G ys : List Nat} {n z r t : Nat} (hG : nl ys = G) (hr : Fl.nf .f32 r = costV W s G n) (hz : s.getD n 0 = z) (ht : Fl.nf .f32 t = Fl.fop .add .f32 r (ys.getD (n * W + z) 0)) : Fl.nf .f32 t = costV W s G (n + 1) := by
  rw [ht, costV, hz, Int.toNat_natCast, ← nl_getD hG, ← hr, Fl.fop_nf]

theorem num_end {c r : Nat} (h : Fl.nf .f32 r = c) : Fl.fin r = Fl.fin c := by rw [← Fl.fin_nf r, h]

set_option maxHeartbeats 8000000 in
set_option maxRecDepth 100000 in
theorem implSeamCost_any (W H : Int) (v : Value) (xs : List Nat) (s : List Int) (sv : Value) (w : World) (hx : Sl w v (xs.map fv)) (hlen : xs.length ≤ 140737488351232) (hs : Sl w sv (s.map iv)) (hslen : s.length ≤ 140737488351232) :
    Calls Try.prog 53 #[.agg #[.int .i64 W, .int .i64 H, v], sv] w (NumRes w (costR W H xs s) (costOk W H xs s)) := by
  have hI := (Inv.start w).alloc [.int .i64 W, .int .i64 H, v] 24
  obtain ⟨w1, hw1⟩ : ∃ w1, w1 = w.alloc (.cells #[.int .i64 W, .int .i64 H, v] 24) := ⟨_, rfl⟩
  rw [show w.alloc (.cells [Value.int .i64 W, .int .i64 H, v].toArray 24) = w1 from hw1.symm] at hI
  have hcall := implIsSeam_any W H v xs s _ w1 (hI.arg hx) hlen (hI.arg hs) hslen
  cases hok : seamB W H xs s
  · have hr : costOk W H xs s = false := by simp [costOk, hok]
    have hr2 : costR W H xs s = 0 := by simp [costR, hr]
    rw [hr, hr2]
    rw [hok] at hcall
    clear hr hr2
    go_enter Try.func53, Try.ntmps53
    go_wp2_with fail
    rw [← hw1]
    clear hw1
    refine hcall.mono ?_
    rintro e w2 ⟨rfl, hb2⟩
    replace hI := hI.call hb2
    go_wp2
    exact bodyPost_ret (v := .tuple #[fv 0, .bool false]) (by simp [results, Try.results53, go_sem]) rfl ⟨0, rfl, nf_zero, hI.below⟩
  · obtain ⟨m, n, rfl, rfl, g1, g2, g3, g4, g5, g6, g7⟩ := seam_nat hok
    have hed := fun (w2 : World) (hb : Below w1.heap.size w1 w2) => edges_any m n v xs w2 ((hI.arg hx).mono hb) g5 g2 g4
    obtain ⟨G, hG⟩ : ∃ G, G = grid m n (edgeV m n xs) := ⟨_, rfl⟩
    have hcg : costG (m : Int) (n : Int) xs s = costV m s G n := by rw [costG, hG]; simp
    have hco : costOk (m : Int) (n : Int) xs s = Fl.fin (costV m s G n) := by rw [costOk, hok, hcg, Bool.true_and]
    have hcr : costR (m : Int) (n : Int) xs s = if Fl.fin (costV m s G n) then costV m s G n else 0 := by rw [costR, hco, hcg]
    rw [hco, hcr]
    obtain ⟨C, hC⟩ : ∃ C, C = costV m s G n := ⟨_, rfl⟩
    rw [← hC]
    obtain ⟨N, hN⟩ : ∃ N : Ending → World → Prop, N = NumRes w (if Fl.fin C then C else 0) (Fl.fin C) := ⟨_, rfl⟩
    rw [← hN]
    have HN := hid hN
    have HC := hid hC
    clear hN hC
    have hGl : G.length = m * n := by rw [hG, grid_len]
    rw [← hG] at hed
    rw [hok] at hcall
    obtain ⟨ads, caps, hsv⟩ := hs.form
    rw [List.length_map, g6] at hsv
    subst hsv
    have Hs := hid hs
    have Hs6 := hid g6
    have Hin := hid g7
    have HGl := hid hGl
    clear hok hcg hco hcr hG hGl hx g5 hs g6 g7
    go_enter Try.func53, Try.ntmps53
    go_wp2_with fail
    rw [← hw1]
    clear hw1
    refine hcall.mono ?_
    rintro e w2 ⟨rfl, hb2⟩
    replace hI := hI.call hb2
    have hed2 := hed w2 hb2
    have q0 := (hI.blk 0 rfl).cell 0
    have q1 := (hI.blk 0 rfl).cell 1
    have q2 := (hI.blk 0 rfl).cell 2
    clear hed hb2 hcall
    go_wp2_with fail
    clear q0 q1 q2
    refine hed2.mono ?_
    rintro e w3 ⟨v3, ys, rfl, hown, hys, hb3⟩
    obtain ⟨ad', cap', rfl, -⟩ := own_form hown
    have hyl : ys.length = m * n := by rw [← HGl.out, ← hys, nl, List.length_map]
    replace hI := (hI.fresh hb3 hown).alloc [.int .i64 m, .int .i64 n, .slice ad' ys.length cap'] 24
    have Hys := hid hys
    have Hyl := hid hyl
    obtain ⟨B6, hB6⟩ : ∃ B6, B6 = w3.heap.size := ⟨_, rfl⟩
    clear hown hb3 hed2 hys hyl
    go_wp2
    rw [← hB6] at hI ⊢
    clear hB6
    rw [show w3.alloc (.cells [Value.int .i64 m, .int .i64 n, .slice ad' ys.length cap'].toArray 24) = w3.alloc (.cells #[.int .i64 m, .int .i64 n, .slice ad' ys.length cap'] 24) from rfl] at hI
    obtain ⟨L, hL⟩ : ∃ L, L = ys.length := ⟨_, rfl⟩
    rw [← hL] at hI ⊢
    have HL := hid hL
    clear hL
    generalize w3.alloc (.cells #[.int .i64 m, .int .i64 n, .slice ad' L cap'] 24) = w4 at hI ⊢
    go_loopw [7, 18] (fun o c wr => ∃ (k r : Nat), k ≤ n ∧ c = .int .i64 k ∧ o = fv r ∧ Fl.nf .f32 r = costV m s G k ∧ Below w4.heap.size w4 wr) (fun _ c _ => n - (intOf c).toNat)
    case atStart => exact ⟨0, 0, Nat.zero_le _, rfl, rfl, by rw [nf_zero]; rfl, Below.refl _ _⟩
    case round =>
      obtain ⟨k, r, hk, rfl, rfl, hr, hb⟩ := hrel
      have Hr := hid hr
      clear hr
      replace hI := hI.call hb
      by_cases hlt : k < n
      · obtain ⟨ba, oa, rfl, hcs0, hbsa⟩ := Hs.out.int Hs6.out k hlt
        obtain ⟨h0, h1⟩ := Hin.out k hlt
        obtain ⟨z, hz⟩ := Int.eq_ofNat_of_zero_le h0
        have hcs := (hI.below.cell hbsa).trans hcs0
        rw [hz] at hcs h1
        have hzm : z < m := by omega
        have hba : ba < wr.heap.size := Nat.lt_of_lt_of_le hbsa hI.below.size
        have hat := at_any m n (.slice ad' L cap') ys z k wr (by have := hI.sl 0 rfl; exact this) (by rw [Hyl.out, Nat.mul_comm m n]; exact Nat.lt_of_lt_of_le (show k * m + z < (k + 1) * m by rw [Nat.succ_mul]; omega) (Nat.mul_le_mul_right m (by omega))) g2 (by omega) (by omega)
        have k0 := (hI.blk 0 rfl).cell 0
        have k1 := (hI.blk 0 rfl).cell 1
        have k2 := (hI.blk 0 rfl).cell 2
        have hBB := (hI.blk 0 rfl).lt
        have Hz := hid hz
        clear hcs0 hz h0
        go_wp2_with fail
        refine hat.mono ?_
        rintro e w5 ⟨rfl, hb5⟩
        clear hcs hat k0 k1 k2
        go_wp2
        go_roundw
        case rel => exact ⟨k + 1, _, by omega, by go_num, rfl, cost_step Hys.out Hr.out Hz.out (Fl.nf_fres _ _ _ _ _), Below.drewN' _ (hb.trans (hb5.mono hb.size))⟩
        case measure => simp [intOf]; omega
      · have hke : k = n := by omega
        subst hke
        have hnum := numberOrFail_any r wr
        have Hr := hid (show Fl.nf .f32 r = C from Hr.out.trans HC.out.symm)
        rw [num_end Hr.out] at hnum
        have Hb := hid hI.below
        clear hI hb
        cases hf : Fl.fin C
        · rw [hf] at hnum
          simp only [Bool.false_eq_true, if_false] at hnum
          have Hf := hid hf
          clear hf
          go_wp2_with fail
          refine hnum.mono ?_
          rintro e w6 ⟨rfl, hb6⟩
          go_wp2
          rw [HN.out, Hf.out]
          exact ⟨0, rfl, nf_zero, Hb.out.trans (hb6.mono Hb.out.size)⟩
        · rw [hf] at hnum
          simp only [if_true] at hnum
          have Hf := hid hf
          clear hf
          go_wp2_with fail
          refine hnum.mono ?_
          rintro e w6 ⟨rfl, hb6⟩
          go_wp2
          rw [HN.out, Hf.out]
          exact ⟨r, rfl, Hr.out, Hb.out.trans (hb6.mono Hb.out.size)⟩

set_option maxHeartbeats 8000000 in
set_option maxRecDepth 100000 in
theorem specSeamCost_any (W H : Int) (v : Value) (xs : List Nat) (s : List Int) (sv : Value) (w : World) (hx : Sl w v (xs.map fv)) (hlen : xs.length ≤ 140737488351232) (hs : Sl w sv (s.map iv)) (hslen : s.length ≤ 140737488351232) :
    Calls Try.prog 52 #[.agg #[.int .i64 W, .int .i64 H, v], sv] w (NumRes w (costR W H xs s) (costOk W H xs s)) := by
  have hI := (Inv.start w).alloc [.int .i64 W, .int .i64 H, v] 24
  obtain ⟨w1, hw1⟩ : ∃ w1, w1 = w.alloc (.cells #[.int .i64 W, .int .i64 H, v] 24) := ⟨_, rfl⟩
  rw [show w.alloc (.cells [Value.int .i64 W, .int .i64 H, v].toArray 24) = w1 from hw1.symm] at hI
  obtain ⟨b, hbe⟩ : ∃ b, b = w.heap.size := ⟨_, rfl⟩
  rw [← hbe] at hI
  have hcall := l07Is_any b 0 W H v xs s _ w1 ⟨(hI.blk 0 rfl).cell 0, (hI.blk 0 rfl).cell 1, (hI.blk 0 rfl).cell 2, hI.arg hx⟩ hlen (hI.arg hs) hslen
  cases hok : seamB W H xs s
  · have hr : costOk W H xs s = false := by simp [costOk, hok]
    have hr2 : costR W H xs s = 0 := by simp [costR, hr]
    rw [hr, hr2]
    rw [hok] at hcall
    clear hr hr2
    go_enter Try.func52, Try.ntmps52
    go_wp2_with fail
    rw [← hw1, ← hbe]
    clear hw1 hbe
    refine hcall.mono ?_
    rintro e w2 ⟨rfl, hb2⟩
    replace hI := hI.call hb2
    go_wp2
    exact bodyPost_ret (v := .tuple #[fv 0, .bool false]) (by simp [results, Try.results52, go_sem]) rfl ⟨0, rfl, nf_zero, hI.below⟩
  · obtain ⟨m, n, rfl, rfl, g1, g2, g3, g4, g5, g6, g7⟩ := seam_nat hok
    have hed := fun (w2 : World) (hb : Below w1.heap.size w1 w2) => l07Edges_any m n v xs b 0 w2 ⟨((hI.call hb).blk 0 rfl).cell 0, ((hI.call hb).blk 0 rfl).cell 1, ((hI.call hb).blk 0 rfl).cell 2, (hI.call hb).arg hx⟩ g5 g2 g4 g1 g3
    obtain ⟨G, hG⟩ : ∃ G, G = grid m n (edgeV m n xs) := ⟨_, rfl⟩
    have hcg : costG (m : Int) (n : Int) xs s = costV m s G n := by rw [costG, hG]; simp
    have hco : costOk (m : Int) (n : Int) xs s = Fl.fin (costV m s G n) := by rw [costOk, hok, hcg, Bool.true_and]
    have hcr : costR (m : Int) (n : Int) xs s = if Fl.fin (costV m s G n) then costV m s G n else 0 := by rw [costR, hco, hcg]
    rw [hco, hcr]
    obtain ⟨C, hC⟩ : ∃ C, C = costV m s G n := ⟨_, rfl⟩
    rw [← hC]
    obtain ⟨N, hN⟩ : ∃ N : Ending → World → Prop, N = NumRes w (if Fl.fin C then C else 0) (Fl.fin C) := ⟨_, rfl⟩
    rw [← hN]
    have HN := hid hN
    have HC := hid hC
    clear hN hC
    have hGl : G.length = m * n := by rw [hG, grid_len]
    rw [← hG] at hed
    rw [hok] at hcall
    obtain ⟨ads, caps, hsv⟩ := hs.form
    rw [List.length_map, g6] at hsv
    subst hsv
    have Hs := hid hs
    have Hs6 := hid g6
    have Hin := hid g7
    have HGl := hid hGl
    have hmn : m * n ≤ 256 := by have : m * n ≤ 16 * 16 := Nat.mul_le_mul g2 g4; omega
    clear hok hcg hco hcr hG hGl hx g5 hs g6 g7
    go_enter Try.func52, Try.ntmps52
    go_wp2_with fail
    rw [← hw1, ← hbe]
    clear hw1 hbe
    refine hcall.mono ?_
    rintro e w2 ⟨rfl, hb2⟩
    replace hI := hI.call hb2
    have hed2 := hed w2 hb2
    clear hed hb2 hcall
    go_wp2_with fail
    refine hed2.mono ?_
    rintro e w3 ⟨v3, ys, rfl, hown, hys, hb3⟩
    obtain ⟨ad', cap', rfl, had⟩ := own_form' hown
    have hyl : ys.length = m * n := by rw [← HGl.out, ← hys, nl, List.length_map]
    replace hI := (hI.fresh hb3 hown).alloc [.int .i64 m, .int .i64 n, .slice ad' ys.length cap'] 24
    obtain ⟨g, rfl, -, -⟩ := had (by rw [hyl]; exact Nat.mul_pos g1 g3)
    have Hys := hid hys
    have Hyl := hid hyl
    obtain ⟨B6, hB6⟩ : ∃ B6, B6 = w3.heap.size := ⟨_, rfl⟩
    clear hown hb3 hed2 hys hyl had
    go_wp2
    rw [← hB6] at hI ⊢
    clear hB6
    rw [show w3.alloc (.cells [Value.int .i64 m, .int .i64 n, .slice (some ⟨g, 0, none⟩) ys.length cap'].toArray 24) = w3.alloc (.cells #[.int .i64 m, .int .i64 n, .slice (some ⟨g, 0, none⟩) ys.length cap'] 24) from rfl] at hI
    obtain ⟨L, hL⟩ : ∃ L, L = ys.length := ⟨_, rfl⟩
    rw [← hL] at hI ⊢
    have HL := hid hL
    clear hL
    generalize w3.alloc (.cells #[.int .i64 m, .int .i64 n, .slice (some ⟨g, 0, none⟩) L cap'] 24) = w4 at hI ⊢
    go_loopw [7, 8, 15] (fun o _ c wr => ∃ (k r : Nat), k ≤ n ∧ c = .int .i64 k ∧ o = fv r ∧ Fl.nf .f32 r = costV m s G k ∧ Below w4.heap.size w4 wr) (fun _ _ c _ => n - (intOf c).toNat)
    case atStart => exact ⟨0, 0, Nat.zero_le _, rfl, rfl, by rw [nf_zero]; rfl, Below.refl _ _⟩
    case round =>
      obtain ⟨k, r, hk, rfl, rfl, hr, hb⟩ := hrel
      have Hr := hid hr
      clear hr
      replace hI := hI.call hb
      by_cases hlt : k < n
      · obtain ⟨ba, oa, rfl, hcs0, hbsa⟩ := Hs.out.int Hs6.out k hlt
        obtain ⟨h0, h1⟩ := Hin.out k hlt
        obtain ⟨z, hz⟩ := Int.eq_ofNat_of_zero_le h0
        have hcs := (hI.below.cell hbsa).trans hcs0
        rw [hz] at hcs h1
        have hzm : z < m := by omega
        have hba : ba < wr.heap.size := Nat.lt_of_lt_of_le hbsa hI.below.size
        have hidx : k * m + z < L := by rw [HL.out, Hyl.out, Nat.mul_comm m n]; exact Nat.lt_of_lt_of_le (show k * m + z < (k + 1) * m by rw [Nat.succ_mul]; omega) (Nat.mul_le_mul_right m (by omega))
        have hL256 : L ≤ 256 := by rw [HL.out, Hyl.out]; exact hmn
        obtain ⟨j, hj⟩ : ∃ j, j = k * m + z := ⟨_, rfl⟩
        have hjI : (k : Int) * (m : Int) + z = j := by rw [hj]; simp
        have hkm : (0 : Int) ≤ (k : Int) * m ∧ (k : Int) * m ≤ 256 := by
          have e : (k : Int) * (m : Int) = ((k * m : Nat) : Int) := by simp
          have : k * m ≤ j := by omega
          omega
        rw [← hj] at hidx
        have hrow : wr.ownsRow w.heap.size 53 1 (.slice (some ⟨g, 0, none⟩) L cap') L (ys.map fv) := by
          have := hI.row 0 rfl
          rwa [List.length_map, ← HL.out] at this
        have hgc : wr.cell? ⟨g, j, none⟩ = some (fv (ys.getD j 0)) := by
          rw [hrow.cellAt j (by omega), List.getElem?_map, List.getElem?_eq_getElem (by rw [← HL.out]; exact hidx)]
          simp [show j < ys.length by rw [← HL.out]; exact hidx]
        have hgl : g < wr.heap.size := World.block_lt_of_cell? wr _ hgc
        obtain ⟨A, hA⟩ : ∃ A, A = ys.getD j 0 := ⟨_, rfl⟩
        rw [← hA] at hgc
        have Hstep := hid (show ∀ t, Fl.nf .f32 t = Fl.fop .add .f32 r A → Fl.nf .f32 t = costV m s G (k + 1) from fun t ht => cost_step Hys.out Hr.out hz (by rw [ht, hA, hj]))
        have k0 := (hI.blk 1 rfl).cell 0
        have k2 := (hI.blk 0 rfl).cell 2
        have hBB := (hI.blk 0 rfl).lt
        have hBb := (hI.blk 1 rfl).lt
        clear hcs0 hz h0 hA hj hrow
        go_wp2
        refine Mix.wp_mix [.S, .S, .S, .S, .S, .S, .S, .S, .S, .S, .S, .S, .S, .S, .L, .S] [0, 1, 2, 3, 4, 5, 6, 7, 8, 9, 10, 11, 12, 13, 14, 15] (Below wr.heap.size wr) (by kernel_rfl) (by kernel_rfl) ((Below.refl _ _).drew) ?_
        have hC : Below wr.heap.size wr wr.drew := (Below.refl _ _).drew
        generalize wr.drew = w5 at hC ⊢
        repeat (first | (refine Mix.sf_S rfl rfl rfl rfl rfl (Mix.valOp_spec rfl) hC ?_; apply Exists.intro; refine ⟨?_, ?_⟩; · (intro w' hC' K hK; have hk := (bcell hC').1; go_step; exact hK)) | (refine Mix.sf_skipS rfl rfl rfl rfl ?_; apply Exists.intro; refine ⟨?_, ?_⟩; · (intro K hK; go_step; exact hK)) | (refine Mix.sf_skipA rfl rfl rfl rfl ?_; apply Exists.intro; refine ⟨?_, ?_⟩; · (intro K hK; go_step; exact hK)) | (refine Mix.sf_skipL rfl rfl rfl rfl ?_ hC; apply Exists.intro; refine ⟨?_, ?_⟩; · (intro K hK; go_step; exact hK); clear hC; intro wL hC))
        refine Mix.sf_Larith rfl rfl rfl rfl rfl rfl (by simp) rfl below_draws ?_; clear hC; intro t ht w6 hC; apply Exists.intro; refine ⟨?_, ?_⟩; · (intro K hK; go_step; exact hK)
        have Ht := hid (Hstep.out t ht)
        clear ht
        repeat (first | (refine Mix.sf_S rfl rfl rfl rfl rfl (Mix.valOp_spec rfl) hC ?_; apply Exists.intro; refine ⟨?_, ?_⟩; · (intro w' hC' K hK; have hk := (bcell hC').1; go_step; exact hK)) | (refine Mix.sf_skipS rfl rfl rfl rfl ?_; apply Exists.intro; refine ⟨?_, ?_⟩; · (intro K hK; go_step; exact hK)) | (refine Mix.sf_skipA rfl rfl rfl rfl ?_; apply Exists.intro; refine ⟨?_, ?_⟩; · (intro K hK; go_step; exact hK)) | (refine Mix.sf_skipL rfl rfl rfl rfl ?_ hC; apply Exists.intro; refine ⟨?_, ?_⟩; · (intro K hK; go_step; exact hK); clear hC; intro wL hC))
        refine Mix.sf_nil ?_
        clear hcs k0 k2 hgc
        go_wp2
        go_roundw
        case rel => exact ⟨k + 1, t, by omega, by go_num, rfl, Ht.out, hb.trans (hC.mono hb.size)⟩
        case measure => simp [intOf]; omega
      · have hke : k = n := by omega
        subst hke
        have hnum := l02Number_any r wr
        have Hr := hid (show Fl.nf .f32 r = C from Hr.out.trans HC.out.symm)
        rw [num_end Hr.out] at hnum
        have Hb := hid hI.below
        clear hI hb
        cases hf : Fl.fin C
        · rw [hf] at hnum
          simp only [Bool.false_eq_true, if_false] at hnum
          have Hf := hid hf
          clear hf
          go_wp2_with fail
          refine hnum.mono ?_
          rintro e w6 ⟨rfl, hb6⟩
          go_wp2
          rw [HN.out, Hf.out]
          exact ⟨0, rfl, nf_zero, Hb.out.trans (hb6.mono Hb.out.size)⟩
        · rw [hf] at hnum
          simp only [if_true] at hnum
          have Hf := hid hf
          clear hf
          go_wp2_with fail
          refine hnum.mono ?_
          rintro e w6 ⟨rfl, hb6⟩
          go_wp2
          rw [HN.out, Hf.out]
          exact ⟨r, rfl, Hr.out, Hb.out.trans (hb6.mono Hb.out.size)⟩

end Go.Proofs.Ytjennldpjfeppaa
