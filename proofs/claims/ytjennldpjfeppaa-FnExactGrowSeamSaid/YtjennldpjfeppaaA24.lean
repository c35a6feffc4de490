/-
  GrowSeam by the reference.
  Conditions: the lights and the seam are rows of cells that read.
-/
import Derived.Test.YtjennldpjfeppaaA23
import Derived.Test.YtjennldpjfeppaaAppS
namespace Go.Proofs.Ytjennldpjfeppaa
open Go.RowKit
set_option linter.unusedVariables false
set_option linter.unusedSimpArgs false
attribute [local go_sem] Fl.run_fadd Fl.run_fsub Fl.run_fmul Fl.run_fquo Fl.run_wide Fl.run_store_float

set_option maxHeartbeats 8000000 in
set_option maxRecDepth 100000 in
theorem specGrowSeam_any (W H : Int) (v : Value) (xs : List Nat) (s : List Int) (sv : Value) (w : World) (hx : Sl w v (xs.map fv)) (hlen : xs.length ≤ 140737488351232) (hs : Sl w sv (s.map iv)) (hslen : s.length ≤ 140737488351232) :
    Calls Try.prog 50 #[.agg #[.int .i64 W, .int .i64 H, v], sv] w (PicRes w (growR W H xs s)) := by
  obtain ⟨i0, hi, hz0, hz1, hz2⟩ := info_parts Try.infoF
  obtain ⟨ads, caps, hsv⟩ := hs.form
  rw [List.length_map] at hsv
  obtain ⟨adx, capx, hxv⟩ := hx.form
  rw [List.length_map] at hxv
  obtain ⟨ns, hns⟩ : ∃ n, n = s.length := ⟨_, rfl⟩
  obtain ⟨nx, hnx⟩ : ∃ n, n = xs.length := ⟨_, rfl⟩
  rw [← hns] at hsv
  rw [← hnx] at hxv
  have Hns := hid hns.symm
  have Hnx := hid hnx.symm
  clear hns hnx
  subst hsv hxv
  have hI := ((Inv.start w).alloc [.int .i64 W, .int .i64 H, .slice adx nx capx] 24).alloc [.int .i64 0, .int .i64 0, .slice none 0 0] 24
  simp only [size_alloc1] at hI
  obtain ⟨w1, hw1⟩ : ∃ w1, w1 = (w.alloc (.cells #[.int .i64 W, .int .i64 H, .slice adx nx capx] 24)).alloc (.cells #[.int .i64 0, .int .i64 0, .slice none 0 0] 24) := ⟨_, rfl⟩
  rw [show (w.alloc (.cells [Value.int .i64 W, .int .i64 H, .slice adx nx capx].toArray 24)).alloc (.cells [Value.int .i64 0, .int .i64 0, .slice none 0 0].toArray 24) = w1 from hw1.symm] at hI
  obtain ⟨b, hbe⟩ : ∃ b, b = w.heap.size := ⟨_, rfl⟩
  rw [← hbe] at hI
  have hp : PicAt w1 b 0 W H _ xs := ⟨(hI.blk 1 rfl).cell 0, (hI.blk 1 rfl).cell 1, (hI.blk 1 rfl).cell 2, hI.arg hx⟩
  have hcall := l07Is_any b 0 W H _ xs s _ w1 hp hlen (hI.arg hs) hslen
  rcases (show seamB W H xs s = false ∨ (seamB W H xs s = true ∧ W = 16) ∨ (seamB W H xs s = true ∧ W < 16) by
    cases hok : seamB W H xs s
    · exact .inl rfl
    · obtain ⟨m, n, rfl, rfl, g1, g2, -⟩ := seam_nat hok
      by_cases h : m = 16
      · exact .inr (.inl ⟨rfl, by omega⟩)
      · exact .inr (.inr ⟨rfl, by omega⟩)) with hok | ⟨hok, h2⟩ | ⟨hok, h2⟩
  · have hr : growR W H xs s = none := by simp [growR, hok]
    rw [hr]
    rw [hok] at hcall
    clear hr hp
    go_enter Try.func50, Try.ntmps50
    go_wp2_with fail
    rw [← hw1, ← hbe]
    have Hbe := hid hbe
    clear hw1 hbe
    refine hcall.mono ?_
    rintro e w2 ⟨rfl, hb2⟩
    replace hI := hI.call hb2
    have hres := hI.blk 0 rfl
    have r0 := hres.cell 0
    have r1 := hres.cell 1
    have r2 := hres.cell 2
    have f0 := hres.frozen 0
    have f1 := hres.frozen 1
    have f2 := hres.frozen 2
    go_wp2
    refine bodyPost_ret (v := .tuple #[.agg #[.int .i64 0, .int .i64 0, .slice none 0 0], .bool false]) (by simp [results, Try.results50, go_sem, r0, r1, r2, f0, f1, f2]) rfl ⟨rfl, ?_⟩
    have hsz := Hbe.out
    exact ((hI.below.setCell (by simp; omega) _).setCell (by simp; omega) _).setCell (by simp; omega) _
  · have hr : growR W H xs s = none := by simp [growR, h2]
    rw [hr]
    rw [hok] at hcall
    clear hr hp
    subst h2
    go_enter Try.func50, Try.ntmps50
    go_wp2_with fail
    rw [← hw1, ← hbe]
    have Hbe := hid hbe
    clear hw1 hbe
    refine hcall.mono ?_
    rintro e w2 ⟨rfl, hb2⟩
    replace hI := hI.call hb2
    have q0 := (hI.blk 1 rfl).cell 0
    have hres := hI.blk 0 rfl
    have r0 := hres.cell 0
    have r1 := hres.cell 1
    have r2 := hres.cell 2
    have f0 := hres.frozen 0
    have f1 := hres.frozen 1
    have f2 := hres.frozen 2
    go_wp2
    refine bodyPost_ret (v := .tuple #[.agg #[.int .i64 0, .int .i64 0, .slice none 0 0], .bool false]) (by simp [results, Try.results50, go_sem, r0, r1, r2, f0, f1, f2]) rfl ⟨rfl, ?_⟩
    have hsz := Hbe.out
    exact ((hI.below.setCell (by simp; omega) _).setCell (by simp; omega) _).setCell (by simp; omega) _
  · obtain ⟨m, n, rfl, rfl, g1, g2, g3, g4, g5, g6, g7⟩ := seam_nat hok
    have hr : growR (m : Int) (n : Int) xs s = if validB ((m : Int) + 1) n (grid (m + 1) n (growV m xs s)) then some ⟨(m : Int) + 1, n, grid (m + 1) n (growV m xs s)⟩ else none := by
      simp only [growR, hok, h2, decide_true, Bool.and_self, if_true, Int.toNat_natCast]
    rw [hr]
    rw [hok] at hcall
    have hgrid : growP m xs s (m * n) = grid (m + 1) n (growV m xs s) := grow_rows m xs s n g7
    rw [← hgrid]
    clear hr hok hgrid
    have hmn : m * n ≤ 256 := by have : m * n ≤ 16 * 16 := Nat.mul_le_mul g2 g4; omega
    have hdiv : ∀ i, i < m * n → i / m < n := fun i h => Nat.div_lt_of_lt_mul h
    have hnx : nx = m * n := by rw [← Hnx.out, g5]
    have hns : ns = n := by rw [← Hns.out, g6]
    subst hns
    have hnext : ∀ i, i < m * ns → i % m + 1 < m → i + 1 < m * ns := fun i h h2 => by
      have h3 : i / m < ns := Nat.div_lt_of_lt_mul h
      have h4 : m * (i / m + 1) ≤ m * ns := Nat.mul_le_mul_left m h3
      have h5 := Nat.div_add_mod i m
      rw [Nat.mul_add, Nat.mul_one] at h4
      omega
    obtain ⟨q, hq⟩ : ∃ q, q = m * ns := ⟨_, rfl⟩
    rw [← hq] at hnx hmn hdiv hnext g5 ⊢
    subst hnx
    have Hdiv := hid hdiv
    have HnextI := hid hnext
    obtain ⟨R, hR⟩ : ∃ R, R = (if validB ((m : Int) + 1) ns (growP m xs s nx) then some (⟨(m : Int) + 1, ns, growP m xs s nx⟩ : Pic) else none) := ⟨_, rfl⟩
    rw [← hR]
    have HR := hid hR
    clear hdiv hq hp hR hnext
    go_enter Try.func50, Try.ntmps50
    go_wp2_with fail
    rw [← hw1, ← hbe]
    have Hbe := hid hbe
    clear hw1 hbe
    refine hcall.mono ?_
    rintro e w2 ⟨rfl, hb2⟩
    replace hI := hI.call hb2
    have q0 := (hI.blk 1 rfl).cell 0
    have q1 := (hI.blk 1 rfl).cell 1
    have hbB0 : b + 1 < w2.heap.size := (hI.blk 0 rfl).lt
    replace hI := hI.alloc [.int .i64 (m + 1), .int .i64 ns, .slice none 0 0] 24
    have q2 := (hI.blk 2 rfl).cell 2
    go_wp2
    clear q0 q1 q2
    obtain ⟨B6, hB6⟩ : ∃ B6, B6 = w2.heap.size := ⟨_, rfl⟩
    have hsz3 : (w2.alloc (.cells [Value.int .i64 (m + 1), .int .i64 ns, .slice none 0 0].toArray 24)).heap.size = B6 + 1 := by rw [hB6]; simp
    have hbB : b + 1 < B6 := by rw [hB6]; exact hbB0
    rw [← hB6] at hI ⊢
    clear hB6 hbB0
    obtain ⟨w3, hw3⟩ : ∃ w3, w3 = w2.alloc (.cells [Value.int .i64 (m + 1), .int .i64 ns, .slice none 0 0].toArray 24) := ⟨_, rfl⟩
    rw [← hw3] at hI hsz3
    rw [show w2.alloc (.cells #[.int .i64 (m + 1), .int .i64 ns, .slice none 0 0] 24) = w3 from hw3.symm]
    clear hw3 hb2 hcall
    have hS0 : AppS w3 w3 B6 (.int .i64 (m + 1)) (.int .i64 ns) 0 none 0 [] := ⟨hI.blk 0 rfl, World.ownsRow_nil _ _ _ _, Below.refl _ _, by omega⟩
    have t0 := (hI.blk 2 rfl).cell 0
    have t2 := (hI.blk 2 rfl).cell 2
    have hbB' : b < B6 := by omega
    have hwb : w.heap.size < B6 := by rw [← Hbe.out]; exact hbB'
    have HI := hid hI
    have Hx := hid hx
    have Hs := hid hs
    clear hI hx hs
    go_loopw [7, 27] (fun _ c wr => ∃ (i j : Nat) (ad : Option Addr) (cap : Nat) (ys : List Nat), i ≤ nx ∧ j ≤ 2 * i ∧ c = .int .i64 i ∧ AppS w3 wr B6 (.int .i64 (m + 1)) (.int .i64 ns) j ad cap ys ∧ nl ys = growP m xs s i) (fun _ c _ => nx - (intOf c).toNat)
    case atStart => exact ⟨0, 0, none, 0, [], Nat.zero_le _, Nat.le_refl _, rfl, hS0, rfl⟩
    case round =>
      clear hS0
      obtain ⟨i, j, ad, cap, ys, hiq, hji, rfl, hS, hys⟩ := hrel
      by_cases hlt : i < nx
      · obtain ⟨x, hx⟩ : ∃ x, x = i % m := ⟨_, rfl⟩
        obtain ⟨y, hy⟩ : ∃ y, y = i / m := ⟨_, rfl⟩
        have hxi : (i : Int) % (m : Int) = (x : Int) := by rw [hx]; simp
        have hyi : (i : Int) / (m : Int) = (y : Int) := by rw [hy]; simp
        have hylt : y < ns := by rw [hy]; exact Hdiv.out i hlt
        have hxm : x < m := by rw [hx]; exact Nat.mod_lt _ g1
        obtain ⟨z, hz⟩ : ∃ z, z = s.getD y 0 := ⟨_, rfl⟩
        have hkeep : cutKeep m s i = !decide ((x : Int) = z) := by rw [cutKeep, ← hx, ← hy, hz]
        obtain ⟨ba, oa, rfl, hcs0, hbsa⟩ := Hs.out.int Hns.out y hylt
        have hcs := (HI.out.below.cell hbsa).trans hcs0
        rw [← hz] at hcs
        have hba : ba < B6 := by omega
        have hlt0 : i < xs.length := by rw [Hnx.out]; exact hlt
        have hlights : ∀ k, k < xs.length → ∃ bl ol, adx = some ⟨bl, ol, none⟩ ∧ w3.cell? ⟨bl, ol + k, none⟩ = some (fv (xs.getD k 0)) ∧ bl < B6 := by
          intro k hk
          obtain ⟨bl, ol, c, h1, h2, h3, h4⟩ := Hx.out.at k (by rw [← Hnx.out]; exact hk)
          refine ⟨bl, ol, h1, ?_, by omega⟩
          rw [(HI.out.below.cell (p := ⟨bl, ol + k, none⟩) h4), h3, ← h2, List.getElem?_map, List.getElem?_eq_getElem hk]
          simp [hk]
        obtain ⟨bl, ol, rfl, hcl, hbl⟩ := hlights i hlt0
        obtain ⟨A, hA⟩ : ∃ A, A = xs.getD i 0 := ⟨_, rfl⟩
        rw [← hA] at hcl
        have HS := hid hS
        have hc2 : wr.cell? ⟨B6, 2, none⟩ = some (.slice ad j cap) := hS.blk.cell 2
        have hL2 := fun hk => hlights (i + 1) hk
        have Hlights := hid hL2
        have Hkeep := hid hkeep
        have Hys := hid hys
        have HAv := hid hA
        have Hxx := hid hx
        clear hS hys hlights hL2 hcs0 hz hA hkeep hx hy
        go_wp2
        refine Mix.wp_mix [.S, .S, .S, .S, .S, .S, .S, .A, .A, .S, .T] [0, 1, 2, 3, 4, 5, 6, 7, 8, 9, 10] (CellC B6 2 (.slice ad j cap) B6 w3) (by kernel_rfl) (by kernel_rfl) ⟨hc2, HS.out.below.drew⟩ ?_
        have hC : CellC B6 2 (.slice ad j cap) B6 w3 wr.drew := ⟨hc2, HS.out.below.drew⟩
        have HS := hid (HS.out.call (Below.refl _ _).drew)
        clear hc2
        generalize wr.drew = w5 at hC HS ⊢
        repeat (first | (refine Mix.sf_S rfl rfl rfl rfl rfl (Mix.valOp_spec rfl) hC ?_; apply Exists.intro; refine ⟨?_, ?_⟩; · (intro w' hC' K hK; have hk := hC'.cell; have hk2 := (bcell hC'.below).1; go_step; exact hK)) | (refine Mix.sf_skipS rfl rfl rfl rfl ?_; apply Exists.intro; refine ⟨?_, ?_⟩; · (intro K hK; go_step; exact hK)) | (refine Mix.sf_skipA rfl rfl rfl rfl ?_; apply Exists.intro; refine ⟨?_, ?_⟩; · (intro K hK; go_step; exact hK)) | (refine Mix.sf_skipL rfl rfl rfl rfl ?_ hC; apply Exists.intro; refine ⟨?_, ?_⟩; · (intro K hK; go_step; exact hK); clear hC; intro wL hC))
        refine Mix.sf_A rfl rfl rfl ?_; intro K hK; go_step
        have hblt : B6 < w5.heap.size := HS.out.blk.lt
        have hC4 : CellC B6 2 (.slice ad j cap) B6 w3 (w5.alloc (.cells #[fv A] 53)) := ⟨(World.cell?_alloc_past _ _ _ hblt).trans hC.cell, hC.below.alloc (by omega) _⟩
        refine hK _ _ hC4 ?_
        have hcn : (w5.alloc (.cells #[fv A] 53)).cell? ⟨w5.heap.size, 0, none⟩ = some (fv A) := by simp [go_sem]
        have hsz6 : B6 + 1 ≤ (w5.alloc (.cells #[fv A] 53)).heap.size := by simp; omega
        clear hK K hC
        have Hown4 := hid (HS.out.own.alloc (.cells #[fv A] 53))
        refine Mix.sf_Aapp1 rfl rfl rfl rfl rfl (B6 + 1) 53 i0 (.float .f32 0) 4 Try.underlying22 hi hz0 hz1 hz2 rfl (.slice ad j cap) j (ys.map fv) rfl Hown4.out w5.heap.size (fv A) rfl hcn rfl (by unfold maxLen; omega) (by omega) hsz6 (fun w' hg => ⟨(HS.out.cellA hg).1, HS.out.belowA hg⟩) ?_
        intro ad' cap' w7 hC5 hown5 hg5
        apply Exists.intro
        refine ⟨?_, ?_⟩
        · (intro K hK; go_step; exact hK)
        have HS8 := hid (HS.out.app hg5 hown5)
        have hc5 : w7.cell? ⟨B6, 2, none⟩ = some (.slice ad j cap) := (HS.out.cellA hg5).1
        have hf5 : w7.frozen? ⟨B6, 2, none⟩ = false := (HS.out.cellA hg5).2
        have hC := hC5
        clear hown5 hg5 Hown4 hC4 hcn hC5 HS hblt hsz6
        repeat (first | (refine Mix.sf_S rfl rfl rfl rfl rfl (Mix.valOp_spec rfl) hC ?_; apply Exists.intro; refine ⟨?_, ?_⟩; · (intro w' hC' K hK; have hk := hC'.cell; go_step; exact hK)) | (refine Mix.sf_skipS rfl rfl rfl rfl ?_; apply Exists.intro; refine ⟨?_, ?_⟩; · (intro K hK; go_step; exact hK)) | (refine Mix.sf_skipA rfl rfl rfl rfl ?_; apply Exists.intro; refine ⟨?_, ?_⟩; · (intro K hK; go_step; exact hK)) | (refine Mix.sf_skipL rfl rfl rfl rfl ?_ hC; apply Exists.intro; refine ⟨?_, ?_⟩; · (intro K hK; go_step; exact hK); clear hC; intro wL hC))
        refine Mix.sf_T rfl rfl rfl ?_; intro K hK; go_step
        refine hK _ _ ?_
        clear hK K hc5 hf5 hC
        refine Mix.sf_nil ?_
        generalize w7.setCell ⟨B6, 2, none⟩ (.slice ad' (j + 1) cap') = w8 at HS8 ⊢
        have l0 : w8.cell? ⟨b, 0, none⟩ = some (.int .i64 m) := (HS8.out.below.cell hbB').trans t0
        have l2 : w8.cell? ⟨b, 2, none⟩ = some (.slice (some ⟨bl, ol, none⟩) nx capx) := (HS8.out.below.cell hbB').trans t2
        have ls : w8.cell? ⟨ba, oa + y, none⟩ = some (iv z) := (HS8.out.below.cell hba).trans hcs
        have ll : w8.cell? ⟨bl, ol + i, none⟩ = some (fv A) := (HS8.out.below.cell hbl).trans hcl
        have hb8 : b < w8.heap.size := by have := HS8.out.size; omega
        have hba8 : ba < w8.heap.size := by have := HS8.out.size; omega
        cases hk : (decide ((x : Int) = z))
        · have hd : ¬ ((x : Int) = z) := by simpa using hk
          have hd2 : ((x : Int) == z) = false := by simp [hd]
          have Hnext := hid (show nl (ys ++ [A]) = growP m xs s (i + 1) from by
            rw [growP_succ_keep (by rw [Hkeep.out, hk]; rfl)]
            exact nl_snoc Hys.out (by rw [HAv.out]))
          go_wp2
          refine Mix.wp_mix [.S, .S, .S, .S, .S, .S, .S, .S, .S, .S, .S, .S] [0, 1, 2, 3, 4, 5, 6, 7, 8, 9, 10, 11] (Below w8.heap.size w8) (by kernel_rfl) (by kernel_rfl) ((Below.refl _ _).drew) ?_
          have hC : Below w8.heap.size w8 w8.drew := (Below.refl _ _).drew
          generalize w8.drew = w9 at hC ⊢
          repeat (first | (refine Mix.sf_S rfl rfl rfl rfl rfl (Mix.valOp_spec rfl) hC ?_; apply Exists.intro; refine ⟨?_, ?_⟩; · (intro w' hC' K hK; have hk := (bcell hC').1; go_step; exact hK)) | (refine Mix.sf_skipS rfl rfl rfl rfl ?_; apply Exists.intro; refine ⟨?_, ?_⟩; · (intro K hK; go_step; exact hK)) | (refine Mix.sf_skipA rfl rfl rfl rfl ?_; apply Exists.intro; refine ⟨?_, ?_⟩; · (intro K hK; go_step; exact hK)) | (refine Mix.sf_skipL rfl rfl rfl rfl ?_ hC; apply Exists.intro; refine ⟨?_, ?_⟩; · (intro K hK; go_step; exact hK); clear hC; intro wL hC))
          refine Mix.sf_nil ?_
          have HS9 := hid (HS8.out.call hC)
          clear hC l0 l2 ls ll
          go_wp2
          go_roundw
          case rel => exact ⟨i + 1, j + 1, ad', cap', ys ++ [A], by omega, by omega, by go_num, HS9.out, Hnext.out⟩
          case measure => simp [intOf]; omega
        · have hd : (x : Int) = z := by simpa using hk
          have Hnext := hid (show ∀ r, Fl.nf .f32 r = growE m xs i → nl (ys ++ [A] ++ [r]) = growP m xs s (i + 1) from fun r hr => by
            rw [growP_succ_two (by rw [Hkeep.out, hk]; rfl)]
            exact nl_snoc (nl_snoc Hys.out (by rw [HAv.out])) hr)
          clear hk
          subst hd
          go_wp2
          refine Mix.wp_mix [.S, .S, .S, .S, .S, .S, .S, .S, .S, .S, .S, .S] [0, 1, 2, 3, 4, 5, 6, 7, 8, 9, 10, 11] (Below w8.heap.size w8) (by kernel_rfl) (by kernel_rfl) ((Below.refl _ _).drew) ?_
          have hC : Below w8.heap.size w8 w8.drew := (Below.refl _ _).drew
          generalize w8.drew = w9 at hC ⊢
          repeat (first | (refine Mix.sf_S rfl rfl rfl rfl rfl (Mix.valOp_spec rfl) hC ?_; apply Exists.intro; refine ⟨?_, ?_⟩; · (intro w' hC' K hK; have hk := (bcell hC').1; go_step; exact hK)) | (refine Mix.sf_skipS rfl rfl rfl rfl ?_; apply Exists.intro; refine ⟨?_, ?_⟩; · (intro K hK; go_step; exact hK)) | (refine Mix.sf_skipA rfl rfl rfl rfl ?_; apply Exists.intro; refine ⟨?_, ?_⟩; · (intro K hK; go_step; exact hK)) | (refine Mix.sf_skipL rfl rfl rfl rfl ?_ hC; apply Exists.intro; refine ⟨?_, ?_⟩; · (intro K hK; go_step; exact hK); clear hC; intro wL hC))
          refine Mix.sf_nil ?_
          have HS9 := hid (HS8.out.call hC)
          have l0' := (hC.cell hb8).trans l0
          have l2' := (hC.cell hb8).trans l2
          have hbl8 : bl < w8.heap.size := by have := HS8.out.size; omega
          have ll' := (hC.cell hbl8).trans ll
          have hb9 : b < w9.heap.size := Nat.lt_of_lt_of_le hb8 hC.size
          clear hC l0 l2 ls ll
          go_wp2
          refine Mix.wp_mix [.S, .S, .S, .S, .S, .S, .S, .S] [0, 1, 2, 3, 4, 5, 6, 7] (Below w9.heap.size w9) (by kernel_rfl) (by kernel_rfl) ((Below.refl _ _).drew) ?_
          have hC : Below w9.heap.size w9 w9.drew := (Below.refl _ _).drew
          generalize w9.drew = w10 at hC ⊢
          repeat (first | (refine Mix.sf_S rfl rfl rfl rfl rfl (Mix.valOp_spec rfl) hC ?_; apply Exists.intro; refine ⟨?_, ?_⟩; · (intro w' hC' K hK; have hk := (bcell hC').1; go_step; exact hK)) | (refine Mix.sf_skipS rfl rfl rfl rfl ?_; apply Exists.intro; refine ⟨?_, ?_⟩; · (intro K hK; go_step; exact hK)) | (refine Mix.sf_skipA rfl rfl rfl rfl ?_; apply Exists.intro; refine ⟨?_, ?_⟩; · (intro K hK; go_step; exact hK)) | (refine Mix.sf_skipL rfl rfl rfl rfl ?_ hC; apply Exists.intro; refine ⟨?_, ?_⟩; · (intro K hK; go_step; exact hK); clear hC; intro wL hC))
          refine Mix.sf_nil ?_
          have HSb := hid (HS9.out.call hC)
          have l2'' := (hC.cell hb9).trans l2'
          have hj : j + 1 ≤ 513 := by omega
          have hs10 : B6 + 1 ≤ w10.heap.size := HSb.out.size
          have hq2 : w10.cell? ⟨B6, 2, none⟩ = some (.slice ad' (j + 1) cap') := HSb.out.blk.cell 2
          have hqf : w10.frozen? ⟨B6, 2, none⟩ = false := HSb.out.blk.frozen 2
          clear hC l0' l2' ll'
          by_cases hlast : (x : Int) + 1 < m
          · have hi1' : i + 1 < nx := HnextI.out i hlt (by rw [← Hxx.out]; omega)
            have hi1 : i + 1 < xs.length := by rw [Hnx.out]; exact hi1'
            obtain ⟨bl', ol', hbo, hcl1, hbl1⟩ := Hlights.out hi1
            simp only [Option.some.injEq, Addr.mk.injEq, and_true] at hbo
            obtain ⟨rfl, rfl⟩ := hbo
            obtain ⟨A1, hA1⟩ : ∃ A1, A1 = xs.getD (i + 1) 0 := ⟨_, rfl⟩
            rw [← hA1] at hcl1
            have ll1 : w10.cell? ⟨bl, ol + (i + 1), none⟩ = some (fv A1) := (HSb.out.below.cell hbl).trans hcl1
            have hcond : i % m + 1 < m := by rw [← Hxx.out]; omega
            have HE2 := hid (show ∀ r0 r, Fl.nf .f32 r0 = Fl.fop .add .f32 A A1 → Fl.nf .f32 r = Fl.fop .mul .f32 1056964608 r0 → Fl.nf .f32 r = growE m xs i from fun r0 r e1 e2 => by
              rw [e2, ← fop_nf_r .mul 1056964608 r0, e1, growE, if_pos hcond, HAv.out, hA1])
            have l2b : w10.cell? ⟨b, 2, none⟩ = some (.slice (some ⟨bl, ol, none⟩) nx capx) := l2''
            have hlast2 : decide ((x : Int) + 1 < (m : Int)) = true := by simpa using hlast
            rw [hlast2]
            clear hcl1 hcond hlast2 hlast l2'' hA1
            have HE3 := hid (HE2.out (Fl.fres w10 .add .f32 A A1) _ (Fl.nf_fres _ _ _ _ _) (Fl.nf_fres (w10.drewN (Fl.fdr .add .f32 A A1)) .mul .f32 1056964608 (Fl.fres w10 .add .f32 A A1)))
            go_wp2_with (at_builtin; go_loud (refine wpList_app1 rfl _ _ 22 rfl (B6 + 1) 53 i0 (.float .f32 0) 4 Try.underlying22 hi hz0 hz1 hz2 rfl (.slice ad' (j + 1) cap') (j + 1) ((ys ++ [A]).map fv) rfl ((own_drewN _ HSb.out.own).alloc _) w10.heap.size (fv (Fl.fres (w10.drewN (Fl.fdr .add .f32 A A1)) .mul .f32 1056964608 (Fl.fres w10 .add .f32 A A1))) rfl (cell_newN w10 _ _ _) rfl (by unfold maxLen; omega) (by omega) (size_newN w10 _ _ (by omega)) ?_))
            intro ad2 cap2 w' ho hg
            replace hg := grownBy_of_drewN hg
            obtain ⟨q0, q1⟩ := HSb.out.cellA hg
            have HS12 := hid (HSb.out.app hg (by simpa [List.append_assoc] using ho))
            clear ho hg
            go_wp2
            go_roundw
            case rel => exact ⟨i + 1, j + 1 + 1, ad2, cap2, ys ++ [A] ++ [_], by omega, by omega, by go_num, HS12.out, Hnext.out _ HE3.out⟩
            case measure => simp [intOf]; omega
          · have HE := hid (show Fl.nf .f32 A = growE m xs i from by
              rw [growE, ← Hxx.out, if_neg (by omega), HAv.out])
            have hlast2 : decide ((x : Int) + 1 < (m : Int)) = false := by simp; omega
            rw [hlast2]
            clear hlast2
            clear hlast
            go_wp2_with (at_builtin; go_loud (refine wpList_app1 rfl _ _ 22 rfl (B6 + 1) 53 i0 (.float .f32 0) 4 Try.underlying22 hi hz0 hz1 hz2 rfl (.slice ad' (j + 1) cap') (j + 1) ((ys ++ [A]).map fv) rfl (HSb.out.own.alloc _) w10.heap.size (fv A) rfl (cell_new w10 _ _) rfl (by unfold maxLen; omega) (by omega) (size_new w10 _ (by omega)) ?_))
            intro ad2 cap2 w' ho hg
            obtain ⟨q0, q1⟩ := HSb.out.cellA hg
            have HS12 := hid (HSb.out.app hg (by simpa [List.append_assoc] using ho))
            clear ho hg
            go_wp2
            go_roundw
            case rel => exact ⟨i + 1, j + 1 + 1, ad2, cap2, ys ++ [A] ++ [_], by omega, by omega, by go_num, HS12.out, Hnext.out _ HE.out⟩
            case measure => simp [intOf]; omega
      · have hin : i = nx := by omega
        subst hin
        have hj : ys.length = j := by have := hS.own.1; simpa using this
        subst hj
        have hgive := l02Give_any ((m : Int) + 1) ns (.slice ad ys.length cap) ys wr (Sl.of_own hS.own) (by omega)
        have hvb := validB_nl ((m : Int) + 1) ns (show nl ys = nl (nl ys) by simp [nl, Fl.nf_nf])
        rw [hys] at hvb
        have c0 := hS.blk.cell 0
        have c1 := hS.blk.cell 1
        have c2 := hS.blk.cell 2
        have hbl : Below w.heap.size w wr := HI.out.below.trans (hS.below.mono (by omega))
        have hres3 := (HI.out.blk 1 rfl).below hS.below hbB
        have HS := hid hS
        have Hvb := hid hvb
        have Hys := hid hys
        have Hbl := hid hbl
        have Hres := hid hres3
        clear hS hvb hys hbl hres3
        go_wp2_with fail
        refine hgive.mono ?_
        rintro e w4 ⟨hcase, hb4⟩
        have hres := Hres.out.below hb4 Hres.out.lt
        have r0 := hres.cell 0
        have r1 := hres.cell 1
        have r2 := hres.cell 2
        have f0 := hres.frozen 0
        have f1 := hres.frozen 1
        have f2 := hres.frozen 2
        have Hown4 := hid (own_below HS.out.own hb4)
        have Hbl4 := hid (Hbl.out.trans (hb4.mono Hbl.out.size))
        clear hres hb4 hgive c0 c1 c2
        rcases hcase with ⟨hv, rfl⟩ | ⟨hv, rfl⟩
        · have hR1 : R = some (⟨(m : Int) + 1, ns, growP m xs s i⟩ : Pic) := by rw [HR.out, ← Hvb.out, hv]; rfl
          have HR1 := hid hR1
          clear hv HR Hvb hR1
          go_wp2
          refine bodyPost_ret (v := .tuple #[.agg #[.int .i64 (m + 1), .int .i64 ns, .slice ad ys.length cap], .bool true]) (by simp [results, Try.results50, go_sem, r0, r1, r2, f0, f1, f2]) rfl (show PicRes w R _ _ from ?_)
          rw [HR1.out]
          refine ⟨_, ys, rfl, ?_, Hys.out, ?_⟩
          · have hz := Hbe.out
            exact own_base (by omega) (ownsRow_setCell_below (ownsRow_setCell_below (ownsRow_setCell_below Hown4.out (by simp; omega) _) (by simp; omega) _) (by simp; omega) _)
          · have hz := Hbe.out
            exact (((Hbl4.out).setCell (by simp; omega) _).setCell (by simp; omega) _).setCell (by simp; omega) _
        · have hR1 : R = none := by rw [HR.out, ← Hvb.out, hv]; rfl
          have HR1 := hid hR1
          clear hv HR Hvb hR1
          go_wp2
          refine bodyPost_ret (v := .tuple #[.agg #[.int .i64 0, .int .i64 0, .slice none 0 0], .bool false]) (by simp [results, Try.results50, go_sem, r0, r1, r2, f0, f1, f2]) rfl (show PicRes w R _ _ from ?_)
          rw [HR1.out]
          refine ⟨rfl, ?_⟩
          have hz := Hbe.out
          exact (((Hbl4.out).setCell (by simp; omega) _).setCell (by simp; omega) _).setCell (by simp; omega) _

end Go.Proofs.Ytjennldpjfeppaa
