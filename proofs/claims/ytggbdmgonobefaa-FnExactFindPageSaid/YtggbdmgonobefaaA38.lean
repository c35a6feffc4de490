/-
  What lists are lists of pages, by the reference.
  Conditions: the list reads as pages; lengths fit.
-/
import Derived.Test.YtggbdmgonobefaaA37
namespace Go.Proofs.Ytggbdmgonobefaa
open Go.RowKit
set_option linter.unusedVariables false
set_option linter.unusedSimpArgs false

set_option maxHeartbeats 4000000 in
set_option maxRecDepth 100000 in
theorem l07List_any (ps : List PgD) (v : Value) (w : World) (ha : PgL w v ps) (hl : ps.length ≤ 140737488351232) (f1 : ∀ p ∈ ps, p.fits) :
    Calls Try.prog 70 #[v] w fun e w' => e = .returned (.bool (arePgs ps)) ∧ Below w.heap.size w w' := by
  obtain ⟨ad, cp, hv⟩ := ha.form
  obtain ⟨n, hn⟩ : ∃ n, n = ps.length := ⟨_, rfl⟩
  rw [← hn] at hv hl
  subst hv
  have Hn := hid hn
  have Ha := hid ha
  have F1 := hid f1
  clear hn ha f1
  by_cases h8 : (n : Int) ≤ 8
  rotate_left
  · have HR := hid (show arePgs ps = false by rw [arePgs, decide_eq_false (show ¬ ps.length ≤ 8 by rw [← Hn.out]; omega), Bool.and_false])
    go_enter Try.func70, Try.ntmps70
    go_wp2
    go_loopw [3] (fun i wr => i = .int .i64 0 ∧ wr = w) (fun _ _ => 0)
    case atStart => exact ⟨rfl, rfl⟩
    case round =>
      obtain ⟨rfl, rfl⟩ := hrel
      go_wp2
      go_ret
      exact ⟨ret_bool (by rw [HR.out]; exact decide_eq_false (by omega)), Below.refl _ _⟩
  go_enter Try.func70, Try.ntmps70
  go_wp2
  go_loopw [3] (fun i wr => ∃ k : Nat, k ≤ n ∧ i = .int .i64 k ∧ (∀ j, j < k → okAt ps j = true) ∧ Below w.heap.size w wr) (fun i _ => n - (intOf i).toNat)
  case atStart => exact ⟨0, Nat.zero_le _, rfl, fun j h => absurd h (Nat.not_lt_zero _), Below.refl _ _⟩
  case round =>
    obtain ⟨k, hk, rfl, hidx, hbw⟩ := hrel
    have Hidx := hid hidx
    clear hidx
    by_cases hlt : k < n
    · obtain ⟨b, off, lv, rfl, hat⟩ := (Ha.out.mono hbw).page Hn.out k hlt
      obtain ⟨hm, hx⟩ := fits_getD F1.out (show k < ps.length by rw [← Hn.out]; exact hlt)
      have hno : okAt ps k = false → arePgs ps = false := arePgs_no (by rw [← Hn.out]; exact hlt)
      have hyes : okAt ps k = true → ∀ j, j < k + 1 → okAt ps j = true := okAt_step Hidx.out
      have hok : okAt ps k = (pageB (ps.getD k noPage).m (ps.getD k noPage).W (ps.getD k noPage).H (ps.getD k noPage).xs && (k == 0 || Op.bytesLess (ps.getD (k - 1) noPage).m.toList (ps.getD k noPage).m.toList)) := rfl
      obtain ⟨p, hp⟩ : ∃ p, p = ps.getD k noPage := ⟨_, rfl⟩
      rw [← hp] at hat hm hx hok
      have hprev : 0 < k → ∃ lv', PgAt wr b (off + (k - 1) * 4) (ps.getD (k - 1) noPage) lv' := fun h0 => by
        obtain ⟨b', off', lv', he, h⟩ := (Ha.out.mono hbw).page Hn.out (k - 1) (by omega)
        simp only [Option.some.injEq, Addr.mk.injEq, and_true] at he
        obtain ⟨rfl, rfl⟩ := he
        exact ⟨lv', h⟩
      have hcall := fun w2 (h : Below wr.heap.size wr w2) => l07Page_any b (off + k * 4) p.m p.W p.H lv p.xs w2 (hat.mono h).c0 (hat.mono h).pic hm hx
      have c0 := hat.c0
      have hbl := hat.lt
      have Hyes := hid hyes
      have Hno := hid hno
      rcases (show pageB p.m p.W p.H p.xs = false ∨ (pageB p.m p.W p.H p.xs = true ∧ k = 0) ∨ (pageB p.m p.W p.H p.xs = true ∧ ∃ j, k = j + 1) by
        cases pageB p.m p.W p.H p.xs
        · exact .inl rfl
        · cases k with
          | zero => exact .inr (.inl ⟨rfl, rfl⟩)
          | succ j => exact .inr (.inr ⟨rfl, j, rfl⟩)) with hpb | ⟨hpb, rfl⟩ | ⟨hpb, j, rfl⟩
      · have HR := hid (Hno.out (by rw [hok, hpb, Bool.false_and]))
        rw [hpb] at hcall
        clear hyes hno hok hat hm hx hprev hp
        go_wp2
        refine Mix.wp_mix [.S, .S, .S, .A, .S, .S, .S, .S, .S, .S, .S, .S, .S, .S, .S, .S, .S, .S, .S, .S, .S, .S, .S] [0, 1, 2, 3, 4, 5, 6, 7, 8, 9, 10, 11, 12, 13, 14, 15, 16, 17, 18, 19, 20, 21, 22] (Below wr.heap.size wr) (by kernel_rfl) (by kernel_rfl) ((Below.refl _ _).drew) ?_
        have hC : Below wr.heap.size wr wr.drew := (Below.refl _ _).drew
        generalize wr.drew = w2 at hC ⊢
        repeat (first | (refine Mix.sf_S rfl rfl rfl rfl rfl (Mix.valOp_spec rfl) hC ?_; apply Exists.intro; refine ⟨?_, ?_⟩; · (intro w' hC' K hK; have hk := (bcell hC').1; go_step; exact hK)) | (refine Mix.sf_skipS rfl rfl rfl rfl ?_; apply Exists.intro; refine ⟨?_, ?_⟩; · (intro K hK; go_step; exact hK)) | (refine Mix.sf_skipA rfl rfl rfl rfl ?_; apply Exists.intro; refine ⟨?_, ?_⟩; · (intro K hK; go_step; exact hK)) | (refine Mix.sf_skipL rfl rfl rfl rfl ?_ hC; apply Exists.intro; refine ⟨?_, ?_⟩; · (intro K hK; go_step; exact hK); clear hC; intro wL hC))
        refine Mix.sf_A rfl rfl rfl ?_; intro K hK; go_step
        refine (hcall _ hC).mono ?_
        rintro e w3 ⟨rfl, hb3⟩
        refine hK _ _ (hC.trans (hb3.mono hC.size)) ?_
        replace hC := hC.trans (hb3.mono hC.size)
        clear hK K hb3
        repeat (first | (refine Mix.sf_S rfl rfl rfl rfl rfl (Mix.valOp_spec rfl) hC ?_; apply Exists.intro; refine ⟨?_, ?_⟩; · (intro w' hC' K hK; have hk := (bcell hC').1; go_step; exact hK)) | (refine Mix.sf_skipS rfl rfl rfl rfl ?_; apply Exists.intro; refine ⟨?_, ?_⟩; · (intro K hK; go_step; exact hK)) | (refine Mix.sf_skipA rfl rfl rfl rfl ?_; apply Exists.intro; refine ⟨?_, ?_⟩; · (intro K hK; go_step; exact hK)) | (refine Mix.sf_skipL rfl rfl rfl rfl ?_ hC; apply Exists.intro; refine ⟨?_, ?_⟩; · (intro K hK; go_step; exact hK); clear hC; intro wL hC))
        refine Mix.sf_nil ?_
        clear c0 hcall
        go_wp2
        go_ret
        exact ⟨ret_bool HR.out.symm, hbw.trans (hC.mono hbw.size)⟩
      · have HR := hid (Hyes.out (by rw [hok, hpb]; rfl))
        rw [Nat.zero_mul, Nat.add_zero] at c0 hcall
        rw [hpb] at hcall
        clear hyes hno hok hat hm hx hprev hp
        go_wp2
        refine Mix.wp_mix [.S, .S, .S, .A, .S, .S, .S, .S, .S, .S, .S, .S, .S, .S, .S, .S, .S, .S, .S, .S, .S, .S, .S] [0, 1, 2, 3, 4, 5, 6, 7, 8, 9, 10, 11, 12, 13, 14, 15, 16, 17, 18, 19, 20, 21, 22] (Below wr.heap.size wr) (by kernel_rfl) (by kernel_rfl) ((Below.refl _ _).drew) ?_
        have hC : Below wr.heap.size wr wr.drew := (Below.refl _ _).drew
        generalize wr.drew = w2 at hC ⊢
        repeat (first | (refine Mix.sf_S rfl rfl rfl rfl rfl (Mix.valOp_spec rfl) hC ?_; apply Exists.intro; refine ⟨?_, ?_⟩; · (intro w' hC' K hK; have hk := (bcell hC').1; go_step; exact hK)) | (refine Mix.sf_skipS rfl rfl rfl rfl ?_; apply Exists.intro; refine ⟨?_, ?_⟩; · (intro K hK; go_step; exact hK)) | (refine Mix.sf_skipA rfl rfl rfl rfl ?_; apply Exists.intro; refine ⟨?_, ?_⟩; · (intro K hK; go_step; exact hK)) | (refine Mix.sf_skipL rfl rfl rfl rfl ?_ hC; apply Exists.intro; refine ⟨?_, ?_⟩; · (intro K hK; go_step; exact hK); clear hC; intro wL hC))
        refine Mix.sf_A rfl rfl rfl ?_; intro K hK; go_step
        refine (hcall _ hC).mono ?_
        rintro e w3 ⟨rfl, hb3⟩
        refine hK _ _ (hC.trans (hb3.mono hC.size)) ?_
        replace hC := hC.trans (hb3.mono hC.size)
        clear hK K hb3
        repeat (first | (refine Mix.sf_S rfl rfl rfl rfl rfl (Mix.valOp_spec rfl) hC ?_; apply Exists.intro; refine ⟨?_, ?_⟩; · (intro w' hC' K hK; have hk := (bcell hC').1; go_step; exact hK)) | (refine Mix.sf_skipS rfl rfl rfl rfl ?_; apply Exists.intro; refine ⟨?_, ?_⟩; · (intro K hK; go_step; exact hK)) | (refine Mix.sf_skipA rfl rfl rfl rfl ?_; apply Exists.intro; refine ⟨?_, ?_⟩; · (intro K hK; go_step; exact hK)) | (refine Mix.sf_skipL rfl rfl rfl rfl ?_ hC; apply Exists.intro; refine ⟨?_, ?_⟩; · (intro K hK; go_step; exact hK); clear hC; intro wL hC))
        refine Mix.sf_nil ?_
        clear c0 hcall
        go_wp2
        go_roundw
        case rel => exact ⟨0 + 1, by omega, by go_num, HR.out, hbw.trans (hC.mono hbw.size)⟩
        case measure => simp [intOf]; omega
      · obtain ⟨lv', hat'⟩ := hprev (by omega)
        rw [Nat.add_sub_cancel] at hat'
        rw [hpb, Nat.add_sub_cancel] at hok
        obtain ⟨q, hq⟩ : ∃ q, q = ps.getD j noPage := ⟨_, rfl⟩
        rw [← hq] at hat' hok
        have d0 := hat'.c0
        rw [hpb] at hcall
        have Hok := hid hok
        clear hyes hno hok hat hat' hm hx hprev hp hq
        cases h1 : Op.bytesLess q.m.toList p.m.toList
        · have HR := hid (Hno.out (by rw [Hok.out, h1]; simp))
          go_wp2
          refine Mix.wp_mix [.S, .S, .S, .A, .S, .S, .S, .S, .S, .S, .S, .S, .S, .S, .S, .S, .S, .S, .S, .S, .S, .S, .S] [0, 1, 2, 3, 4, 5, 6, 7, 8, 9, 10, 11, 12, 13, 14, 15, 16, 17, 18, 19, 20, 21, 22] (Below wr.heap.size wr) (by kernel_rfl) (by kernel_rfl) ((Below.refl _ _).drew) ?_
          have hC : Below wr.heap.size wr wr.drew := (Below.refl _ _).drew
          generalize wr.drew = w2 at hC ⊢
          repeat (first | (refine Mix.sf_S rfl rfl rfl rfl rfl (Mix.valOp_spec rfl) hC ?_; apply Exists.intro; refine ⟨?_, ?_⟩; · (intro w' hC' K hK; have hk := (bcell hC').1; go_step; exact hK)) | (refine Mix.sf_skipS rfl rfl rfl rfl ?_; apply Exists.intro; refine ⟨?_, ?_⟩; · (intro K hK; go_step; exact hK)) | (refine Mix.sf_skipA rfl rfl rfl rfl ?_; apply Exists.intro; refine ⟨?_, ?_⟩; · (intro K hK; go_step; exact hK)) | (refine Mix.sf_skipL rfl rfl rfl rfl ?_ hC; apply Exists.intro; refine ⟨?_, ?_⟩; · (intro K hK; go_step; exact hK); clear hC; intro wL hC))
          refine Mix.sf_A rfl rfl rfl ?_; intro K hK; go_step
          refine (hcall _ hC).mono ?_
          rintro e w3 ⟨rfl, hb3⟩
          refine hK _ _ (hC.trans (hb3.mono hC.size)) ?_
          replace hC := hC.trans (hb3.mono hC.size)
          clear hK K hb3
          repeat (first | (refine Mix.sf_S rfl rfl rfl rfl rfl (Mix.valOp_spec rfl) hC ?_; apply Exists.intro; refine ⟨?_, ?_⟩; · (intro w' hC' K hK; have hk := (bcell hC').1; go_step; exact hK)) | (refine Mix.sf_skipS rfl rfl rfl rfl ?_; apply Exists.intro; refine ⟨?_, ?_⟩; · (intro K hK; go_step; exact hK)) | (refine Mix.sf_skipA rfl rfl rfl rfl ?_; apply Exists.intro; refine ⟨?_, ?_⟩; · (intro K hK; go_step; exact hK)) | (refine Mix.sf_skipL rfl rfl rfl rfl ?_ hC; apply Exists.intro; refine ⟨?_, ?_⟩; · (intro K hK; go_step; exact hK); clear hC; intro wL hC))
          refine Mix.sf_nil ?_
          clear c0 hcall d0
          go_wp2
          go_ret
          exact ⟨ret_bool HR.out.symm, hbw.trans (hC.mono hbw.size)⟩
        · have HR := hid (Hyes.out (by rw [Hok.out, h1]; simp))
          go_wp2
          refine Mix.wp_mix [.S, .S, .S, .A, .S, .S, .S, .S, .S, .S, .S, .S, .S, .S, .S, .S, .S, .S, .S, .S, .S, .S, .S] [0, 1, 2, 3, 4, 5, 6, 7, 8, 9, 10, 11, 12, 13, 14, 15, 16, 17, 18, 19, 20, 21, 22] (Below wr.heap.size wr) (by kernel_rfl) (by kernel_rfl) ((Below.refl _ _).drew) ?_
          have hC : Below wr.heap.size wr wr.drew := (Below.refl _ _).drew
          generalize wr.drew = w2 at hC ⊢
          repeat (first | (refine Mix.sf_S rfl rfl rfl rfl rfl (Mix.valOp_spec rfl) hC ?_; apply Exists.intro; refine ⟨?_, ?_⟩; · (intro w' hC' K hK; have hk := (bcell hC').1; go_step; exact hK)) | (refine Mix.sf_skipS rfl rfl rfl rfl ?_; apply Exists.intro; refine ⟨?_, ?_⟩; · (intro K hK; go_step; exact hK)) | (refine Mix.sf_skipA rfl rfl rfl rfl ?_; apply Exists.intro; refine ⟨?_, ?_⟩; · (intro K hK; go_step; exact hK)) | (refine Mix.sf_skipL rfl rfl rfl rfl ?_ hC; apply Exists.intro; refine ⟨?_, ?_⟩; · (intro K hK; go_step; exact hK); clear hC; intro wL hC))
          refine Mix.sf_A rfl rfl rfl ?_; intro K hK; go_step
          refine (hcall _ hC).mono ?_
          rintro e w3 ⟨rfl, hb3⟩
          refine hK _ _ (hC.trans (hb3.mono hC.size)) ?_
          replace hC := hC.trans (hb3.mono hC.size)
          clear hK K hb3
          repeat (first | (refine Mix.sf_S rfl rfl rfl rfl rfl (Mix.valOp_spec rfl) hC ?_; apply Exists.intro; refine ⟨?_, ?_⟩; · (intro w' hC' K hK; have hk := (bcell hC').1; go_step; exact hK)) | (refine Mix.sf_skipS rfl rfl rfl rfl ?_; apply Exists.intro; refine ⟨?_, ?_⟩; · (intro K hK; go_step; exact hK)) | (refine Mix.sf_skipA rfl rfl rfl rfl ?_; apply Exists.intro; refine ⟨?_, ?_⟩; · (intro K hK; go_step; exact hK)) | (refine Mix.sf_skipL rfl rfl rfl rfl ?_ hC; apply Exists.intro; refine ⟨?_, ?_⟩; · (intro K hK; go_step; exact hK); clear hC; intro wL hC))
          refine Mix.sf_nil ?_
          clear c0 hcall d0
          go_wp2
          go_roundw
          case rel => exact ⟨j + 1 + 1, by omega, by go_num, HR.out, hbw.trans (hC.mono hbw.size)⟩
          case measure => simp [intOf]; omega
    · have hke : k = n := by omega
      have HR := hid (arePgs_end fun j hj => Hidx.out j (by rw [hke, Hn.out]; exact hj))
      rw [← Hn.out] at HR
      clear hke
      go_wp2
      go_ret
      exact ⟨ret_bool (by rw [HR.out]; symm; simp; omega), hbw⟩

end Go.Proofs.Ytggbdmgonobefaa
