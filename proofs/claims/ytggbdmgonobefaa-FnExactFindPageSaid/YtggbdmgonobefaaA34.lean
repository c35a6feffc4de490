/-
  When two pictures are the same: the program's test and the reference's.
  Conditions: the lights are rows of cells that read, each word of 32 bits.
-/
import Derived.Test.YtggbdmgonobefaaA33
import Derived.Test.YtggbdmgonobefaaInvX
namespace Go.Proofs.Ytggbdmgonobefaa
open Go.RowKit
set_option linter.unusedVariables false
set_option linter.unusedSimpArgs false

def sameL (xs ys : List Nat) : Bool := decide (nl xs = nl ys)
theorem nl_take_snoc {xs ys : List Nat} {k : Nat} (h1 : k < xs.length) (h2 : k < ys.length) (h : nl (xs.take k) = nl (ys.take k)) (he : sameN xs[k] ys[k] = true) : nl (xs.take (k + 1)) = nl (ys.take (k + 1)) := by
  rw [List.take_succ_eq_append_getElem h1, List.take_succ_eq_append_getElem h2]
  simp only [nl, List.map_append, List.map_cons, List.map_nil] at h ⊢
  rw [h, of_decide_eq_true he]
theorem sameL_no {xs ys : List Nat} {k : Nat} (h1 : k < xs.length) (h2 : k < ys.length) (he : sameN xs[k] ys[k] = false) : sameL xs ys = false := by
  refine decide_eq_false fun h => of_decide_eq_false he ?_
  have := congrArg (fun l : List Nat => l[k]?) h
  simpa [nl, h1, h2] using this
theorem sameL_len {xs ys : List Nat} (h : xs.length ≠ ys.length) : sameL xs ys = false := by
  refine decide_eq_false fun h' => h ?_
  have := congrArg List.length h'
  simpa [nl] using this
theorem sameL_end {xs ys : List Nat} {k : Nat} (h1 : k = xs.length) (h2 : k = ys.length) (h : nl (xs.take k) = nl (ys.take k)) : sameL xs ys = true := by
  rw [List.take_of_length_le (by omega), List.take_of_length_le (by omega)] at h
  exact decide_eq_true h

set_option maxHeartbeats 2000000 in
set_option maxRecDepth 100000 in
theorem EqualFuncF_any (xs ys : List Nat) (va vb : Value) (w : World) (ha : Sl w va (xs.map fv)) (hb : Sl w vb (ys.map fv)) (hl : xs.length ≤ 140737488351232) (hl2 : ys.length ≤ 140737488351232) (f1 : ∀ x ∈ xs, x < 4294967296) (f2 : ∀ x ∈ ys, x < 4294967296) :
    Calls Try.prog 131 #[va, vb, .func (.func 132) #[] #[]] w fun e w' => e = .returned (.bool (sameL xs ys)) ∧ Below w.heap.size w w' := by
  have hent : ∀ (args : Array Value) (w : World), (callFunc 132 args).run Try.prog w = .ok (.enter 132 args) w := fun args w => by kernel_rfl
  obtain ⟨ad, cp, hv⟩ := ha.form
  obtain ⟨bd, dp, hv2⟩ := hb.form
  rw [List.length_map] at hv hv2
  obtain ⟨n, hn⟩ : ∃ n, n = xs.length := ⟨_, rfl⟩
  obtain ⟨m, hm⟩ : ∃ n, n = ys.length := ⟨_, rfl⟩
  rw [← hn] at hv hl
  rw [← hm] at hv2 hl2
  subst hv hv2
  have Hn := hid hn
  have Hm := hid hm
  have Ha := hid ha
  have Hb := hid hb
  have F1 := hid f1
  have F2 := hid f2
  clear hn hm ha hb f1 f2
  by_cases hnm : n = m
  · subst hnm
    go_enter Try.func131, Try.ntmps131
    go_wp2
    go_loopw [7, 8, 17] (fun _ _ i wr => ∃ k : Nat, k ≤ n ∧ i = .int .i64 k ∧ nl (xs.take k) = nl (ys.take k) ∧ Below w.heap.size w wr) (fun _ _ i _ => n - (intOf i).toNat)
    case atStart => exact ⟨0, Nat.zero_le _, rfl, rfl, Below.refl _ _⟩
    case round =>
      obtain ⟨k, hk, rfl, hidx, hbw⟩ := hrel
      have Hidx := hid hidx
      clear hidx
      by_cases hlt : k < n
      · have hkx : k < xs.length := by rw [← Hn.out]; exact hlt
        have hky : k < ys.length := by rw [← Hm.out]; exact hlt
        obtain ⟨b, off, rfl, hc1, hb1⟩ := (Ha.out.mono hbw).light k hlt hkx
        obtain ⟨b', off', rfl, hc2, hb2⟩ := (Hb.out.mono hbw).light k hlt hky
        have hcall := SameNumber_any xs[k] ys[k] wr (F1.out _ (List.getElem_mem hkx)) (F2.out _ (List.getElem_mem hky))
        have hyes := nl_take_snoc hkx hky Hidx.out
        have hno := sameL_no hkx hky
        obtain ⟨x, hxe⟩ : ∃ x, x = xs[k] := ⟨_, rfl⟩
        obtain ⟨y, hye⟩ : ∃ y, y = ys[k] := ⟨_, rfl⟩
        rw [← hxe] at hc1 hcall hyes hno
        rw [← hye] at hc2 hcall hyes hno
        have Hyes := hid hyes
        have Hno := hid hno
        clear hyes hno hxe hye
        cases hs : sameN x y
        · rw [hs] at hcall
          have HR := hid (Hno.out hs)
          clear hs
          go_wp2_with fail
          refine hcall.mono ?_
          rintro e w2 ⟨rfl, j, rfl⟩
          go_wp2
          go_ret
          exact ⟨ret_bool HR.out.symm, Below.drewN' _ hbw⟩
        · rw [hs] at hcall
          have HR := hid (Hyes.out hs)
          clear hs
          go_wp2_with fail
          refine hcall.mono ?_
          rintro e w2 ⟨rfl, j, rfl⟩
          go_wp2
          go_roundw
          case rel => exact ⟨k + 1, by omega, by go_num, HR.out, Below.drewN' _ hbw⟩
          case measure => simp [intOf]; omega
      · have hke : k = n := by omega
        have HR := hid (sameL_end (hke.trans Hn.out) (hke.trans Hm.out) Hidx.out)
        clear hke
        go_wp2
        go_ret
        exact ⟨ret_bool HR.out.symm, hbw⟩
  · have HR := hid (sameL_len (show xs.length ≠ ys.length by rw [← Hn.out, ← Hm.out]; exact hnm))
    have hnm2 : ¬ (n : Int) = m := by omega
    go_enter Try.func131, Try.ntmps131
    go_wp2
    go_ret
    exact ⟨ret_bool HR.out.symm, Below.refl _ _⟩

set_option maxHeartbeats 2000000 in
set_option maxRecDepth 100000 in
theorem l01SameAll_any (xs ys : List Nat) (va vb : Value) (w : World) (ha : Sl w va (xs.map fv)) (hb : Sl w vb (ys.map fv)) (hl : xs.length ≤ 140737488351232) (hl2 : ys.length ≤ 140737488351232) (f1 : ∀ x ∈ xs, x < 4294967296) (f2 : ∀ x ∈ ys, x < 4294967296) :
    Calls Try.prog 129 #[va, vb] w fun e w' => e = .returned (.bool (sameL xs ys)) ∧ Below w.heap.size w w' := by
  obtain ⟨ad, cp, hv⟩ := ha.form
  obtain ⟨bd, dp, hv2⟩ := hb.form
  rw [List.length_map] at hv hv2
  obtain ⟨n, hn⟩ : ∃ n, n = xs.length := ⟨_, rfl⟩
  obtain ⟨m, hm⟩ : ∃ n, n = ys.length := ⟨_, rfl⟩
  rw [← hn] at hv hl
  rw [← hm] at hv2 hl2
  subst hv hv2
  have Hn := hid hn
  have Hm := hid hm
  have Ha := hid ha
  have Hb := hid hb
  have F1 := hid f1
  have F2 := hid f2
  clear hn hm ha hb f1 f2
  by_cases hnm : n = m
  · subst hnm
    go_enter Try.func129, Try.ntmps129
    go_wp2
    go_loopw [5] (fun i wr => ∃ k : Nat, k ≤ n ∧ i = .int .i64 k ∧ nl (xs.take k) = nl (ys.take k) ∧ Below w.heap.size w wr) (fun i _ => n - (intOf i).toNat)
    case atStart => exact ⟨0, Nat.zero_le _, rfl, rfl, Below.refl _ _⟩
    case round =>
      obtain ⟨k, hk, rfl, hidx, hbw⟩ := hrel
      have Hidx := hid hidx
      clear hidx
      by_cases hlt : k < n
      · have hkx : k < xs.length := by rw [← Hn.out]; exact hlt
        have hky : k < ys.length := by rw [← Hm.out]; exact hlt
        obtain ⟨b, off, rfl, hc1, hb1⟩ := (Ha.out.mono hbw).light k hlt hkx
        obtain ⟨b', off', rfl, hc2, hb2⟩ := (Hb.out.mono hbw).light k hlt hky
        have hcall := fun w2 => l01Same_any xs[k] ys[k] w2 (F1.out _ (List.getElem_mem hkx)) (F2.out _ (List.getElem_mem hky))
        have hyes := nl_take_snoc hkx hky Hidx.out
        have hno := sameL_no hkx hky
        obtain ⟨x, hxe⟩ : ∃ x, x = xs[k] := ⟨_, rfl⟩
        obtain ⟨y, hye⟩ : ∃ y, y = ys[k] := ⟨_, rfl⟩
        rw [← hxe] at hc1 hcall hyes hno
        rw [← hye] at hc2 hcall hyes hno
        have Hyes := hid hyes
        have Hno := hid hno
        clear hyes hno hxe hye
        cases hs : sameN x y
        all_goals
          rw [hs] at hcall
        · have HR := hid (Hno.out hs)
          clear hs
          go_wp2
          refine Mix.wp_mix [.S, .S, .S, .S, .S, .S, .S, .S, .A, .S] [0, 1, 2, 3, 4, 5, 6, 7, 8, 9] (Below wr.heap.size wr) (by kernel_rfl) (by kernel_rfl) ((Below.refl _ _).drew) ?_
          have hC : Below wr.heap.size wr wr.drew := (Below.refl _ _).drew
          generalize wr.drew = w2 at hC ⊢
          repeat (first | (refine Mix.sf_S rfl rfl rfl rfl rfl (Mix.valOp_spec rfl) hC ?_; apply Exists.intro; refine ⟨?_, ?_⟩; · (intro w' hC' K hK; have hk := (bcell hC').1; go_step; exact hK)) | (refine Mix.sf_skipS rfl rfl rfl rfl ?_; apply Exists.intro; refine ⟨?_, ?_⟩; · (intro K hK; go_step; exact hK)) | (refine Mix.sf_skipA rfl rfl rfl rfl ?_; apply Exists.intro; refine ⟨?_, ?_⟩; · (intro K hK; go_step; exact hK)) | (refine Mix.sf_skipL rfl rfl rfl rfl ?_ hC; apply Exists.intro; refine ⟨?_, ?_⟩; · (intro K hK; go_step; exact hK); clear hC; intro wL hC))
          refine Mix.sf_A rfl rfl rfl ?_; intro K hK; go_step
          refine (hcall _).mono ?_
          rintro e w3 ⟨rfl, rfl⟩
          refine hK _ _ hC ?_
          clear hK K
          repeat (first | (refine Mix.sf_S rfl rfl rfl rfl rfl (Mix.valOp_spec rfl) hC ?_; apply Exists.intro; refine ⟨?_, ?_⟩; · (intro w' hC' K hK; have hk := (bcell hC').1; go_step; exact hK)) | (refine Mix.sf_skipS rfl rfl rfl rfl ?_; apply Exists.intro; refine ⟨?_, ?_⟩; · (intro K hK; go_step; exact hK)) | (refine Mix.sf_skipA rfl rfl rfl rfl ?_; apply Exists.intro; refine ⟨?_, ?_⟩; · (intro K hK; go_step; exact hK)) | (refine Mix.sf_skipL rfl rfl rfl rfl ?_ hC; apply Exists.intro; refine ⟨?_, ?_⟩; · (intro K hK; go_step; exact hK); clear hC; intro wL hC))
          refine Mix.sf_nil ?_
          go_wp2
          go_ret
          exact ⟨ret_bool HR.out.symm, hbw.trans (hC.mono hbw.size)⟩
        · have HR := hid (Hyes.out hs)
          clear hs
          go_wp2
          refine Mix.wp_mix [.S, .S, .S, .S, .S, .S, .S, .S, .A, .S] [0, 1, 2, 3, 4, 5, 6, 7, 8, 9] (Below wr.heap.size wr) (by kernel_rfl) (by kernel_rfl) ((Below.refl _ _).drew) ?_
          have hC : Below wr.heap.size wr wr.drew := (Below.refl _ _).drew
          generalize wr.drew = w2 at hC ⊢
          repeat (first | (refine Mix.sf_S rfl rfl rfl rfl rfl (Mix.valOp_spec rfl) hC ?_; apply Exists.intro; refine ⟨?_, ?_⟩; · (intro w' hC' K hK; have hk := (bcell hC').1; go_step; exact hK)) | (refine Mix.sf_skipS rfl rfl rfl rfl ?_; apply Exists.intro; refine ⟨?_, ?_⟩; · (intro K hK; go_step; exact hK)) | (refine Mix.sf_skipA rfl rfl rfl rfl ?_; apply Exists.intro; refine ⟨?_, ?_⟩; · (intro K hK; go_step; exact hK)) | (refine Mix.sf_skipL rfl rfl rfl rfl ?_ hC; apply Exists.intro; refine ⟨?_, ?_⟩; · (intro K hK; go_step; exact hK); clear hC; intro wL hC))
          refine Mix.sf_A rfl rfl rfl ?_; intro K hK; go_step
          refine (hcall _).mono ?_
          rintro e w3 ⟨rfl, rfl⟩
          refine hK _ _ hC ?_
          clear hK K
          repeat (first | (refine Mix.sf_S rfl rfl rfl rfl rfl (Mix.valOp_spec rfl) hC ?_; apply Exists.intro; refine ⟨?_, ?_⟩; · (intro w' hC' K hK; have hk := (bcell hC').1; go_step; exact hK)) | (refine Mix.sf_skipS rfl rfl rfl rfl ?_; apply Exists.intro; refine ⟨?_, ?_⟩; · (intro K hK; go_step; exact hK)) | (refine Mix.sf_skipA rfl rfl rfl rfl ?_; apply Exists.intro; refine ⟨?_, ?_⟩; · (intro K hK; go_step; exact hK)) | (refine Mix.sf_skipL rfl rfl rfl rfl ?_ hC; apply Exists.intro; refine ⟨?_, ?_⟩; · (intro K hK; go_step; exact hK); clear hC; intro wL hC))
          refine Mix.sf_nil ?_
          go_wp2
          go_roundw
          case rel => exact ⟨k + 1, by omega, by go_num, HR.out, hbw.trans (hC.mono hbw.size)⟩
          case measure => simp [intOf]; omega
      · have hke : k = n := by omega
        have HR := hid (sameL_end (hke.trans Hn.out) (hke.trans Hm.out) Hidx.out)
        clear hke
        go_wp2
        go_ret
        exact ⟨ret_bool HR.out.symm, hbw⟩
  · have HR := hid (sameL_len (show xs.length ≠ ys.length by rw [← Hn.out, ← Hm.out]; exact hnm))
    have hnm2 : ¬ (n : Int) = m := by omega
    go_enter Try.func129, Try.ntmps129
    go_wp2
    go_ret
    exact ⟨ret_bool HR.out.symm, Below.refl _ _⟩

/-- Whether two pictures are the same. -/
def sameP (W1 H1 : Int) (xs : List Nat) (W2 H2 : Int) (ys : List Nat) : Bool := (W1 == W2) && (H1 == H2) && sameL xs ys

set_option maxHeartbeats 2000000 in
set_option maxRecDepth 100000 in
theorem SamePicture_any (W1 H1 : Int) (xs : List Nat) (va : Value) (W2 H2 : Int) (ys : List Nat) (vb : Value) (w : World) (ha : Sl w va (xs.map fv)) (hb : Sl w vb (ys.map fv)) (hl : xs.length ≤ 140737488351232) (hl2 : ys.length ≤ 140737488351232) (f1 : ∀ x ∈ xs, x < 4294967296) (f2 : ∀ x ∈ ys, x < 4294967296) :
    Calls Try.prog 64 #[.agg #[.int .i64 W1, .int .i64 H1, va], .agg #[.int .i64 W2, .int .i64 H2, vb]] w fun e w' => e = .returned (.bool (sameP W1 H1 xs W2 H2 ys)) ∧ Below w.heap.size w w' := by
  have hcall := fun w2 (h : Below w.heap.size w w2) => EqualFuncF_any xs ys va vb w2 (ha.mono h) (hb.mono h) hl hl2 f1 f2
  have hb1 : ∀ o1 o2, Below w.heap.size w ((w.alloc o1).alloc o2) := fun o1 o2 => ((Below.refl _ _).alloc (Nat.le_refl _) _).alloc (by simp) _
  obtain ⟨ad, cp, hv⟩ := ha.form
  obtain ⟨bd, dp, hv2⟩ := hb.form
  obtain ⟨n, hn⟩ : ∃ n, n = (xs.map fv).length := ⟨_, rfl⟩
  obtain ⟨m, hm⟩ : ∃ n, n = (ys.map fv).length := ⟨_, rfl⟩
  rw [← hn] at hv
  rw [← hm] at hv2
  subst hv hv2
  clear ha hb f1 f2 hl hl2 hn hm
  cases hW : (W1 == W2)
  · have HR := hid (show sameP W1 H1 xs W2 H2 ys = false by rw [sameP, hW]; rfl)
    go_enter Try.func64, Try.ntmps64
    go_wp2
    go_ret
    exact ⟨ret_bool HR.out.symm, hb1 _ _⟩
  · cases hH : (H1 == H2)
    · have HR := hid (show sameP W1 H1 xs W2 H2 ys = false by rw [sameP, hW, hH]; rfl)
      go_enter Try.func64, Try.ntmps64
      go_wp2
      go_ret
      exact ⟨ret_bool HR.out.symm, hb1 _ _⟩
    · have HR := hid (show sameP W1 H1 xs W2 H2 ys = sameL xs ys by rw [sameP, hW, hH]; rfl)
      go_enter Try.func64, Try.ntmps64
      go_wp2_with fail
      refine (hcall _ (hb1 _ _)).mono ?_
      rintro e w2 ⟨rfl, hb2⟩
      go_wp2
      go_ret
      exact ⟨ret_bool HR.out.symm, (hb1 _ _).trans (hb2.mono (hb1 _ _).size)⟩

end Go.Proofs.Ytggbdmgonobefaa
