/-
  When two lists of pages are the same, by the program and by the reference; two copies of one list are the same.
  Conditions: the lists read as pages; lengths and words fit.
-/
import Derived.Test.YtggbdmgonobefaaA35
namespace Go.Proofs.Ytggbdmgonobefaa
open Go.RowKit
set_option linter.unusedVariables false
set_option linter.unusedSimpArgs false

set_option maxHeartbeats 4000000 in
set_option maxRecDepth 100000 in
theorem EqualFuncP_any (ps qs : List PgD) (va vb : Value) (w : World) (ha : PgL w va ps) (hb : PgL w vb qs) (hl : ps.length ≤ 140737488351232) (hl2 : qs.length ≤ 140737488351232) (f1 : ∀ p ∈ ps, p.ok) (f2 : ∀ q ∈ qs, q.ok) :
    Calls Try.prog 133 #[va, vb, .func (.func 134) #[] #[]] w fun e w' => e = .returned (.bool (samePgs ps qs)) ∧ Below w.heap.size w w' := by
  have hent : ∀ (args : Array Value) (w : World), (callFunc 134 args).run Try.prog w = .ok (.enter 134 args) w := fun args w => by kernel_rfl
  obtain ⟨ad, cp, hv⟩ := ha.form
  obtain ⟨bd, dp, hv2⟩ := hb.form
  obtain ⟨n, hn⟩ : ∃ n, n = ps.length := ⟨_, rfl⟩
  obtain ⟨m, hm⟩ : ∃ n, n = qs.length := ⟨_, rfl⟩
  rw [← hn] at hv hl
  rw [← hm] at hv2 hl2
  subst hv hv2
  have Hn := hid hn
  have Hm := hid hm
  have Ha := hid ha
  have Hb := hid hb
  have F1 := hid f1
  have F2 := hid f2
  clear hn hm ha hb f1 f2
  by_cases hnm : n = m
  · subst hnm
    go_enter Try.func133, Try.ntmps133
    go_wp2
    go_loopw [7, 17] (fun _ i wr => ∃ k : Nat, k ≤ n ∧ i = .int .i64 k ∧ (∀ j (h1 : j < ps.length) (h2 : j < qs.length), j < k → samePg ps[j] qs[j] = true) ∧ Below w.heap.size w wr) (fun _ i _ => n - (intOf i).toNat)
    case atStart => exact ⟨0, Nat.zero_le _, rfl, fun j _ _ h => absurd h (Nat.not_lt_zero _), Below.refl _ _⟩
    case round =>
      obtain ⟨k, hk, rfl, hidx, hbw⟩ := hrel
      have Hidx := hid hidx
      clear hidx
      by_cases hlt : k < n
      · have hkx : k < ps.length := by rw [← Hn.out]; exact hlt
        have hky : k < qs.length := by rw [← Hm.out]; exact hlt
        obtain ⟨b, off, lv, rfl, hat⟩ := (Ha.out.mono hbw).at k (List.getElem?_eq_getElem hkx)
        obtain ⟨b', off', lv', rfl, hat'⟩ := (Hb.out.mono hbw).at k (List.getElem?_eq_getElem hky)
        have hcall := fun o1 o2 => SamePages1_any ps[k] qs[k] lv lv' ((wr.alloc o1).alloc o2) ((hat.sl.alloc o1).alloc o2) ((hat'.sl.alloc o1).alloc o2) (F1.out _ (List.getElem_mem hkx)) (F2.out _ (List.getElem_mem hky))
        have c0 := hat.c0
        have c1 := hat.c1
        have c2 := hat.c2
        have c3 := hat.c3
        have d0 := hat'.c0
        have d1 := hat'.c1
        have d2 := hat'.c2
        have d3 := hat'.c3
        have hbl := hat.lt
        have hbl' := hat'.lt
        obtain ⟨ad2, cap2, hlv⟩ := hat.sl.form
        obtain ⟨ad3, cap3, hlv'⟩ := hat'.sl.form
        subst hlv hlv'
        have hno := samePgs_no hkx hky
        have hyes : samePg ps[k] qs[k] = true → ∀ j (h1 : j < ps.length) (h2 : j < qs.length), j < k + 1 → samePg ps[j] qs[j] = true := fun h j h1 h2 hj => by
          by_cases hjk : j = k
          · subst hjk; exact h
          · exact Hidx.out j h1 h2 (by omega)
        obtain ⟨x, hxe⟩ : ∃ x, x = ps[k] := ⟨_, rfl⟩
        obtain ⟨y, hye⟩ : ∃ y, y = qs[k] := ⟨_, rfl⟩
        rw [← hxe] at c0 c1 c2 c3 hcall hyes hno
        rw [← hye] at d0 d1 d2 d3 hcall hyes hno
        obtain ⟨n1, hn1⟩ : ∃ n, n = (x.xs.map fv).length := ⟨_, rfl⟩
        obtain ⟨n2, hn2⟩ : ∃ n, n = (y.xs.map fv).length := ⟨_, rfl⟩
        rw [← hn1] at c3
        rw [← hn2] at d3
        rw [← hn1, ← hn2] at hcall
        have Hyes := hid hyes
        have Hno := hid hno
        clear hyes hno hxe hye hat hat' hn1 hn2
        cases hs : samePg x y
        · rw [hs] at hcall
          have HR := hid (Hno.out hs)
          clear hs
          go_wp2_with fail
          refine (hcall _ _).mono ?_
          rintro e w2 ⟨rfl, hb2⟩
          clear hcall c0 c1 c2 c3 d0 d1 d2 d3
          go_wp2
          go_ret
          exact ⟨ret_bool HR.out.symm, ((hbw.alloc hbw.size _).alloc (Nat.le_trans hbw.size (by simp)) _).trans (hb2.mono (Nat.le_trans hbw.size (by simp; omega)))⟩
        · rw [hs] at hcall
          have HR := hid (Hyes.out hs)
          clear hs
          go_wp2_with fail
          refine (hcall _ _).mono ?_
          rintro e w2 ⟨rfl, hb2⟩
          clear hcall c0 c1 c2 c3 d0 d1 d2 d3
          go_wp2
          go_roundw
          case rel => exact ⟨k + 1, by omega, by go_num, HR.out, ((hbw.alloc hbw.size _).alloc (Nat.le_trans hbw.size (by simp)) _).trans (hb2.mono (Nat.le_trans hbw.size (by simp; omega)))⟩
          case measure => simp [intOf]; omega
      · have hke : k = n := by omega
        have HR := hid (samePgs_yes (Hn.out.symm.trans Hm.out) fun j h1 h2 => Hidx.out j h1 h2 (by rw [hke, Hn.out]; exact h1))
        clear hke
        go_wp2
        go_ret
        exact ⟨ret_bool HR.out.symm, hbw⟩
  · have HR := hid (samePgs_len (show ps.length ≠ qs.length by rw [← Hn.out, ← Hm.out]; exact hnm))
    have hnm2 : ¬ (n : Int) = m := by omega
    go_enter Try.func133, Try.ntmps133
    go_wp2
    go_ret
    exact ⟨ret_bool HR.out.symm, Below.refl _ _⟩

theorem implSamePages_any (ps qs : List PgD) (va vb : Value) (w : World) (ha : PgL w va ps) (hb : PgL w vb qs) (hl : ps.length ≤ 140737488351232) (hl2 : qs.length ≤ 140737488351232) (f1 : ∀ p ∈ ps, p.ok) (f2 : ∀ q ∈ qs, q.ok) :
    Calls Try.prog 66 #[va, vb] w fun e w' => e = .returned (.bool (samePgs ps qs)) ∧ Below w.heap.size w w' := by
  have hcall := EqualFuncP_any ps qs va vb w ha hb hl hl2 f1 f2
  obtain ⟨ad, cp, rfl⟩ := ha.form
  obtain ⟨bd, dp, rfl⟩ := hb.form
  obtain ⟨n, hn⟩ : ∃ n, n = ps.length := ⟨_, rfl⟩
  obtain ⟨m, hm⟩ : ∃ n, n = qs.length := ⟨_, rfl⟩
  rw [← hn, ← hm] at hcall ⊢
  clear ha hb hl hl2 f1 f2 hn hm
  go_enter Try.func66, Try.ntmps66
  go_wp2_with fail
  refine hcall.mono ?_
  rintro e w2 ⟨rfl, hb2⟩
  go_wp2
  go_ret
  exact ⟨rfl, hb2⟩

set_option maxHeartbeats 4000000 in
set_option maxRecDepth 100000 in
theorem specSamePages_any (ps qs : List PgD) (va vb : Value) (w : World) (ha : PgL w va ps) (hb : PgL w vb qs) (hl : ps.length ≤ 140737488351232) (hl2 : qs.length ≤ 140737488351232) (f1 : ∀ p ∈ ps, p.ok) (f2 : ∀ q ∈ qs, q.ok) :
    Calls Try.prog 62 #[va, vb] w fun e w' => e = .returned (.bool (samePgs ps qs)) ∧ Below w.heap.size w w' := by
  obtain ⟨ad, cp, hv⟩ := ha.form
  obtain ⟨bd, dp, hv2⟩ := hb.form
  obtain ⟨n, hn⟩ : ∃ n, n = ps.length := ⟨_, rfl⟩
  obtain ⟨m, hm⟩ : ∃ n, n = qs.length := ⟨_, rfl⟩
  rw [← hn] at hv hl
  rw [← hm] at hv2 hl2
  subst hv hv2
  have Hn := hid hn
  have Hm := hid hm
  have Ha := hid ha
  have Hb := hid hb
  have F1 := hid f1
  have F2 := hid f2
  clear hn hm ha hb f1 f2
  by_cases hnm : n = m
  · subst hnm
    go_enter Try.func62, Try.ntmps62
    go_wp2
    go_loopw [5, 13] (fun _ i wr => ∃ k : Nat, k ≤ n ∧ i = .int .i64 k ∧ (∀ j (h1 : j < ps.length) (h2 : j < qs.length), j < k → samePg ps[j] qs[j] = true) ∧ Below w.heap.size w wr) (fun _ i _ => n - (intOf i).toNat)
    case atStart => exact ⟨0, Nat.zero_le _, rfl, fun j _ _ h => absurd h (Nat.not_lt_zero _), Below.refl _ _⟩
    case round =>
      obtain ⟨k, hk, rfl, hidx, hbw⟩ := hrel
      have Hidx := hid hidx
      clear hidx
      by_cases hlt : k < n
      · have hkx : k < ps.length := by rw [← Hn.out]; exact hlt
        have hky : k < qs.length := by rw [← Hm.out]; exact hlt
        obtain ⟨b, off, lv, rfl, hat⟩ := (Ha.out.mono hbw).at k (List.getElem?_eq_getElem hkx)
        obtain ⟨b', off', lv', rfl, hat'⟩ := (Hb.out.mono hbw).at k (List.getElem?_eq_getElem hky)
        have p1 := F1.out _ (List.getElem_mem hkx)
        have p2 := F2.out _ (List.getElem_mem hky)
        have hno := samePgs_no hkx hky
        have hyes : samePg ps[k] qs[k] = true → ∀ j (h1 : j < ps.length) (h2 : j < qs.length), j < k + 1 → samePg ps[j] qs[j] = true := fun h j h1 h2 hj => by
          by_cases hjk : j = k
          · subst hjk; exact h
          · exact Hidx.out j h1 h2 (by omega)
        obtain ⟨x, hxe⟩ : ∃ x, x = ps[k] := ⟨_, rfl⟩
        obtain ⟨y, hye⟩ : ∃ y, y = qs[k] := ⟨_, rfl⟩
        rw [← hxe] at hat p1 hyes hno
        rw [← hye] at hat' p2 hyes hno
        have hcall := fun w2 (h : Below wr.heap.size wr w2) => specSamePicture_any x.W x.H x.xs lv y.W y.H y.xs lv' w2 (hat.sl.mono h) (hat'.sl.mono h) p1.2.1 p2.2.1 p1.2.2 p2.2.2
        obtain ⟨ad2, cap2, hlv⟩ := hat.sl.form
        obtain ⟨ad3, cap3, hlv'⟩ := hat'.sl.form
        obtain ⟨n1, hn1⟩ : ∃ n, n = (x.xs.map fv).length := ⟨_, rfl⟩
        obtain ⟨n2, hn2⟩ : ∃ n, n = (y.xs.map fv).length := ⟨_, rfl⟩
        rw [← hn1] at hlv
        rw [← hn2] at hlv'
        subst hlv hlv'
        have c0 := hat.c0
        have c1 := hat.c1
        have c2 := hat.c2
        have c3 := hat.c3
        have d0 := hat'.c0
        have d1 := hat'.c1
        have d2 := hat'.c2
        have d3 := hat'.c3
        have hbl := hat.lt
        have hbl' := hat'.lt
        have Hyes := hid hyes
        have Hno := hid hno
        clear hyes hno hxe hye hat hat' hn1 hn2 p1 p2
        cases hM : (x.m.toList == y.m.toList)
        · have HR := hid (Hno.out (by rw [samePg, hM]; rfl))
          have hM2 : (x.m.toList != y.m.toList) = true := by rw [bne, hM]; rfl
          go_wp2
          refine Mix.wp_mix [.S, .S, .S, .S, .S, .S, .S, .S, .S, .S, .S, .S, .S, .S, .S, .S, .S, .S, .S, .S, .S, .S, .A, .S, .S] [0, 1, 2, 3, 4, 5, 6, 7, 8, 9, 10, 11, 12, 13, 14, 15, 16, 17, 18, 19, 20, 21, 22, 23, 24] (Below wr.heap.size wr) (by kernel_rfl) (by kernel_rfl) ((Below.refl _ _).drew) ?_
          have hC : Below wr.heap.size wr wr.drew := (Below.refl _ _).drew
          generalize wr.drew = w2 at hC ⊢
          repeat (first | (refine Mix.sf_S rfl rfl rfl rfl rfl (Mix.valOp_spec rfl) hC ?_; apply Exists.intro; refine ⟨?_, ?_⟩; · (intro w' hC' K hK; have hk := (bcell hC').1; go_step; exact hK)) | (refine Mix.sf_skipS rfl rfl rfl rfl ?_; apply Exists.intro; refine ⟨?_, ?_⟩; · (intro K hK; go_step; exact hK)) | (refine Mix.sf_skipA rfl rfl rfl rfl ?_; apply Exists.intro; refine ⟨?_, ?_⟩; · (intro K hK; go_step; exact hK)) | (refine Mix.sf_skipL rfl rfl rfl rfl ?_ hC; apply Exists.intro; refine ⟨?_, ?_⟩; · (intro K hK; go_step; exact hK); clear hC; intro wL hC))
          refine Mix.sf_nil ?_
          clear c0 c1 c2 c3 d0 d1 d2 d3 hcall
          go_wp2
          go_ret
          exact ⟨ret_bool HR.out.symm, hbw.trans (hC.mono hbw.size)⟩
        · have hM2 : (x.m.toList != y.m.toList) = false := by rw [bne, hM]; rfl
          have hsp : samePg x y = sameP x.W x.H x.xs y.W y.H y.xs := by rw [samePg, hM]; rfl
          rw [← hsp] at hcall
          clear hsp
          cases hs : samePg x y
          · rw [hs] at hcall
            have HR := hid (Hno.out hs)
            clear hs
            go_wp2
            refine Mix.wp_mix [.S, .S, .S, .S, .S, .S, .S, .S, .S, .S, .S, .S, .S, .S, .S, .S, .S, .S, .S, .S, .S, .S, .A, .S, .S] [0, 1, 2, 3, 4, 5, 6, 7, 8, 9, 10, 11, 12, 13, 14, 15, 16, 17, 18, 19, 20, 21, 22, 23, 24] (Below wr.heap.size wr) (by kernel_rfl) (by kernel_rfl) ((Below.refl _ _).drew) ?_
            have hC : Below wr.heap.size wr wr.drew := (Below.refl _ _).drew
            generalize wr.drew = w2 at hC ⊢
            repeat (first | (refine Mix.sf_S rfl rfl rfl rfl rfl (Mix.valOp_spec rfl) hC ?_; apply Exists.intro; refine ⟨?_, ?_⟩; · (intro w' hC' K hK; have hk := (bcell hC').1; go_step; exact hK)) | (refine Mix.sf_skipS rfl rfl rfl rfl ?_; apply Exists.intro; refine ⟨?_, ?_⟩; · (intro K hK; go_step; exact hK)) | (refine Mix.sf_skipA rfl rfl rfl rfl ?_; apply Exists.intro; refine ⟨?_, ?_⟩; · (intro K hK; go_step; exact hK)) | (refine Mix.sf_skipL rfl rfl rfl rfl ?_ hC; apply Exists.intro; refine ⟨?_, ?_⟩; · (intro K hK; go_step; exact hK); clear hC; intro wL hC))
            refine Mix.sf_A rfl rfl rfl ?_; intro K hK; go_step
            refine (hcall _ hC).mono ?_
            rintro e w3 ⟨rfl, hb3⟩
            refine hK _ _ (hC.trans (hb3.mono hC.size)) ?_
            replace hC := hC.trans (hb3.mono hC.size)
            clear hK K hb3
            repeat (first | (refine Mix.sf_S rfl rfl rfl rfl rfl (Mix.valOp_spec rfl) hC ?_; apply Exists.intro; refine ⟨?_, ?_⟩; · (intro w' hC' K hK; have hk := (bcell hC').1; go_step; exact hK)) | (refine Mix.sf_skipS rfl rfl rfl rfl ?_; apply Exists.intro; refine ⟨?_, ?_⟩; · (intro K hK; go_step; exact hK)) | (refine Mix.sf_skipA rfl rfl rfl rfl ?_; apply Exists.intro; refine ⟨?_, ?_⟩; · (intro K hK; go_step; exact hK)) | (refine Mix.sf_skipL rfl rfl rfl rfl ?_ hC; apply Exists.intro; refine ⟨?_, ?_⟩; · (intro K hK; go_step; exact hK); clear hC; intro wL hC))
            refine Mix.sf_nil ?_
            clear c0 c1 c2 c3 d0 d1 d2 d3 hcall
            go_wp2
            go_ret
            exact ⟨ret_bool HR.out.symm, hbw.trans (hC.mono hbw.size)⟩
          · rw [hs] at hcall
            have HR := hid (Hyes.out hs)
            clear hs
            go_wp2
            refine Mix.wp_mix [.S, .S, .S, .S, .S, .S, .S, .S, .S, .S, .S, .S, .S, .S, .S, .S, .S, .S, .S, .S, .S, .S, .A, .S, .S] [0, 1, 2, 3, 4, 5, 6, 7, 8, 9, 10, 11, 12, 13, 14, 15, 16, 17, 18, 19, 20, 21, 22, 23, 24] (Below wr.heap.size wr) (by kernel_rfl) (by kernel_rfl) ((Below.refl _ _).drew) ?_
            have hC : Below wr.heap.size wr wr.drew := (Below.refl _ _).drew
            generalize wr.drew = w2 at hC ⊢
            repeat (first | (refine Mix.sf_S rfl rfl rfl rfl rfl (Mix.valOp_spec rfl) hC ?_; apply Exists.intro; refine ⟨?_, ?_⟩; · (intro w' hC' K hK; have hk := (bcell hC').1; go_step; exact hK)) | (refine Mix.sf_skipS rfl rfl rfl rfl ?_; apply Exists.intro; refine ⟨?_, ?_⟩; · (intro K hK; go_step; exact hK)) | (refine Mix.sf_skipA rfl rfl rfl rfl ?_; apply Exists.intro; refine ⟨?_, ?_⟩; · (intro K hK; go_step; exact hK)) | (refine Mix.sf_skipL rfl rfl rfl rfl ?_ hC; apply Exists.intro; refine ⟨?_, ?_⟩; · (intro K hK; go_step; exact hK); clear hC; intro wL hC))
            refine Mix.sf_A rfl rfl rfl ?_; intro K hK; go_step
            refine (hcall _ hC).mono ?_
            rintro e w3 ⟨rfl, hb3⟩
            refine hK _ _ (hC.trans (hb3.mono hC.size)) ?_
            replace hC := hC.trans (hb3.mono hC.size)
            clear hK K hb3
            repeat (first | (refine Mix.sf_S rfl rfl rfl rfl rfl (Mix.valOp_spec rfl) hC ?_; apply Exists.intro; refine ⟨?_, ?_⟩; · (intro w' hC' K hK; have hk := (bcell hC').1; go_step; exact hK)) | (refine Mix.sf_skipS rfl rfl rfl rfl ?_; apply Exists.intro; refine ⟨?_, ?_⟩; · (intro K hK; go_step; exact hK)) | (refine Mix.sf_skipA rfl rfl rfl rfl ?_; apply Exists.intro; refine ⟨?_, ?_⟩; · (intro K hK; go_step; exact hK)) | (refine Mix.sf_skipL rfl rfl rfl rfl ?_ hC; apply Exists.intro; refine ⟨?_, ?_⟩; · (intro K hK; go_step; exact hK); clear hC; intro wL hC))
            refine Mix.sf_nil ?_
            clear c0 c1 c2 c3 d0 d1 d2 d3 hcall
            go_wp2
            go_roundw
            case rel => exact ⟨k + 1, by omega, by go_num, HR.out, hbw.trans (hC.mono hbw.size)⟩
            case measure => simp [intOf]; omega
      · have hke : k = n := by omega
        have HR := hid (samePgs_yes (Hn.out.symm.trans Hm.out) fun j h1 h2 => Hidx.out j h1 h2 (by rw [hke, Hn.out]; exact h1))
        clear hke
        go_wp2
        go_ret
        exact ⟨ret_bool HR.out.symm, hbw⟩
  · have HR := hid (samePgs_len (show ps.length ≠ qs.length by rw [← Hn.out, ← Hm.out]; exact hnm))
    have hnm2 : ¬ (n : Int) = m := by omega
    go_enter Try.func62, Try.ntmps62
    go_wp2
    go_ret
    exact ⟨ret_bool HR.out.symm, Below.refl _ _⟩

set_option maxHeartbeats 4000000 in
set_option maxRecDepth 100000 in
theorem eqPageS_yes (ps qs : List PgD) (va vb : Value) (w : World) (ha : PgL w va ps) (hb : PgL w vb qs) (hl : ps.length ≤ 140737488351232) (f1 : ∀ p ∈ ps, p.xs.length ≤ 140737488351232) (hlen : ps.length = qs.length)
    (heq : ∀ k (h1 : k < ps.length) (h2 : k < qs.length), ps[k].eqv qs[k]) :
    Calls Try.prog 23 #[va, vb] w fun e w' => e = .returned (.bool true) ∧ Below w.heap.size w w' := by
  obtain ⟨ad, cp, hv⟩ := ha.form
  obtain ⟨bd, dp, hv2⟩ := hb.form
  obtain ⟨n, hn⟩ : ∃ n, n = ps.length := ⟨_, rfl⟩
  rw [← hlen, ← hn] at hv2
  rw [← hn] at hv hl
  have hm : n = qs.length := by rw [hn, hlen]
  subst hv hv2
  have Hn := hid hn
  have Hm := hid hm
  have Ha := hid ha
  have Hb := hid hb
  have F1 := hid f1
  have He := hid heq
  clear hn hm ha hb f1 hlen heq
  go_enter Try.func23, Try.ntmps23
  go_wp2
  go_loopw [5] (fun i wr => ∃ k : Nat, k ≤ n ∧ i = .int .i64 k ∧ Below w.heap.size w wr) (fun i _ => n - (intOf i).toNat)
  case atStart => exact ⟨0, Nat.zero_le _, rfl, Below.refl _ _⟩
  case round =>
    obtain ⟨k, hk, rfl, hbw⟩ := hrel
    by_cases hlt : k < n
    · have hkx : k < ps.length := by rw [← Hn.out]; exact hlt
      have hky : k < qs.length := by rw [← Hm.out]; exact hlt
      obtain ⟨b, off, lv, rfl, hat⟩ := (Ha.out.mono hbw).at k (List.getElem?_eq_getElem hkx)
      obtain ⟨b', off', lv', rfl, hat'⟩ := (Hb.out.mono hbw).at k (List.getElem?_eq_getElem hky)
      have p1 := F1.out _ (List.getElem_mem hkx)
      obtain ⟨e1, e2, e3, e4⟩ := He.out k hkx hky
      obtain ⟨x, hxe⟩ : ∃ x, x = ps[k] := ⟨_, rfl⟩
      obtain ⟨y, hye⟩ : ∃ y, y = qs[k] := ⟨_, rfl⟩
      rw [← hxe] at hat p1 e1 e2 e3 e4
      rw [← hye] at hat' e1 e2 e3 e4
      have hcall := fun w2 (h : Below wr.heap.size wr w2) => eqPage_yes x.m x.W x.H x.xs y.xs lv lv' w2 (hat.sl.mono h) (hat'.sl.mono h) p1 e4
      obtain ⟨ad2, cap2, hlv⟩ := hat.sl.form
      obtain ⟨ad3, cap3, hlv'⟩ := hat'.sl.form
      obtain ⟨n1, hn1⟩ : ∃ n, n = (x.xs.map fv).length := ⟨_, rfl⟩
      obtain ⟨n2, hn2⟩ : ∃ n, n = (y.xs.map fv).length := ⟨_, rfl⟩
      rw [← hn1] at hlv
      rw [← hn2] at hlv'
      subst hlv hlv'
      have c0 := hat.c0
      have c1 := hat.c1
      have c2 := hat.c2
      have c3 := hat.c3
      have d0 := hat'.c0
      have d1 := hat'.c1
      have d2 := hat'.c2
      have d3 := hat'.c3
      have hbl := hat.lt
      have hbl' := hat'.lt
      rw [← e1] at d0
      rw [← e2] at d1
      rw [← e3] at d2
      clear hxe hye hat hat' hn1 hn2 p1 e1 e2 e3 e4
      go_wp2
      refine Mix.wp_mix [.S, .S, .S, .S, .S, .S, .S, .S, .A, .S] [0, 1, 2, 3, 4, 5, 6, 7, 8, 9] (Below wr.heap.size wr) (by kernel_rfl) (by kernel_rfl) ((Below.refl _ _).drew) ?_
      have hC : Below wr.heap.size wr wr.drew := (Below.refl _ _).drew
      generalize wr.drew = w2 at hC ⊢
      repeat (first | (refine Mix.sf_S rfl rfl rfl rfl rfl (Mix.valOp_spec rfl) hC ?_; apply Exists.intro; refine ⟨?_, ?_⟩; · (intro w' hC' K hK; have hk := (bcell hC').1; go_step; exact hK)) | (refine Mix.sf_skipS rfl rfl rfl rfl ?_; apply Exists.intro; refine ⟨?_, ?_⟩; · (intro K hK; go_step; exact hK)) | (refine Mix.sf_skipA rfl rfl rfl rfl ?_; apply Exists.intro; refine ⟨?_, ?_⟩; · (intro K hK; go_step; exact hK)) | (refine Mix.sf_skipL rfl rfl rfl rfl ?_ hC; apply Exists.intro; refine ⟨?_, ?_⟩; · (intro K hK; go_step; exact hK); clear hC; intro wL hC))
      refine Mix.sf_A rfl rfl rfl ?_; intro K hK; go_step
      refine (hcall _ hC).mono ?_
      rintro e w3 ⟨rfl, hb3⟩
      refine hK _ _ (hC.trans (hb3.mono hC.size)) ?_
      replace hC := hC.trans (hb3.mono hC.size)
      clear hK K hb3
      repeat (first | (refine Mix.sf_S rfl rfl rfl rfl rfl (Mix.valOp_spec rfl) hC ?_; apply Exists.intro; refine ⟨?_, ?_⟩; · (intro w' hC' K hK; have hk := (bcell hC').1; go_step; exact hK)) | (refine Mix.sf_skipS rfl rfl rfl rfl ?_; apply Exists.intro; refine ⟨?_, ?_⟩; · (intro K hK; go_step; exact hK)) | (refine Mix.sf_skipA rfl rfl rfl rfl ?_; apply Exists.intro; refine ⟨?_, ?_⟩; · (intro K hK; go_step; exact hK)) | (refine Mix.sf_skipL rfl rfl rfl rfl ?_ hC; apply Exists.intro; refine ⟨?_, ?_⟩; · (intro K hK; go_step; exact hK); clear hC; intro wL hC))
      refine Mix.sf_nil ?_
      clear c0 c1 c2 c3 d0 d1 d2 d3 hcall
      go_wp2
      go_roundw
      case rel => exact ⟨k + 1, by omega, by go_num, hbw.trans (hC.mono hbw.size)⟩
      case measure => simp [intOf]; omega
    · have hke : k = n := by omega
      subst hke
      go_wp2
      go_ret
      exact ⟨rfl, hbw⟩

end Go.Proofs.Ytggbdmgonobefaa
