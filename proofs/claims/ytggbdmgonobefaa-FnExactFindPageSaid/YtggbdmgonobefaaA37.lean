/-
  What lists are lists of pages, by the program and by the reference.
  Conditions: the list reads as pages; lengths fit.
-/
import Derived.Test.YtggbdmgonobefaaPg2
namespace Go.Proofs.Ytggbdmgonobefaa
open Go.RowKit
set_option linter.unusedVariables false
set_option linter.unusedSimpArgs false

theorem bytes_total : ∀ a b : List UInt8, (Op.bytesLess a b || a == b) = !Op.bytesLess b a
  | [], [] => rfl
  | [], _ :: _ => rfl
  | _ :: _, [] => rfl
  | x :: a, y :: b => by
    have ih := bytes_total a b
    simp only [Op.bytesLess, List.cons_beq_cons]
    rcases Nat.lt_trichotomy x.toNat y.toNat with h | h | h
    · have h1 : x < y := h
      have h2 : ¬ y < x := fun h' => by have : y.toNat < x.toNat := h'; omega
      have h3 : ¬ y = x := fun h' => by rw [h'] at h; omega
      simp [h1, h2, h3]
    · have h1 : x = y := UInt8.toNat_inj.1 h
      subst h1
      have h2 : ¬ x < x := fun h' => by have : x.toNat < x.toNat := h'; omega
      simpa [h2] using ih
    · have h1 : y < x := h
      have h2 : ¬ x < y := fun h' => by have : x.toNat < y.toNat := h'; omega
      have h3 : ¬ x = y := fun h' => by rw [h'] at h; omega
      simp [h1, h2, h3]

def noPage : PgD := ⟨ByteArray.empty, 0, 0, []⟩
def okAt (ps : List PgD) (k : Nat) : Bool := pageB (ps.getD k noPage).m (ps.getD k noPage).W (ps.getD k noPage).H (ps.getD k noPage).xs && (k == 0 || Op.bytesLess (ps.getD (k - 1) noPage).m.toList (ps.getD k noPage).m.toList)
/-- Whether a list is one of pages. -/
def arePgs (ps : List PgD) : Bool := decide (∀ k, k < ps.length → okAt ps k = true) && decide (ps.length ≤ 8)

theorem arePgs_no {ps : List PgD} {k : Nat} (hk : k < ps.length) (h : okAt ps k = false) : arePgs ps = false := by
  have : ¬ ∀ k, k < ps.length → okAt ps k = true := fun hh => by rw [hh k hk] at h; cases h
  rw [arePgs, decide_eq_false this, Bool.false_and]
theorem arePgs_end {ps : List PgD} (h : ∀ k, k < ps.length → okAt ps k = true) : arePgs ps = decide (ps.length ≤ 8) := by rw [arePgs, decide_eq_true h, Bool.true_and]

theorem okAt_step {ps : List PgD} {k : Nat} (hall : ∀ j, j < k → okAt ps j = true) (h : okAt ps k = true) : ∀ j, j < k + 1 → okAt ps j = true := fun j hj => by
  by_cases hjk : j = k
  · rw [hjk]; exact h
  · exact hall j (by omega)

theorem PgL.page {w : World} {ad : Option Addr} {n cap : Nat} {ps : List PgD} (h : PgL w (.slice ad n cap) ps) (hn : n = ps.length) (i : Nat) (hi : i < n) : ∃ b off lv, ad = some ⟨b, off, none⟩ ∧ PgAt w b (off + i * 4) (ps.getD i noPage) lv := by
  have hx : i < ps.length := by omega
  have := h.at i (List.getElem?_eq_getElem hx)
  simpa [hx] using this

theorem fits_getD {ps : List PgD} (h : ∀ p ∈ ps, p.fits) {i : Nat} (hi : i < ps.length) : (ps.getD i noPage).fits := by
  have := h ps[i] (List.getElem_mem hi)
  simpa [hi] using this

set_option maxHeartbeats 4000000 in
set_option maxRecDepth 100000 in
theorem implArePages_any (ps : List PgD) (v : Value) (w : World) (ha : PgL w v ps) (hl : ps.length ≤ 140737488351232) (f1 : ∀ p ∈ ps, p.fits) :
    Calls Try.prog 72 #[v] w fun e w' => e = .returned (.bool (arePgs ps)) ∧ Below w.heap.size w w' := by
  obtain ⟨ad, cp, hv⟩ := ha.form
  obtain ⟨n, hn⟩ : ∃ n, n = ps.length := ⟨_, rfl⟩
  rw [← hn] at hv hl
  subst hv
  have Hn := hid hn
  have Ha := hid ha
  have F1 := hid f1
  clear hn ha f1
  go_enter Try.func72, Try.ntmps72
  go_wp2
  go_loopw [3, 7] (fun _ i wr => ∃ k : Nat, k ≤ n ∧ i = .int .i64 k ∧ (∀ j, j < k → okAt ps j = true) ∧ Below w.heap.size w wr) (fun _ i _ => n - (intOf i).toNat)
  case atStart => exact ⟨0, Nat.zero_le _, rfl, fun j h => absurd h (Nat.not_lt_zero _), Below.refl _ _⟩
  case round =>
    obtain ⟨k, hk, rfl, hidx, hbw⟩ := hrel
    have Hidx := hid hidx
    clear hidx
    by_cases hlt : k < n
    · obtain ⟨b, off, lv, rfl, hat⟩ := (Ha.out.mono hbw).page Hn.out k hlt
      obtain ⟨hm, hx⟩ := fits_getD F1.out (show k < ps.length by rw [← Hn.out]; exact hlt)
      have hno : okAt ps k = false → arePgs ps = false := arePgs_no (by rw [← Hn.out]; exact hlt)
      have hyes : okAt ps k = true → ∀ j, j < k + 1 → okAt ps j = true := okAt_step Hidx.out
      have hok : okAt ps k = (pageB (ps.getD k noPage).m (ps.getD k noPage).W (ps.getD k noPage).H (ps.getD k noPage).xs && (k == 0 || Op.bytesLess (ps.getD (k - 1) noPage).m.toList (ps.getD k noPage).m.toList)) := rfl
      obtain ⟨p, hp⟩ : ∃ p, p = ps.getD k noPage := ⟨_, rfl⟩
      rw [← hp] at hat hm hx hok
      have hprev : 0 < k → ∃ lv', PgAt wr b (off + (k - 1) * 4) (ps.getD (k - 1) noPage) lv' := fun h0 => by
        obtain ⟨b', off', lv', he, h⟩ := (Ha.out.mono hbw).page Hn.out (k - 1) (by omega)
        simp only [Option.some.injEq, Addr.mk.injEq, and_true] at he
        obtain ⟨rfl, rfl⟩ := he
        exact ⟨lv', h⟩
      have hcall := fun w2 (h : Below wr.heap.size wr w2) => implValidPage_any p.m p.W p.H lv p.xs w2 (hat.sl.mono h) hm hx
      obtain ⟨ad2, cap2, hlv⟩ := hat.sl.form
      obtain ⟨n1, hn1⟩ : ∃ n, n = (p.xs.map fv).length := ⟨_, rfl⟩
      rw [← hn1] at hlv
      subst hlv
      have c0 := hat.c0
      have c1 := hat.c1
      have c2 := hat.c2
      have c3 := hat.c3
      have hbl := hat.lt
      have bk := Blk.new wr [.string p.m, .int .i64 p.W, .int .i64 p.H, .slice ad2 n1 cap2] 96
      have bw : Below wr.heap.size wr (wr.alloc (.cells [Value.string p.m, .int .i64 p.W, .int .i64 p.H, .slice ad2 n1 cap2].toArray 96)) := (Below.refl _ _).alloc (Nat.le_refl _) _
      obtain ⟨w1, hw1⟩ : ∃ w1, w1 = wr.alloc (.cells #[.string p.m, .int .i64 p.W, .int .i64 p.H, .slice ad2 n1 cap2] 96) := ⟨_, rfl⟩
      rw [show wr.alloc (.cells [Value.string p.m, .int .i64 p.W, .int .i64 p.H, .slice ad2 n1 cap2].toArray 96) = w1 from hw1.symm] at bk bw
      have k0 := bk.cell 0
      have k1 := bk.cell 1
      have k2 := bk.cell 2
      have k3 := bk.cell 3
      have hBw := bk.lt
      have hblw : b < w1.heap.size := Nat.lt_of_lt_of_le hbl bw.size
      obtain ⟨B, hB⟩ : ∃ B, B = wr.heap.size := ⟨_, rfl⟩
      have hcall1 := fun w2 (h : Below w1.heap.size w1 w2) => hcall w2 (bw.trans (h.mono bw.size))
      have hbw1 := hbw.trans (bw.mono hbw.size)
      have Hyes := hid hyes
      have Hno := hid hno
      have Hok := hid hok
      rcases (show pageB p.m p.W p.H p.xs = false ∨ (pageB p.m p.W p.H p.xs = true ∧ k = 0) ∨ (pageB p.m p.W p.H p.xs = true ∧ ∃ j, k = j + 1) by
        cases pageB p.m p.W p.H p.xs
        · exact .inl rfl
        · cases k with
          | zero => exact .inr (.inl ⟨rfl, rfl⟩)
          | succ j => exact .inr (.inr ⟨rfl, j, rfl⟩)) with hpb | ⟨hpb, rfl⟩ | ⟨hpb, j, rfl⟩
      · have HR := hid (Hno.out (by rw [Hok.out, hpb, Bool.false_and]))
        rw [hpb] at hcall1
        clear hyes hno hok hat hn1 hm hx hprev hcall bk bw hp
        go_wp2
        rw [← hB] at k0 k1 k2 k3 hBw ⊢
        rw [← hw1]
        clear hB hw1
        refine Mix.wp_mix [.S, .A, .S, .S, .S, .S, .S, .S, .S, .S, .S, .S, .S, .S, .S, .S, .S, .S] [0, 1, 2, 3, 4, 5, 6, 7, 8, 9, 10, 11, 12, 13, 14, 15, 16, 17] (Below w1.heap.size w1) (by kernel_rfl) (by kernel_rfl) ((Below.refl _ _).drew) ?_
        have hC : Below w1.heap.size w1 w1.drew := (Below.refl _ _).drew
        generalize w1.drew = w2 at hC ⊢
        repeat (first | (refine Mix.sf_S rfl rfl rfl rfl rfl (Mix.valOp_spec rfl) hC ?_; apply Exists.intro; refine ⟨?_, ?_⟩; · (intro w' hC' K hK; have hk := (bcell hC').1; go_step; exact hK)) | (refine Mix.sf_skipS rfl rfl rfl rfl ?_; apply Exists.intro; refine ⟨?_, ?_⟩; · (intro K hK; go_step; exact hK)) | (refine Mix.sf_skipA rfl rfl rfl rfl ?_; apply Exists.intro; refine ⟨?_, ?_⟩; · (intro K hK; go_step; exact hK)) | (refine Mix.sf_skipL rfl rfl rfl rfl ?_ hC; apply Exists.intro; refine ⟨?_, ?_⟩; · (intro K hK; go_step; exact hK); clear hC; intro wL hC))
        refine Mix.sf_A rfl rfl rfl ?_; intro K hK; go_step
        refine (hcall1 _ hC).mono ?_
        rintro e w3 ⟨rfl, hb3⟩
        refine hK _ _ (hC.trans (hb3.mono hC.size)) ?_
        replace hC := hC.trans (hb3.mono hC.size)
        clear hK K hb3
        repeat (first | (refine Mix.sf_S rfl rfl rfl rfl rfl (Mix.valOp_spec rfl) hC ?_; apply Exists.intro; refine ⟨?_, ?_⟩; · (intro w' hC' K hK; have hk := (bcell hC').1; go_step; exact hK)) | (refine Mix.sf_skipS rfl rfl rfl rfl ?_; apply Exists.intro; refine ⟨?_, ?_⟩; · (intro K hK; go_step; exact hK)) | (refine Mix.sf_skipA rfl rfl rfl rfl ?_; apply Exists.intro; refine ⟨?_, ?_⟩; · (intro K hK; go_step; exact hK)) | (refine Mix.sf_skipL rfl rfl rfl rfl ?_ hC; apply Exists.intro; refine ⟨?_, ?_⟩; · (intro K hK; go_step; exact hK); clear hC; intro wL hC))
        refine Mix.sf_nil ?_
        clear c0 c1 c2 c3 k0 k1 k2 k3 hcall1
        go_wp2
        go_ret
        exact ⟨ret_bool HR.out.symm, hbw1.trans (hC.mono hbw1.size)⟩
      · have HR := hid (Hyes.out (by rw [Hok.out, hpb]; rfl))
        rw [Nat.zero_mul, Nat.add_zero] at c0 c1 c2 c3
        rw [hpb] at hcall1
        clear hyes hno hok hat hn1 hm hx hprev hcall bk bw hp
        go_wp2
        rw [← hB] at k0 k1 k2 k3 hBw ⊢
        rw [← hw1]
        clear hB hw1
        refine Mix.wp_mix [.S, .A, .S, .S, .S, .S, .S, .S, .S, .S, .S, .S, .S, .S, .S, .S, .S, .S] [0, 1, 2, 3, 4, 5, 6, 7, 8, 9, 10, 11, 12, 13, 14, 15, 16, 17] (Below w1.heap.size w1) (by kernel_rfl) (by kernel_rfl) ((Below.refl _ _).drew) ?_
        have hC : Below w1.heap.size w1 w1.drew := (Below.refl _ _).drew
        generalize w1.drew = w2 at hC ⊢
        repeat (first | (refine Mix.sf_S rfl rfl rfl rfl rfl (Mix.valOp_spec rfl) hC ?_; apply Exists.intro; refine ⟨?_, ?_⟩; · (intro w' hC' K hK; have hk := (bcell hC').1; go_step; exact hK)) | (refine Mix.sf_skipS rfl rfl rfl rfl ?_; apply Exists.intro; refine ⟨?_, ?_⟩; · (intro K hK; go_step; exact hK)) | (refine Mix.sf_skipA rfl rfl rfl rfl ?_; apply Exists.intro; refine ⟨?_, ?_⟩; · (intro K hK; go_step; exact hK)) | (refine Mix.sf_skipL rfl rfl rfl rfl ?_ hC; apply Exists.intro; refine ⟨?_, ?_⟩; · (intro K hK; go_step; exact hK); clear hC; intro wL hC))
        refine Mix.sf_A rfl rfl rfl ?_; intro K hK; go_step
        refine (hcall1 _ hC).mono ?_
        rintro e w3 ⟨rfl, hb3⟩
        refine hK _ _ (hC.trans (hb3.mono hC.size)) ?_
        replace hC := hC.trans (hb3.mono hC.size)
        clear hK K hb3
        repeat (first | (refine Mix.sf_S rfl rfl rfl rfl rfl (Mix.valOp_spec rfl) hC ?_; apply Exists.intro; refine ⟨?_, ?_⟩; · (intro w' hC' K hK; have hk := (bcell hC').1; go_step; exact hK)) | (refine Mix.sf_skipS rfl rfl rfl rfl ?_; apply Exists.intro; refine ⟨?_, ?_⟩; · (intro K hK; go_step; exact hK)) | (refine Mix.sf_skipA rfl rfl rfl rfl ?_; apply Exists.intro; refine ⟨?_, ?_⟩; · (intro K hK; go_step; exact hK)) | (refine Mix.sf_skipL rfl rfl rfl rfl ?_ hC; apply Exists.intro; refine ⟨?_, ?_⟩; · (intro K hK; go_step; exact hK); clear hC; intro wL hC))
        refine Mix.sf_nil ?_
        clear c0 c1 c2 c3 k0 k1 k2 k3 hcall1
        go_wp2
        go_roundw
        case rel => exact ⟨0 + 1, by omega, by go_num, HR.out, hbw1.trans (hC.mono hbw1.size)⟩
        case measure => simp [intOf]; omega
      · obtain ⟨lv', hat'⟩ := hprev (by omega)
        rw [Nat.add_sub_cancel] at hat'
        rw [hpb, Nat.add_sub_cancel] at hok
        obtain ⟨q, hq⟩ : ∃ q, q = ps.getD j noPage := ⟨_, rfl⟩
        rw [← hq] at hat' hok
        have d0 := (bw.cell hbl).trans hat'.c0
        have htot := bytes_total p.m.toList q.m.toList
        rw [hpb] at hcall1
        have Hok := hid hok
        clear hyes hno hok hat hat' hn1 hm hx hprev hcall bk bw hp hq
        rcases (show (Op.bytesLess q.m.toList p.m.toList = true ∧ Op.bytesLess p.m.toList q.m.toList = false ∧ (p.m.toList == q.m.toList) = false) ∨ (Op.bytesLess q.m.toList p.m.toList = false ∧ Op.bytesLess p.m.toList q.m.toList = true) ∨ (Op.bytesLess q.m.toList p.m.toList = false ∧ Op.bytesLess p.m.toList q.m.toList = false ∧ (p.m.toList == q.m.toList) = true) by
          revert htot
          cases Op.bytesLess q.m.toList p.m.toList <;> cases Op.bytesLess p.m.toList q.m.toList <;> cases (p.m.toList == q.m.toList) <;> simp) with ⟨h1, h2, h3⟩ | ⟨h1, h2⟩ | ⟨h1, h2, h3⟩
        all_goals clear htot
        · have HR := hid (Hyes.out (by rw [Hok.out, h1]; simp))
          go_wp2
          rw [← hB] at k0 k1 k2 k3 hBw ⊢
          rw [← hw1]
          clear hB hw1
          refine Mix.wp_mix [.S, .A, .S, .S, .S, .S, .S, .S, .S, .S, .S, .S, .S, .S, .S, .S, .S, .S] [0, 1, 2, 3, 4, 5, 6, 7, 8, 9, 10, 11, 12, 13, 14, 15, 16, 17] (Below w1.heap.size w1) (by kernel_rfl) (by kernel_rfl) ((Below.refl _ _).drew) ?_
          have hC : Below w1.heap.size w1 w1.drew := (Below.refl _ _).drew
          generalize w1.drew = w2 at hC ⊢
          repeat (first | (refine Mix.sf_S rfl rfl rfl rfl rfl (Mix.valOp_spec rfl) hC ?_; apply Exists.intro; refine ⟨?_, ?_⟩; · (intro w' hC' K hK; have hk := (bcell hC').1; go_step; exact hK)) | (refine Mix.sf_skipS rfl rfl rfl rfl ?_; apply Exists.intro; refine ⟨?_, ?_⟩; · (intro K hK; go_step; exact hK)) | (refine Mix.sf_skipA rfl rfl rfl rfl ?_; apply Exists.intro; refine ⟨?_, ?_⟩; · (intro K hK; go_step; exact hK)) | (refine Mix.sf_skipL rfl rfl rfl rfl ?_ hC; apply Exists.intro; refine ⟨?_, ?_⟩; · (intro K hK; go_step; exact hK); clear hC; intro wL hC))
          refine Mix.sf_A rfl rfl rfl ?_; intro K hK; go_step
          refine (hcall1 _ hC).mono ?_
          rintro e w3 ⟨rfl, hb3⟩
          refine hK _ _ (hC.trans (hb3.mono hC.size)) ?_
          replace hC := hC.trans (hb3.mono hC.size)
          clear hK K hb3
          repeat (first | (refine Mix.sf_S rfl rfl rfl rfl rfl (Mix.valOp_spec rfl) hC ?_; apply Exists.intro; refine ⟨?_, ?_⟩; · (intro w' hC' K hK; have hk := (bcell hC').1; go_step; exact hK)) | (refine Mix.sf_skipS rfl rfl rfl rfl ?_; apply Exists.intro; refine ⟨?_, ?_⟩; · (intro K hK; go_step; exact hK)) | (refine Mix.sf_skipA rfl rfl rfl rfl ?_; apply Exists.intro; refine ⟨?_, ?_⟩; · (intro K hK; go_step; exact hK)) | (refine Mix.sf_skipL rfl rfl rfl rfl ?_ hC; apply Exists.intro; refine ⟨?_, ?_⟩; · (intro K hK; go_step; exact hK); clear hC; intro wL hC))
          refine Mix.sf_nil ?_
          clear c0 c1 c2 c3 k0 k1 k2 k3 hcall1 d0
          go_wp2
          go_roundw
          case rel => exact ⟨j + 1 + 1, by omega, by go_num, HR.out, hbw1.trans (hC.mono hbw1.size)⟩
          case measure => simp [intOf]; omega
        all_goals
          have HR := hid (Hno.out (by rw [Hok.out, h1]; simp))
          go_wp2
          rw [← hB] at k0 k1 k2 k3 hBw ⊢
          rw [← hw1]
          clear hB hw1
          refine Mix.wp_mix [.S, .A, .S, .S, .S, .S, .S, .S, .S, .S, .S, .S, .S, .S, .S, .S, .S, .S] [0, 1, 2, 3, 4, 5, 6, 7, 8, 9, 10, 11, 12, 13, 14, 15, 16, 17] (Below w1.heap.size w1) (by kernel_rfl) (by kernel_rfl) ((Below.refl _ _).drew) ?_
          have hC : Below w1.heap.size w1 w1.drew := (Below.refl _ _).drew
          generalize w1.drew = w2 at hC ⊢
          repeat (first | (refine Mix.sf_S rfl rfl rfl rfl rfl (Mix.valOp_spec rfl) hC ?_; apply Exists.intro; refine ⟨?_, ?_⟩; · (intro w' hC' K hK; have hk := (bcell hC').1; go_step; exact hK)) | (refine Mix.sf_skipS rfl rfl rfl rfl ?_; apply Exists.intro; refine ⟨?_, ?_⟩; · (intro K hK; go_step; exact hK)) | (refine Mix.sf_skipA rfl rfl rfl rfl ?_; apply Exists.intro; refine ⟨?_, ?_⟩; · (intro K hK; go_step; exact hK)) | (refine Mix.sf_skipL rfl rfl rfl rfl ?_ hC; apply Exists.intro; refine ⟨?_, ?_⟩; · (intro K hK; go_step; exact hK); clear hC; intro wL hC))
          refine Mix.sf_A rfl rfl rfl ?_; intro K hK; go_step
          refine (hcall1 _ hC).mono ?_
          rintro e w3 ⟨rfl, hb3⟩
          refine hK _ _ (hC.trans (hb3.mono hC.size)) ?_
          replace hC := hC.trans (hb3.mono hC.size)
          clear hK K hb3
          repeat (first | (refine Mix.sf_S rfl rfl rfl rfl rfl (Mix.valOp_spec rfl) hC ?_; apply Exists.intro; refine ⟨?_, ?_⟩; · (intro w' hC' K hK; have hk := (bcell hC').1; go_step; exact hK)) | (refine Mix.sf_skipS rfl rfl rfl rfl ?_; apply Exists.intro; refine ⟨?_, ?_⟩; · (intro K hK; go_step; exact hK)) | (refine Mix.sf_skipA rfl rfl rfl rfl ?_; apply Exists.intro; refine ⟨?_, ?_⟩; · (intro K hK; go_step; exact hK)) | (refine Mix.sf_skipL rfl rfl rfl rfl ?_ hC; apply Exists.intro; refine ⟨?_, ?_⟩; · (intro K hK; go_step; exact hK); clear hC; intro wL hC))
          refine Mix.sf_nil ?_
          clear c0 c1 c2 c3 k0 k1 k2 k3 hcall1 d0
          go_wp2
          go_ret
          exact ⟨ret_bool HR.out.symm, hbw1.trans (hC.mono hbw1.size)⟩
    · have hke : k = n := by omega
      have HR := hid (arePgs_end fun j hj => Hidx.out j (by rw [hke, Hn.out]; exact hj))
      rw [← Hn.out] at HR
      clear hke
      by_cases h8 : (n : Int) ≤ 8
      · go_wp2
        go_ret
        exact ⟨ret_bool (by rw [HR.out]; symm; simp; omega), hbw⟩
      · go_wp2
        go_ret
        exact ⟨ret_bool (by rw [HR.out]; symm; simp; omega), hbw⟩

end Go.Proofs.Ytggbdmgonobefaa
