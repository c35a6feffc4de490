/-
  The seam of the least cost through some costs, by the program.
  Conditions: the costs read as a row of cells; sides fit.
-/
import Derived.Test.YtggbdmgonobefaaA52
import Derived.Test.YtggbdmgonobefaaMixP
namespace Go.Proofs.Ytggbdmgonobefaa
open Go.RowKit
set_option linter.unusedVariables false
set_option linter.unusedSimpArgs false
attribute [local go_sem] Fl.run_fadd Fl.run_fsub Fl.run_fmul Fl.run_fquo Fl.run_wide Fl.run_store_float

theorem wp_make_F {P : Program} {o : Oper} {a : Act} {w : World} {K : Act → World → Prop} {d : Tmp} {l0 c0 : Operand} {t : TypeId} (hdst : o.dst = some d)
    (hop : o.op = .makeSlice t l0 c0) (base : Nat) (e : TypeId) (i0 : TypeInfo) (z : Value) (size : Nat) (h1 : P.underlying t = some (.slice e)) (h2 : P.info? e = some i0) (h3 : i0.zero = some z) (h4 : i0.size = size)
    (kl kc : IntKind) (n : Nat) (hl : a.eval l0 = .int kl n) (hc : a.eval c0 = .int kc n) (b2 : i0.bytes * n ≤ 281474976710656) (b3 : n ≤ maxLen) (b4 : base ≤ w.heap.size)
    (h : ∀ w', w'.ownsRow base e size (.slice (some ⟨w.heap.size, 0, none⟩) n n) n (madeCells z.cells (n * size)).toList → w.grownBy w' none →
      ∃ a' : Act, (∀ K : Act → World → Prop, K a' w' → Oper.wp P { dst := some d, op := .move (.const (.slice (some ⟨w.heap.size, 0, none⟩) n n)), type := 0, pos := "", after := #[], guard := none } a w' K Mix.Qf) ∧ K a' w') : o.wp P a w K Mix.Qf := by
  obtain ⟨w', hr, r1, r2⟩ := run_make_full (P := P) w base t e i0 z size h1 h2 h3 h4 kl kc n b2 b3 b4
  unfold Oper.wp
  simp only [execOp, hop, hl, hc, hr, Sem.run_bind, Sem.run_pure, Result.andThen_ok]
  obtain ⟨a', h5, h6⟩ := h w' r1 r2
  show K (a.put o.dst _) w'
  rw [hdst, Mix.of_put h5]
  exact h6

def leastR (W H : Nat) (xs : List Nat) : Option (List Int × Nat) := if allFin (costAll W H xs) then some (seamL W H (costAll W H xs), seamN W H (costAll W H xs)) else none

def SeamRes (w : World) (r : Option (List Int × Nat)) (e : Ending) (w' : World) : Prop :=
  match r with
  | none => e = .returned (.tuple #[.slice none 0 0, fv 0, .bool false]) ∧ Below w.heap.size w w'
  | some (s, c) => ∃ sv r, e = .returned (.tuple #[sv, fv r, .bool true]) ∧ Fl.nf .f32 r = c ∧ w'.ownsRow w.heap.size 2 1 sv s.length (s.map iv) ∧ Below w.heap.size w w'

theorem entLS1 (args : Array Value) (w : World) : (callFunc 156 args).run Try.prog w = .ok (.enter 156 args) w := by kernel_rfl

set_option maxHeartbeats 16000000 in
set_option maxRecDepth 100000 in
theorem leastSeam_any (W H : Nat) (v : Value) (xs : List Nat) (w : World) (hx : Sl w v (xs.map fv)) (hl : xs.length = W * H) (hW : W ≤ 16) (hH : H ≤ 16) (hW1 : 1 ≤ W) (hH1 : 1 ≤ H) :
    Calls Try.prog 89 #[.agg #[.int .i64 W, .int .i64 H, v]] w (SeamRes w (leastR W H xs)) := by
  have hmf : ∀ (fn : Fn) (first cap : Array Value) (w : World), (Instr.makeFunc fn first cap).run Try.prog w = .ok (.func fn first cap) w := fun _ _ _ _ => rfl
  have hent := entLS1
  obtain ⟨iI, hiI, hiI0, hiI1, hiI2⟩ := info_parts Try.infoI
  obtain ⟨q, hq⟩ : ∃ q, q = xs.length := ⟨_, rfl⟩
  have hmn : W * H ≤ 256 := by have : W * H ≤ 16 * 16 := Nat.mul_le_mul hW hH; omega
  have hpos : 0 < W * H := Nat.mul_pos hW1 hH1
  have hqWH : q = W * H := hq.trans hl
  have hWq : W ≤ q := by rw [hqWH]; exact Nat.le_mul_of_pos_right W hH1
  have hq256 : q ≤ 256 := by omega
  have Hq := hid hq
  have HqWH := hid hqWH
  obtain ⟨L0, hL0⟩ : ∃ L, L = (H - 1) * W := ⟨_, rfl⟩
  have hL0q : L0 + W = q := by rw [hL0, mul_pred hH1, hqWH, Nat.mul_comm]
  have HL0 := hid hL0
  obtain ⟨w1, hw1⟩ : ∃ w1, w1 = w.alloc (.cells #[.int .i64 W, .int .i64 H, v] 32) := ⟨_, rfl⟩
  have hI := (Inv.start w).alloc [.int .i64 W, .int .i64 H, v] 32
  rw [show w.alloc (.cells [Value.int .i64 W, .int .i64 H, v].toArray 32) = w1 from hw1.symm] at hI
  have hcopy := copied_any W H v xs w1 (hI.arg hx) (by omega) (by omega)
  obtain ⟨B0, hB0⟩ : ∃ B, B = w.heap.size := ⟨_, rfl⟩
  rw [← hB0] at hI
  rw [← hq] at hcopy
  obtain ⟨R, hR⟩ : ∃ R, R = leastR W H xs := ⟨_, rfl⟩
  rw [← hR]
  have HR := hid hR
  obtain ⟨C, hC0⟩ : ∃ C, C = costAll W H xs := ⟨_, rfl⟩
  have HC0 := hid hC0
  obtain ⟨ad0, cap0, hv⟩ := hx.form
  obtain ⟨m0, hm0⟩ : ∃ m, m = (xs.map fv).length := ⟨_, rfl⟩
  rw [← hm0] at hv
  subst hv
  have Hst0 := hid (show CostSt W xs q W xs by
    have := CostSt.start (W := W) (es := xs) (ys := xs) rfl (by rw [← hq]; exact hWq)
    rwa [← hq] at this)
  clear hx hl hmn hpos hqWH hL0 hR hC0 hm0 hq
  go_enter Try.func89, Try.ntmps89
  go_wp2_with fail
  rw [← hw1, ← hB0]
  have HB0 := hid hB0
  clear hw1 hB0
  refine hcopy.mono ?_
  rintro e w2 ⟨ad, cap, rfl, hown, hb2⟩
  clear hcopy
  obtain ⟨ad', cap', hv', had⟩ := own_form' hown
  simp only [Value.slice.injEq, true_and] at hv'
  obtain ⟨rfl, rfl⟩ := hv'
  obtain ⟨g, rfl, -, -⟩ := had (by omega)
  replace hI := (hI.fresh hb2 hown).alloc [.int .i64 W, .int .i64 H, .slice (some ⟨g, 0, none⟩) q cap] 32
  obtain ⟨w3, hw3⟩ : ∃ w3, w3 = w2.alloc (.cells #[.int .i64 W, .int .i64 H, .slice (some ⟨g, 0, none⟩) q cap] 32) := ⟨_, rfl⟩
  rw [show w2.alloc (.cells [Value.int .i64 W, .int .i64 H, .slice (some ⟨g, 0, none⟩) q cap].toArray 32) = w3 from hw3.symm] at hI
  obtain ⟨B1, hB1⟩ : ∃ B, B = w2.heap.size := ⟨_, rfl⟩
  rw [← hB1] at hI
  clear had hown hb2
  go_wp2
  rw [← hw3, ← hB1]
  clear hw3 hB1
  have HI0 := hid hI
  clear hI
  go_loopw [7] (fun c wr => ∃ (y : Nat) (ys : List Nat), 1 ≤ y ∧ y ≤ H ∧ c = .int .i64 y ∧ CostSt W xs q (y * W) ys ∧ Inv w wr [(B1, [.int .i64 W, .int .i64 H, .slice (some ⟨g, 0, none⟩) q cap], 32), (B0, [.int .i64 W, .int .i64 H, .slice ad0 m0 cap0], 32)] [(.slice (some ⟨g, 0, none⟩) q cap, 52, ys.map fv)]) (fun c _ => H - (intOf c).toNat)
  case atStart => exact ⟨1, xs, Nat.le_refl _, hH1, rfl, by rw [Nat.one_mul]; exact Hst0.out, HI0.out⟩
  case round =>
    obtain ⟨y, ys, hy1, hyH, rfl, hst, hI⟩ := hrel
    have k0 := (hI.blk 1 rfl).cell 0
    have k1 := (hI.blk 1 rfl).cell 1
    have hlb := (hI.blk 1 rfl).lt
    have HI := hid hI
    have Hst := hid hst
    clear hI hst
    by_cases hlt : y < H
    · obtain ⟨p, rfl⟩ : ∃ p, y = p + 1 := ⟨y - 1, by omega⟩
      have hpI : (((p + 1 : Nat)) : Int) = (p : Int) + 1 := by omega
      go_wp2
      go_loopw [26] (fun c wr => ∃ (x : Nat) (ys : List Nat), x ≤ W ∧ c = .int .i64 x ∧ CostSt W xs q ((p + 1) * W + x) ys ∧ Inv w wr [(B1, [.int .i64 W, .int .i64 H, .slice (some ⟨g, 0, none⟩) q cap], 32), (B0, [.int .i64 W, .int .i64 H, .slice ad0 m0 cap0], 32)] [(.slice (some ⟨g, 0, none⟩) q cap, 52, ys.map fv)]) (fun c _ => W - (intOf c).toNat)
      case atStart => exact ⟨0, ys, Nat.zero_le _, rfl, by rw [Nat.add_zero]; exact Hst.out, HI.out⟩
      case round =>
        clear Hst HI k0 k1 hlb
        obtain ⟨x, zs, hxW, rfl, hst, hI⟩ := hrel
        have k0 := (hI.blk 1 rfl).cell 0
        have hlb := (hI.blk 1 rfl).lt
        by_cases hltx : x < W
        · obtain ⟨i, hi⟩ : ∃ i, i = (p + 1) * W + x := ⟨_, rfl⟩
          have hiq : i < q := by
            rw [hi, HqWH.out]
            exact at_lt hltx hlt
          have hiI : ((p : Int) + 1) * (W : Int) + x = i := by rw [hi]; simp
          have hdv : i / W = p + 1 := by rw [hi, Nat.add_comm, Nat.mul_comm, Nat.add_mul_div_left _ _ hW1, Nat.div_eq_of_lt hltx, Nat.zero_add]
          have hmd : i % W = x := by rw [hi, Nat.add_comm, Nat.mul_comm, Nat.add_mul_mod_self_left, Nat.mod_eq_of_lt hltx]
          have hWi : W ≤ i := by rw [hi, Nat.succ_mul]; omega
          rw [← hi] at hst
          have hzl : zs.length = q := hst.len
          have hi2 : i = p * W + W + x := by rw [hi, Nat.succ_mul]
          have hbest := fun (w3 : World) (h : Below wr.heap.size wr w3) => leastSeam1_any W H x p B0 B1 _ zs w3 (((hI.call h).blk 1 rfl).cell 0) ⟨((hI.call h).blk 0 rfl).cell 0, ((hI.call h).blk 0 rfl).cell 1, ((hI.call h).blk 0 rfl).cell 2, (hI.call h).sl 0 rfl⟩ hW hltx (by omega) (by rw [hzl]; omega)
          obtain ⟨k, hk⟩ : ∃ k, k = above W (rowOf W zs p) x := ⟨_, rfl⟩
          have hkW : k < W := by rw [hk]; exact above_lt hltx
          rw [← hk] at hbest
          have hat := fun (w3 : World) (h : Below wr.heap.size wr w3) => at_any W H _ zs k p w3 ((hI.call h).sl 0 rfl) (by rw [hzl]; omega) hW (by omega) (by omega)
          obtain ⟨j, hj⟩ : ∃ j, j = p * W + k := ⟨_, rfl⟩
          have Hnext := hid (show ∀ r, Fl.nf .f32 r = Fl.fop .add .f32 (zs.getD i 0) (zs.getD j 0) → CostSt W xs q (i + 1) (zs.set i r) from fun r hr => by
            refine hst.step hiq hWi hW1 ?_
            rw [hdv, hmd, Nat.add_sub_cancel, hr, ← hk, ← hj])
          rw [← hj] at hat
          have hrw := hI.row 0 rfl
          obtain ⟨g1, off1, hg1, cA, -, hgl⟩ := (hI.sl 0 rfl).two hzl.symm i i hiq hiq
          simp only [Option.some.injEq, Addr.mk.injEq, and_true] at hg1
          obtain ⟨rfl, rfl⟩ := hg1
          obtain ⟨A, hA⟩ : ∃ A, A = zs.getD i 0 := ⟨_, rfl⟩
          obtain ⟨B, hBd⟩ : ∃ B, B = zs.getD j 0 := ⟨_, rfl⟩
          rw [← hA, Nat.zero_add] at cA
          rw [← hBd] at hat
          rw [← hA, ← hBd] at Hnext
          have q0 := (hI.blk 0 rfl).cell 0
          have q1 := (hI.blk 0 rfl).cell 1
          have q2 := (hI.blk 0 rfl).cell 2
          have hlb1 := (hI.blk 0 rfl).lt
          have Hbest := hid hbest
          have Hat := hid hat
          have HI := hid hI
          have Hzl := hid hzl
          have Hi := hid hi
          clear hst hI hi hdv hmd hi2 hk hj hA hBd hzl hrw hbest hat hWi
          go_wp2
          refine Mix.wp_mix [.S, .S, .S, .S, .S, .S, .S, .S, .S, .S, .S, .S, .S, .S, .S, .A, .S, .S, .A, .L, .S, .T] [0, 1, 2, 3, 4, 5, 6, 7, 8, 9, 10, 11, 12, 13, 14, 16, 17, 15, 18, 19, 20, 21] (Below wr.heap.size wr) (by kernel_rfl) (by kernel_rfl) ((Below.refl _ _).drew) ?_
          have hC : Below wr.heap.size wr wr.drew := (Below.refl _ _).drew
          generalize wr.drew = w4 at hC ⊢
          repeat (first | (refine Mix.sf_S rfl rfl rfl rfl rfl (Mix.valOp_spec rfl) hC ?_; apply Exists.intro; refine ⟨?_, ?_⟩; · (intro w' hC' K hK; have hk := (bcell hC').1; go_step; exact hK)) | (refine Mix.sf_skipS rfl rfl rfl rfl ?_; apply Exists.intro; refine ⟨?_, ?_⟩; · (intro K hK; go_step; exact hK)) | (refine Mix.sf_skipA rfl rfl rfl rfl ?_; apply Exists.intro; refine ⟨?_, ?_⟩; · (intro K hK; go_step; exact hK)) | (refine Mix.sf_skipL rfl rfl rfl rfl ?_ hC; apply Exists.intro; refine ⟨?_, ?_⟩; · (intro K hK; go_step; exact hK); clear hC; intro wL hC))
          refine Mix.sf_A rfl rfl rfl ?_; intro K hK; go_step
          refine (Hbest.out _ hC).mono ?_
          rintro e' w5 ⟨rfl, hb5⟩
          refine hK _ _ (hC.trans (hb5.mono hC.size)) ?_
          replace hC := hC.trans (hb5.mono hC.size)
          clear hK K hb5
          repeat (first | (refine Mix.sf_S rfl rfl rfl rfl rfl (Mix.valOp_spec rfl) hC ?_; apply Exists.intro; refine ⟨?_, ?_⟩; · (intro w' hC' K hK; have hk := (bcell hC').1; go_step; exact hK)) | (refine Mix.sf_skipS rfl rfl rfl rfl ?_; apply Exists.intro; refine ⟨?_, ?_⟩; · (intro K hK; go_step; exact hK)) | (refine Mix.sf_skipA rfl rfl rfl rfl ?_; apply Exists.intro; refine ⟨?_, ?_⟩; · (intro K hK; go_step; exact hK)) | (refine Mix.sf_skipL rfl rfl rfl rfl ?_ hC; apply Exists.intro; refine ⟨?_, ?_⟩; · (intro K hK; go_step; exact hK); clear hC; intro wL hC))
          refine Mix.sf_A rfl rfl rfl ?_; intro K hK; go_step
          refine (Hat.out _ hC).mono ?_
          rintro e' w6 ⟨rfl, hb6⟩
          refine hK _ _ (hC.trans (hb6.mono hC.size)) ?_
          replace hC := hC.trans (hb6.mono hC.size)
          clear hK K hb6
          repeat (first | (refine Mix.sf_S rfl rfl rfl rfl rfl (Mix.valOp_spec rfl) hC ?_; apply Exists.intro; refine ⟨?_, ?_⟩; · (intro w' hC' K hK; have hk := (bcell hC').1; go_step; exact hK)) | (refine Mix.sf_skipS rfl rfl rfl rfl ?_; apply Exists.intro; refine ⟨?_, ?_⟩; · (intro K hK; go_step; exact hK)) | (refine Mix.sf_skipA rfl rfl rfl rfl ?_; apply Exists.intro; refine ⟨?_, ?_⟩; · (intro K hK; go_step; exact hK)) | (refine Mix.sf_skipL rfl rfl rfl rfl ?_ hC; apply Exists.intro; refine ⟨?_, ?_⟩; · (intro K hK; go_step; exact hK); clear hC; intro wL hC))
          refine Mix.sf_Larith rfl rfl rfl rfl rfl rfl (by simp) rfl below_draws ?_; clear hC; intro t ht w7 hC; apply Exists.intro; refine ⟨?_, ?_⟩; · (intro K hK; go_step; exact hK)
          have Hnext := hid (Hnext.out t ht)
          clear ht
          repeat (first | (refine Mix.sf_S rfl rfl rfl rfl rfl (Mix.valOp_spec rfl) hC ?_; apply Exists.intro; refine ⟨?_, ?_⟩; · (intro w' hC' K hK; have hk := (bcell hC').1; go_step; exact hK)) | (refine Mix.sf_skipS rfl rfl rfl rfl ?_; apply Exists.intro; refine ⟨?_, ?_⟩; · (intro K hK; go_step; exact hK)) | (refine Mix.sf_skipA rfl rfl rfl rfl ?_; apply Exists.intro; refine ⟨?_, ?_⟩; · (intro K hK; go_step; exact hK)) | (refine Mix.sf_skipL rfl rfl rfl rfl ?_ hC; apply Exists.intro; refine ⟨?_, ?_⟩; · (intro K hK; go_step; exact hK); clear hC; intro wL hC))
          have HI := hid (HI.out.call hC)
          have hrow : w7.ownsRow w.heap.size 52 1 (.slice (some ⟨g, 0, none⟩) q cap) q (zs.map fv) := by
            have := HI.out.row 0 rfl
            rwa [List.length_map, Hzl.out] at this
          have hst := hrow.stored i (fv t)
          have hgc : w7.cell? ⟨g, i, none⟩ = some (fv A) := (hC.cell hgl).trans cA
          have hgf : w7.frozen? ⟨g, i, none⟩ = false := hrow.frozenAt i
          have HI2 := hid (HI.out.mark 0 rfl hst.2 (show (w7.setCell ⟨g, i, none⟩ (fv t)).ownsRow w.heap.size 52 1 (.slice (some ⟨g, 0, none⟩) q cap) (zs.map fv).length ((zs.set i t).map fv) by
            rw [List.length_map, Hzl.out, List.map_set]; exact hst.1))
          clear hrow hst HI cA
          refine Mix.sf_T rfl rfl rfl ?_; intro K hK; go_step
          refine hK _ _ ?_
          clear hK K hgc hgf
          refine Mix.sf_nil ?_
          clear k0 q0 q1 q2
          go_wp2
          go_roundw
          case rel => exact ⟨x + 1, zs.set i t, by omega, by go_num, by rw [show (p + 1) * W + (x + 1) = i + 1 by rw [Hi.out]; omega]; exact Hnext.out, HI2.out⟩
          case measure => simp [intOf]; omega
        · have hxe : W = x := by omega
          subst hxe
          have HI := hid hI
          have Hst := hid hst
          clear hI hst
          go_wp2
          go_roundw
          case rel => exact ⟨p + 1 + 1, zs, by omega, by omega, by go_num, by rw [Nat.succ_mul]; exact Hst.out, HI.out⟩
          case measure => simp [intOf]; omega
    · have hyH : y = H := by omega
      have hnl : nl ys = C := by
        have h1 := Hst.out
        rw [hyH, HqWH.out, Nat.mul_comm H W] at h1
        rw [HC0.out]
        exact h1.end
      have hylen : ys.length = q := Hst.out.len
      have hfin := areFinite_any ys _ wr (HI.out.sl 0 rfl) (by rw [hylen]; omega)
      rw [allFin_nl hnl] at hfin
      have q2 := (HI.out.blk 0 rfl).cell 2
      have hlb1 := (HI.out.blk 0 rfl).lt
      have Hyl := hid hylen
      have Hnl := hid hnl
      clear hnl hylen Hst
      cases hf : allFin C
      · rw [hf] at hfin
        have HRn := hid (show R = none by rw [HR.out, leastR, ← HC0.out, hf]; rfl)
        clear hf
        go_wp2_with fail
        refine hfin.mono ?_
        rintro e' w4 ⟨rfl, hb4⟩
        clear hfin
        have HI := hid (HI.out.call hb4)
        clear hb4
        go_wp2
        rw [HRn.out]
        exact bodyPost_ret (v := .tuple #[.slice none 0 0, fv 0, .bool false]) (by simp [results, Try.results89, go_sem]) rfl ⟨rfl, HI.out.below⟩
      · rw [hf] at hfin
        have HRs := hid (show R = some (seamL W H C, seamN W H C) by rw [HR.out, leastR, ← HC0.out, hf]; rfl)
        clear hf
        go_wp2_with fail
        refine hfin.mono ?_
        rintro e' w4 ⟨rfl, hb4⟩
        clear hfin
        have hI4 := HI.out.call hb4
        clear hb4 HI k0 k1 hlb q2 hlb1
        have k0 := (hI4.blk 1 rfl).cell 0
        have k1 := (hI4.blk 1 rfl).cell 1
        have hlb := (hI4.blk 1 rfl).lt
        have HI4 := hid hI4
        clear hI4
        obtain ⟨m, hm⟩ : ∃ m, m = H - 1 := ⟨_, rfl⟩
        have hmI : (H : Int) - 1 = (m : Int) := by omega
        have hmH : m < H := by omega
        have Hm := hid hm
        have Hrow := hid (show ∀ k, rowOf W ys (H - 1) k = ys.getD (m * W + k) 0 from fun k => by rw [hm]; rfl)
        have hmW : m * W + W = q := by rw [hm, ← HL0.out]; exact hL0q
        have Hlast := hid (show lastX W H C = best (rowOf W ys (H - 1)) 0 (W - 1) from best_congr _ fun k _ _ => (row_at (H := H) Hnl.out _ _).symm)
        have Hstep := hid (best_step (rowOf W ys (H - 1)) 0)
        have Hin := hid (best_in (rowOf W ys (H - 1)) 0)
        obtain ⟨row, hrow⟩ : ∃ r, r = rowOf W ys (H - 1) := ⟨_, rfl⟩
        rw [← hrow] at Hrow Hlast Hstep Hin
        clear hrow hm
        go_wp2
        go_loopw [10, 60] (fun xx c wr => ∃ j : Nat, j ≤ W ∧ c = .int .i64 (j : Int) ∧ xx = .int .i64 ((best row 0 (j - 1) : Nat) : Int) ∧ Inv w wr [(B1, [.int .i64 W, .int .i64 H, .slice (some ⟨g, 0, none⟩) q cap], 32), (B0, [.int .i64 W, .int .i64 H, .slice ad0 m0 cap0], 32)] [(.slice (some ⟨g, 0, none⟩) q cap, 52, ys.map fv)]) (fun _ c _ => W - (intOf c).toNat)
        case atStart => exact ⟨0, Nat.zero_le _, rfl, rfl, HI4.out⟩
        case round =>
          clear HI4 k0 k1 hlb
          obtain ⟨j, hjW, rfl, rfl, hI⟩ := hrel
          obtain ⟨e, he⟩ : ∃ e, e = best row 0 (j - 1) := ⟨_, rfl⟩
          have hin := Hin.out (j - 1)
          rw [← he] at hin ⊢
          by_cases hlt2 : j < W
          · have heW : e < W := by omega
            have hst : best row 0 j = if ltB (ys.getD (m * W + j) 0) (ys.getD (m * W + e) 0) then j else e := by
              rw [Hstep.out, ← he, Hrow.out, Hrow.out, Nat.zero_add]
            have a1 := fun (w3 : World) (h : Below wr.heap.size wr w3) => at_any W H _ ys j m w3 ((hI.call h).sl 0 rfl) (by rw [Hyl.out]; omega) hW (by omega) (by omega)
            have a2 := fun (w3 : World) (h : Below wr.heap.size wr w3) => at_any W H _ ys e m w3 ((hI.call h).sl 0 rfl) (by rw [Hyl.out]; omega) hW (by omega) (by omega)
            obtain ⟨A, hA⟩ : ∃ A, A = ys.getD (m * W + j) 0 := ⟨_, rfl⟩
            obtain ⟨B, hBd⟩ : ∃ B, B = ys.getD (m * W + e) 0 := ⟨_, rfl⟩
            rw [← hA] at a1 hst
            rw [← hBd] at a2 hst
            have hlb : ltB A B = (FloatKind.f32.format.order A B == some .lt) := rfl
            obtain ⟨c, hc⟩ : ∃ c, c = ltB A B := ⟨_, rfl⟩
            rw [← hc] at hlb hst
            have q0 := (hI.blk 0 rfl).cell 0
            have q1 := (hI.blk 0 rfl).cell 1
            have q2 := (hI.blk 0 rfl).cell 2
            have hlb1 := (hI.blk 0 rfl).lt
            have Hst := hid hst
            have Ha1 := hid a1
            have Ha2 := hid a2
            have HI := hid hI
            clear hst hI he hin hA hBd hc a1 a2
            cases c
            · have hcmp := hlb.symm
              have Hst := hid (show best row 0 j = e from Hst.out)
              clear hlb
              go_wp2
              refine Mix.wp_mix [.S, .S, .S, .A, .S, .S, .S, .A, .S] [0, 1, 2, 4, 5, 6, 3, 7, 8] (Below wr.heap.size wr) (by kernel_rfl) (by kernel_rfl) ((Below.refl _ _).drew) ?_
              have hC : Below wr.heap.size wr wr.drew := (Below.refl _ _).drew
              generalize wr.drew = w5 at hC ⊢
              repeat (first | (refine Mix.sf_S rfl rfl rfl rfl rfl (Mix.valOp_spec rfl) hC ?_; apply Exists.intro; refine ⟨?_, ?_⟩; · (intro w' hC' K hK; have hk := (bcell hC').1; go_step; exact hK)) | (refine Mix.sf_skipS rfl rfl rfl rfl ?_; apply Exists.intro; refine ⟨?_, ?_⟩; · (intro K hK; go_step; exact hK)) | (refine Mix.sf_skipA rfl rfl rfl rfl ?_; apply Exists.intro; refine ⟨?_, ?_⟩; · (intro K hK; go_step; exact hK)) | (refine Mix.sf_skipL rfl rfl rfl rfl ?_ hC; apply Exists.intro; refine ⟨?_, ?_⟩; · (intro K hK; go_step; exact hK); clear hC; intro wL hC))
              refine Mix.sf_A rfl rfl rfl ?_; intro K hK; go_step
              refine (Ha1.out _ hC).mono ?_
              rintro e' w6 ⟨rfl, hb6⟩
              refine hK _ _ (hC.trans (hb6.mono hC.size)) ?_
              replace hC := hC.trans (hb6.mono hC.size)
              clear hK K hb6
              repeat (first | (refine Mix.sf_S rfl rfl rfl rfl rfl (Mix.valOp_spec rfl) hC ?_; apply Exists.intro; refine ⟨?_, ?_⟩; · (intro w' hC' K hK; have hk := (bcell hC').1; go_step; exact hK)) | (refine Mix.sf_skipS rfl rfl rfl rfl ?_; apply Exists.intro; refine ⟨?_, ?_⟩; · (intro K hK; go_step; exact hK)) | (refine Mix.sf_skipA rfl rfl rfl rfl ?_; apply Exists.intro; refine ⟨?_, ?_⟩; · (intro K hK; go_step; exact hK)) | (refine Mix.sf_skipL rfl rfl rfl rfl ?_ hC; apply Exists.intro; refine ⟨?_, ?_⟩; · (intro K hK; go_step; exact hK); clear hC; intro wL hC))
              refine Mix.sf_A rfl rfl rfl ?_; intro K hK; go_step
              refine (Ha2.out _ hC).mono ?_
              rintro e' w7 ⟨rfl, hb7⟩
              refine hK _ _ (hC.trans (hb7.mono hC.size)) ?_
              replace hC := hC.trans (hb7.mono hC.size)
              clear hK K hb7
              repeat (first | (refine Mix.sf_S rfl rfl rfl rfl rfl (Mix.valOp_spec rfl) hC ?_; apply Exists.intro; refine ⟨?_, ?_⟩; · (intro w' hC' K hK; have hk := (bcell hC').1; go_step; exact hK)) | (refine Mix.sf_skipS rfl rfl rfl rfl ?_; apply Exists.intro; refine ⟨?_, ?_⟩; · (intro K hK; go_step; exact hK)) | (refine Mix.sf_skipA rfl rfl rfl rfl ?_; apply Exists.intro; refine ⟨?_, ?_⟩; · (intro K hK; go_step; exact hK)) | (refine Mix.sf_skipL rfl rfl rfl rfl ?_ hC; apply Exists.intro; refine ⟨?_, ?_⟩; · (intro K hK; go_step; exact hK); clear hC; intro wL hC))
              refine Mix.sf_nil ?_
              have hI7 := hid (HI.out.call hC)
              clear q0 q1 q2
              go_wp2
              go_roundw
              case rel => exact ⟨j + 1, by omega, by go_num, congrArg (fun q : Nat => Value.int .i64 (q : Int)) Hst.out.symm, hI7.out⟩
              case measure => simp [intOf]; omega
            · have hcmp := hlb.symm
              have Hst := hid (show best row 0 j = j from Hst.out.trans (if_pos rfl))
              clear hlb
              go_wp2
              refine Mix.wp_mix [.S, .S, .S, .A, .S, .S, .S, .A, .S] [0, 1, 2, 4, 5, 6, 3, 7, 8] (Below wr.heap.size wr) (by kernel_rfl) (by kernel_rfl) ((Below.refl _ _).drew) ?_
              have hC : Below wr.heap.size wr wr.drew := (Below.refl _ _).drew
              generalize wr.drew = w5 at hC ⊢
              repeat (first | (refine Mix.sf_S rfl rfl rfl rfl rfl (Mix.valOp_spec rfl) hC ?_; apply Exists.intro; refine ⟨?_, ?_⟩; · (intro w' hC' K hK; have hk := (bcell hC').1; go_step; exact hK)) | (refine Mix.sf_skipS rfl rfl rfl rfl ?_; apply Exists.intro; refine ⟨?_, ?_⟩; · (intro K hK; go_step; exact hK)) | (refine Mix.sf_skipA rfl rfl rfl rfl ?_; apply Exists.intro; refine ⟨?_, ?_⟩; · (intro K hK; go_step; exact hK)) | (refine Mix.sf_skipL rfl rfl rfl rfl ?_ hC; apply Exists.intro; refine ⟨?_, ?_⟩; · (intro K hK; go_step; exact hK); clear hC; intro wL hC))
              refine Mix.sf_A rfl rfl rfl ?_; intro K hK; go_step
              refine (Ha1.out _ hC).mono ?_
              rintro e' w6 ⟨rfl, hb6⟩
              refine hK _ _ (hC.trans (hb6.mono hC.size)) ?_
              replace hC := hC.trans (hb6.mono hC.size)
              clear hK K hb6
              repeat (first | (refine Mix.sf_S rfl rfl rfl rfl rfl (Mix.valOp_spec rfl) hC ?_; apply Exists.intro; refine ⟨?_, ?_⟩; · (intro w' hC' K hK; have hk := (bcell hC').1; go_step; exact hK)) | (refine Mix.sf_skipS rfl rfl rfl rfl ?_; apply Exists.intro; refine ⟨?_, ?_⟩; · (intro K hK; go_step; exact hK)) | (refine Mix.sf_skipA rfl rfl rfl rfl ?_; apply Exists.intro; refine ⟨?_, ?_⟩; · (intro K hK; go_step; exact hK)) | (refine Mix.sf_skipL rfl rfl rfl rfl ?_ hC; apply Exists.intro; refine ⟨?_, ?_⟩; · (intro K hK; go_step; exact hK); clear hC; intro wL hC))
              refine Mix.sf_A rfl rfl rfl ?_; intro K hK; go_step
              refine (Ha2.out _ hC).mono ?_
              rintro e' w7 ⟨rfl, hb7⟩
              refine hK _ _ (hC.trans (hb7.mono hC.size)) ?_
              replace hC := hC.trans (hb7.mono hC.size)
              clear hK K hb7
              repeat (first | (refine Mix.sf_S rfl rfl rfl rfl rfl (Mix.valOp_spec rfl) hC ?_; apply Exists.intro; refine ⟨?_, ?_⟩; · (intro w' hC' K hK; have hk := (bcell hC').1; go_step; exact hK)) | (refine Mix.sf_skipS rfl rfl rfl rfl ?_; apply Exists.intro; refine ⟨?_, ?_⟩; · (intro K hK; go_step; exact hK)) | (refine Mix.sf_skipA rfl rfl rfl rfl ?_; apply Exists.intro; refine ⟨?_, ?_⟩; · (intro K hK; go_step; exact hK)) | (refine Mix.sf_skipL rfl rfl rfl rfl ?_ hC; apply Exists.intro; refine ⟨?_, ?_⟩; · (intro K hK; go_step; exact hK); clear hC; intro wL hC))
              refine Mix.sf_nil ?_
              have hI7 := hid (HI.out.call hC)
              clear q0 q1 q2
              go_wp2
              go_roundw
              case rel => exact ⟨j + 1, by omega, by go_num, congrArg (fun q : Nat => Value.int .i64 (q : Int)) Hst.out.symm, hI7.out⟩
              case measure => simp [intOf]; omega
          · have hjW2 : W = j := by omega
            subst hjW2
            have Hx0 := hid (show e = lastX W H C by rw [he, Hlast.out])
            have heW : e < W := by omega
            have Ha1 := hid (fun (w3 : World) (h : Below wr.heap.size wr w3) => at_any W H _ ys e m w3 ((hI.call h).sl 0 rfl) (by rw [Hyl.out]; omega) hW (by omega) (by omega))
            obtain ⟨A, hA⟩ : ∃ A, A = ys.getD (m * W + e) 0 := ⟨_, rfl⟩
            rw [← hA] at Ha1
            have HN := hid (show Fl.nf .f32 A = seamN W H C by
              rw [hA, seamN, ← Hnl.out, getD_nl, Hnl.out, ← Hx0.out, Hm.out])
            have k0 := (hI.blk 1 rfl).cell 0
            have k1 := (hI.blk 1 rfl).cell 1
            have hlb := (hI.blk 1 rfl).lt
            have q0 := (hI.blk 0 rfl).cell 0
            have q1 := (hI.blk 0 rfl).cell 1
            have q2 := (hI.blk 0 rfl).cell 2
            have hlb1 := (hI.blk 0 rfl).lt
            have HI := hid hI
            clear hI he hin hA Hlast Hstep Hin Hrow hjW hlt2
            go_upto_region 21 with fail
            go_cut [12, 13] from 74 to 80 (fun c d wx => ∃ (G : Nat) (ds : List Value), c = .slice (some ⟨G, 0, none⟩) H H ∧ d = fv A ∧ ds.length = H ∧ Inv w wx [(B1, [.int .i64 W, .int .i64 H, .slice (some ⟨g, 0, none⟩) q cap], 32), (B0, [.int .i64 W, .int .i64 H, .slice ad0 m0 cap0], 32)] [(.slice (some ⟨G, 0, none⟩) H H, 2, ds), (.slice (some ⟨g, 0, none⟩) q cap, 52, ys.map fv)])
            case first =>
              refine Mix.wp_mixP [.S, .S, .A, .S, .S, .S, .A, .S, .S] [0, 1, 3, 4, 5, 6, 2, 7, 8] 2 (Below wr.heap.size wr) (by kernel_rfl) (by kernel_rfl) ((Below.refl _ _).drew) ?_
              have hC : Below wr.heap.size wr wr.drew := (Below.refl _ _).drew
              generalize wr.drew = w5 at hC ⊢
              repeat (first | (refine Mix.pf_S rfl rfl rfl rfl rfl rfl (Mix.valOp_spec rfl) hC ?_; apply Exists.intro; refine ⟨?_, ?_⟩; · (intro w' hC' K hK; have hk := (bcell hC').1; go_step; exact hK)))
              refine Mix.pf_A rfl rfl rfl rfl ?ga rfl rfl rfl ?gf
              case gf =>
                intro K hK
                refine wp_make_F rfl rfl w5.heap.size 2 iI (.int .i64 0) 1 Try.underlying51 hiI hiI0 hiI1 .i64 .i64 H rfl rfl (by rw [hiI2]; omega) (by unfold maxLen; omega) (Nat.le_refl _) ?_
                intro w6 hown6 hg6
                apply Exists.intro
                refine ⟨by intro K hK; go_step; exact hK, ?_⟩
                have hb6 : Below w5.heap.size w5 w6 := (Below.refl _ _).grown hg6 (Nat.le_refl _) (fun k hk => by cases hk)
                obtain ⟨ds, hds⟩ : ∃ ds, ds = (madeCells (Value.int .i64 0).cells (H * 1)).toList := ⟨_, rfl⟩
                rw [← hds] at hown6
                have hdl : ds.length = H := hown6.1.trans (Nat.mul_one _)
                have HI6 := hid ((HI.out.call hC).fresh hb6 hown6)
                refine hK _ _ (hC.trans (hb6.mono hC.size)) ?_
                replace hC := hC.trans (hb6.mono hC.size)
                clear hK hown6 hg6 hb6 hds
                repeat (first | (refine Mix.sf_S rfl rfl rfl rfl rfl (Mix.valOp_spec rfl) hC ?_; apply Exists.intro; refine ⟨?_, ?_⟩; · (intro w' hC' K hK; have hk := (bcell hC').1; go_step; exact hK)) | (refine Mix.sf_skipS rfl rfl rfl rfl ?_; apply Exists.intro; refine ⟨?_, ?_⟩; · (intro K hK; go_step; exact hK)) | (refine Mix.sf_skipA rfl rfl rfl rfl ?_; apply Exists.intro; refine ⟨?_, ?_⟩; · (intro K hK; go_step; exact hK)) | (refine Mix.sf_skipL rfl rfl rfl rfl ?_ hC; apply Exists.intro; refine ⟨?_, ?_⟩; · (intro K hK; go_step; exact hK); clear hC; intro wL hC))
                refine Mix.sf_A rfl rfl rfl ?_; intro K hK; go_step
                refine (Ha1.out _ hC).mono ?_
                rintro e' w7 ⟨rfl, hb7⟩
                refine hK _ _ (hC.trans (hb7.mono hC.size)) ?_
                have HI7 := hid (HI6.out.call hb7)
                replace hC := hC.trans (hb7.mono hC.size)
                clear hK hb7
                repeat (first | (refine Mix.sf_S rfl rfl rfl rfl rfl (Mix.valOp_spec rfl) hC ?_; apply Exists.intro; refine ⟨?_, ?_⟩; · (intro w' hC' K hK; have hk := (bcell hC').1; go_step; exact hK)) | (refine Mix.sf_skipS rfl rfl rfl rfl ?_; apply Exists.intro; refine ⟨?_, ?_⟩; · (intro K hK; go_step; exact hK)) | (refine Mix.sf_skipA rfl rfl rfl rfl ?_; apply Exists.intro; refine ⟨?_, ?_⟩; · (intro K hK; go_step; exact hK)) | (refine Mix.sf_skipL rfl rfl rfl rfl ?_ hC; apply Exists.intro; refine ⟨?_, ?_⟩; · (intro K hK; go_step; exact hK); clear hC; intro wL hC))
                refine Mix.sf_nil ?_
                go_wp2_with fail
                go_meet
                case rel => exact ⟨w5.heap.size, ds, rfl, rfl, hdl, HI7.out⟩
              case ga =>
                intro K hK; go_step
                refine (Ha1.out _ hC).mono ?_
                rintro e' w6 ⟨rfl, hb6⟩
                refine hK _ _ (hC.trans (hb6.mono hC.size)) ?_
                replace hC := hC.trans (hb6.mono hC.size)
                clear hK hb6
                repeat (first | (refine Mix.pf_S rfl rfl rfl rfl rfl rfl (Mix.valOp_spec rfl) hC ?_; apply Exists.intro; refine ⟨?_, ?_⟩; · (intro w' hC' K hK; have hk := (bcell hC').1; go_step; exact hK)))
                refine Mix.pf_F rfl rfl rfl ?_
                intro K hK
                refine wp_make_F rfl rfl w6.heap.size 2 iI (.int .i64 0) 1 Try.underlying51 hiI hiI0 hiI1 .i64 .i64 H rfl rfl (by rw [hiI2]; omega) (by unfold maxLen; omega) (Nat.le_refl _) ?_
                intro w7 hown6 hg6
                apply Exists.intro
                refine ⟨by intro K hK; go_step; exact hK, ?_⟩
                have hb6 : Below w6.heap.size w6 w7 := (Below.refl _ _).grown hg6 (Nat.le_refl _) (fun k hk => by cases hk)
                obtain ⟨ds, hds⟩ : ∃ ds, ds = (madeCells (Value.int .i64 0).cells (H * 1)).toList := ⟨_, rfl⟩
                rw [← hds] at hown6
                have hdl : ds.length = H := hown6.1.trans (Nat.mul_one _)
                have HI6 := hid ((HI.out.call hC).fresh hb6 hown6)
                refine hK _ _ (hC.trans (hb6.mono hC.size)) ?_
                replace hC := hC.trans (hb6.mono hC.size)
                clear hK hown6 hg6 hb6 hds
                repeat (first | (refine Mix.sf_S rfl rfl rfl rfl rfl (Mix.valOp_spec rfl) hC ?_; apply Exists.intro; refine ⟨?_, ?_⟩; · (intro w' hC' K hK; have hk := (bcell hC').1; go_step; exact hK)) | (refine Mix.sf_skipS rfl rfl rfl rfl ?_; apply Exists.intro; refine ⟨?_, ?_⟩; · (intro K hK; go_step; exact hK)) | (refine Mix.sf_skipA rfl rfl rfl rfl ?_; apply Exists.intro; refine ⟨?_, ?_⟩; · (intro K hK; go_step; exact hK)) | (refine Mix.sf_skipL rfl rfl rfl rfl ?_ hC; apply Exists.intro; refine ⟨?_, ?_⟩; · (intro K hK; go_step; exact hK); clear hC; intro wL hC))
                refine Mix.sf_nil ?_
                go_wp2_with fail
                go_meet
                case rel => exact ⟨w6.heap.size, ds, rfl, rfl, hdl, HI6.out⟩
            case rest =>
            obtain ⟨G, ds, rfl, rfl, hdl, hI⟩ := hcut
            clear HI Ha1 k0 k1 q0 q1 q2 hlb hlb1 hiI hiI0 hiI1 hiI2
            have hI0 : ∃ ds : List Value, ds.length = H ∧ ds.drop H = ((seamL W H C).map iv).drop H ∧ Inv w wc [(B1, [.int .i64 W, .int .i64 H, .slice (some ⟨g, 0, none⟩) q cap], 32), (B0, [.int .i64 W, .int .i64 H, .slice ad0 m0 cap0], 32)] [(.slice (some ⟨G, 0, none⟩) H H, 2, ds), (.slice (some ⟨g, 0, none⟩) q cap, 52, ys.map fv)] :=
              ⟨ds, hdl, by rw [List.drop_of_length_le (by omega), List.drop_of_length_le (by rw [List.length_map, seamL_len]; omega)], hI⟩
            have Hx0' := hid (show e = backX W H C (min (H - H) (H - 1)) by rw [Nat.sub_self, Nat.zero_min]; exact Hx0.out)
            clear hdl hI
            go_wp2
            go_loopw [10, 14] (fun xx yy wx => ∃ (y : Nat) (ds : List Value), y ≤ H ∧ yy = .int .i64 ((y : Int) - 1) ∧ xx = .int .i64 ((backX W H C (min (H - y) (H - 1)) : Nat) : Int) ∧ ds.length = H ∧ ds.drop y = ((seamL W H C).map iv).drop y ∧
                Inv w wx [(B1, [.int .i64 W, .int .i64 H, .slice (some ⟨g, 0, none⟩) q cap], 32), (B0, [.int .i64 W, .int .i64 H, .slice ad0 m0 cap0], 32)] [(.slice (some ⟨G, 0, none⟩) H H, 2, ds), (.slice (some ⟨g, 0, none⟩) q cap, 52, ys.map fv)]) (fun _ yy _ => (intOf yy + 1).toNat)
            case atStart => obtain ⟨ds, h1, h2, h3⟩ := hI0; exact ⟨H, ds, Nat.le_refl _, congrArg (Value.int .i64) hmI.symm, by rw [← Hx0'.out], h1, h2, h3⟩
            case round =>
              clear hI0
              obtain ⟨y, ds, hyH, rfl, rfl, hdl, hdd, hI⟩ := hrel
              have Hdl := hid hdl
              rcases y with _ | z
              · have Hdd := hid hdd
                have HI := hid hI
                clear hdl hdd hI
                go_wp2
                rw [HRs.out]
                refine bodyPost_ret (v := .tuple #[.slice (some ⟨G, 0, none⟩) H H, fv A, .bool true]) (by simp [results, Try.results89, go_sem]) rfl ⟨_, A, rfl, HN.out, ?_, HI.out.below⟩
                have hr := HI.out.row 0 rfl
                rw [Hdl.out] at hr
                have hd := Hdd.out
                rw [List.drop_zero, List.drop_zero] at hd
                rw [seamL_len]
                rwa [hd] at hr
              · obtain ⟨X, hX⟩ : ∃ X, X = backX W H C (min (H - (z + 1)) (H - 1)) := ⟨_, rfl⟩
                have hX' : X = backX W H C (H - 1 - z) := by rw [hX, show min (H - (z + 1)) (H - 1) = H - 1 - z by omega]
                rw [← hX, show (((z + 1 : Nat) : Int) - 1) = (z : Int) by omega]
                have hXW : X < W := by rw [hX]; exact backX_lt hW1 _
                have Hdd := hid (show (ds.set z (iv (X : Int))).drop z = ((seamL W H C).map iv).drop z by
                  have := seam_cells (W := W) (H := H) (C := C) (ds := ds) (t := H - 1 - z) (by omega) hdl (by rw [show H - (H - 1 - z) = z + 1 by omega]; exact hdd)
                  rwa [← hX', show H - 1 - (H - 1 - z) = z by omega, show H - (H - 1 - z + 1) = z by omega] at this)
                have Hdl2 := hid (show (ds.set z (iv (X : Int))).length = H by rw [List.length_set, hdl])
                have HX := hid hX'
                have HI := hid hI
                clear hX hX' hdl hdd hI
                have hrow := HI.out.row 0 rfl
                rw [Hdl.out] at hrow
                have hgc : ∃ u, wr.cell? ⟨G, z, none⟩ = some u := by
                  rw [hrow.cellAt z (by omega)]
                  exact ⟨_, List.getElem?_eq_getElem (by rw [Hdl.out]; omega)⟩
                obtain ⟨u0, hgc⟩ := hgc
                have hgf : wr.frozen? ⟨G, z, none⟩ = false := hrow.frozenAt z
                have hst := hrow.stored z (iv (X : Int))
                have HI2 := hid (HI.out.mark 0 rfl hst.2 (show (wr.setCell ⟨G, z, none⟩ (iv (X : Int))).ownsRow w.heap.size 2 1 (.slice (some ⟨G, 0, none⟩) H H) ds.length (ds.set z (iv (X : Int))) by rw [Hdl.out]; exact hst.1))
                have hgl := World.block_lt_of_cell? wr _ hgc
                clear hrow hst HI
                rcases z with _ | p
                · go_wp2
                  go_roundw
                  case rel => exact ⟨0, ds.set 0 (iv (X : Int)), Nat.zero_le _, rfl, by rw [HX.out, show min (H - 0) (H - 1) = H - 1 - 0 by omega], Hdl2.out, Hdd.out, HI2.out⟩
                  case measure => simp [intOf]
                · have habv := fun (w3 : World) (h : Below wr.heap.size (wr.setCell ⟨G, p + 1, none⟩ (iv (X : Int))) w3) => leastSeam1_any W H X p B0 B1 _ ys w3 (((HI2.out.call (by simpa using h)).blk 1 rfl).cell 0)
                    ⟨((HI2.out.call (by simpa using h)).blk 0 rfl).cell 0, ((HI2.out.call (by simpa using h)).blk 0 rfl).cell 1, ((HI2.out.call (by simpa using h)).blk 0 rfl).cell 2, (HI2.out.call (by simpa using h)).sl 1 rfl⟩ hW hXW (by omega) (by
                    rw [Hyl.out]
                    have h1 : (p + 1) * W ≤ (H - 1) * W := Nat.mul_le_mul_right W (by omega)
                    have h2 := HL0.out
                    rw [Nat.succ_mul] at h1
                    omega)
                  have Hab := hid (show above W (rowOf W ys p) X = backX W H C (min (H - (p + 1)) (H - 1)) by
                    rw [show min (H - (p + 1)) (H - 1) = (H - 1 - (p + 1)) + 1 by omega, backX, ← HX.out, show H - 1 - (H - 1 - (p + 1)) - 1 = p by omega]
                    exact above_congr hXW fun k _ => row_at (H := H) Hnl.out _ _)
                  obtain ⟨k, hk⟩ : ∃ k, k = above W (rowOf W ys p) X := ⟨_, rfl⟩
                  rw [← hk] at habv Hab
                  clear hk
                  have Habv := hid habv
                  clear habv
                  rw [show (((p + 1 : Nat) : Int)) = (p : Int) + 1 by omega]
                  go_wp2_with fail
                  refine (Habv.out _ (Below.refl _ _)).mono ?_
                  rintro e' w7 ⟨rfl, hb7⟩
                  have HI7 := hid (HI2.out.call hb7)
                  clear hb7
                  go_wp2
                  go_roundw
                  case rel => exact ⟨p + 1, ds.set (p + 1) (iv (X : Int)), by omega, by go_num, by rw [Hab.out], Hdl2.out, Hdd.out, HI7.out⟩
                  case measure => simp [intOf]; omega

end Go.Proofs.Ytggbdmgonobefaa
