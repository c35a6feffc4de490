/-
  The seam of the least cost through some costs, by the reference.
  Conditions: the costs are a picture behind a pointer; sides fit.
-/
import Derived.Test.YtggbdmgonobefaaA50
import Derived.Test.YtggbdmgonobefaaAppN
import Derived.Test.YtggbdmgonobefaaA28
namespace Go.Proofs.Ytggbdmgonobefaa
open Go.RowKit
set_option linter.unusedVariables false
set_option linter.unusedSimpArgs false
attribute [local go_sem] Fl.run_fadd Fl.run_fsub Fl.run_fmul Fl.run_fquo Fl.run_wide Fl.run_store_float

section
variable {P : Program} {w : World}
theorem wpList_appN {ops : Array Oper} {rest : List Oper} {o : Oper} {a : Act} {Q : Exit → Act → World → Prop} (hgd : o.guard = none) (s x : Operand) (t : TypeId)
    (ho : o.op = .call { callee := .builtin .append, args := #[s, x], argTypes := #[t, t] })
    (base : Nat) (e : TypeId) (i : TypeInfo) (z : Value) (bytes : Nat) (ht : P.underlying t = some (.slice e)) (hi : P.info? e = some i) (hz : i.zero = some z)
    (hsize : i.size = 1) (hby : i.bytes = bytes) (hzs : z.cells.size = 1) (v : Value) (n : Nat) (cs : List Value) (hs : a.eval s = v) (hown : w.ownsRow base e 1 v n cs) (b off m c : Nat) (news : List Value) (hl : news.length = m)
    (hx : a.eval x = .slice (some ⟨b, off, none⟩) m c) (hu : ∀ j u, news[j]? = some u → w.cell? ⟨b, off + j, none⟩ = some u) (h1 : ∀ u ∈ news, u.oneCell' = true) (h63 : n + m ≤ maxLen) (hbytes : (n + m) * bytes ≤ 140737488355328) (hbase : base ≤ w.heap.size)
    (h : ∀ ad' cap' w', w'.ownsRow base e 1 (.slice ad' (n + m) cap') (n + m) (cs ++ news) → w.grownBy w' v.ownBlock → wpList P ops Q rest (a.put o.dst (.slice ad' (n + m) cap')) w') : wpList P ops Q (o :: rest) a w := by
  refine wpList_plain hgd fun K hK => ?_
  obtain ⟨ad', cap', w', hr, h2, h3⟩ := run_appN (P := P) base t o.type e i z bytes ht hi hz hsize hby hzs v n cs hown b off m c news hl hu h1 h63 hbytes hbase
  unfold Oper.wp execOp
  simp only [ho, resolve, invoke, builtin, Sem.run_bind, Sem.run_pure, Result.andThen_ok, List.map_toArray, List.map_cons, List.map_nil, hs, hx, hr]
  exact hK _ _ (h ad' cap' w' h2 h3)
end

/-- One more entry of the seam, as cells. -/
theorem seam_cells {W H : Nat} {C : List Nat} {ds : List Value} {t : Nat} (ht : t < H) (hl : ds.length = H) (hs : ds.drop (H - t) = ((seamL W H C).map iv).drop (H - t)) :
    (ds.set (H - 1 - t) (iv ((backX W H C t : Nat) : Int))).drop (H - (t + 1)) = ((seamL W H C).map iv).drop (H - (t + 1)) := by
  have e : H - (t + 1) = H - 1 - t := by omega
  have e2 : H - 1 - t + 1 = H - t := by omega
  rw [e, List.drop_eq_getElem_cons (by rw [List.length_set, hl]; omega), List.drop_eq_getElem_cons (l := (seamL W H C).map iv) (by rw [List.length_map, seamL_len]; omega), e2, List.getElem_set_self, List.drop_set_of_lt (by omega), hs]
  congr 1
  simp only [seamL, List.getElem_map, List.getElem_range]
  rw [show H - 1 - (H - 1 - t) = t by omega]

theorem allFin_nl {ys C : List Nat} (h : nl ys = C) : allFin ys = allFin C := by
  rw [← h, allFin, allFin, nl, List.all_map]
  congr 1
  funext x
  exact (Fl.fin_nf x).symm

theorem sl_cells {w : World} {n cap b off : Nat} {cs : List Value} (h : Sl w (.slice (some ⟨b, off, none⟩) n cap) cs) : ∀ j u, cs[j]? = some u → w.cell? ⟨b, off + j, none⟩ = some u := by
  intro j u hj
  have hl : cs.length = n := by
    obtain ⟨ad', cap', hv⟩ := h.form
    simp only [Value.slice.injEq] at hv
    exact hv.2.1.symm
  have hjn : j < n := by have := (List.getElem?_eq_some_iff.1 hj).1; omega
  obtain ⟨b', off', c', he, hc', hcell', -⟩ := h.at j hjn
  simp only [Option.some.injEq, Addr.mk.injEq, and_true] at he
  obtain ⟨rfl, rfl⟩ := he
  rw [hcell', ← hc', hj]

set_option maxHeartbeats 16000000 in
set_option maxRecDepth 100000 in
theorem l07Seam_any (W H : Nat) (v : Value) (xs : List Nat) (b1 o1 : Nat) (w : World) (hp : PicAt w b1 o1 W H v xs) (hl : xs.length = W * H) (hW : W ≤ 16) (hH : H ≤ 16) (hW1 : 1 ≤ W) (hH1 : 1 ≤ H) :
    Calls Try.prog 152 #[.pointer (some ⟨b1, o1, none⟩)] w fun e w' => ∃ sv r, e = .returned (.tuple #[sv, fv r, .bool (allFin (costAll W H xs))]) ∧ Fl.nf .f32 r = seamN W H (costAll W H xs) ∧
      w'.ownsRow w.heap.size 2 1 sv H ((seamL W H (costAll W H xs)).map iv) ∧ Below w.heap.size w w' := by
  obtain ⟨i0, hi, hz0, hz1, hz2⟩ := info_parts Try.infoF
  obtain ⟨iI, hiI, hiI0, hiI1, hiI2⟩ := info_parts Try.infoI
  obtain ⟨ad, cap, hv⟩ := hp.sl.form
  rw [List.length_map] at hv
  obtain ⟨q, hq⟩ : ∃ q, q = xs.length := ⟨_, rfl⟩
  have hmn : W * H ≤ 256 := by have : W * H ≤ 16 * 16 := Nat.mul_le_mul hW hH; omega
  have hpos : 0 < W * H := Nat.mul_pos hW1 hH1
  have hqWH : q = W * H := hq.trans hl
  have hWq : W ≤ q := by rw [hqWH]; exact Nat.le_mul_of_pos_right W hH1
  have c0 := hp.c0
  have c1 := hp.c1
  have c2 := hp.c2
  have hB := hp.lt
  rw [← hq] at hv
  subst hv
  obtain ⟨b, off, c, rfl, -, -, hbl⟩ := hp.sl.at 0 (by omega)
  have Hcells := hid (sl_cells hp.sl)
  have Hlm := hid (show (xs.map fv).length = q by rw [List.length_map, hq])
  have Hq := hid hq
  have hdiv : ∀ i, i < q → i / W < H := fun i h => Nat.div_lt_of_lt_mul (by omega)
  have Hdiv := hid hdiv
  have HqWH := hid hqWH
  have hqI : (W : Int) * (H : Int) = q := by rw [hqWH]; simp
  obtain ⟨L0, hL0⟩ : ∃ L, L = (H - 1) * W := ⟨_, rfl⟩
  have hL0I : ((H : Int) - 1) * (W : Int) = L0 := by rw [hL0, show (H : Int) - 1 = ((H - 1 : Nat) : Int) by omega]; simp
  have hL0q : L0 + W = q := by rw [hL0, mul_pred hH1, hqWH, Nat.mul_comm]
  have hq256 : q ≤ 256 := by omega
  have HL0 := hid hL0
  have hown0 := World.ownsRow_lit (base := w.heap.size) (e := 52) (size := 1) w #[] 0 (Nat.le_refl _) (by decide) rfl
  have Hown0 := hid hown0
  obtain ⟨C, hC0⟩ : ∃ C, C = costAll W H xs := ⟨_, rfl⟩
  rw [← hC0]
  have HC0 := hid hC0
  clear hp hl hq hdiv hqWH hL0 hown0 hmn hpos hC0
  go_enter Try.func152, Try.ntmps152
  go_wp2_with (at_builtin; go_loud (refine wpList_appN rfl _ _ 22 rfl w.heap.size 52 i0 (.float .f32 0) 4 Try.underlying22 hi hz0 hz1 hz2 rfl (.slice (some ⟨w.heap.size, 0, none⟩) 0 0) 0 [] rfl Hown0.out b off q cap (xs.map fv) Hlm.out rfl ?c1 ?c2 (by unfold maxLen; omega) (by omega) (by simp) ?_))
  case c1 => exact fun j u hj => Hcells.out j (fv u) (by rw [List.getElem?_map, hj]; rfl)
  case c2 => exact fun u hu => rfl
  intro ad1 cap1 w1 hown1 hg1
  have hb1 : Below w.heap.size w w1 := below_grown ((Below.refl _ _).alloc (Nat.le_refl _) _) hg1 Hown0.out (Nat.le_refl _) (by simp)
  have hI := (Inv.start w).fresh hb1 hown1
  obtain ⟨ad', cap', hv', had⟩ := own_form' hown1
  simp only [Value.slice.injEq, true_and] at hv'
  obtain ⟨rfl, rfl⟩ := hv'
  obtain ⟨g, rfl, -, -⟩ := had (by omega)
  have hst : CostSt W xs q W xs := by
    have := CostSt.start (W := W) (es := xs) (ys := xs) rfl (by rw [← Hq.out]; exact hWq)
    rwa [← Hq.out] at this
  have hI0 : ∃ ys, CostSt W xs q W ys ∧ Inv w w1 [] [(.slice (some ⟨g, 0, none⟩) q cap1, 52, ys.map fv)] := ⟨xs, hst, hI⟩
  have e0 := (hb1.cell hB).trans c0
  have e1 := (hb1.cell hB).trans c1
  have hBw : b1 < w1.heap.size := Nat.lt_of_lt_of_le hB hb1.size
  have Hc := hid (And.intro c0 c1)
  clear had hown1 hg1 hb1 hI hst Hcells Hown0 c0 c1 c2 Hlm
  go_wp2
  go_loopw [6] (fun c wr => ∃ (i : Nat) (ys : List Nat), W ≤ i ∧ i ≤ q ∧ c = .int .i64 i ∧ CostSt W xs q i ys ∧ Inv w wr [] [(.slice (some ⟨g, 0, none⟩) q cap1, 52, ys.map fv)]) (fun c _ => q - (intOf c).toNat)
  case atStart => obtain ⟨ys, h1, h2⟩ := hI0; exact ⟨W, ys, Nat.le_refl _, hWq, rfl, h1, h2⟩
  case round =>
    clear hI0 e0 e1 hBw
    obtain ⟨i, ys, hWi, hiq, rfl, hst, hI⟩ := hrel
    have e0 := (hI.below.cell hB).trans Hc.out.1
    have e1 := (hI.below.cell hB).trans Hc.out.2
    have hBw : b1 < wr.heap.size := Nat.lt_of_lt_of_le hB hI.below.size
    by_cases hlt : i < q
    · obtain ⟨x, hx⟩ : ∃ x, x = i % W := ⟨_, rfl⟩
      obtain ⟨p, hp⟩ : ∃ p, p = i / W - 1 := ⟨_, rfl⟩
      have hdp : 0 < i / W := Nat.div_pos hWi hW1
      have hdH := Hdiv.out i hlt
      have hxi : (i : Int) % (W : Int) = (x : Int) := by rw [hx]; simp
      have hyi : (i : Int) / (W : Int) = (p : Int) + 1 := by
        have : (i : Int) / (W : Int) = ((i / W : Nat) : Int) := by simp
        omega
      have hxW : x < W := by rw [hx]; exact Nat.mod_lt _ hW1
      have hpH : p + 1 < H := by omega
      have hm := Nat.div_add_mod i W
      rw [Nat.mul_comm, ← mul_pred hdp, ← hp, ← hx] at hm
      have Hsl := hid (fun (w3 : World) (h : Below wr.heap.size wr w3) => (hI.sl 0 rfl).mono h)
      have hylen : ys.length = q := hst.len
      have habv := fun (w3 : World) (h : Below wr.heap.size wr w3) => l07Above_any W x p _ ys w3 ((hI.sl 0 rfl).mono h) hW hxW (by omega) (by rw [hylen]; omega)
      obtain ⟨k, hk⟩ : ∃ k, k = above W (rowOf W ys p) x := ⟨_, rfl⟩
      have hkW : k < W := by rw [hk]; exact above_lt hxW
      rw [← hk] at habv
      obtain ⟨j, hj⟩ : ∃ j, j = p * W + k := ⟨_, rfl⟩
      have hjI : (p : Int) * (W : Int) + k = j := by rw [hj]; simp
      have hji : j < i := by omega
      have hpW : (0 : Int) ≤ (p : Int) * W ∧ (p : Int) * W ≤ 256 := by
        have e : (p : Int) * (W : Int) = ((p * W : Nat) : Int) := by simp
        omega
      have Hnext := hid (show ∀ r, Fl.nf .f32 r = Fl.fop .add .f32 (ys.getD i 0) (ys.getD j 0) → CostSt W xs q (i + 1) (ys.set i r) from fun r hr => by
        refine hst.step hlt hWi hW1 ?_
        rw [hr, ← hp, ← hx, ← hk, ← hj])
      obtain ⟨A, hA⟩ : ∃ A, A = ys.getD i 0 := ⟨_, rfl⟩
      obtain ⟨B, hBd⟩ : ∃ B, B = ys.getD j 0 := ⟨_, rfl⟩
      rw [← hA, ← hBd] at Hnext
      have Habv := hid habv
      have HA := hid hA
      have HBd := hid hBd
      have HI := hid hI
      have Hyl := hid hylen
      clear hst hI hx hp hm hdp hdH habv hk hj hylen hA hBd
      go_wp2
      refine Mix.wp_mix [.S, .S, .S, .S, .S, .S, .S, .S, .S, .S, .S] [0, 1, 2, 3, 4, 5, 6, 7, 8, 9, 10] (Below wr.heap.size wr) (by kernel_rfl) (by kernel_rfl) ((Below.refl _ _).drew) ?_
      have hC : Below wr.heap.size wr wr.drew := (Below.refl _ _).drew
      generalize wr.drew = w2 at hC ⊢
      have f0 := (hC.cell hBw).trans e0
      have f1 := (hC.cell hBw).trans e1
      have hBw2 : b1 < w2.heap.size := Nat.lt_of_lt_of_le hBw hC.size
      repeat (first | (refine Mix.sf_S rfl rfl rfl rfl rfl (Mix.valOp_spec rfl) hC ?_; apply Exists.intro; refine ⟨?_, ?_⟩; · (intro w' hC' K hK; have hk := (bcell hC').1; go_step; exact hK)) | (refine Mix.sf_skipS rfl rfl rfl rfl ?_; apply Exists.intro; refine ⟨?_, ?_⟩; · (intro K hK; go_step; exact hK)) | (refine Mix.sf_skipA rfl rfl rfl rfl ?_; apply Exists.intro; refine ⟨?_, ?_⟩; · (intro K hK; go_step; exact hK)) | (refine Mix.sf_skipL rfl rfl rfl rfl ?_ hC; apply Exists.intro; refine ⟨?_, ?_⟩; · (intro K hK; go_step; exact hK); clear hC; intro wL hC))
      refine Mix.sf_nil ?_
      go_wp2
      refine Mix.wp_mix [.S, .S, .S, .S, .S, .S, .S, .S, .S, .S, .S, .S, .A, .S] [0, 1, 2, 3, 4, 5, 6, 7, 8, 9, 10, 11, 12, 13] (Below wr.heap.size wr) (by kernel_rfl) (by kernel_rfl) (hC.drew) ?_
      replace hC := hC.drew
      clear f0 f1 hBw2
      generalize w2.drew = w3 at hC ⊢
      have f0 := (hC.cell hBw).trans e0
      have hBw2 : b1 < w3.heap.size := Nat.lt_of_lt_of_le hBw hC.size
      repeat (first | (refine Mix.sf_S rfl rfl rfl rfl rfl (Mix.valOp_spec rfl) hC ?_; apply Exists.intro; refine ⟨?_, ?_⟩; · (intro w' hC' K hK; have hk := (bcell hC').1; go_step; exact hK)) | (refine Mix.sf_skipS rfl rfl rfl rfl ?_; apply Exists.intro; refine ⟨?_, ?_⟩; · (intro K hK; go_step; exact hK)) | (refine Mix.sf_skipA rfl rfl rfl rfl ?_; apply Exists.intro; refine ⟨?_, ?_⟩; · (intro K hK; go_step; exact hK)) | (refine Mix.sf_skipL rfl rfl rfl rfl ?_ hC; apply Exists.intro; refine ⟨?_, ?_⟩; · (intro K hK; go_step; exact hK); clear hC; intro wL hC))
      refine Mix.sf_A rfl rfl rfl ?_; intro K hK; go_step
      refine (Habv.out _ hC).mono ?_
      rintro e w4 ⟨rfl, hb4⟩
      refine hK _ _ (hC.trans (hb4.mono hC.size)) ?_
      replace hC := hC.trans (hb4.mono hC.size)
      clear hK K hb4 f0 hBw2
      repeat (first | (refine Mix.sf_S rfl rfl rfl rfl rfl (Mix.valOp_spec rfl) hC ?_; apply Exists.intro; refine ⟨?_, ?_⟩; · (intro w' hC' K hK; have hk := (bcell hC').1; go_step; exact hK)) | (refine Mix.sf_skipS rfl rfl rfl rfl ?_; apply Exists.intro; refine ⟨?_, ?_⟩; · (intro K hK; go_step; exact hK)) | (refine Mix.sf_skipA rfl rfl rfl rfl ?_; apply Exists.intro; refine ⟨?_, ?_⟩; · (intro K hK; go_step; exact hK)) | (refine Mix.sf_skipL rfl rfl rfl rfl ?_ hC; apply Exists.intro; refine ⟨?_, ?_⟩; · (intro K hK; go_step; exact hK); clear hC; intro wL hC))
      refine Mix.sf_nil ?_
      go_wp2
      refine Mix.wp_mix [.S, .S, .S, .S, .S, .S, .S, .S, .S, .S, .S, .S, .S, .S, .S, .S, .S, .S, .L, .S, .T] [0, 1, 2, 3, 4, 5, 6, 7, 8, 9, 10, 11, 12, 13, 14, 15, 16, 17, 18, 19, 20] (Below wr.heap.size wr) (by kernel_rfl) (by kernel_rfl) (hC.drew) ?_
      replace hC := hC.drew
      generalize w4.drew = w5 at hC ⊢
      obtain ⟨g1, off1, hg1, cA, cB, hgl⟩ := (HI.out.sl 0 rfl).two Hyl.out.symm i j hlt (by omega)
      simp only [Option.some.injEq, Addr.mk.injEq, and_true] at hg1
      obtain ⟨rfl, rfl⟩ := hg1
      rw [← HA.out, Nat.zero_add] at cA
      rw [← HBd.out, Nat.zero_add] at cB
      repeat (first | (refine Mix.sf_S rfl rfl rfl rfl rfl (Mix.valOp_spec rfl) hC ?_; apply Exists.intro; refine ⟨?_, ?_⟩; · (intro w' hC' K hK; have hk := (bcell hC').1; go_step; exact hK)) | (refine Mix.sf_skipS rfl rfl rfl rfl ?_; apply Exists.intro; refine ⟨?_, ?_⟩; · (intro K hK; go_step; exact hK)) | (refine Mix.sf_skipA rfl rfl rfl rfl ?_; apply Exists.intro; refine ⟨?_, ?_⟩; · (intro K hK; go_step; exact hK)) | (refine Mix.sf_skipL rfl rfl rfl rfl ?_ hC; apply Exists.intro; refine ⟨?_, ?_⟩; · (intro K hK; go_step; exact hK); clear hC; intro wL hC))
      refine Mix.sf_Larith rfl rfl rfl rfl rfl rfl (by simp) rfl below_draws ?_; clear hC; intro t ht w6 hC; apply Exists.intro; refine ⟨?_, ?_⟩; · (intro K hK; go_step; exact hK)
      have Hnext := hid (Hnext.out t ht)
      clear ht
      repeat (first | (refine Mix.sf_S rfl rfl rfl rfl rfl (Mix.valOp_spec rfl) hC ?_; apply Exists.intro; refine ⟨?_, ?_⟩; · (intro w' hC' K hK; have hk := (bcell hC').1; go_step; exact hK)) | (refine Mix.sf_skipS rfl rfl rfl rfl ?_; apply Exists.intro; refine ⟨?_, ?_⟩; · (intro K hK; go_step; exact hK)) | (refine Mix.sf_skipA rfl rfl rfl rfl ?_; apply Exists.intro; refine ⟨?_, ?_⟩; · (intro K hK; go_step; exact hK)) | (refine Mix.sf_skipL rfl rfl rfl rfl ?_ hC; apply Exists.intro; refine ⟨?_, ?_⟩; · (intro K hK; go_step; exact hK); clear hC; intro wL hC))
      have HI := hid (HI.out.call hC)
      have hrow : w6.ownsRow w.heap.size 52 1 (.slice (some ⟨g, 0, none⟩) q cap1) q (ys.map fv) := by
        have := HI.out.row 0 rfl
        rwa [List.length_map, Hyl.out] at this
      have hst := hrow.stored i (fv t)
      have hgc : w6.cell? ⟨g, i, none⟩ = some (fv A) := (hC.cell hgl).trans cA
      have hgf : w6.frozen? ⟨g, i, none⟩ = false := hrow.frozenAt i
      have HI2 := hid (HI.out.mark 0 rfl hst.2 (show (w6.setCell ⟨g, i, none⟩ (fv t)).ownsRow w.heap.size 52 1 (.slice (some ⟨g, 0, none⟩) q cap1) (ys.map fv).length ((ys.set i t).map fv) by
        rw [List.length_map, Hyl.out, List.map_set]; exact hst.1))
      clear hrow hst HI cA cB
      refine Mix.sf_T rfl rfl rfl ?_; intro K hK; go_step
      refine hK _ _ ?_
      clear hK K hgc hgf
      refine Mix.sf_nil ?_
      go_wp2
      go_roundw
      case rel => exact ⟨i + 1, ys.set i t, by omega, by omega, by go_num, Hnext.out, HI2.out⟩
      case measure => simp [intOf]; omega
    · have hin : q = i := by omega
      subst hin
      have hnl : nl ys = C := by
        rw [HqWH.out] at hst
        rw [HC0.out]
        exact hst.end
      have hylen : ys.length = q := hst.len
      have HI := hid hI
      have Hyl := hid hylen
      have Hnl := hid hnl
      clear hst hI hylen hnl
      go_wp2
      refine Mix.wp_mix [.S, .S, .S, .S, .S, .S, .S, .S, .S, .S, .S] [0, 1, 2, 3, 4, 5, 6, 7, 8, 9, 10] (Below wr.heap.size wr) (by kernel_rfl) (by kernel_rfl) ((Below.refl _ _).drew) ?_
      have hC : Below wr.heap.size wr wr.drew := (Below.refl _ _).drew
      generalize wr.drew = w2 at hC ⊢
      repeat (first | (refine Mix.sf_S rfl rfl rfl rfl rfl (Mix.valOp_spec rfl) hC ?_; apply Exists.intro; refine ⟨?_, ?_⟩; · (intro w' hC' K hK; have hk := (bcell hC').1; go_step; exact hK)) | (refine Mix.sf_skipS rfl rfl rfl rfl ?_; apply Exists.intro; refine ⟨?_, ?_⟩; · (intro K hK; go_step; exact hK)) | (refine Mix.sf_skipA rfl rfl rfl rfl ?_; apply Exists.intro; refine ⟨?_, ?_⟩; · (intro K hK; go_step; exact hK)) | (refine Mix.sf_skipL rfl rfl rfl rfl ?_ hC; apply Exists.intro; refine ⟨?_, ?_⟩; · (intro K hK; go_step; exact hK); clear hC; intro wL hC))
      refine Mix.sf_nil ?_
      go_wp2
      refine Mix.wp_mix [.S, .S, .S, .S, .S, .S, .S, .S, .S, .S, .S] [0, 1, 2, 3, 4, 5, 6, 7, 8, 9, 10] (Below wr.heap.size wr) (by kernel_rfl) (by kernel_rfl) (hC.drew) ?_
      replace hC := hC.drew
      generalize w2.drew = w3 at hC ⊢
      repeat (first | (refine Mix.sf_S rfl rfl rfl rfl rfl (Mix.valOp_spec rfl) hC ?_; apply Exists.intro; refine ⟨?_, ?_⟩; · (intro w' hC' K hK; have hk := (bcell hC').1; go_step; exact hK)) | (refine Mix.sf_skipS rfl rfl rfl rfl ?_; apply Exists.intro; refine ⟨?_, ?_⟩; · (intro K hK; go_step; exact hK)) | (refine Mix.sf_skipA rfl rfl rfl rfl ?_; apply Exists.intro; refine ⟨?_, ?_⟩; · (intro K hK; go_step; exact hK)) | (refine Mix.sf_skipL rfl rfl rfl rfl ?_ hC; apply Exists.intro; refine ⟨?_, ?_⟩; · (intro K hK; go_step; exact hK); clear hC; intro wL hC))
      refine Mix.sf_nil ?_
      have hI0 := HI.out.call hC
      have Hrow := hid (show ∀ k, rowOf W ys (H - 1) k = ys.getD (L0 + k) 0 from fun k => by rw [HL0.out]; rfl)
      have Hlast := hid (show lastX W H C = best (rowOf W ys (H - 1)) 0 (W - 1) from best_congr _ fun k _ _ => (row_at (H := H) Hnl.out _ _).symm)
      have Hstep := hid (show ∀ j, best (rowOf W ys (H - 1)) 0 (j + 1) = if ltB (rowOf W ys (H - 1) (0 + (j + 1))) (rowOf W ys (H - 1) (best (rowOf W ys (H - 1)) 0 j)) then 0 + (j + 1) else best (rowOf W ys (H - 1)) 0 j from fun j => rfl)
      have Hin := hid (best_in (rowOf W ys (H - 1)) 0)
      have Hzero := hid (show best (rowOf W ys (H - 1)) 0 0 = 0 from rfl)
      obtain ⟨row, hrow⟩ : ∃ r, r = rowOf W ys (H - 1) := ⟨_, rfl⟩
      rw [← hrow] at Hrow Hlast Hstep Hin Hzero
      clear hrow e0 e1 hBw hC HI
      have e0 := (hI0.below.cell hB).trans Hc.out.1
      have e1 := (hI0.below.cell hB).trans Hc.out.2
      have hBw : b1 < w3.heap.size := Nat.lt_of_lt_of_le hB hI0.below.size
      go_wp2
      go_loopw [10, 11] (fun xx k wx => ∃ j : Nat, j + 1 ≤ W ∧ k = .int .i64 ((j + 1 : Nat) : Int) ∧ xx = .int .i64 ((best row 0 j : Nat) : Int) ∧ Inv w wx [] [(.slice (some ⟨g, 0, none⟩) q cap1, 52, ys.map fv)]) (fun _ k _ => W - (intOf k).toNat)
      case atStart => exact ⟨0, hW1, rfl, by rw [Hzero.out]; rfl, hI0⟩
      case round =>
        clear hI0 e0 e1 hBw
        obtain ⟨j, hjW, rfl, rfl, hI⟩ := hrel
        have e0 := (hI.below.cell hB).trans Hc.out.1
        have e1 := (hI.below.cell hB).trans Hc.out.2
        have hBw := Nat.lt_of_lt_of_le hB hI.below.size
        obtain ⟨e, he⟩ : ∃ e, e = best row 0 j := ⟨_, rfl⟩
        have hin := Hin.out j
        rw [← he] at hin ⊢
        by_cases hlt2 : j + 1 < W
        · obtain ⟨t, ht⟩ : ∃ t, t = j + 1 := ⟨_, rfl⟩
          have hst : best row 0 (j + 1) = if ltB (ys.getD (L0 + t) 0) (ys.getD (L0 + e) 0) then t else e := by
            rw [Hstep.out, ← he, Hrow.out, Hrow.out, Nat.zero_add, ht]
          obtain ⟨j1, hj1⟩ : ∃ k, k = L0 + t := ⟨_, rfl⟩
          obtain ⟨j2, hj2⟩ : ∃ k, k = L0 + e := ⟨_, rfl⟩
          have hj1I : (L0 : Int) + t = j1 := by omega
          have hj2I : (L0 : Int) + e = j2 := by omega
          have hjq1 : j1 < q := by omega
          have hjq2 : j2 < q := by omega
          obtain ⟨g1, off1, hg1, cA, cB, hgl⟩ := (hI.sl 0 rfl).two Hyl.out.symm j1 j2 hjq1 hjq2
          simp only [Option.some.injEq, Addr.mk.injEq, and_true] at hg1
          obtain ⟨rfl, rfl⟩ := hg1
          rw [← hj1, ← hj2] at hst
          obtain ⟨A, hA⟩ : ∃ A, A = ys.getD j1 0 := ⟨_, rfl⟩
          obtain ⟨B, hBd⟩ : ∃ B, B = ys.getD j2 0 := ⟨_, rfl⟩
          rw [← hA, Nat.zero_add] at cA
          rw [← hBd, Nat.zero_add] at cB
          rw [← hA, ← hBd] at hst
          have hlb : ltB A B = (FloatKind.f32.format.order A B == some .lt) := rfl
          obtain ⟨c, hc⟩ : ∃ c, c = ltB A B := ⟨_, rfl⟩
          rw [← hc] at hlb hst
          have Hst := hid hst
          have HI := hid hI
          have Ht := hid ht
          have htW : t < W := by omega
          rw [← ht]
          clear hst hI ht he hin hA hBd hj1 hj2 hc
          cases c
          · have hcmp := hlb.symm
            have Hst := hid (show best row 0 (j + 1) = e from Hst.out)
            clear hlb
            go_wp2
            refine Mix.wp_mix [.S, .S, .S, .S, .S, .S, .S, .S, .S, .S, .S, .S, .S] [0, 1, 2, 3, 4, 5, 6, 7, 8, 9, 10, 11, 12] (Below wr.heap.size wr) (by kernel_rfl) (by kernel_rfl) ((Below.refl _ _).drew) ?_
            have hC : Below wr.heap.size wr wr.drew := (Below.refl _ _).drew
            generalize wr.drew = w4 at hC ⊢
            repeat (first | (refine Mix.sf_S rfl rfl rfl rfl rfl (Mix.valOp_spec rfl) hC ?_; apply Exists.intro; refine ⟨?_, ?_⟩; · (intro w' hC' K hK; have hk := (bcell hC').1; go_step; exact hK)) | (refine Mix.sf_skipS rfl rfl rfl rfl ?_; apply Exists.intro; refine ⟨?_, ?_⟩; · (intro K hK; go_step; exact hK)) | (refine Mix.sf_skipA rfl rfl rfl rfl ?_; apply Exists.intro; refine ⟨?_, ?_⟩; · (intro K hK; go_step; exact hK)) | (refine Mix.sf_skipL rfl rfl rfl rfl ?_ hC; apply Exists.intro; refine ⟨?_, ?_⟩; · (intro K hK; go_step; exact hK); clear hC; intro wL hC))
            refine Mix.sf_nil ?_
            have hI4 := hid (HI.out.call hC)
            clear cA cB
            go_wp2
            go_roundw
            case rel => exact ⟨j + 1, by omega, by have := Ht.out; simp only [Value.int.injEq, true_and]; omega, congrArg (fun q : Nat => Value.int .i64 (q : Int)) Hst.out.symm, hI4.out⟩
            case measure => have := Ht.out; simp [intOf]; omega
          · have hcmp := hlb.symm
            have Hst := hid (show best row 0 (j + 1) = t from Hst.out.trans (if_pos rfl))
            clear hlb
            go_wp2
            refine Mix.wp_mix [.S, .S, .S, .S, .S, .S, .S, .S, .S, .S, .S, .S, .S] [0, 1, 2, 3, 4, 5, 6, 7, 8, 9, 10, 11, 12] (Below wr.heap.size wr) (by kernel_rfl) (by kernel_rfl) ((Below.refl _ _).drew) ?_
            have hC : Below wr.heap.size wr wr.drew := (Below.refl _ _).drew
            generalize wr.drew = w4 at hC ⊢
            repeat (first | (refine Mix.sf_S rfl rfl rfl rfl rfl (Mix.valOp_spec rfl) hC ?_; apply Exists.intro; refine ⟨?_, ?_⟩; · (intro w' hC' K hK; have hk := (bcell hC').1; go_step; exact hK)) | (refine Mix.sf_skipS rfl rfl rfl rfl ?_; apply Exists.intro; refine ⟨?_, ?_⟩; · (intro K hK; go_step; exact hK)) | (refine Mix.sf_skipA rfl rfl rfl rfl ?_; apply Exists.intro; refine ⟨?_, ?_⟩; · (intro K hK; go_step; exact hK)) | (refine Mix.sf_skipL rfl rfl rfl rfl ?_ hC; apply Exists.intro; refine ⟨?_, ?_⟩; · (intro K hK; go_step; exact hK); clear hC; intro wL hC))
            refine Mix.sf_nil ?_
            have hI4 := hid (HI.out.call hC)
            clear cA cB
            go_wp2
            go_roundw
            case rel => exact ⟨j + 1, by omega, by have := Ht.out; simp only [Value.int.injEq, true_and]; omega, congrArg (fun q : Nat => Value.int .i64 (q : Int)) Hst.out.symm, hI4.out⟩
            case measure => have := Ht.out; simp [intOf]; omega
        · have hjW2 : W = j + 1 := by omega
          have Hx0 := hid (show e = lastX W H C by rw [he, Hlast.out, hjW2]; rfl)
          have heW : e < W := by omega
          rw [← hjW2]
          obtain ⟨j1, hj1⟩ : ∃ k, k = L0 + e := ⟨_, rfl⟩
          have hj1I : (L0 : Int) + e = j1 := by omega
          have hjq1 : j1 < q := by omega
          obtain ⟨g1, off1, hg1, cA, -, hgl⟩ := (hI.sl 0 rfl).two Hyl.out.symm j1 j1 hjq1 hjq1
          simp only [Option.some.injEq, Addr.mk.injEq, and_true] at hg1
          obtain ⟨rfl, rfl⟩ := hg1
          obtain ⟨A, hA⟩ : ∃ A, A = ys.getD j1 0 := ⟨_, rfl⟩
          rw [← hA, Nat.zero_add] at cA
          have HN := hid (show Fl.nf .f32 A = seamN W H C by
            rw [hA, hj1, seamN, ← Hnl.out, getD_nl, Hnl.out, ← Hx0.out, HL0.out])
          have HI := hid hI
          clear hI he hin hA hj1 hjW2 Hlast Hstep Hin Hzero Hrow hjW hlt2
          go_wp2_with (at_make; refine wpList_make_full _ rfl _ _ 51 rfl wr.heap.size 2 iI (.int .i64 0) 1 Try.underlying51 hiI hiI0 hiI1 _ _ _ _ H rfl rfl (by omega) (by omega) ?c1 ?c2 ?c3 ?_)
          case c1 => rw [hiI2]; omega
          case c2 => unfold maxLen; omega
          case c3 => exact Nat.le_refl _
          intro w5 hown5 hgrow5
          have hb5 : Below wr.heap.size wr w5 := (Below.refl _ _).grown hgrow5 (Nat.le_refl _) (fun k hk => by cases hk)
          have hI := HI.out.fresh hb5 hown5
          obtain ⟨ds, hds⟩ : ∃ ds, ds = (madeCells #[Value.int .i64 0] H).toList := ⟨_, rfl⟩
          have hdl : ds.length = H := by rw [hds]; exact hown5.1.trans (Nat.mul_one _)
          rw [← hds] at hI
          obtain ⟨G, hG⟩ : ∃ G, G = wr.heap.size := ⟨_, rfl⟩
          rw [← hG] at hI ⊢
          have hI0 : ∃ ds : List Value, ds.length = H ∧ ds.drop H = ((seamL W H C).map iv).drop H ∧ Inv w w5 [] [(.slice (some ⟨G, 0, none⟩) H H, 2, ds), (.slice (some ⟨g, 0, none⟩) q cap1, 52, ys.map fv)] :=
            ⟨ds, hdl, by rw [List.drop_of_length_le (by omega), List.drop_of_length_le (by rw [List.length_map, seamL_len]; omega)], hI⟩
          have Hx0' := hid (show e = backX W H C (min (H - H) (H - 1)) by rw [Nat.sub_self, Nat.zero_min]; exact Hx0.out)
          clear hown5 hgrow5 hds hdl hG e0 e1 hBw cA hgl hb5 HI hiI hiI0 hiI1 hiI2 hi hz0 hz1 hz2
          have e0 := (hI.below.cell hB).trans Hc.out.1
          have e1 := (hI.below.cell hB).trans Hc.out.2
          have hBw := Nat.lt_of_lt_of_le hB hI.below.size
          clear hI
          go_wp2
          go_loopw [10, 14] (fun xx yy wx => ∃ (y : Nat) (ds : List Value), y ≤ H ∧ yy = .int .i64 ((y : Int) - 1) ∧ xx = .int .i64 ((backX W H C (min (H - y) (H - 1)) : Nat) : Int) ∧ ds.length = H ∧ ds.drop y = ((seamL W H C).map iv).drop y ∧
              Inv w wx [] [(.slice (some ⟨G, 0, none⟩) H H, 2, ds), (.slice (some ⟨g, 0, none⟩) q cap1, 52, ys.map fv)]) (fun _ yy _ => (intOf yy + 1).toNat)
          case atStart => obtain ⟨ds, h1, h2, h3⟩ := hI0; exact ⟨H, ds, Nat.le_refl _, rfl, by rw [← Hx0'.out], h1, h2, h3⟩
          case round =>
            clear hI0 e0 e1 hBw
            obtain ⟨y, ds, hyH, rfl, rfl, hdl, hdd, hI⟩ := hrel
            have e0 := (hI.below.cell hB).trans Hc.out.1
            have e1 := (hI.below.cell hB).trans Hc.out.2
            have hBw := Nat.lt_of_lt_of_le hB hI.below.size
            have Hdl := hid hdl
            rcases y with _ | z
            · have Hdd := hid hdd
              have HI := hid hI
              have hfin := l02Finite_any ys _ wr (hI.sl 1 rfl) (by rw [Hyl.out]; omega)
              rw [allFin_nl Hnl.out] at hfin
              clear hdl hdd hI
              go_wp2_with fail
              refine hfin.mono ?_
              rintro e' w7 ⟨rfl, hb7⟩
              clear hfin
              go_wp2
              have hI7 := HI.out.call hb7
              refine bodyPost_ret (v := .tuple #[.slice (some ⟨G, 0, none⟩) H H, fv A, .bool (allFin C)]) (by simp [results, Try.results152, go_sem]) rfl ⟨_, A, rfl, HN.out, ?_, hI7.below⟩
              have hr := hI7.row 0 rfl
              rw [Hdl.out] at hr
              have hd := Hdd.out
              rw [List.drop_zero, List.drop_zero] at hd
              rwa [hd] at hr
            · obtain ⟨X, hX⟩ : ∃ X, X = backX W H C (min (H - (z + 1)) (H - 1)) := ⟨_, rfl⟩
              have hX' : X = backX W H C (H - 1 - z) := by rw [hX, show min (H - (z + 1)) (H - 1) = H - 1 - z by omega]
              rw [← hX, show (((z + 1 : Nat) : Int) - 1) = (z : Int) by omega]
              have hXW : X < W := by rw [hX]; exact backX_lt hW1 _
              have Hdd := hid (show (ds.set z (iv (X : Int))).drop z = ((seamL W H C).map iv).drop z by
                have := seam_cells (W := W) (H := H) (C := C) (ds := ds) (t := H - 1 - z) (by omega) hdl (by rw [show H - (H - 1 - z) = z + 1 by omega]; exact hdd)
                rwa [← hX', show H - 1 - (H - 1 - z) = z by omega, show H - (H - 1 - z + 1) = z by omega] at this)
              have Hdl2 := hid (show (ds.set z (iv (X : Int))).length = H by rw [List.length_set, hdl])
              have HX := hid hX'
              have HI := hid hI
              clear hX hX' hdl hdd hI
              have hrow := HI.out.row 0 rfl
              rw [Hdl.out] at hrow
              have hgc : ∃ u, wr.cell? ⟨G, z, none⟩ = some u := by
                rw [hrow.cellAt z (by omega)]
                exact ⟨_, List.getElem?_eq_getElem (by rw [Hdl.out]; omega)⟩
              obtain ⟨u0, hgc⟩ := hgc
              have hgf : wr.frozen? ⟨G, z, none⟩ = false := hrow.frozenAt z
              have hst := hrow.stored z (iv (X : Int))
              have HI2 := hid (HI.out.mark 0 rfl hst.2 (show (wr.setCell ⟨G, z, none⟩ (iv (X : Int))).ownsRow w.heap.size 2 1 (.slice (some ⟨G, 0, none⟩) H H) ds.length (ds.set z (iv (X : Int))) by rw [Hdl.out]; exact hst.1))
              have hgl := World.block_lt_of_cell? wr _ hgc
              have hne : ¬ (b1 = G) := fun h => own_block_ge hrow hB (by rw [h]; rfl)
              clear hrow hst HI
              rcases z with _ | p
              · go_wp2
                go_roundw
                case rel => exact ⟨0, ds.set 0 (iv (X : Int)), Nat.zero_le _, rfl, by rw [HX.out, show min (H - 0) (H - 1) = H - 1 - 0 by omega], Hdl2.out, Hdd.out, HI2.out⟩
                case measure => simp [intOf]
              · have habv := fun (w3 : World) (h : Below wr.heap.size (wr.setCell ⟨G, p + 1, none⟩ (iv (X : Int))) w3) => l07Above_any W X p _ ys w3 ((HI2.out.sl 1 rfl).mono (by simpa using h)) hW hXW (by omega) (by
                  rw [Hyl.out]
                  have h1 : (p + 1) * W ≤ (H - 1) * W := Nat.mul_le_mul_right W (by omega)
                  have h2 := HL0.out
                  rw [Nat.succ_mul] at h1
                  omega)
                have Hab := hid (show above W (rowOf W ys p) X = backX W H C (min (H - (p + 1)) (H - 1)) by
                  rw [show min (H - (p + 1)) (H - 1) = (H - 1 - (p + 1)) + 1 by omega, backX, ← HX.out, show H - 1 - (H - 1 - (p + 1)) - 1 = p by omega]
                  exact above_congr hXW fun k _ => row_at (H := H) Hnl.out _ _)
                obtain ⟨k, hk⟩ : ∃ k, k = above W (rowOf W ys p) X := ⟨_, rfl⟩
                rw [← hk] at habv Hab
                clear hk
                rw [show (((p + 1 : Nat) : Int)) = (p : Int) + 1 by omega]
                go_wp2_with fail
                refine (habv _ ?_).mono ?_
                · exact Below.refl _ _
                rintro e' w7 ⟨rfl, hb7⟩
                have HI7 := hid (HI2.out.call hb7)
                clear habv hb7
                go_wp2
                go_roundw
                case rel => exact ⟨p + 1, ds.set (p + 1) (iv (X : Int)), by omega, by go_num, by rw [Hab.out], Hdl2.out, Hdd.out, HI7.out⟩
                case measure => simp [intOf]; omega

end Go.Proofs.Ytggbdmgonobefaa
