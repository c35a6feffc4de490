import Derived.Test.YtggbdmgonobefaaA2
import Derived.Test.YtggbdmgonobefaaMixF
namespace Go.Proofs.Ytggbdmgonobefaa
open Go.RowKit
set_option linter.unusedVariables false
set_option linter.unusedSimpArgs false
attribute [local go_sem] Fl.run_fadd Fl.run_fsub Fl.run_fmul Fl.run_fquo Fl.run_wide Fl.run_store_float

/-! ### sameFloat -/

/-- a == b with the sign of nought, or both NaN. -/
def sameB (a b : Nat) : Bool :=
  if Fl.isnan .f64 a || Fl.isnan .f64 b then Fl.isnan .f64 a && Fl.isnan .f64 b
  else if FloatKind.f64.format.order a 0 == some .eq && FloatKind.f64.format.order b 0 == some .eq then
    (FloatKind.f64.format.order (Fl.fop .quo .f64 4607182418800017408 a) 0 == some .gt) == (FloatKind.f64.format.order (Fl.fop .quo .f64 4607182418800017408 b) 0 == some .gt)
  else FloatKind.f64.format.order a b == some .eq

theorem sameB_self (a : Nat) : sameB a a = true := by
  unfold sameB
  cases h : Fl.isnan .f64 a
  · simp [Fl.order_self', h]
  · simp

theorem order_fres {w : World} {op : BinOp} {k : FloatKind} {x y c : Nat} : k.format.order (Fl.fres w op k x y) c = k.format.order (Fl.fop op k x y) c := by
  rw [← Fl.order_nf, Fl.nf_fres, ← Fl.order_nf k (Fl.fop op k x y) c, Fl.nf_fop]

set_option maxHeartbeats 1000000 in
theorem sameFloat_any (a b : Nat) (w : World) :
    Calls Try.prog 35 #[.float .f64 a, .float .f64 b] w fun e w' => e = .returned (.bool (sameB a b)) ∧ Below w.heap.size w w' := by
  cases ha : Fl.isnan .f64 a
  all_goals cases hb : Fl.isnan .f64 b
  all_goals have ha' : (FloatKind.f64.format.order a a != some Ordering.eq) = Fl.isnan .f64 a := Fl.order_self _ _
  all_goals have hb' : (FloatKind.f64.format.order b b != some Ordering.eq) = Fl.isnan .f64 b := Fl.order_self _ _
  all_goals rw [ha] at ha'
  all_goals rw [hb] at hb'
  · cases h1 : (FloatKind.f64.format.order a 0 == some Ordering.eq)
    · have hs : sameB a b = (FloatKind.f64.format.order a b == some .eq) := by simp [sameB, ha, hb, h1]
      have Hs := hid hs
      clear hs
      go_enter Try.func35, Try.ntmps35
      go_wp2
      go_ret
      exact ⟨ret_bool Hs.out.symm, Below.refl _ _⟩
    · cases h2 : (FloatKind.f64.format.order b 0 == some Ordering.eq)
      · have hs : sameB a b = (FloatKind.f64.format.order a b == some .eq) := by simp [sameB, ha, hb, h1, h2]
        have Hs := hid hs
        clear hs
        go_enter Try.func35, Try.ntmps35
        go_wp2
        go_ret
        exact ⟨ret_bool Hs.out.symm, Below.refl _ _⟩
      · have hs : sameB a b = ((FloatKind.f64.format.order (Fl.fop .quo .f64 4607182418800017408 a) 0 == some .gt) == (FloatKind.f64.format.order (Fl.fop .quo .f64 4607182418800017408 b) 0 == some .gt)) := by
          simp only [sameB, ha, hb, h1, h2]; rfl
        have Hs := hid hs
        clear hs
        go_enter Try.func35, Try.ntmps35
        go_wp2
        go_ret
        refine ⟨ret_bool ?_, by first | exact Below.drewN' _ (Below.refl _ _) | exact Below.drewN' _ (Below.drewN' _ (Below.refl _ _))⟩
        rw [Hs.out]
        simp only [order_fres]
  · have hs : sameB a b = false := by simp [sameB, ha, hb]
    have Hs := hid hs
    clear hs
    go_enter Try.func35, Try.ntmps35
    go_wp2
    go_ret
    exact ⟨ret_bool Hs.out.symm, Below.refl _ _⟩
  · have hs : sameB a b = false := by simp [sameB, ha, hb]
    have Hs := hid hs
    clear hs
    go_enter Try.func35, Try.ntmps35
    go_wp2
    go_ret
    exact ⟨ret_bool Hs.out.symm, Below.refl _ _⟩
  · have hs : sameB a b = true := by simp [sameB, ha, hb]
    have Hs := hid hs
    clear hs
    go_enter Try.func35, Try.ntmps35
    go_wp2
    go_ret
    exact ⟨ret_bool Hs.out.symm, Below.refl _ _⟩

/-- Two words of one number are the same. -/
theorem sameB_nf {a b : Nat} (h : Fl.nf .f64 a = Fl.nf .f64 b) : sameB a b = true := by
  cases ha : Fl.isnan .f64 a
  · cases hb : Fl.isnan .f64 b
    · rw [Fl.nf_of_not ha, Fl.nf_of_not hb] at h
      rw [h]; exact sameB_self b
    · rw [← Fl.isnan_nf, h, Fl.isnan_nf, hb] at ha; cases ha
  · have hb : Fl.isnan .f64 b = true := by rw [← Fl.isnan_nf, ← h, Fl.isnan_nf, ha]
    simp [sameB, ha, hb]

theorem nl_get {xs ys : List Nat} (h : nl xs = nl ys) {k : Nat} (hk : k < xs.length) (hk' : k < ys.length) : Fl.nf .f32 xs[k] = Fl.nf .f32 ys[k] := by
  have h1 : (nl xs)[k]? = (nl ys)[k]? := by rw [h]
  simpa [nl, hk, hk'] using h1

theorem wide_same {r1 r2 x y : Nat} (h1 : Fl.nf .f64 r1 = Fl.wide x) (h2 : Fl.nf .f64 r2 = Fl.wide y) (h : Fl.nf .f32 x = Fl.nf .f32 y) : Fl.nf .f64 r1 = Fl.nf .f64 r2 := by
  rw [h1, h2, ← Fl.wide_nf x, h, Fl.wide_nf y]

set_option maxHeartbeats 2000000 in
theorem eqFloat32S_yes (xs ys : List Nat) (va vb : Value) (w : World) (ha : Sl w va (xs.map fv)) (hb : Sl w vb (ys.map fv)) (hlen : xs.length ≤ 140737488351232) (h : nl xs = nl ys) :
    Calls Try.prog 90 #[va, vb] w fun e w' => e = .returned (.bool true) ∧ Below w.heap.size w w' := by
  have hl : xs.length = ys.length := by have := congrArg List.length h; simpa [nl] using this
  obtain ⟨ada, capa, hva⟩ := ha.form
  obtain ⟨adb, capb, hvb⟩ := hb.form
  rw [List.length_map] at hva hvb
  rw [← hl] at hvb
  obtain ⟨n, hn⟩ : ∃ n, n = xs.length := ⟨_, rfl⟩
  rw [← hn] at hva hvb hlen
  rw [hva] at ha ⊢
  rw [hvb] at hb ⊢
  have Hn := hid hn
  have Hl := hid hl
  have H := hid h
  clear hva hvb hn hl h
  go_enter Try.func90, Try.ntmps90
  go_wp2
  go_loopw [5] (fun i wr => ∃ k : Nat, k ≤ n ∧ i = .int .i64 k ∧ Below w.heap.size w wr) (fun i _ => n - (intOf i).toNat)
  case atStart => exact ⟨0, Nat.zero_le _, rfl, Below.refl _ _⟩
  case round =>
    obtain ⟨k, hk, rfl, hbw⟩ := hrel
    by_cases hlt : k < n
    · obtain ⟨ba, offa, ca, rfl, hca, hcella, hbsa⟩ := (ha.mono hbw).at k hlt
      obtain ⟨bb, offb, cb, rfl, hcb, hcellb, hbsb⟩ := (hb.mono hbw).at k hlt
      have hka : k < xs.length := by rw [← Hn.out]; exact hlt
      have hkb : k < ys.length := by rw [← Hl.out]; exact hka
      have hsame := nl_get H.out hka hkb
      have hea : ca = fv xs[k] := by
        rw [List.getElem?_map, List.getElem?_eq_getElem hka] at hca
        exact (Option.some.inj hca).symm
      have heb : cb = fv ys[k] := by
        rw [List.getElem?_map, List.getElem?_eq_getElem hkb] at hcb
        exact (Option.some.inj hcb).symm
      rw [hea] at hcella
      rw [heb] at hcellb
      obtain ⟨x, hx⟩ : ∃ x, x = xs[k] := ⟨_, rfl⟩
      obtain ⟨y, hy⟩ : ∃ y, y = ys[k] := ⟨_, rfl⟩
      rw [← hx] at hcella hsame
      rw [← hy] at hcellb hsame
      have Hsame := hid hsame
      clear hca hcb hea heb hx hy hsame ha hb
      go_wp2
      refine Mix.wp_mix [.S, .S, .S, .S, .L, .S, .S, .S, .S, .L, .A, .S] [0, 1, 2, 3, 5, 6, 7, 8, 4, 9, 10, 11] (Below wr.heap.size wr) (by kernel_rfl) (by kernel_rfl) ((Below.refl _ _).drew) ?_
      have hC : Below wr.heap.size wr wr.drew := (Below.refl _ _).drew
      generalize wr.drew = w2 at hC ⊢
      repeat (first | (refine Mix.sf_S rfl rfl rfl rfl rfl (Mix.valOp_spec rfl) hC ?_; apply Exists.intro; refine ⟨?_, ?_⟩; · (intro w' hC' K hK; have hk := (bcell hC').1; go_step; exact hK)) | (refine Mix.sf_skipS rfl rfl rfl rfl ?_; apply Exists.intro; refine ⟨?_, ?_⟩; · (intro K hK; go_step; exact hK)) | (refine Mix.sf_skipA rfl rfl rfl rfl ?_; apply Exists.intro; refine ⟨?_, ?_⟩; · (intro K hK; go_step; exact hK)) | (refine Mix.sf_skipL rfl rfl rfl rfl ?_ hC; apply Exists.intro; refine ⟨?_, ?_⟩; · (intro K hK; go_step; exact hK); clear hC; intro wL hC))
      refine Mix.sf_Lwide rfl rfl rfl rfl rfl (by rw [Try.underlying52]; rfl) Try.underlying58 rfl below_draws ?_; clear hC; intro r1 h1 wL hC; apply Exists.intro; refine ⟨?_, ?_⟩; · (intro K hK; go_step; exact hK)
      refine Mix.sf_Lwide rfl rfl rfl rfl rfl (by rw [Try.underlying52]; rfl) Try.underlying58 rfl below_draws ?_; clear hC; intro r2 h2 wL hC; apply Exists.intro; refine ⟨?_, ?_⟩; · (intro K hK; go_step; exact hK)
      have hr := wide_same h1 h2 Hsame.out
      have Hr := hid hr
      clear hr
      clear h1 h2
      refine Mix.sf_A rfl rfl rfl ?_; intro K hK; go_step
      refine (sameFloat_any _ _ _).mono ?_
      rintro e w' ⟨rfl, hb3⟩
      rw [sameB_nf Hr.out]
      refine hK _ _ (hC.trans (hb3.mono hC.size)) ?_
      replace hC := hC.trans (hb3.mono hC.size)
      clear hK K hb3
      repeat (first | (refine Mix.sf_S rfl rfl rfl rfl rfl (Mix.valOp_spec rfl) hC ?_; apply Exists.intro; refine ⟨?_, ?_⟩; · (intro w' hC' K hK; have hk := (bcell hC').1; go_step; exact hK)) | (refine Mix.sf_skipS rfl rfl rfl rfl ?_; apply Exists.intro; refine ⟨?_, ?_⟩; · (intro K hK; go_step; exact hK)) | (refine Mix.sf_skipA rfl rfl rfl rfl ?_; apply Exists.intro; refine ⟨?_, ?_⟩; · (intro K hK; go_step; exact hK)) | (refine Mix.sf_skipL rfl rfl rfl rfl ?_ hC; apply Exists.intro; refine ⟨?_, ?_⟩; · (intro K hK; go_step; exact hK); clear hC; intro wL hC))
      refine Mix.sf_nil ?_
      go_wp2
      go_roundw
      case rel => exact ⟨k + 1, by omega, by go_num, hbw.trans (hC.mono hbw.size)⟩
      case measure => simp [intOf]; omega
    · go_wp2
      go_ret
      exact ⟨rfl, hbw⟩

end Go.Proofs.Ytggbdmgonobefaa
