/-
  What curves and desks are valid: by the program and by the reference.
  Conditions: they read; lengths fit.
-/
import Derived.Test.YtggbdmgonobefaaDkF
import Derived.Test.YtggbdmgonobefaaA14
import Derived.Test.YtggbdmgonobefaaA38
namespace Go.Proofs.Ytggbdmgonobefaa
open Go.RowKit
set_option linter.unusedVariables false
set_option linter.unusedSimpArgs false

def gtB (x y : Nat) : Bool := FloatKind.f32.format.order x y == some .gt
def leB (x y : Nat) : Bool := FloatKind.f32.format.order x y == some .lt || FloatKind.f32.format.order x y == some .eq
def incr (xs : List Nat) : Bool := decide (∀ k, k < xs.length → 0 < k → gtB (xs.getD k 0) (xs.getD (k - 1) 0) = true)
def validC (cx cy : List Nat) : Bool := decide (2 ≤ cx.length ∧ cx.length ≤ 16) && decide (cy.length = cx.length) && allFin cx && allFin cy && incr cx

theorem fin_not_nan {x : Nat} (h : Fl.fin x = true) : Fl.isnan .f32 x = false := by
  cases hn : Fl.isnan .f32 x
  · rfl
  · have h2 : Fl.fop .sub .f32 x x = Fl.NAN .f32 := by
      unfold Fl.fop
      rw [Fl.floatBits_nan_l hn]
      exact Fl.nf_NAN _
    unfold Fl.fin at h
    rw [h2, Fl.isnan_NAN] at h
    cases h

theorem le_gt {x y : Nat} (hx : Fl.fin x = true) (hy : Fl.fin y = true) : leB x y = !gtB x y := by
  have h1 := fin_not_nan hx
  have h2 := fin_not_nan hy
  unfold leB gtB Ieee.Format.order
  unfold Fl.isnan at h1 h2
  cases hr : FloatKind.f32.format.read x with
  | nan s f => rw [hr] at h1; cases h1
  | infinity s =>
    cases hq : FloatKind.f32.format.read y with
    | nan s f => rw [hq] at h2; cases h2
    | infinity t => simp only [Ieee.Datum.order]; cases compare t.toNat s.toNat <;> rfl
    | number t m p => cases s <;> rfl
  | number s m p =>
    cases hq : FloatKind.f32.format.read y with
    | nan s f => rw [hq] at h2; cases h2
    | infinity t => cases t <;> rfl
    | number t n q => simp only [Ieee.Datum.order]; generalize compare (_ : Int) _ = c; cases c <;> rfl

/-- What the program has looked at so far. -/
def curveAt (xs : List Nat) (k : Nat) : Bool := Fl.fin (xs.getD k 0) && (k == 0 || !leB (xs.getD k 0) (xs.getD (k - 1) 0))

theorem allFin_getD {xs : List Nat} (h : allFin xs = true) {k : Nat} (hk : k < xs.length) : Fl.fin (xs.getD k 0) = true := by
  have := List.all_eq_true.1 h xs[k] (List.getElem_mem hk)
  simpa [hk] using this
theorem allFin_of {xs : List Nat} (h : ∀ k, k < xs.length → Fl.fin (xs.getD k 0) = true) : allFin xs = true := by
  refine List.all_eq_true.2 fun x hx => ?_
  obtain ⟨k, hk, rfl⟩ := List.mem_iff_getElem.1 hx
  have := h k hk
  simpa [hk] using this

theorem curve_no {cx cy : List Nat} {k : Nat} (hk : k < cx.length) (h : curveAt cx k = false) (hall : ∀ j, j < k → curveAt cx j = true) : validC cx cy = false := by
  cases hv : validC cx cy
  · rfl
  · exfalso
    simp only [validC, Bool.and_eq_true, decide_eq_true_eq] at hv
    obtain ⟨⟨⟨-, hf⟩, -⟩, hi⟩ := hv
    have h1 := allFin_getD hf hk
    unfold curveAt at h
    rw [h1, Bool.true_and] at h
    simp only [Bool.or_eq_false_iff, Bool.not_eq_false'] at h
    have hk0 : 0 < k := by
      have := h.1
      simp at this
      omega
    have h2 := of_decide_eq_true hi k hk hk0
    have h3 := le_gt h1 (allFin_getD hf (show k - 1 < cx.length by omega))
    rw [h2, h.2] at h3
    cases h3
theorem curve_yes {cx cy : List Nat} (h : ∀ k, k < cx.length → curveAt cx k = true) : validC cx cy = (decide (2 ≤ cx.length ∧ cx.length ≤ 16) && decide (cy.length = cx.length) && allFin cy) := by
  have hf : ∀ k, k < cx.length → Fl.fin (cx.getD k 0) = true := fun k hk => by
    have := h k hk
    simp only [curveAt, Bool.and_eq_true] at this
    exact this.1
  have h1 : allFin cx = true := allFin_of hf
  have h2 : incr cx = true := decide_eq_true fun k hk h0 => by
    have h3 := h k hk
    simp only [curveAt, Bool.and_eq_true, Bool.or_eq_true, beq_iff_eq, Bool.not_eq_true'] at h3
    rcases h3.2 with h4 | h4
    · omega
    · have h5 := le_gt (hf k hk) (hf (k - 1) (by omega))
      rw [h4] at h5
      simpa using h5.symm
  rw [validC, h1, h2, Bool.and_true, Bool.and_true]

theorem Sl.lightD {w : World} {ad : Option Addr} {n cap : Nat} {xs : List Nat} (h : Sl w (.slice ad n cap) (xs.map fv)) (hn : n = xs.length) (k : Nat) (hk : k < n) : ∃ b off, ad = some ⟨b, off, none⟩ ∧ w.cell? ⟨b, off + k, none⟩ = some (fv (xs.getD k 0)) ∧ b < w.heap.size := by
  have hx : k < xs.length := by omega
  have := h.light k hk hx
  simpa [hx] using this

set_option maxHeartbeats 4000000 in
set_option maxRecDepth 100000 in
theorem ValidCurve_any (cx cy : List Nat) (x1 y1 : Value) (w : World) (h1 : Sl w x1 (cx.map fv)) (h2 : Sl w y1 (cy.map fv)) (l1 : cx.length ≤ 140737488351232) (l2 : cy.length ≤ 140737488351232) :
    Calls Try.prog 77 #[.agg #[x1, y1]] w fun e w' => e = .returned (.bool (validC cx cy)) ∧ Below w.heap.size w w' := by
  have hI := (Inv.start w).alloc [x1, y1] 33
  obtain ⟨w1, hw1⟩ : ∃ w1, w1 = w.alloc (.cells #[x1, y1] 33) := ⟨_, rfl⟩
  rw [show w.alloc (.cells [x1, y1].toArray 33) = w1 from hw1.symm] at hI
  have hfin := fun w2 (h : Below w1.heap.size w1 w2) => areFinite_any cy y1 w2 ((hI.arg h2).mono h) l2
  obtain ⟨a1, p1, hv1⟩ := h1.form
  obtain ⟨a2, p2, hv2⟩ := h2.form
  rw [List.length_map] at hv1 hv2
  obtain ⟨n, hn⟩ : ∃ n, n = cx.length := ⟨_, rfl⟩
  obtain ⟨m, hm⟩ : ∃ n, n = cy.length := ⟨_, rfl⟩
  rw [← hn] at hv1 l1
  rw [← hm] at hv2 l2
  subst hv1 hv2
  have Hn := hid hn
  have Hm := hid hm
  have H1 := hid h1
  have q0 := (hI.blk 0 rfl).cell 0
  have q1 := (hI.blk 0 rfl).cell 1
  have hB := (hI.blk 0 rfl).lt
  have HI := hid hI
  have Hfin := hid hfin
  clear hn hm h1 h2 hI hfin
  go_enter Try.func77, Try.ntmps77
  go_wp2
  rw [← hw1]
  clear hw1
  go_loopw [3, 8] (fun _ i wr => ∃ k : Nat, k ≤ n ∧ i = .int .i64 k ∧ (∀ j, j < k → curveAt cx j = true) ∧ Below w1.heap.size w1 wr) (fun _ i _ => n - (intOf i).toNat)
  case atStart => exact ⟨0, Nat.zero_le _, rfl, fun j h => absurd h (Nat.not_lt_zero _), Below.refl _ _⟩
  case round =>
    obtain ⟨k, hk, rfl, hidx, hbw⟩ := hrel
    have Hidx := hid hidx
    have hbl : Below w.heap.size w wr := HI.out.below.trans (hbw.mono HI.out.below.size)
    have e0 := (hbw.cell hB).trans q0
    have e1 := (hbw.cell hB).trans q1
    have hBw : w.heap.size < wr.heap.size := Nat.lt_of_lt_of_le hB hbw.size
    clear hidx
    by_cases hlt : k < n
    · obtain ⟨b, off, rfl, hc1, hbb⟩ := (H1.out.mono hbl).lightD Hn.out k hlt
      have hno : curveAt cx k = false → validC cx cy = false := fun h => curve_no (by rw [← Hn.out]; exact hlt) h Hidx.out
      have hyes : curveAt cx k = true → ∀ j, j < k + 1 → curveAt cx j = true := fun h j hj => by
        by_cases hjk : j = k
        · rw [hjk]; exact h
        · exact Hidx.out j (by omega)
      have hok : curveAt cx k = (Fl.fin (cx.getD k 0) && (k == 0 || !leB (cx.getD k 0) (cx.getD (k - 1) 0))) := rfl
      obtain ⟨x, hx⟩ : ∃ x, x = cx.getD k 0 := ⟨_, rfl⟩
      rw [← hx] at hc1 hok
      have hif := fun w2 => IsFinite_any x w2
      have Hno := hid hno
      have Hyes := hid hyes
      rcases (show Fl.fin x = false ∨ (Fl.fin x = true ∧ k = 0) ∨ (Fl.fin x = true ∧ ∃ j, k = j + 1) by
        cases Fl.fin x
        · exact .inl rfl
        · cases k with
          | zero => exact .inr (.inl ⟨rfl, rfl⟩)
          | succ j => exact .inr (.inr ⟨rfl, j, rfl⟩)) with hpb | ⟨hpb, rfl⟩ | ⟨hpb, j, rfl⟩
      · have HR := hid (Hno.out (by rw [hok, hpb, Bool.false_and]))
        rw [hpb] at hif
        clear hno hyes hok hx
        go_wp2_with fail
        refine (hif _).mono ?_
        rintro e w2 ⟨rfl, z, rfl⟩
        go_wp2
        go_ret
        exact ⟨ret_bool HR.out.symm, Below.drewN' _ hbl⟩
      · have HR := hid (Hyes.out (by rw [hok, hpb]; rfl))
        rw [Nat.add_zero] at hc1
        rw [hpb] at hif
        clear hno hyes hok hx
        go_wp2_with fail
        refine (hif _).mono ?_
        rintro e w2 ⟨rfl, z, rfl⟩
        clear e0 e1 hc1
        go_wp2
        go_roundw
        case rel => exact ⟨0 + 1, by omega, by go_num, HR.out, Below.drewN' _ hbw⟩
        case measure => simp [intOf]; omega
      · obtain ⟨b', off', he, hc2, -⟩ := (H1.out.mono hbl).lightD Hn.out j (by omega)
        simp only [Option.some.injEq, Addr.mk.injEq, and_true] at he
        obtain ⟨rfl, rfl⟩ := he
        rw [Nat.add_sub_cancel] at hok
        obtain ⟨y, hy⟩ : ∃ y, y = cx.getD j 0 := ⟨_, rfl⟩
        rw [← hy] at hc2 hok
        rw [hpb] at hif
        have hle : leB x y = (FloatKind.f32.format.order x y == some .lt || FloatKind.f32.format.order x y == some .eq) := rfl
        cases hl : (FloatKind.f32.format.order x y == some .lt || FloatKind.f32.format.order x y == some .eq)
        · have HR := hid (Hyes.out (by rw [hok, hpb, hle, hl]; simp))
          clear hno hyes hok hx hy hle
          go_wp2_with fail
          refine (hif _).mono ?_
          rintro e w2 ⟨rfl, z, rfl⟩
          go_wp2
          go_roundw
          case rel => exact ⟨j + 1 + 1, by omega, by go_num, HR.out, Below.drewN' _ hbw⟩
          case measure => simp [intOf]; omega
        · have HR := hid (Hno.out (by rw [hok, hpb, hle, hl]; simp))
          clear hno hyes hok hx hy hle
          go_wp2_with fail
          refine (hif _).mono ?_
          rintro e w2 ⟨rfl, z, rfl⟩
          go_wp2
          go_ret
          exact ⟨ret_bool HR.out.symm, Below.drewN' _ hbl⟩
    · have hke : k = n := by omega
      have HR := hid (curve_yes (cy := cy) fun j hj => Hidx.out j (by rw [hke, Hn.out]; exact hj))
      rw [← Hn.out, ← Hm.out] at HR
      clear hke
      have hfin := Hfin.out wr hbw
      have hsz := fun w2 => size_any a1 n p1 w2
      have hbt := fun w2 => between_any (n : Int) 2 16 w2
      by_cases hb : 2 ≤ n ∧ n ≤ 16
      · have hbt' : inB (n : Int) 2 16 = true := by simp [inB]; omega
        rw [hbt'] at hbt
        by_cases hmn : m = n
        · have HR2 := hid (show validC cx cy = allFin cy by rw [HR.out, decide_eq_true hb, decide_eq_true hmn]; rfl)
          have hmn2 : ((m : Int) == n) = true := by simp; omega
          subst hmn
          clear hbt' hmn2
          go_wp2_with fail
          refine (hsz _).mono ?_
          rintro e w2 ⟨rfl, rfl⟩
          go_wp2_with fail
          refine (hbt _).mono ?_
          rintro e w2 ⟨rfl, rfl⟩
          go_wp2_with fail
          refine hfin.mono ?_
          rintro e w2 ⟨rfl, hb2⟩
          go_wp2
          go_ret
          exact ⟨ret_bool HR2.out.symm, hbl.trans (hb2.mono hbl.size)⟩
        · have HR2 := hid (show validC cx cy = false by rw [HR.out, decide_eq_false hmn]; simp)
          have hmn2 : ¬ (m : Int) = n := by omega
          clear hbt'
          go_wp2_with fail
          refine (hsz _).mono ?_
          rintro e w2 ⟨rfl, rfl⟩
          go_wp2_with fail
          refine (hbt _).mono ?_
          rintro e w2 ⟨rfl, rfl⟩
          go_wp2
          go_ret
          exact ⟨ret_bool HR2.out.symm, hbl⟩
      · have HR2 := hid (show validC cx cy = false by rw [HR.out, decide_eq_false hb]; simp)
        have hbt' : inB (n : Int) 2 16 = false := by
          cases h : inB (n : Int) 2 16
          · rfl
          · exact absurd (by simp [inB] at h; omega) hb
        rw [hbt'] at hbt
        clear hbt'
        go_wp2_with fail
        refine (hsz _).mono ?_
        rintro e w2 ⟨rfl, rfl⟩
        go_wp2_with fail
        refine (hbt _).mono ?_
        rintro e w2 ⟨rfl, rfl⟩
        go_wp2
        go_ret
        exact ⟨ret_bool HR2.out.symm, hbl⟩

end Go.Proofs.Ytggbdmgonobefaa
