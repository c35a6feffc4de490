/-
  Arguments opened: lists of one-cell elements and pictures, out of a reading, with their lengths under the form's reach.
  Conditions: the reading, and each weight of it within the reach.
-/
import Derived.Test.YtggbdmgonobefaaL3
import Derived.ProofKit
import Derived.OpenShut
import Derived.Deep.Slices
import Derived.Lib.SmallJoins
import Derived.Lib.LaidU8
import Derived.SizedLaws
import Derived.Carry
import Derived.Laws.Cover2
namespace Go.Proofs.Ytggbdmgonobefaa
open Go.RowKit
set_option linter.unusedVariables false
set_option linter.unusedSimpArgs false
open Go.ChangeShapes Go.WideShapes Go.ChangeAt Go.Joins Go.Deep

section
variable {H : Type} {enc : TypeId × Value → H} {P : Program} {w : World} {base : Nat} {spare : Nat → Bool} {held : Bool}

theorem open_cells {α : Type} (mk : α → Value) (ok : α → Prop) {t e : TypeId} {fuel : Nat} {v : Value} {x : DataW H × List MemPlace} (ht : P.underlying t = some (.slice e)) (hc : P.cellsOf e = 1)
    (helem : ∀ n u y, DataW.trod enc P w base spare held n e [u] = some y → ∃ a, u = mk a ∧ ok a) (hk : 1 ≤ P.bytesOf e) (h : DataW.trod enc P w base spare held fuel t [v] = some x) (hwt : ∀ n ∈ x.1.weights P t, n ≤ reachBytes) :
    ∃ xs : List α, Sl w v (xs.map mk) ∧ xs.length ≤ 140737488351232 ∧ ∀ a ∈ xs, ok a := by
  rcases open_slice1 ht hc h with ⟨hcs, rfl⟩ | ⟨a, len, cap, m, n, V, D, Pl, hcs, _, hl, _, hm, rfl, hx⟩
  · simp only [List.cons.injEq, and_true] at hcs
    subst hcs
    exact ⟨[], Sl.nil _ _ _, by simp, by simp⟩
  · simp only [List.cons.injEq, and_true] at hcs
    subst hcs
    have hlm : len ≤ m := by rw [hm]; split <;> omega
    have hch : ∀ k, k ≤ m → ∃ xs : List α, xs.length = k ∧ (∀ i, i < k → (xs.map mk)[i]? = some (V i)) ∧ ∀ a ∈ xs, ok a := by
      intro k
      induction k with
      | zero => exact fun _ => ⟨[], rfl, fun i hi => absurd hi (Nat.not_lt_zero _), by simp⟩
      | succ k ih =>
        intro hk'
        obtain ⟨xs, hl, hv, ho⟩ := ih (by omega)
        obtain ⟨a, ha, hao⟩ := helem _ _ _ (hx k (by omega)).2
        refine ⟨xs ++ [a], by simp [hl], fun i hi => ?_, fun y hy => ?_⟩
        · rw [List.map_append]
          by_cases hik : i < k
          · rw [List.getElem?_append_left (by simp [hl]; exact hik)]
            exact hv i hik
          · have : i = k := by omega
            subst this
            rw [List.getElem?_append_right (by simp [hl])]
            simp [hl, ha]
        · rcases List.mem_append.1 hy with h1 | h1
          · exact ho y h1
          · rw [List.mem_singleton.1 h1]; exact hao
    obtain ⟨xs, hlen, hv, ho⟩ := hch len hlm
    have hb : len ≤ 140737488351232 := by
      have h1 := hwt ((len + (m - len)) * P.bytesOf e) (by simp [DataW.weights, ht])
      have h2 : len * 1 ≤ (len + (m - len)) * P.bytesOf e := Nat.mul_le_mul (by omega) hk
      unfold reachBytes at h1
      omega
    refine ⟨xs, ⟨some a, cap, by simp [hlen], fun i c hi => ?_⟩, by omega, ho⟩
    have hil : i < len := by have := (List.getElem?_eq_some_iff.1 hi).1; simpa [hlen] using this
    rw [hv i hil] at hi
    obtain rfl := Option.some.inj hi
    have hcell := (hx i (by omega)).1
    obtain ⟨b, off, sp⟩ := a
    have h0 := (hx 0 (by omega)).1
    rw [show (⟨b, off, sp⟩ : Addr).add 0 = ⟨b, off, sp⟩ from rfl] at h0
    obtain rfl := cell_spot h0
    rw [show (⟨b, off, none⟩ : Addr).add i = ⟨b, off + i, none⟩ by unfold Addr.add; split <;> simp_all] at hcell
    exact ⟨b, off, rfl, hcell⟩

theorem trod_f32 {t : TypeId} {n : Nat} {u : Value} {y : DataW H × List MemPlace} (ht : P.underlying t = some (.float .f32)) (h : DataW.trod enc P w base spare held n t [u] = some y) : ∃ a, u = fv a ∧ (Lit.float .f32 a).wf = true := by
  cases n with
  | zero => simp [DataW.trod] at h
  | succ n =>
    unfold DataW.trod at h
    rw [ht] at h
    split at h <;> simp_all

theorem trod_i64 {t : TypeId} {n : Nat} {u : Value} {y : DataW H × List MemPlace} (ht : P.underlying t = some (.int .i64)) (h : DataW.trod enc P w base spare held n t [u] = some y) : ∃ a, u = iv a ∧ (Lit.int .i64 a).wf = true := by
  obtain ⟨a, h1, _, h2⟩ := DataW.trod_int ht h
  simp only [List.cons.injEq, and_true] at h1
  exact ⟨a, h1, h2⟩
end

theorem Try.cellsF : Try.prog.cellsOf 52 = 1 := by kernel_rfl
theorem Try.cellsI : Try.prog.cellsOf 2 = 1 := by kernel_rfl
theorem Try.bytesF : 1 ≤ Try.prog.bytesOf 52 := of_decide_eq_true (by kernel_rfl)
theorem Try.bytesI : 1 ≤ Try.prog.bytesOf 2 := of_decide_eq_true (by kernel_rfl)
theorem Try.cellsPic : Try.prog.cellsOf 24 = 3 := by kernel_rfl
theorem Try.laidOut : laidOutB Try.prog = true := by kernel_rfl

section
variable {H : Type} {enc : TypeId × Value → H} {w : World} {base : Nat} {spare : Nat → Bool} {held : Bool}

theorem weights_at {P : Program} {ts : List TypeId} {ds : List (DataW H)} (h : (DataW.weightsEach P ts ds).all (· ≤ reachBytes) = true) (j : Nat) {t : TypeId} {d : DataW H} (ht : ts[j]? = some t) (hd : ds[j]? = some d) : ∀ n ∈ d.weights P t, n ≤ reachBytes :=
  fun n hn => of_decide_eq_true (List.all_eq_true.1 h n (DataW.weights_mem_each ht hd n hn))

set_option maxRecDepth 100000 in
/-- A list of integers. -/
theorem open_i64s {r : Reach} {b0 : Nat} {v : Value} {d : DataW H} {p : List MemPlace} (hv : Value.okWide Try.prog w r b0 51 v) (h : DataW.Trod enc Try.prog w base spare held 51 v d p) (hw : ∀ n ∈ d.weights Try.prog 51, n ≤ reachBytes) :
    ∃ xs : List Int, Sl w v (xs.map iv) ∧ xs.length ≤ 140737488351232 ∧ ∀ a ∈ xs, (Lit.int .i64 a).wf = true := by
  obtain ⟨fuel, hf⟩ := h
  have hc : v.cells.toList = [v] := by
    simp only [Value.okWide, Try.underlying51, Cell.okWide] at hv
    cases v <;> simp_all [Cell.ok, Value.cells]
  rw [hc] at hf
  exact open_cells iv _ Try.underlying51 Try.cellsI (fun n u y h => trod_i64 Try.underlying2 h) Try.bytesI hf hw

set_option maxRecDepth 100000 in
/-- A picture by value. -/
theorem open_pic {r : Reach} {b0 : Nat} {v : Value} {d : DataW H} {p : List MemPlace} (hv : Value.okWide Try.prog w r b0 24 v) (h : DataW.Trod enc Try.prog w base spare held 24 v d p) (hw : ∀ n ∈ d.weights Try.prog 24, n ≤ reachBytes) :
    ∃ (W H' : Int) (lv : Value) (xs : List Nat), v = .agg #[.int .i64 W, .int .i64 H', lv] ∧ Sl w lv (xs.map fv) ∧ xs.length ≤ 140737488351232 ∧ (Lit.int .i64 W).wf = true ∧ (Lit.int .i64 H').wf = true ∧ ∀ a ∈ xs, (Lit.float .f32 a).wf = true := by
  obtain ⟨c0, c1, c2, y0, y1, y2, m, rfl, rfl, rfl, hy0, hy1, hy2⟩ := open_agg3 Try.underlying24 (by kernel_rfl) Try.cellsPic hv h
  obtain ⟨W, rfl, hW⟩ := trod_i64 Try.underlying2 hy0
  obtain ⟨H', rfl, hH⟩ := trod_i64 Try.underlying2 hy1
  obtain ⟨xs, hx, hl, ho⟩ := open_cells fv _ Try.underlying22 Try.cellsF (fun n u y h => trod_f32 Try.underlying52 h) Try.bytesF hy2 (fun n hn => hw n (by
    simp only [DataW.weights, Try.underlying24]
    simp [DataW.weightsEach, hn]))
  exact ⟨W, H', c2, xs, rfl, hx, hl, hW, hH, ho⟩
end

end Go.Proofs.Ytggbdmgonobefaa
