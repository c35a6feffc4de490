/-
  A slice cloned, a picture copied; a slice made in a region that draws its order.
  Conditions: the lights read as a row of cells; there are some, and not too many.
-/
import Derived.Test.YtggbdmgonobefaaA51
namespace Go.Proofs.Ytggbdmgonobefaa
open Go.RowKit
set_option linter.unusedVariables false
set_option linter.unusedSimpArgs false

namespace Mix
section
variable {P : Program} {l : List Oper} {mk : Nat → Mk} {C : World → Prop} {K0 : Act → World → Prop} {σ : List Nat} {i : Nat} {o : Oper} {a : Act} {w : World}
theorem sf_Amake {d : Tmp} {l0 c0 : Operand} {t : TypeId} (ho : nth l i = some o) (hm : mk i = .A) (hw : Region.wanted o (yielded l.toArray a.tmps) = true) (hdst : o.dst = some d)
    (hop : o.op = .makeSlice t l0 c0) (base : Nat) (e : TypeId) (i0 : TypeInfo) (z : Value) (size : Nat) (h1 : P.underlying t = some (.slice e)) (h2 : P.info? e = some i0) (h3 : i0.zero = some z) (h4 : i0.size = size)
    (kl kc : IntKind) (n : Nat) (hl : a.eval l0 = .int kl n) (hc : a.eval c0 = .int kc n) (b2 : i0.bytes * n ≤ 281474976710656) (b3 : n ≤ maxLen) (b4 : base ≤ w.heap.size)
    (hC : ∀ w', w.grownBy w' none → C w')
    (h : ∀ w', C w' → w'.ownsRow base e size (.slice (some ⟨w.heap.size, 0, none⟩) n n) n (madeCells z.cells (n * size)).toList → w.grownBy w' none →
      ∃ a' : Act, (∀ K : Act → World → Prop, K a' w' → Oper.wp P { dst := some d, op := .move (.const (.slice (some ⟨w.heap.size, 0, none⟩) n n)), type := 0, pos := "", after := #[], guard := none } a w' K Qf) ∧ wpSF P l.toArray mk C K0 σ a' w') :
    wpSF P l.toArray mk C K0 (i :: σ) a w := by
  obtain ⟨w', hr, r1, r2⟩ := run_make_full (P := P) w base t e i0 z size h1 h2 h3 h4 kl kc n b2 b3 b4
  refine sf_A ho hm hw fun K hK => ?_
  unfold Oper.wp
  simp only [execOp, hop, hl, hc, hr, Sem.run_bind, Sem.run_pure, Result.andThen_ok]
  obtain ⟨a', h5, h6⟩ := h w' (hC w' r2) r1 r2
  show K (a.put o.dst _) w'
  rw [hdst, of_put h5]
  exact hK _ _ (hC w' r2) h6
end
end Mix

set_option maxHeartbeats 4000000 in
set_option maxRecDepth 100000 in
theorem Clone_any (v : Value) (xs : List Nat) (w : World) (hs : Sl w v (xs.map fv)) (h1 : 0 < xs.length) (hl : xs.length ≤ 1048576) :
    Calls Try.prog 166 #[v] w fun e w' => ∃ ad cap, e = .returned (.slice ad xs.length cap) ∧ w'.ownsRow w.heap.size 52 1 (.slice ad xs.length cap) xs.length (xs.map fv) ∧ Below w.heap.size w w' := by
  obtain ⟨i0, hi, hz0, hz1, hz2⟩ := info_parts Try.infoF
  obtain ⟨ad, cap, hv⟩ := hs.form
  rw [List.length_map] at hv
  obtain ⟨q, hq⟩ : ∃ q, q = xs.length := ⟨_, rfl⟩
  rw [← hq] at hv h1 hl ⊢
  subst hv
  obtain ⟨b, off, c, rfl, -, -, hbl⟩ := hs.at 0 h1
  have Hcells := hid (sl_cells hs)
  have Hlm := hid (show (xs.map fv).length = q by rw [List.length_map, hq])
  have hown0 := World.ownsRow_lit (base := w.heap.size) (e := 52) (size := 1) w #[] 0 (Nat.le_refl _) (by decide) rfl
  have Hown0 := hid hown0
  have hnil : (binOp .eql 22 (.slice (some ⟨b, off, none⟩) q cap) (.slice none 0 0)).run Try.prog w = .ok (.bool false) w := by kernel_rfl
  clear hs hq hown0
  go_enter Try.func166, Try.ntmps166
  go_wp2_with (at_builtin; go_loud (refine wpList_appN rfl _ _ 22 rfl w.heap.size 52 i0 (.float .f32 0) 4 Try.underlying22 hi hz0 hz1 hz2 rfl (.slice (some ⟨w.heap.size, 0, none⟩) 0 0) 0 [] rfl Hown0.out b off q cap (xs.map fv) Hlm.out rfl ?c1 ?c2 (by unfold maxLen; omega) (by omega) (by simp) ?_))
  case c1 => exact fun j u hj => Hcells.out j (fv u) (by rw [List.getElem?_map, hj]; rfl)
  case c2 => exact fun u hu => rfl
  intro ad1 cap1 w1 hown1 hg1
  have hb1 : Below w.heap.size w w1 := below_grown ((Below.refl _ _).alloc (Nat.le_refl _) _) hg1 Hown0.out (Nat.le_refl _) (by simp)
  have Hown1 := hid hown1
  have Hb1 := hid hb1
  clear hown1 hg1 hb1
  go_wp2
  go_ret
  exact ⟨_, _, rfl, Hown1.out, Hb1.out⟩

set_option maxHeartbeats 4000000 in
set_option maxRecDepth 100000 in
theorem copied_any (W H : Int) (v : Value) (xs : List Nat) (w : World) (hs : Sl w v (xs.map fv)) (h1 : 0 < xs.length) (hl : xs.length ≤ 1048576) :
    Calls Try.prog 107 #[.agg #[.int .i64 W, .int .i64 H, v]] w fun e w' => ∃ ad cap, e = .returned (.agg #[.int .i64 W, .int .i64 H, .slice ad xs.length cap]) ∧
      w'.ownsRow w.heap.size 52 1 (.slice ad xs.length cap) xs.length (xs.map fv) ∧ Below w.heap.size w w' := by
  have hI := ((Inv.start w).alloc [.int .i64 W, .int .i64 H, v] 32).alloc [.int .i64 0, .int .i64 0, .slice none 0 0] 32
  simp only [size_alloc1] at hI
  obtain ⟨w1, hw1⟩ : ∃ w1, w1 = (w.alloc (.cells #[.int .i64 W, .int .i64 H, v] 32)).alloc (.cells #[.int .i64 0, .int .i64 0, .slice none 0 0] 32) := ⟨_, rfl⟩
  rw [show (w.alloc (.cells [Value.int .i64 W, .int .i64 H, v].toArray 32)).alloc (.cells [Value.int .i64 0, .int .i64 0, .slice none 0 0].toArray 32) = w1 from hw1.symm] at hI
  have hcall := Clone_any v xs w1 (hI.arg hs) h1 hl
  obtain ⟨ad0, cap0, rfl⟩ := hs.form
  obtain ⟨n, hn⟩ : ∃ n, n = xs.length := ⟨_, rfl⟩
  obtain ⟨m, hm⟩ : ∃ m, m = (xs.map fv).length := ⟨_, rfl⟩
  rw [← hn] at hcall ⊢
  rw [← hm] at hcall hI hw1 ⊢
  obtain ⟨b, hbe⟩ : ∃ b, b = w.heap.size := ⟨_, rfl⟩
  rw [← hbe] at hI
  have hlm : (xs.map fv).length = n := by rw [List.length_map, hn]
  have Hlm := hid hlm
  clear hs hn hm h1 hl hlm
  go_enter Try.func107, Try.ntmps107
  go_wp2_with fail
  rw [← hw1, ← hbe]
  have Hbe := hid hbe
  clear hw1 hbe
  refine hcall.mono ?_
  rintro e w2 ⟨ad, cap, rfl, hown, hb2⟩
  replace hI := hI.fresh hb2 hown
  have k0 := (hI.blk 1 rfl).cell 0
  have k1 := (hI.blk 1 rfl).cell 1
  have k2 := (hI.blk 1 rfl).cell 2
  have kf := (hI.blk 1 rfl).frozen 2
  have r0 := (hI.blk 0 rfl).cell 0
  have r1 := (hI.blk 0 rfl).cell 1
  have r2 := (hI.blk 0 rfl).cell 2
  have f0 := (hI.blk 0 rfl).frozen 0
  have f1 := (hI.blk 0 rfl).frozen 1
  have f2 := (hI.blk 0 rfl).frozen 2
  have hlb := (hI.blk 1 rfl).lt
  have hlb1 := (hI.blk 0 rfl).lt
  have HI := hid hI
  have Hown := hid (hI.row 0 rfl)
  clear hI hown hb2 hcall
  go_wp2
  refine bodyPost_ret (v := .agg #[.int .i64 W, .int .i64 H, .slice ad n cap]) (by simp [results, Try.results107, go_sem, r0, r1, r2, f0, f1, f2]) rfl ⟨ad, cap, rfl, ?_, ?_⟩
  · have := Hown.out
    rw [Hlm.out] at this
    have n0 := HI.out.sepbox 0 0 rfl rfl
    have n1 := HI.out.sepbox 1 0 rfl rfl
    exact own_setCell_ne (own_setCell_ne (own_setCell_ne (own_setCell_ne this _ _ _ n1) _ _ _ n0) _ _ _ n0) _ _ _ n0
  · have h1 := Hbe.out
    exact ((((HI.out.below).setCell (by simp; omega) _).setCell (by simp; omega) _).setCell (by simp; omega) _).setCell (by simp; omega) _

end Go.Proofs.Ytggbdmgonobefaa
