import Derived.Test.YtjennldpjfeppaaA3
namespace Go.Proofs.Ytjennldpjfeppaa
open Go.RowKit
set_option linter.unusedVariables false
set_option linter.unusedSimpArgs false
attribute [local go_sem] Fl.run_fadd Fl.run_fsub Fl.run_fmul Fl.run_fquo Fl.run_wide Fl.run_store_float

/-! ### What a function that hands back a picture and a Bool leaves -/

/-- A picture as data: its sides and its lights, canonical. -/
structure Pic where
  W : Int
  H : Int
  L : List Nat

def PicRes (w : World) (r : Option Pic) (e : Ending) (w' : World) : Prop :=
  match r with
  | none => e = .returned (.tuple #[.agg #[.int .i64 0, .int .i64 0, .slice none 0 0], .bool false]) ∧ Below w.heap.size w w'
  | some p => ∃ v ys, e = .returned (.tuple #[.agg #[.int .i64 p.W, .int .i64 p.H, v], .bool true]) ∧ w'.ownsRow w.heap.size 53 1 v ys.length (ys.map fv) ∧ nl ys = p.L ∧ Below w.heap.size w w'

set_option maxHeartbeats 400000 in
theorem l00In_any (n lo hi : Int) (w : World) :
    Calls Try.prog 54 #[.int .i64 n, .int .i64 lo, .int .i64 hi] w fun e w' => e = .returned (.bool (inB n lo hi)) ∧ w = w' := by
  go_enter Try.func54, Try.ntmps54
  go_wp2
  · have h : lo ≤ n := by assumption
    go_ret
    exact ⟨by simp [inB, h], rfl⟩
  · have h : n < lo := by assumption
    go_ret
    exact ⟨by simp [inB]; omega, rfl⟩

set_option maxHeartbeats 400000 in
theorem areSides_any (W H : Int) (w : World) :
    Calls Try.prog 55 #[.int .i64 W, .int .i64 H] w fun e w' => e = .returned (.bool (inB W 1 16 && inB H 1 16)) ∧ w = w' := by
  have hb := between_any
  cases h1 : inB W 1 16
  all_goals
    go_enter Try.func55, Try.ntmps55
    go_wp2_with fail
    refine (hb _ _ _ _).mono ?_
    rintro e w' ⟨rfl, rfl⟩
    rw [h1]
    go_wp2_with fail
  · go_ret
    exact ⟨rfl, rfl⟩
  · refine (hb _ _ _ _).mono ?_
    rintro e w' ⟨rfl, rfl⟩
    go_wp2
    go_ret
    exact ⟨by simp, rfl⟩

/-! ### FeatherMask -/

def featherV (at' over : Int) (x : Nat) : Nat :=
  if (x : Int) < at' then 0 else if at' + over ≤ x then 1065353216 else Fl.fop .quo .f32 (floatOfInt .f32 (x - at' + 1)) (floatOfInt .f32 (over + 1))

theorem nf_zero : Fl.nf .f32 0 = 0 := by decide +kernel
theorem nf_one : Fl.nf .f32 1065353216 = 1065353216 := by decide +kernel

set_option maxHeartbeats 1000000 in
theorem Feather1_any (at' over : Int) (ba bo : Nat) (x y : Nat) (w : World) (ha : w.cell? ⟨ba, 0, none⟩ = some (.int .i64 at')) (ho : w.cell? ⟨bo, 0, none⟩ = some (.int .i64 over))
    (h1 : 0 ≤ at') (h2 : at' ≤ 16) (h3 : 0 ≤ over) (h4 : over ≤ 16) (hx : x ≤ 16) :
    Calls Try.prog 58 #[.int .i64 x, .int .i64 y, .pointer (some ⟨ba, 0, none⟩), .pointer (some ⟨bo, 0, none⟩)] w fun e w' => ∃ r, e = .returned (fv r) ∧ Fl.nf .f32 r = featherV at' over x ∧ Below w.heap.size w w' := by
  by_cases c1 : (x : Int) < at'
  · have hv : featherV at' over x = 0 := by simp [featherV, c1]
    have Hv := hid hv
    clear hv
    go_enter Try.func58, Try.ntmps58
    go_wp2
    go_ret
    exact ⟨0, rfl, by rw [Hv.out]; exact nf_zero, Below.refl _ _⟩
  · by_cases c2 : at' + over ≤ x
    · have hv : featherV at' over x = 1065353216 := by simp [featherV, c1, c2]
      have Hv := hid hv
      clear hv
      go_enter Try.func58, Try.ntmps58
      go_wp2
      go_ret
      exact ⟨_, rfl, by rw [Hv.out]; exact nf_one, Below.refl _ _⟩
    · have hv : featherV at' over x = Fl.fop .quo .f32 (floatOfInt .f32 (x - at' + 1)) (floatOfInt .f32 (over + 1)) := by simp [featherV, c1, c2]
      have Hv := hid hv
      clear hv
      go_enter Try.func58, Try.ntmps58
      go_wp2
      go_ret
      exact ⟨_, rfl, by rw [Hv.out]; exact Fl.nf_fres _ _ _ _ _, Below.drewN' _ (Below.refl _ _)⟩

def featherR (W H at' over : Int) : Option Pic :=
  if inB W 1 16 && inB H 1 16 && inB at' 0 16 && inB over 0 16 then some ⟨W, H, grid W.toNat H.toNat fun x _ => featherV at' over x⟩ else none

theorem entF1 (args : Array Value) (w : World) : (callFunc 58 args).run Try.prog w = .ok (.enter 58 args) w := by kernel_rfl

set_option maxHeartbeats 2000000 in
set_option maxRecDepth 100000 in
theorem implFeather_any (W H at' over : Int) (w : World) :
    Calls Try.prog 16 #[.int .i64 W, .int .i64 H, .int .i64 at', .int .i64 over] w (PicRes w (featherR W H at' over)) := by
  have hb := between_any
  cases h1 : (inB W 1 16 && inB H 1 16)
  · have hr : featherR W H at' over = none := by simp [featherR, h1]
    rw [hr]
    clear hr
    go_enter Try.func16, Try.ntmps16
    go_wp2_with (go_at_call 55; refine (areSides_any _ _ _).mono ?_; rintro e w' ⟨rfl, rfl⟩; rw [h1])
    refine bodyPost_ret (v := .tuple #[.agg #[.int .i64 0, .int .i64 0, .slice none 0 0], .bool false]) (by simp [results, Try.results16, go_sem]) rfl ⟨rfl, ?_⟩
    exact (((Below.refl _ _).alloc (Nat.le_refl _) _).alloc (by simp) _).alloc (by simp; omega) _
  · cases h2 : inB at' 0 16
    · have hr : featherR W H at' over = none := by simp [featherR, h1, h2]
      rw [hr]
      clear hr
      go_enter Try.func16, Try.ntmps16
      go_wp2_with (first | (go_at_call 55; refine (areSides_any _ _ _).mono ?_; rintro e w' ⟨rfl, rfl⟩; rw [h1]) | (go_at_call 56; refine (hb _ _ _ _).mono ?_; rintro e w' ⟨rfl, rfl⟩; rw [h2]))
      refine bodyPost_ret (v := .tuple #[.agg #[.int .i64 0, .int .i64 0, .slice none 0 0], .bool false]) (by simp [results, Try.results16, go_sem]) rfl ⟨rfl, ?_⟩
      exact (((Below.refl _ _).alloc (Nat.le_refl _) _).alloc (by simp) _).alloc (by simp; omega) _
    · cases h3 : inB over 0 16
      · have hr : featherR W H at' over = none := by simp [featherR, h3]
        rw [hr]
        clear hr
        go_enter Try.func16, Try.ntmps16
        go_wp2_with (go_at_call 55; refine (areSides_any _ _ _).mono ?_; rintro e w' ⟨rfl, rfl⟩; rw [h1])
        refine (hb _ _ _ _).mono ?_
        rintro e w' ⟨rfl, rfl⟩
        rw [h2]
        go_wp2_with fail
        refine (hb _ _ _ _).mono ?_
        rintro e w' ⟨rfl, rfl⟩
        rw [h3]
        go_wp2
        refine bodyPost_ret (v := .tuple #[.agg #[.int .i64 0, .int .i64 0, .slice none 0 0], .bool false]) (by simp [results, Try.results16, go_sem]) rfl ⟨rfl, ?_⟩
        exact (((Below.refl _ _).alloc (Nat.le_refl _) _).alloc (by simp) _).alloc (by simp; omega) _
      · have h1' : inB W 1 16 = true ∧ inB H 1 16 = true := by simpa using h1
        have hW := inB_spec.1 h1'.1
        have hH := inB_spec.1 h1'.2
        have hA := inB_spec.1 h2
        have hO := inB_spec.1 h3
        obtain ⟨m, rfl⟩ := Int.eq_ofNat_of_zero_le (show 0 ≤ W by omega)
        obtain ⟨n, rfl⟩ := Int.eq_ofNat_of_zero_le (show 0 ≤ H by omega)
        have hr : featherR m n at' over = some ⟨m, n, grid m n fun x _ => featherV at' over x⟩ := by simp [featherR, h1'.1, h1'.2, h2, h3]
        rw [hr]
        clear hr h1'
        have hmf : ∀ (fn : Fn) (first cap : Array Value) (w : World), (Instr.makeFunc fn first cap).run Try.prog w = .ok (.func fn first cap) w := fun _ _ _ _ => rfl
        go_enter Try.func16, Try.ntmps16
        go_wp2_with (go_at_call 55; refine (areSides_any _ _ _).mono ?_; rintro e w' ⟨rfl, rfl⟩; rw [h1])
        refine (hb _ _ _ _).mono ?_
        rintro e w' ⟨rfl, rfl⟩
        rw [h2]
        go_wp2_with fail
        refine (hb _ _ _ _).mono ?_
        rintro e w' ⟨rfl, rfl⟩
        rw [h3]
        go_wp2_with fail
        obtain ⟨w1, hw1⟩ : ∃ w1, w1 = ((w.alloc (.cells #[.int .i64 at'] 2)).alloc (.cells #[.int .i64 over] 2)).alloc (.cells #[.int .i64 0, .int .i64 0, .slice none 0 0] 24) := ⟨_, rfl⟩
        have hb1 : Below w.heap.size w w1 := by rw [hw1]; exact (((Below.refl _ _).alloc (Nat.le_refl _) _).alloc (by simp) _).alloc (by simp; omega) _
        have c0 : w1.cell? ⟨w.heap.size, 0, none⟩ = some (.int .i64 at') := by rw [hw1]; simp [go_sem]
        have c1 : w1.cell? ⟨w.heap.size + 1, 0, none⟩ = some (.int .i64 over) := by rw [hw1]; simp [go_sem]
        have hres : Blk w1 (w.heap.size + 2) [.int .i64 0, .int .i64 0, .slice none 0 0] 24 := by
          rw [hw1]
          have := Blk.new ((w.alloc (.cells #[.int .i64 at'] 2)).alloc (.cells #[.int .i64 over] 2)) [.int .i64 0, .int .i64 0, .slice none 0 0] 24
          simpa using this
        rw [← hw1]
        have hsz : w.heap.size + 2 < w1.heap.size := hres.lt
        clear hw1
        refine (drawn_any m n (by omega) (by omega) 58 #[.pointer (some ⟨w.heap.size, 0, none⟩), .pointer (some ⟨w.heap.size + 1, 0, none⟩)] (fun x _ => featherV at' over x) w1 entF1 ?hf).mono ?_
        case hf =>
          intro x y w2 hx hy hb2
          exact Feather1_any at' over _ _ x y w2 (((bcell hb2).1 _ _ (by omega)).trans c0) (((bcell hb2).1 _ _ (by omega)).trans c1) hA.1 hA.2 hO.1 hO.2 (by omega)
        rintro e w2 ⟨v, ys, rfl, hown, hys, hb2⟩
        obtain ⟨ad', cap', rfl, _⟩ := own_form hown
        have hres2 := hres.below hb2 hsz
        have r0 : w2.cell? ⟨w.heap.size + 1 + 1, 0, none⟩ = some (.int .i64 0) := hres2.cell 0
        have r1 : w2.cell? ⟨w.heap.size + 1 + 1, 1, none⟩ = some (.int .i64 0) := hres2.cell 1
        have r2 : w2.cell? ⟨w.heap.size + 1 + 1, 2, none⟩ = some (.slice none 0 0) := hres2.cell 2
        have f0 : w2.frozen? ⟨w.heap.size + 1 + 1, 0, none⟩ = false := hres2.frozen 0
        have f1 : w2.frozen? ⟨w.heap.size + 1 + 1, 1, none⟩ = false := hres2.frozen 1
        have f2 : w2.frozen? ⟨w.heap.size + 1 + 1, 2, none⟩ = false := hres2.frozen 2
        have Hown := hid hown
        have Hys := hid hys
        have Hb := hid (hb1.trans (hb2.mono hb1.size))
        clear hown hys hb1 hb2 hres hres2 c0 c1
        go_wp2
        refine bodyPost_ret (v := .tuple #[.agg #[.int .i64 m, .int .i64 n, .slice ad' ys.length cap'], .bool true]) (by simp [results, Try.results16, go_sem, r0, r1, r2, f0, f1, f2]) rfl ⟨_, ys, rfl, ?_, Hys.out, ?_⟩
        · exact own_base (by omega) (ownsRow_setCell_below (ownsRow_setCell_below (ownsRow_setCell_below Hown.out (by simp; omega) _) (by simp; omega) _) (by simp; omega) _)
        · exact (((Hb.out).setCell (by simp; omega) _).setCell (by simp; omega) _).setCell (by simp; omega) _

/-! ### The reference -/

theorem grownBy_of_drewN {w w' : World} {n : Nat} {o : Obj} {row : Option Nat} (h : ((w.drewN n).alloc o).grownBy w' row) : (w.alloc o).grownBy w' row := ⟨h.os, h.tape, h.output, h.size, h.block⟩
theorem own_drewN {w : World} {b : Nat} {e : TypeId} {sz : Nat} {v : Value} {n : Nat} {cs : List Value} (k : Nat) (h : w.ownsRow b e sz v n cs) : (w.drewN k).ownsRow b e sz v n cs := h

set_option maxHeartbeats 2000000 in
set_option maxRecDepth 100000 in
theorem specFeather_any (W H at' over : Int) (w : World) :
    Calls Try.prog 15 #[.int .i64 W, .int .i64 H, .int .i64 at', .int .i64 over] w (PicRes w (featherR W H at' over)) := by
  have hb := l00In_any
  cases h : (inB W 1 16 && inB H 1 16 && inB at' 0 16 && inB over 0 16)
  · have hr : featherR W H at' over = none := by simp only [featherR, h]; rfl
    rw [hr]
    clear hr
    rcases (show inB W 1 16 = false ∨ (inB W 1 16 = true ∧ inB H 1 16 = false) ∨ (inB W 1 16 = true ∧ inB H 1 16 = true ∧ inB at' 0 16 = false) ∨ (inB W 1 16 = true ∧ inB H 1 16 = true ∧ inB at' 0 16 = true ∧ inB over 0 16 = false) by
      revert h; cases inB W 1 16 <;> cases inB H 1 16 <;> cases inB at' 0 16 <;> cases inB over 0 16 <;> simp) with h1 | ⟨h1, h2⟩ | ⟨h1, h2, h3⟩ | ⟨h1, h2, h3, h4⟩
    all_goals clear h
    all_goals
      go_enter Try.func15, Try.ntmps15
      go_wp2_with fail
      refine (hb _ _ _ _).mono ?_
      rintro e w' ⟨rfl, rfl⟩
      rw [h1]
      go_wp2_with fail
      try (refine (hb _ _ _ _).mono ?_; rintro e w' ⟨rfl, rfl⟩; rw [h2]; go_wp2_with fail)
      try (refine (hb _ _ _ _).mono ?_; rintro e w' ⟨rfl, rfl⟩; rw [h3]; go_wp2_with fail)
      try (refine (hb _ _ _ _).mono ?_; rintro e w' ⟨rfl, rfl⟩; rw [h4]; go_wp2_with fail)
      refine bodyPost_ret (v := .tuple #[.agg #[.int .i64 0, .int .i64 0, .slice none 0 0], .bool false]) (by simp [results, Try.results15, go_sem]) rfl ⟨rfl, ?_⟩
      exact (Below.refl _ _).alloc (Nat.le_refl _) _
  · have h' : ((inB W 1 16 = true ∧ inB H 1 16 = true) ∧ inB at' 0 16 = true) ∧ inB over 0 16 = true := by simpa using h
    obtain ⟨⟨⟨h1, h2⟩, h3⟩, h4⟩ := h'
    have hW := inB_spec.1 h1
    have hH := inB_spec.1 h2
    have hA := inB_spec.1 h3
    have hO := inB_spec.1 h4
    obtain ⟨m, rfl⟩ := Int.eq_ofNat_of_zero_le (show 0 ≤ W by omega)
    obtain ⟨n, rfl⟩ := Int.eq_ofNat_of_zero_le (show 0 ≤ H by omega)
    have hr : featherR m n at' over = some ⟨m, n, grid m n fun x _ => featherV at' over x⟩ := by simp [featherR, h1, h2, h3, h4]
    rw [hr]
    clear hr h
    have hmn : m * n ≤ 256 := by have : m * n ≤ 16 * 16 := Nat.mul_le_mul (by omega) (by omega); omega
    have hmni : (m : Int) * n = ((m * n : Nat) : Int) := by simp
    obtain ⟨i0, hi, hz0, hz1, hz2⟩ := info_parts Try.infoF
    go_enter Try.func15, Try.ntmps15
    go_wp2_with fail
    refine (hb _ _ _ _).mono ?_
    rintro e w' ⟨rfl, rfl⟩
    rw [h1]
    go_wp2_with fail
    refine (hb _ _ _ _).mono ?_
    rintro e w' ⟨rfl, rfl⟩
    rw [h2]
    go_wp2_with fail
    refine (hb _ _ _ _).mono ?_
    rintro e w' ⟨rfl, rfl⟩
    rw [h3]
    go_wp2_with fail
    refine (hb _ _ _ _).mono ?_
    rintro e w' ⟨rfl, rfl⟩
    rw [h4]
    obtain ⟨q, hq⟩ : ∃ q, q = m * n := ⟨_, rfl⟩
    rw [← hq] at hmn hmni
    have Hq := hid hq
    clear hq
    go_wp2
    go_loopw [11] (fun c wr => ∃ (i : Nat) (ad : Option Addr) (cap : Nat) (ys : List Nat), i ≤ q ∧ c = .int .i64 i ∧ Blk wr w.heap.size [.int .i64 0, .int .i64 0, .slice none 0 0] 24 ∧
        Blk wr (w.heap.size + 1) [.int .i64 m, .int .i64 n, .slice ad i cap] 24 ∧ wr.ownsRow (w.heap.size + 2) 53 1 (.slice ad i cap) i (ys.map fv) ∧
        nl ys = cellsTo m (fun x _ => featherV at' over x) i ∧ Below w.heap.size w wr) (fun c _ => q - (intOf c).toNat)
    case atStart =>
      refine ⟨0, none, 0, [], Nat.zero_le _, rfl, (Blk.new _ _ _).alloc _, ?_, World.ownsRow_nil _ _ _ _, rfl, ((Below.refl _ _).alloc (Nat.le_refl _) _).alloc (by simp) _⟩
      have := Blk.new (w.alloc (.cells #[.int .i64 0, .int .i64 0, .slice none 0 0] 24)) [.int .i64 m, .int .i64 n, .slice none 0 0] 24
      simpa using this
    case round =>
      obtain ⟨i, ad, cap, ys, hiq, rfl, hres, hp, hown, hys, hb⟩ := hrel
      by_cases hlt : i < q
      · obtain ⟨x, hx⟩ : ∃ x, x = i % m := ⟨_, rfl⟩
        have hxi : (i : Int) % (m : Int) = (x : Int) := by rw [hx]; simp
        have hnext : ∀ r, Fl.nf .f32 r = featherV at' over x → nl (ys ++ [r]) = cellsTo m (fun x _ => featherV at' over x) (i + 1) := fun r hr => by
          rw [cellsTo, List.range_succ, List.map_append, List.map_cons, List.map_nil, ← hx]
          exact nl_snoc hys hr
        have p0 : wr.cell? ⟨w.heap.size + 1, 2, none⟩ = some (.slice ad i cap) := hp.cell 2
        have f0 : wr.frozen? ⟨w.heap.size + 1, 2, none⟩ = false := hp.frozen 2
        have hs1 : w.heap.size + 1 < wr.heap.size := hp.lt
        have Hres := hid hres
        have Hp := hid hp
        have Hown := hid hown
        have Hb := hid hb
        have Hnext := hid hnext
        clear hx hres hp hown hys hb hnext
        have fin : ∀ (r : Nat) (ad' : Option Addr) (cap' : Nat) (w' : World), w'.ownsRow (w.heap.size + 2) 53 1 (.slice ad' (i + 1) cap') (i + 1) (ys.map fv ++ [fv r]) →
            (wr.alloc (.cells #[fv r] 53)).grownBy w' (Value.slice ad i cap).ownBlock →
            Blk (w'.setCell ⟨w.heap.size + 1, 2, none⟩ (.slice ad' (i + 1) cap')) w.heap.size [.int .i64 0, .int .i64 0, .slice none 0 0] 24 ∧
            Blk (w'.setCell ⟨w.heap.size + 1, 2, none⟩ (.slice ad' (i + 1) cap')) (w.heap.size + 1) [.int .i64 m, .int .i64 n, .slice ad' (i + 1) cap'] 24 ∧
            (w'.setCell ⟨w.heap.size + 1, 2, none⟩ (.slice ad' (i + 1) cap')).ownsRow (w.heap.size + 2) 53 1 (.slice ad' (i + 1) cap') (i + 1) ((ys ++ [r]).map fv) ∧
            Below w.heap.size w (w'.setCell ⟨w.heap.size + 1, 2, none⟩ (.slice ad' (i + 1) cap')) := fun r ad' cap' w' ho hg => by
          have ho1 := Hown.out.alloc (.cells #[fv r] 53)
          refine ⟨(((Hres.out.alloc _).grown hg (own_block_ge ho1 (by omega)))).other _ _ (by simp), ((((Hp.out.alloc _).grown hg (own_block_ge ho1 (by omega)))).set 2 _), ?_, ?_⟩
          · rw [List.map_append]; exact ownsRow_setCell_below ho (by simp) _
          · exact (below_grown (Hb.out.alloc (by omega) _) hg ho1 (by omega) (by simp; omega)).setCell (by simp) _
        have cellw : ∀ (r : Nat) (w' : World), (wr.alloc (.cells #[fv r] 53)).grownBy w' (Value.slice ad i cap).ownBlock →
            w'.cell? ⟨w.heap.size + 1, 2, none⟩ = some (.slice ad i cap) ∧ w'.frozen? ⟨w.heap.size + 1, 2, none⟩ = false := fun r w' hg => by
          have ho1 := Hown.out.alloc (.cells #[fv r] 53)
          have hb := (Hp.out.alloc (.cells #[fv r] 53)).grown hg (own_block_ge ho1 (by omega))
          exact ⟨hb.cell 2, hb.frozen 2⟩
        have Fin := hid fin
        have Cellw := hid cellw
        clear fin cellw
        rcases (show (x : Int) < at' ∨ (at' ≤ (x : Int) ∧ at' + over ≤ x) ∨ (at' ≤ (x : Int) ∧ (x : Int) < at' + over) by omega) with c1 | ⟨c1, c2⟩ | ⟨c1, c2⟩
        · have hv : Fl.nf .f32 0 = featherV at' over x := by simp [featherV, c1, nf_zero]
          have Hv := hid hv
          clear hv
          go_wp2_with (at_builtin; refine wpList_app1 rfl _ _ 22 rfl (w.heap.size + 2) 53 i0 (.float .f32 0) 4 Try.underlying22 hi hz0 hz1 hz2 rfl (.slice ad i cap) i (ys.map fv) rfl (Hown.out.alloc _) wr.heap.size (fv 0) rfl (by simp [go_sem]) rfl (by unfold maxLen; omega) (by omega) (by simp; omega) ?_)
          intro ad' cap' w' ho hg
          obtain ⟨q0, q1⟩ := Cellw.out _ w' hg
          have Ho := hid ho
          have Hg := hid hg
          clear ho hg
          go_wp2
          go_roundw
          case rel => obtain ⟨e1, e2, e3, e4⟩ := Fin.out _ ad' cap' w' Ho.out Hg.out; exact ⟨i + 1, ad', cap', ys ++ [_], by omega, by go_num, e1, e2, e3, Hnext.out _ Hv.out, e4⟩
          case measure => simp [intOf]; omega
        · have hv : Fl.nf .f32 1065353216 = featherV at' over x := by rw [featherV, if_neg (by omega), if_pos c2, nf_one]
          have Hv := hid hv
          clear hv
          go_wp2_with (at_builtin; refine wpList_app1 rfl _ _ 22 rfl (w.heap.size + 2) 53 i0 (.float .f32 0) 4 Try.underlying22 hi hz0 hz1 hz2 rfl (.slice ad i cap) i (ys.map fv) rfl (Hown.out.alloc _) wr.heap.size (fv 1065353216) rfl (by simp [go_sem]) rfl (by unfold maxLen; omega) (by omega) (by simp; omega) ?_)
          intro ad' cap' w' ho hg
          obtain ⟨q0, q1⟩ := Cellw.out _ w' hg
          have Ho := hid ho
          have Hg := hid hg
          clear ho hg
          go_wp2
          go_roundw
          case rel => obtain ⟨e1, e2, e3, e4⟩ := Fin.out _ ad' cap' w' Ho.out Hg.out; exact ⟨i + 1, ad', cap', ys ++ [_], by omega, by go_num, e1, e2, e3, Hnext.out _ Hv.out, e4⟩
          case measure => simp [intOf]; omega
        · have hv : Fl.nf .f32 (Fl.fres wr .quo .f32 (floatOfInt .f32 (x - at' + 1)) (floatOfInt .f32 (over + 1))) = featherV at' over x := by rw [featherV, if_neg (by omega), if_neg (by omega), Fl.nf_fres]
          have Hv := hid hv
          clear hv
          go_wp2_with (at_builtin; go_loud (refine wpList_app1 rfl _ _ 22 rfl (w.heap.size + 2) 53 i0 (.float .f32 0) 4 Try.underlying22 hi hz0 hz1 hz2 rfl (.slice ad i cap) i (ys.map fv) rfl ((own_drewN _ Hown.out).alloc _) wr.heap.size (fv (Fl.fres wr .quo .f32 (floatOfInt .f32 (x - at' + 1)) (floatOfInt .f32 (over + 1)))) rfl (cell_newN wr _ _ _) rfl (by unfold maxLen; omega) (by omega) (size_newN wr _ _ (by omega)) ?_))
          intro ad' cap' w' ho hg
          replace hg := grownBy_of_drewN hg
          obtain ⟨q0, q1⟩ := Cellw.out _ w' hg
          have Ho := hid ho
          have Hg := hid hg
          clear ho hg
          go_wp2
          go_roundw
          case rel => obtain ⟨e1, e2, e3, e4⟩ := Fin.out _ ad' cap' w' Ho.out Hg.out; exact ⟨i + 1, ad', cap', ys ++ [_], by omega, by go_num, e1, e2, e3, Hnext.out _ Hv.out, e4⟩
          case measure => simp [intOf]; omega
      · have hiq' : i = q := by omega
        subst hiq'
        have p0 : wr.cell? ⟨w.heap.size + 1, 0, none⟩ = some (.int .i64 m) := hp.cell 0
        have p1 : wr.cell? ⟨w.heap.size + 1, 1, none⟩ = some (.int .i64 n) := hp.cell 1
        have p2 : wr.cell? ⟨w.heap.size + 1, 2, none⟩ = some (.slice ad i cap) := hp.cell 2
        have r0 : wr.cell? ⟨w.heap.size, 0, none⟩ = some (.int .i64 0) := hres.cell 0
        have r1 : wr.cell? ⟨w.heap.size, 1, none⟩ = some (.int .i64 0) := hres.cell 1
        have r2 : wr.cell? ⟨w.heap.size, 2, none⟩ = some (.slice none 0 0) := hres.cell 2
        have f0 : wr.frozen? ⟨w.heap.size, 0, none⟩ = false := hres.frozen 0
        have f1 : wr.frozen? ⟨w.heap.size, 1, none⟩ = false := hres.frozen 1
        have f2 : wr.frozen? ⟨w.heap.size, 2, none⟩ = false := hres.frozen 2
        have hyl : ys.length = i := by have := congrArg List.length hys; simpa [nl, cellsTo] using this
        have Hown := hid hown
        have Hys := hid hys
        have Hb := hid hb
        have Hyl := hid hyl
        clear hown hys hb hres hp hyl
        go_wp2
        refine bodyPost_ret (v := .tuple #[.agg #[.int .i64 m, .int .i64 n, .slice ad i cap], .bool true]) (by simp [results, Try.results15, go_sem, p0, p1, p2, r0, r1, r2, f0, f1, f2]) rfl ⟨_, ys, rfl, ?_, ?_, ?_⟩
        · rw [Hyl.out]
          exact own_base (by omega) (ownsRow_setCell_below (ownsRow_setCell_below (ownsRow_setCell_below Hown.out (by simp) _) (by simp) _) (by simp) _)
        · rw [Hys.out, grid, Hq.out]
        · exact (((Hb.out).setCell (Nat.le_refl _) _).setCell (Nat.le_refl _) _).setCell (Nat.le_refl _) _

end Go.Proofs.Ytjennldpjfeppaa
