/-
  For all arguments the program's FeatherMask returns what the reference's returns, in memory of its own.
  Conditions: none.
-/
import Derived.Test.YtjennldpjfeppaaA4
import Derived.ProofKit
import Derived.OpenShut
namespace Go.Proofs.Ytjennldpjfeppaa
open Go.RowKit
set_option linter.unusedVariables false
set_option linter.unusedSimpArgs false
attribute [local go_sem] Fl.run_fadd Fl.run_fsub Fl.run_fmul Fl.run_fquo Fl.run_wide Fl.run_store_float

/-- A picture, a Bool and new memory. -/
def Uni (w : World) (A B : Int) (ok : Bool) (L : List Nat) (e : Ending) (w' : World) : Prop :=
  ∃ ad cap ys, e = .returned (.tuple #[.agg #[.int .i64 A, .int .i64 B, .slice ad L.length cap], .bool ok]) ∧ w'.ownsRow w.heap.size 53 1 (.slice ad L.length cap) L.length (ys.map fv) ∧ nl ys = L ∧ Below w.heap.size w w'

theorem nl_len {ys L : List Nat} (h : nl ys = L) : ys.length = L.length := by rw [← h, nl, List.length_map]

theorem PicRes.uni {w : World} {r : Option Pic} {e : Ending} {w' : World} (h : PicRes w r e w') : Uni w (r.getD ⟨0, 0, []⟩).W (r.getD ⟨0, 0, []⟩).H r.isSome (r.getD ⟨0, 0, []⟩).L e w' := by
  cases r with
  | none => exact ⟨none, 0, [], h.1, World.ownsRow_nil _ _ _ _, rfl, h.2⟩
  | some p =>
    obtain ⟨v, ys, he, ho, hl, hb⟩ := h
    obtain ⟨ad, cap, rfl, _⟩ := own_form ho
    have hn := nl_len hl
    rw [hn] at he ho
    exact ⟨ad, cap, ys, he, ho, hl, hb⟩

theorem featherR_len (W H at' over : Int) : ((featherR W H at' over).getD ⟨0, 0, []⟩).L.length ≤ 256 := by
  unfold featherR
  split
  · rename_i h
    have h' : ((inB W 1 16 = true ∧ inB H 1 16 = true) ∧ inB at' 0 16 = true) ∧ inB over 0 16 = true := by simpa using h
    have hW := inB_spec.1 h'.1.1.1
    have hH := inB_spec.1 h'.1.1.2
    simp only [Option.getD_some, grid, cellsTo, List.length_map, List.length_range]
    have : W.toNat * H.toNat ≤ 16 * 16 := Nat.mul_le_mul (by omega) (by omega)
    omega
  · simp

theorem own_sep {w1 w2 : World} {b1 b2 : Nat} {e : TypeId} {v1 v2 : Value} {n1 n2 : Nat} {c1 c2 : List Value} (h1 : w1.ownsRow b1 e 1 v1 n1 c1) (h2 : w2.ownsRow b2 e 1 v2 n2 c2) (h : w1.heap.size ≤ b2) :
    v1.ownBlock = none ∨ v1.ownBlock ≠ v2.ownBlock := by
  cases hv : v1.ownBlock with
  | none => exact .inl rfl
  | some k =>
    refine .inr fun hx => ?_
    have a := h1.lt k hv
    have b := h2.lt k hx.symm
    omega

theorem own_block_lt {w : World} {b : Nat} {e : TypeId} {v : Value} {n : Nat} {cs : List Value} (h : w.ownsRow b e 1 v n cs) : some w.heap.size ≠ v.ownBlock := fun hx => Nat.lt_irrefl _ (h.lt _ hx.symm).2

theorem own_grown {w w' : World} {b : Nat} {e : TypeId} {v : Value} {n : Nat} {cs : List Value} {row : Option Nat} (h : w.ownsRow b e 1 v n cs) (hg : w.grownBy w' row) (hne : v.ownBlock = none ∨ v.ownBlock ≠ row) : w'.ownsRow b e 1 v n cs :=
  h.kept hg hne

set_option maxHeartbeats 4000000 in
set_option maxRecDepth 100000 in
theorem lawFeather_any (W H at' over : Int) (w : World) :
    Calls Try.prog 3 #[.int .i64 W, .int .i64 H, .int .i64 at', .int .i64 over] w fun e w' => e = .returned (.bool true) ∧ Below w.heap.size w w' := by
  obtain ⟨A, B, ok, L, hlen, hspec, himpl⟩ : ∃ A B ok L, L.length ≤ 256 ∧ (∀ w, Calls Try.prog 15 #[.int .i64 W, .int .i64 H, .int .i64 at', .int .i64 over] w (Uni w A B ok L)) ∧
      (∀ w, Calls Try.prog 16 #[.int .i64 W, .int .i64 H, .int .i64 at', .int .i64 over] w (Uni w A B ok L)) :=
    ⟨_, _, _, _, featherR_len W H at' over, fun w => (specFeather_any W H at' over w).mono fun e w' h => h.uni, fun w => (implFeather_any W H at' over w).mono fun e w' h => h.uni⟩
  go_enter Try.func3, Try.ntmps3
  go_wp2_with fail
  refine (hspec _).mono ?_
  rintro e w1 ⟨ad1, cap1, ys1, rfl, hown1, hl1, hb1⟩
  have hb1' := hb1
  go_wp2_with fail
  have hs1 := hb1.size
  have b1 := Blk.new w1 [.int .i64 A, .int .i64 B, .slice ad1 L.length cap1] 24
  replace hown1 := hown1.alloc (.cells #[.int .i64 A, .int .i64 B, .slice ad1 L.length cap1] 24)
  replace hb1 := hb1.alloc hs1 (.cells #[.int .i64 A, .int .i64 B, .slice ad1 L.length cap1] 24)
  clear hb1'
  obtain ⟨B1, hB1⟩ : ∃ B1, B1 = w1.heap.size := ⟨_, rfl⟩
  rw [← hB1] at b1 hs1 ⊢
  clear hB1
  generalize w1.alloc (.cells #[.int .i64 A, .int .i64 B, .slice ad1 L.length cap1] 24) = w2 at b1 hown1 hb1 ⊢
  clear w1
  refine (himpl _).mono ?_
  rintro e w3 ⟨ad3, cap3, ys3, rfl, hown3, hl3, hb3⟩
  have hs2 := b1.lt
  replace b1 := b1.below hb3 hs2
  have hsep := own_sep hown1 hown3 (Nat.le_refl _)
  have hs2' := hb1.size
  have hne1 : some B1 ≠ (Value.slice ad3 L.length cap3).ownBlock := own_block_ge hown3 hs2
  have hne3 : some w3.heap.size ≠ (Value.slice ad3 L.length cap3).ownBlock := own_block_lt hown3
  replace hown1 := own_below hown1 hb3
  have hs3' := hb3.size
  replace hb1 := hb1.trans (hb3.mono hs2')
  obtain ⟨S2, hS2⟩ : ∃ S2, S2 = w2.heap.size := ⟨_, rfl⟩
  rw [← hS2] at hown3 hs3' hs2 hs2'
  clear hb3 hS2
  have b3 := Blk.new w3 [.int .i64 A, .int .i64 B, .slice ad3 L.length cap3] 24
  replace hown3 := hown3.alloc (.cells #[.int .i64 A, .int .i64 B, .slice ad3 L.length cap3] 24)
  replace hown1 := hown1.alloc (.cells #[.int .i64 A, .int .i64 B, .slice ad3 L.length cap3] 24)
  replace b1 := b1.alloc (.cells #[.int .i64 A, .int .i64 B, .slice ad3 L.length cap3] 24)
  replace hb1 := hb1.alloc (Nat.le_trans hs2' hs3') (.cells #[.int .i64 A, .int .i64 B, .slice ad3 L.length cap3] 24)
  have q0 := b1.cell 0
  have q1 := b1.cell 1
  have q2 := b1.cell 2
  have r0 := b3.cell 0
  have r1 := b3.cell 1
  have r2 := b3.cell 2
  go_wp2_with fail
  clear q0 q1 q2 r0 r1 r2
  obtain ⟨B3, hB3⟩ : ∃ B3, B3 = w3.heap.size := ⟨_, rfl⟩
  rw [← hB3] at b3 hs3' hne3 ⊢
  clear hB3
  generalize w3.alloc (.cells #[.int .i64 A, .int .i64 B, .slice ad3 L.length cap3] 24) = w4 at b1 b3 hown1 hown3 hb1 ⊢
  clear w3
  have eL1 : ys1.length = L.length := nl_len hl1
  have eL3 : ys3.length = L.length := nl_len hl3
  refine (eqPicture_yes A B ys3 ys1 _ _ w4 (Sl.of_own hown3) (Sl.of_own hown1) (by omega) (hl3.trans hl1.symm)).mono ?_
  clear eL3
  rintro e w5 ⟨rfl, hb5⟩
  have hs4 := hb1.size
  replace b1 := b1.below hb5 b1.lt
  replace b3 := b3.below hb5 b3.lt
  replace hown1 := own_below hown1 hb5
  replace hown3 := own_below hown3 hb5
  replace hb1 := hb1.trans (hb5.mono hs4)
  clear hb5 hs4 w4
  have r0 := b3.cell 0
  have r1 := b3.cell 1
  have r2 := b3.cell 2
  go_wp2_with fail
  clear r0 r1 r2
  refine (markPicture_any S2 A B _ L.length _ 1 w5 hown3 (by omega) (by omega) (Nat.le_of_lt (by have := hb1.size; have := b3.lt; omega))).mono ?_
  rintro e w6 ⟨rfl, hown3', hg⟩
  have hs4 := hb1.size
  replace hb1 := below_grown hb1 hg hown3 hs2' hs4
  replace b1 := b1.grown hg hne1
  have hlt3 := hown3.lt
  replace b3 := b3.grown hg hne3
  replace hown1 := own_grown hown1 hg hsep
  clear hown3 hg hs4 hlt3 w5
  have hown3 := hown3'
  clear hown3'
  have r0 := b3.cell 0
  have r1 := b3.cell 1
  have r2 := b3.cell 2
  go_wp2_with fail
  clear r0 r1 r2
  refine (heldPicture_any A B _ L.length 1 w6 (Sl.of_own hown3) (by omega) (by omega)).mono ?_
  rintro e w7 ⟨rfl, hb5⟩
  have hs4 := hb1.size
  replace b1 := b1.below hb5 b1.lt
  replace b3 := b3.below hb5 b3.lt
  replace hown1 := own_below hown1 hb5
  replace hown3 := own_below hown3 hb5
  replace hb1 := hb1.trans (hb5.mono hs4)
  clear hb5 hs4 w6
  have gz : ¬ (1 + (L.length : Int) < 0) := by omega
  go_wp2_with fail
  refine (himpl _).mono ?_
  rintro e w8 ⟨ad5, cap5, ys5, rfl, hown5, hl5, hb5⟩
  have hs4 := hb1.size
  have hs7 := hb5.size
  replace b1 := b1.below hb5 b1.lt
  replace b3 := b3.below hb5 b3.lt
  replace hown1 := own_below hown1 hb5
  replace hown3 := own_below hown3 hb5
  replace hb1 := hb1.trans (hb5.mono hs4)
  replace hs4 := Nat.le_trans hs4 hs7
  clear hb5 hs7
  have b5 := Blk.new w8 [.int .i64 A, .int .i64 B, .slice ad5 L.length cap5] 24
  replace hown5 := hown5.alloc (.cells #[.int .i64 A, .int .i64 B, .slice ad5 L.length cap5] 24)
  replace hown3 := hown3.alloc (.cells #[.int .i64 A, .int .i64 B, .slice ad5 L.length cap5] 24)
  replace hown1 := hown1.alloc (.cells #[.int .i64 A, .int .i64 B, .slice ad5 L.length cap5] 24)
  replace b1 := b1.alloc (.cells #[.int .i64 A, .int .i64 B, .slice ad5 L.length cap5] 24)
  replace b3 := b3.alloc (.cells #[.int .i64 A, .int .i64 B, .slice ad5 L.length cap5] 24)
  replace hb1 := hb1.alloc hs4 (.cells #[.int .i64 A, .int .i64 B, .slice ad5 L.length cap5] 24)
  have q0 := b1.cell 0
  have q1 := b1.cell 1
  have q2 := b1.cell 2
  have r0 := b5.cell 0
  have r1 := b5.cell 1
  have r2 := b5.cell 2
  go_wp2_with fail
  clear q0 q1 q2 r0 r1 r2 b1 b5 hs4
  have eL1 : ys1.length = L.length := nl_len hl1
  have eL5 : ys5.length = L.length := nl_len hl5
  generalize w8.alloc (.cells #[.int .i64 A, .int .i64 B, .slice ad5 L.length cap5] 24) = w9 at b3 hown1 hown3 hown5 hb1 ⊢
  refine (eqPicture_yes A B ys5 ys1 _ _ w9 (Sl.of_own hown5) (Sl.of_own hown1) (by omega) (hl5.trans hl1.symm)).mono ?_
  clear eL5
  rintro e w10 ⟨rfl, hb5⟩
  have hs4 := hb1.size
  replace b3 := b3.below hb5 b3.lt
  replace hown3 := own_below hown3 hb5
  replace hb1 := hb1.trans (hb5.mono hs4)
  clear hb5 hs4 hown1 hown5 w9
  have r0 := b3.cell 0
  have r1 := b3.cell 1
  have r2 := b3.cell 2
  go_wp2_with fail
  clear r0 r1 r2
  refine (heldPicture_any A B _ L.length 1 w10 (Sl.of_own hown3) (by omega) (by omega)).mono ?_
  rintro e w11 ⟨rfl, hb5⟩
  have hs4 := hb1.size
  replace hb1 := hb1.trans (hb5.mono hs4)
  go_wp2_with fail
  go_ret
  exact ⟨rfl, hb1⟩

end Go.Proofs.Ytjennldpjfeppaa
