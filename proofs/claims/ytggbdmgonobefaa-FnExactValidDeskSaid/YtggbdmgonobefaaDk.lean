/-
  Desks as values that read: a picture, a curve and a list of pages.
  Conditions: none; plain lemmas.
-/
import Derived.Test.YtggbdmgonobefaaPg2
namespace Go.Proofs.Ytggbdmgonobefaa
open Go.RowKit
set_option linter.unusedVariables false
set_option linter.unusedSimpArgs false

/-- A cell of a box is written over. -/
theorem Inv.setmid {w0 w : World} {b : Nat} {cs : List Value} {t : TypeId} (l r : List BoxD) {os : List OwnD} (h : Inv w0 w (l ++ (b, cs, t) :: r) os) (hne : ∀ x ∈ l ++ r, x.1 ≠ b) (j : Nat) (u : Value) : Inv w0 (w.setCell ⟨b, j, none⟩ u) (l ++ (b, cs.set j u, t) :: r) os := by
  have hm : (b, cs, t) ∈ l ++ (b, cs, t) :: r := List.mem_append_right _ (List.mem_cons_self ..)
  have hb := h.box (b, cs, t) hm
  have sub : ∀ x ∈ l ++ (b, cs.set j u, t) :: r, x = (b, cs.set j u, t) ∨ (x ∈ l ++ r ∧ x ∈ l ++ (b, cs, t) :: r) := fun x hx => by
    rcases List.mem_append.1 hx with hx | hx
    · exact .inr ⟨List.mem_append_left _ hx, List.mem_append_left _ hx⟩
    · rcases List.mem_cons.1 hx with rfl | hx
      · exact .inl rfl
      · exact .inr ⟨List.mem_append_right _ hx, List.mem_append_right _ (List.mem_cons_of_mem _ hx)⟩
  refine ⟨h.below.setCell hb.2 _, fun x hx => ?_, fun o ho => ?_, h.sep, fun x hx o ho => ?_⟩
  · rcases sub x hx with rfl | ⟨h1, h2⟩
    · exact ⟨hb.1.set j u, hb.2⟩
    · exact ⟨(h.box x h2).1.other _ _ (hne x h1), (h.box x h2).2⟩
  · exact own_setCell_ne (h.own o ho) b j u (h.apart (b, cs, t) hm o ho)
  · rcases sub x hx with rfl | ⟨h1, h2⟩
    · exact h.apart (b, cs, t) hm o ho
    · exact h.apart x h2 o ho

theorem Inv.boxsub {w0 w : World} {bs bs' : List BoxD} {os : List OwnD} (h : Inv w0 w bs os) (hs : ∀ b ∈ bs', b ∈ bs) : Inv w0 w bs' os :=
  ⟨h.below, fun b hb => h.box b (hs b hb), h.own, h.sep, fun b hb => h.apart b (hs b hb)⟩

theorem PgL.of_inv {w0 w : World} {bs : List BoxD} {os : List OwnD} {B : Nat} {ps : List PgD} {lvs : List Value} {t tf : TypeId} (h : Inv w0 w bs os) (i : Nat) (hi : bs[i]? = some (B, pgCells ps lvs, t)) (hl : lvs.length = ps.length) (hr : ∀ o ∈ pgRows tf ps lvs, o ∈ os) :
    PgL w (.slice (some ⟨B, 0, none⟩) ps.length ps.length) ps := by
  refine ⟨_, _, rfl, fun i p hp => ?_⟩
  obtain ⟨lv, h1, h2, h3, h4, h5⟩ := pgCells_at ps lvs hl i p hp
  have hb := h.blk _ hi
  have hm := hr _ (List.mem_of_getElem? (pgRows_at tf ps lvs i p lv hp h1))
  have ho : Sl w lv (p.xs.map fv) := Sl.of_own (h.own _ hm)
  refine ⟨B, 0, lv, rfl, ?_⟩
  rw [Nat.zero_add]
  exact ⟨(hb.cell _).trans h2, (hb.cell _).trans h3, (hb.cell _).trans h4, (hb.cell _).trans h5, ho⟩

structure DkD where
  W : Int
  H : Int
  xs : List Nat
  cx : List Nat
  cy : List Nat
  ps : List PgD

/-- The value v reads as this desk. -/
def DkV (w : World) (v : Value) (d : DkD) : Prop :=
  ∃ lv xv yv pv, v = .agg #[.int .i64 d.W, .int .i64 d.H, lv, xv, yv, pv] ∧ Sl w lv (d.xs.map fv) ∧ Sl w xv (d.cx.map fv) ∧ Sl w yv (d.cy.map fv) ∧ PgL w pv d.ps

theorem DkV.mono {w w' : World} {v : Value} {d : DkD} (h : DkV w v d) (hb : Below w.heap.size w w') : DkV w' v d := by
  obtain ⟨lv, xv, yv, pv, h1, h2, h3, h4, h5⟩ := h
  exact ⟨lv, xv, yv, pv, h1, h2.mono hb, h3.mono hb, h4.mono hb, h5.mono hb⟩

/-- What a call owns of a desk. -/
def DkOwn (w0 w : World) (v : Value) (d : DkD) : Prop :=
  ∃ B lvs lv xv yv, v = .agg #[.int .i64 d.W, .int .i64 d.H, lv, xv, yv, .slice (some ⟨B, 0, none⟩) d.ps.length d.ps.length] ∧ lvs.length = d.ps.length ∧
    Inv w0 w [(B, pgCells d.ps lvs, 96)] (pgRows 52 d.ps lvs ++ [(yv, 52, d.cy.map fv), (xv, 52, d.cx.map fv), (lv, 52, d.xs.map fv)])

theorem DkOwn.reads {w0 w : World} {v : Value} {d : DkD} (h : DkOwn w0 w v d) : DkV w v d := by
  obtain ⟨B, lvs, lv, xv, yv, rfl, hl, hI⟩ := h
  have own : ∀ o ∈ [(yv, (52 : TypeId), d.cy.map fv), (xv, 52, d.cx.map fv), (lv, 52, d.xs.map fv)], Sl w o.1 o.2.2 := fun o ho => Sl.of_own (hI.own o (List.mem_append_right _ ho))
  exact ⟨lv, xv, yv, _, rfl, own (lv, 52, d.xs.map fv) (by simp), own (xv, 52, d.cx.map fv) (by simp), own (yv, 52, d.cy.map fv) (by simp), PgL.of_inv hI 0 rfl hl fun o ho => List.mem_append_left _ ho⟩
theorem DkOwn.below {w0 w : World} {v : Value} {d : DkD} (h : DkOwn w0 w v d) : Below w0.heap.size w0 w := by
  obtain ⟨B, lvs, lv, xv, yv, rfl, hl, hI⟩ := h
  exact hI.below

/-- What is left of a measure behind a curve and behind a desk. -/
def szCv (left : Int) (cx cy : List Nat) : Int := if szB left cx.length < 0 then -1 else szB (szB left cx.length) cy.length
def szDk (left : Int) (d : DkD) : Int := if szB left d.xs.length < 0 then -1 else if szCv (szB left d.xs.length) d.cx d.cy < 0 then -1 else szPS (szCv (szB left d.xs.length) d.cx d.cy) d.ps

theorem szB_le {left : Int} {n : Nat} (h : ¬ szB left n < 0) : szB left n = left - n ∧ (n : Int) ≤ left := by
  unfold szB at *
  split at h
  · omega
  · rename_i h1
    rw [if_neg h1]
    omega
theorem szCv_le {left : Int} {cx cy : List Nat} (h : ¬ szCv left cx cy < 0) : szCv left cx cy ≤ left ∧ (cx.length : Int) ≤ left ∧ (cy.length : Int) ≤ left := by
  unfold szCv at *
  by_cases h1 : szB left cx.length < 0
  · rw [if_pos h1] at h; omega
  · rw [if_neg h1] at h ⊢
    have a := szB_le h1
    have b := szB_le h
    omega

/-- A desk's lengths and words fit. -/
structure DkD.ok (d : DkD) : Prop where
  lx : d.xs.length ≤ 140737488351232
  lcx : d.cx.length ≤ 140737488351232
  lcy : d.cy.length ≤ 140737488351232
  lps : d.ps.length ≤ 140737488351232
  fx : ∀ x ∈ d.xs, x < 4294967296
  fcx : ∀ x ∈ d.cx, x < 4294967296
  fcy : ∀ x ∈ d.cy, x < 4294967296
  fps : ∀ p ∈ d.ps, p.ok

/-- A desk's lengths are under a measure. -/
structure DkD.small (d : DkD) : Prop where
  lx : d.xs.length ≤ 1048576
  lcx : d.cx.length ≤ 1048576
  lcy : d.cy.length ≤ 1048576
  lps : d.ps.length ≤ 1048576
  fps : ∀ p ∈ d.ps, p.xs.length ≤ 1048576

theorem szDk_le {left : Int} {d : DkD} (h0 : 0 ≤ left) (hl : left ≤ 1048576) (h : ¬ szDk left d < 0) : szDk left d ≤ left ∧ d.small := by
  unfold szDk at *
  by_cases h1 : szB left d.xs.length < 0
  · rw [if_pos h1] at h; omega
  · rw [if_neg h1] at h ⊢
    by_cases h2 : szCv (szB left d.xs.length) d.cx d.cy < 0
    · rw [if_pos h2] at h; omega
    · rw [if_neg h2] at h ⊢
      have a := szB_le h1
      have b := szCv_le h2
      obtain ⟨c1, c2, c3⟩ := szPS_le (by omega) h
      exact ⟨by omega, by omega, by omega, by omega, by omega, fun p hp => by have := (c3 p hp).2; omega⟩

end Go.Proofs.Ytggbdmgonobefaa
