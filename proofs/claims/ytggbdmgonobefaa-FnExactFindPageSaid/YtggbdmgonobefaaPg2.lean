/-
  Lists of pages that a call owns: the four cells a page as one box, the lights as rows of their own.
  Conditions: none; plain lemmas.
-/
import Derived.Test.YtggbdmgonobefaaPg
namespace Go.Proofs.Ytggbdmgonobefaa
open Go.RowKit
set_option linter.unusedVariables false
set_option linter.unusedSimpArgs false

theorem Inv.setbox {w0 w : World} {b : Nat} {cs : List Value} {t : TypeId} {os : List OwnD} (h : Inv w0 w [(b, cs, t)] os) (j : Nat) (u : Value) : Inv w0 (w.setCell ⟨b, j, none⟩ u) [(b, cs.set j u, t)] os := by
  have hb := h.box (b, cs, t) (List.mem_singleton.2 rfl)
  refine ⟨h.below.setCell hb.2 _, fun x hx => ?_, fun o ho => ?_, h.sep, fun x hx o ho => ?_⟩
  · rw [List.mem_singleton.1 hx]
    exact ⟨hb.1.set j u, hb.2⟩
  · exact own_setCell_ne (h.own o ho) b j u (h.apart (b, cs, t) (List.mem_singleton.2 rfl) o ho)
  · rw [List.mem_singleton.1 hx]
    exact h.apart (b, cs, t) (List.mem_singleton.2 rfl) o ho

theorem Inv.join {w0 w w' : World} {bs bs' : List BoxD} {os os' : List OwnD} (h : Inv w0 w bs os) (h' : Inv w w' bs' os') : Inv w0 w' (bs' ++ bs) (os' ++ os) := by
  have hc := h.call h'.below
  refine ⟨hc.below, fun x hx => ?_, fun o ho => ?_, ?_, fun x hx o ho => ?_⟩
  · rcases List.mem_append.1 hx with hx | hx
    · exact ⟨(h'.box x hx).1, Nat.le_trans h.below.size (h'.box x hx).2⟩
    · exact hc.box x hx
  · rcases List.mem_append.1 ho with ho | ho
    · exact own_base h.below.size (h'.own o ho)
    · exact hc.own o ho
  · refine List.pairwise_append.2 ⟨h'.sep, h.sep, fun a ha b hb k h1 h2 => ?_⟩
    have x := (h'.own a ha).lt k h1
    have y := (h.own b hb).lt k h2
    omega
  · rcases List.mem_append.1 hx with hx | hx <;> rcases List.mem_append.1 ho with ho | ho
    · exact h'.apart x hx o ho
    · intro he
      have a := (h'.box x hx).2
      have b := (h.own o ho).lt x.1 he.symm
      omega
    · intro he
      have a := (h.box x hx).1.lt
      have b := (h'.own o ho).lt x.1 he.symm
      omega
    · exact h.apart x hx o ho

def pgCells : List PgD → List Value → List Value
  | p :: ps, lv :: lvs => .string p.m :: .int .i64 p.W :: .int .i64 p.H :: lv :: pgCells ps lvs
  | _, _ => []
def pgRows (t : TypeId) : List PgD → List Value → List OwnD
  | p :: ps, lv :: lvs => (lv, t, p.xs.map fv) :: pgRows t ps lvs
  | _, _ => []

theorem pgCells_len : ∀ (ps : List PgD) (lvs : List Value), lvs.length = ps.length → (pgCells ps lvs).length = ps.length * 4
  | [], [], _ => rfl
  | p :: ps, lv :: lvs, h => by
    simp only [List.length_cons, Nat.add_right_cancel_iff] at h
    simp only [pgCells, List.length_cons, pgCells_len ps lvs h]
    omega

theorem pgCells_at : ∀ (ps : List PgD) (lvs : List Value), lvs.length = ps.length → ∀ (i : Nat) (p : PgD), ps[i]? = some p → ∃ lv, lvs[i]? = some lv ∧
    (pgCells ps lvs)[i * 4]? = some (.string p.m) ∧ (pgCells ps lvs)[i * 4 + 1]? = some (.int .i64 p.W) ∧ (pgCells ps lvs)[i * 4 + 2]? = some (.int .i64 p.H) ∧ (pgCells ps lvs)[i * 4 + 3]? = some lv
  | [], [], _, i, p, hi => by simp at hi
  | q :: ps, lv :: lvs, h, 0, p, hi => by
    simp only [List.getElem?_cons_zero, Option.some.injEq] at hi
    subst hi
    exact ⟨lv, rfl, rfl, rfl, rfl, rfl⟩
  | q :: ps, lv :: lvs, h, i + 1, p, hi => by
    simp only [List.length_cons, Nat.add_right_cancel_iff] at h
    obtain ⟨lv', h1, h2, h3, h4, h5⟩ := pgCells_at ps lvs h i p hi
    refine ⟨lv', h1, ?_⟩
    rw [Nat.add_mul, Nat.one_mul, pgCells]
    exact ⟨h2, h3, h4, h5⟩

theorem pgRows_at (t : TypeId) : ∀ (ps : List PgD) (lvs : List Value) (i : Nat) (p : PgD) (lv : Value), ps[i]? = some p → lvs[i]? = some lv → (pgRows t ps lvs)[i]? = some (lv, t, p.xs.map fv)
  | [], _, i, p, lv, hi, _ => by simp at hi
  | _ :: _, [], i, p, lv, _, hl => by simp at hl
  | q :: ps, l :: lvs, 0, p, lv, hi, hl => by
    simp only [List.getElem?_cons_zero, Option.some.injEq] at hi hl
    subst hi hl
    rfl
  | q :: ps, l :: lvs, i + 1, p, lv, hi, hl => pgRows_at t ps lvs i p lv hi hl

theorem pgRows_snoc (t : TypeId) : ∀ (ps : List PgD) (lvs : List Value) (p : PgD) (lv : Value), lvs.length = ps.length → pgRows t (ps ++ [p]) (lvs ++ [lv]) = pgRows t ps lvs ++ [(lv, t, p.xs.map fv)]
  | [], [], _, _, _ => rfl
  | q :: ps, l :: lvs, p, lv, h => by
    simp only [List.length_cons, Nat.add_right_cancel_iff] at h
    simp only [List.cons_append, pgRows, pgRows_snoc t ps lvs p lv h]
theorem pgCells_snoc : ∀ (ps : List PgD) (lvs : List Value) (p : PgD) (lv : Value), lvs.length = ps.length → pgCells (ps ++ [p]) (lvs ++ [lv]) = pgCells ps lvs ++ [.string p.m, .int .i64 p.W, .int .i64 p.H, lv]
  | [], [], _, _, _ => rfl
  | q :: ps, l :: lvs, p, lv, h => by
    simp only [List.length_cons, Nat.add_right_cancel_iff] at h
    simp only [List.cons_append, pgCells, pgCells_snoc ps lvs p lv h]

/-- An order of rows does not matter. -/
theorem Inv.perm {w0 w : World} {bs : List BoxD} {os os' : List OwnD} (h : Inv w0 w bs os) (hp : os'.Perm os) : Inv w0 w bs os' :=
  ⟨h.below, h.box, fun o ho => h.own o (hp.mem_iff.1 ho), (hp.pairwise_iff (fun h => Sep.symm h)).2 h.sep, fun b hb o ho => h.apart b hb o (hp.mem_iff.1 ho)⟩

/-- Four cells written over. -/
theorem set_four (A D : List Value) (k : Nat) (a b c d : Value) (hA : A.length = k * 4) (hD : 4 ≤ D.length) :
    ((((A ++ D).set (k * 4) a).set (k * 4 + 1) b).set (k * 4 + 2) c).set (k * 4 + 3) d = A ++ [a, b, c, d] ++ D.drop 4 := by
  obtain ⟨d0, d1, d2, d3, E, rfl⟩ : ∃ d0 d1 d2 d3 E, D = d0 :: d1 :: d2 :: d3 :: E := by
    match D, hD with
    | d0 :: d1 :: d2 :: d3 :: E, _ => exact ⟨d0, d1, d2, d3, E, rfl⟩
  rw [List.set_append_right _ _ (by omega), List.set_append_right _ _ (by omega), List.set_append_right _ _ (by omega), List.set_append_right _ _ (by omega), hA]
  simp [Nat.add_sub_cancel_left]

theorem Blk.of_full {w : World} {base g n size : Nat} {e : TypeId} {cs : List Value} (h : w.ownsRow base e size (.slice (some ⟨g, 0, none⟩) n n) n cs) : Blk w g cs e ∧ base ≤ g := by
  rcases h.2 with ⟨h', _⟩ | ⟨g', cap', cur, h', hb, hg, hnc, hcm, hcs, htake⟩
  · simp at h'
  · simp only [Value.slice.injEq, Option.some.injEq, Addr.mk.injEq, and_true, true_and] at h'
    obtain ⟨rfl, rfl⟩ := h'
    rw [List.take_of_length_le (by rw [Array.length_toList, hcs]; exact Nat.le_refl _)] at htake
    refine ⟨?_, hb⟩
    unfold Blk
    rw [hg, ← htake]

/-- What a call owns of a list of pages. -/
def PgOwn (w0 w : World) (v : Value) (ps : List PgD) : Prop :=
  ∃ B lvs, v = .slice (some ⟨B, 0, none⟩) ps.length ps.length ∧ lvs.length = ps.length ∧ Inv w0 w [(B, pgCells ps lvs, 96)] (pgRows 52 ps lvs)

theorem PgOwn.list {w0 w : World} {v : Value} {ps : List PgD} (h : PgOwn w0 w v ps) : PgL w v ps := by
  obtain ⟨B, lvs, rfl, hl, hI⟩ := h
  refine ⟨_, _, rfl, fun i p hi => ?_⟩
  obtain ⟨lv, h1, h2, h3, h4, h5⟩ := pgCells_at ps lvs hl i p hi
  have hb := hI.blk 0 rfl
  have hr := hI.sl i (pgRows_at _ ps lvs i p lv hi h1)
  refine ⟨B, 0, lv, rfl, ?_⟩
  rw [Nat.zero_add]
  exact ⟨(hb.cell _).trans h2, (hb.cell _).trans h3, (hb.cell _).trans h4, (hb.cell _).trans h5, hr⟩

end Go.Proofs.Ytggbdmgonobefaa
