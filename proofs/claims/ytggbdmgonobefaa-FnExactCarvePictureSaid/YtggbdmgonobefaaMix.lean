/-
  Regions that draw their order, walked in one order: each operation is marked S (it yields one value in every world of a class C and turns nothing), L (it yields some value out of a set and leaves a world of C), A (anything that leaves a world of C) or T (anything, behind all others).
  Conditions: none; plain lemmas over whatever program.
-/
import Derived.WalkKit
namespace Go.Proofs.Ytggbdmgonobefaa
set_option linter.unusedVariables false
set_option linter.unusedSimpArgs false

inductive Mk where
  | S | L | A | T

def Mk.isT : Mk → Bool
  | .T => true
  | _ => false
def Mk.isA : Mk → Bool
  | .A => true
  | _ => false

namespace Mix

/-- No way out but the normal one. -/
def Qf : Exit → Act → World → Prop := fun _ _ _ => False

section
variable {P : Program} {md : Region.Mode} {ops : Array Oper} {mk : Nat → Mk} {C : World → Prop} {Q : Exit → Act → World → Prop}

def Still (P : Program) (ops : Array Oper) (C : World → Prop) (o : Oper) (a : Act) (v : Value) : Prop :=
  (Region.wanted o (yielded ops a.tmps) = true ∧ ∀ w, C w → (execOp a.eval o).run P w = .ok (.value v) w) ∨ (Region.wanted o (yielded ops a.tmps) = false ∧ v = undef)

def Loose (P : Program) (ops : Array Oper) (C : World → Prop) (o : Oper) (a : Act) (V : Value → Prop) : Prop :=
  (Region.wanted o (yielded ops a.tmps) = true ∧ ∀ w, C w → ∃ v w', (execOp a.eval o).run P w = .ok (.value v) w' ∧ V v ∧ C w') ∨ (Region.wanted o (yielded ops a.tmps) = false ∧ V undef)

def clause (P : Program) (ops : Array Oper) (C : World → Prop) (K : Act → World → Prop) : Mk → Oper → Act → World → Prop
  | .S, o, a, w => C w ∧ ∃ v, Still P ops C o a v ∧ K (a.put o.dst v) w
  | .L, o, a, w => C w ∧ ∃ V, Loose P ops C o a V ∧ ∀ v w', V v → C w' → K (a.put o.dst v) w'
  | .A, o, a, w => (Region.wanted o (yielded ops a.tmps) = true → o.wp P a w (fun a' w' => C w' ∧ K a' w') Qf) ∧ (Region.wanted o (yielded ops a.tmps) = false → K (a.put o.dst undef) w)
  | .T, o, a, w => (Region.wanted o (yielded ops a.tmps) = true → o.wp P a w K Qf) ∧ (Region.wanted o (yielded ops a.tmps) = false → K (a.put o.dst undef) w)

def wpM (P : Program) (md : Region.Mode) (ops : Array Oper) (mk : Nat → Mk) (C : World → Prop) (Q : Exit → Act → World → Prop) : Nat → Array Bool → Act → World → Prop
  | 0, listed, a, w => Region.ready md ops listed = [] ∧ Q .normal a w
  | fuel + 1, listed, a, w => (Region.ready md ops listed = [] → Q .normal a w) ∧
      ∀ i ∈ Region.ready md ops listed, ∀ o, ops[i]? = some o → clause P ops C (wpM P md ops mk C Q fuel (listed.setIfInBounds i true)) (mk i) o a w

theorem wp_of_Qf {o : Oper} {a : Act} {w : World} {K K' : Act → World → Prop} (h : ∀ a w, K a w → K' a w) (hh : o.wp P a w K Qf) : o.wp P a w K' Q := by
  unfold Oper.wp at *
  generalize (execOp a.eval o).run P w = r at *
  cases r with
  | ok n w' =>
    cases n <;> simp only [Oper.upon] at hh ⊢ <;>
      first
        | exact h _ _ hh
        | exact Calls.mono hh (fun e w'' he => by
            cases e with
            | returned v => exact h _ _ he
            | panicked c => exact he.elim
            | outgrown => obtain ⟨_, _, he⟩ := he; exact he.elim)
        | exact Rows.mono hh (fun _ _ he => h _ _ he)
  | halt x w' => cases x <;> simp only [Oper.upon] at hh <;> exact hh.elim

theorem wpM_sound : ∀ (fuel : Nat) (listed : Array Bool) (a : Act) (w : World), wpM P md ops mk C Q fuel listed a w → wpAny P md ops Q fuel listed a w
  | 0, _, _, _, h => h
  | fuel + 1, listed, a, w, h => by
    refine ⟨h.1, fun i hi => ?_⟩
    obtain ⟨_, o, ho, _⟩ := mem_ready.1 hi
    have hc := h.2 i hi o ho
    unfold wpOp
    simp only [ho]
    cases hm : mk i <;> simp only [hm, clause] at hc
    · obtain ⟨hC, v, hs, hk⟩ := hc
      rcases hs with ⟨hw, hs⟩ | ⟨hw, rfl⟩
      · rw [if_pos hw]
        refine .inl ?_
        unfold Oper.wp
        rw [hs w hC]
        exact wpM_sound fuel _ _ _ hk
      · rw [if_neg (by simp [hw])]
        exact wpM_sound fuel _ _ _ hk
    · obtain ⟨hC, V, hs, hk⟩ := hc
      rcases hs with ⟨hw, hs⟩ | ⟨hw, hV⟩
      · rw [if_pos hw]
        refine .inl ?_
        unfold Oper.wp
        obtain ⟨v, w', he, hv, hC'⟩ := hs w hC
        rw [he]
        exact wpM_sound fuel _ _ _ (hk v w' hv hC')
      · rw [if_neg (by simp [hw])]
        exact wpM_sound fuel _ _ _ (hk _ _ hV hC)
    · cases hw : Region.wanted o (yielded ops a.tmps)
      · rw [if_neg (by simp)]
        exact wpM_sound fuel _ _ _ (hc.2 hw)
      · rw [if_pos rfl]
        exact .inl (wp_of_Qf (fun a' w' hk => wpM_sound fuel _ _ _ hk.2) (hc.1 hw))
    · cases hw : Region.wanted o (yielded ops a.tmps)
      · rw [if_neg (by simp)]
        exact wpM_sound fuel _ _ _ (hc.2 hw)
      · rw [if_pos rfl]
        exact .inl (wp_of_Qf (fun a' w' hk => wpM_sound fuel _ _ _ hk) (hc.1 hw))

theorem Still.of_same {o : Oper} {v : Value} {a a' : Act} (hy : Still P ops C o a v) (he : execOp a'.eval o = execOp a.eval o)
    (hw : Region.wanted o (yielded ops a'.tmps) = Region.wanted o (yielded ops a.tmps)) : Still P ops C o a' v := by
  unfold Still at *
  rw [he, hw]
  exact hy

theorem Loose.of_same {o : Oper} {V : Value → Prop} {a a' : Act} (hy : Loose P ops C o a V) (he : execOp a'.eval o = execOp a.eval o)
    (hw : Region.wanted o (yielded ops a'.tmps) = Region.wanted o (yielded ops a.tmps)) : Loose P ops C o a' V := by
  unfold Loose at *
  rw [he, hw]
  exact hy

theorem Still.unique {o : Oper} {a : Act} {u v : Value} {w : World} (hC : C w) (h : Still P ops C o a u) (h' : Still P ops C o a v) : u = v := by
  rcases h with ⟨h1, h2⟩ | ⟨h1, rfl⟩ <;> rcases h' with ⟨h3, h4⟩ | ⟨h3, rfl⟩
  · have := (h2 w hC).symm.trans (h4 w hC)
    simpa using this
  · rw [h1] at h3; cases h3
  · rw [h1] at h3; cases h3
  · rfl

theorem wp_put {oi oj : Oper} {v : Value} (hap : oi.apart ops oj = true) (hsi : ∀ cs b, oi.op ≠ .select cs b) (hsj : ∀ cs b, oj.op ≠ .select cs b)
    {K : Act → World → Prop} {a : Act} {w : World} (hy : Still P ops C oi a v) (h : oj.wp P (a.put oi.dst v) w K Qf) :
    oj.wp P a w (fun a' w' => Still P ops C oi a' v ∧ K (a'.put oi.dst v) w') Qf := by
  obtain ⟨h1, h2, h3⟩ := Oper.apart_spec hap
  have keep : ∀ (a : Act), Still P ops C oi a v → ∀ u, Still P ops C oi (a.put oj.dst u) v := fun a hy u =>
    hy.of_same (execOp_put oi hsi a oj.dst u h3) (wanted_put oi a oj.dst u h3)
  have keepD : ∀ d, Still P ops C oi { a with defers := d :: a.defers } v := fun d => hy.of_same rfl rfl
  unfold Oper.wp at *
  rw [execOp_put oj hsj a oi.dst v h1] at h
  generalize (execOp a.eval oj).run P w = r at *
  cases r with
  | ok n w' =>
    cases n <;> simp only [Oper.upon] at h ⊢
    case value u => exact ⟨keep a hy u, by rw [← Act.put_comm a v u h2]; exact h⟩
    case skip => exact ⟨keep a hy _, by rw [← Act.put_comm a v undef h2]; exact h⟩
    case defer d =>
      refine ⟨keep _ (keepD d) _, ?_⟩
      rw [← Act.put_comm _ v undef h2, ← Act.put_defers]
      exact h
    case enter f args =>
      refine Calls.mono h fun e w'' he => ?_
      cases e with
      | returned u => exact ⟨keep a hy u, by rw [← Act.put_comm a v u h2]; exact he⟩
      | panicked c => exact he
      | outgrown => exact he
    case row row args => exact Rows.mono h fun u w'' he => ⟨keep a hy u, by rw [← Act.put_comm a v u h2]; exact he⟩
  | halt x w' => cases x <;> simp only [Oper.upon] at h ⊢ <;> exact h

/-- What has come up has had all before it that it waits for. -/
def DC (md : Region.Mode) (ops : Array Oper) (listed : Array Bool) : Prop :=
  ∀ j o, listed.getD j false = true → ops[j]? = some o → ∀ e ∈ o.after, Region.binds md e = true → listed.getD e.on false = true

theorem DC.start (n : Nat) : DC md ops (Array.replicate n false) := by
  intro j o hj
  rw [Array.getD_eq_getD_getElem?, Array.getElem?_replicate] at hj
  split at hj <;> simp at hj

theorem DC.set {listed : Array Bool} {j : Nat} (h : DC md ops listed) (hj : j ∈ Region.ready md ops listed) : DC md ops (listed.setIfInBounds j true) := by
  intro k o hk hko e he hb
  refine getD_set_true ?_
  by_cases hjk : j = k
  · subst hjk
    obtain ⟨_, o', ho', hall⟩ := mem_ready.1 hj
    rw [hko] at ho'
    cases ho'
    exact hall e he hb
  · rw [getD_set_ne false hjk] at hk
    exact h k o hk hko e he hb

/-- Which operations wait for i, from the first on. -/
def waitsL (md : Region.Mode) (i : Nat) : List Oper → Array Bool → Array Bool
  | [], acc => acc
  | o :: l, acc => waitsL md i l (acc.push (o.after.any fun e => Region.binds md e && (e.on == i || acc.getD e.on false)))

def waits (md : Region.Mode) (ops : Array Oper) (i : Nat) (_n : Nat) (j : Nat) : Bool := (waitsL md i ops.toList #[]).getD j false

theorem waitsL_spec {listed : Array Bool} {i : Nat} (hd : DC md ops listed) (hi : listed.getD i false = false) : ∀ (l : List Oper) (acc : Array Bool),
    (∀ k, l[k]? = ops[acc.size + k]?) → (∀ j, acc.getD j false = true → listed.getD j false = false ∧ j ∉ Region.ready md ops listed) →
    ∀ j, (waitsL md i l acc).getD j false = true → listed.getD j false = false ∧ j ∉ Region.ready md ops listed
  | [], _, _, hacc, j, h => hacc j h
  | o :: l, acc, hl, hacc, j, h => by
    refine waitsL_spec hd hi l _ (fun k => ?_) (fun k hk => ?_) j h
    · have := hl (k + 1)
      simp only [List.getElem?_cons_succ] at this
      rw [this, Array.size_push]
      congr 1
      omega
    · rw [Array.getD_eq_getD_getElem?, Array.getElem?_push] at hk
      split at hk
      · rename_i hks
        have ho : ops[k]? = some o := by
          have := hl 0
          simp only [List.getElem?_cons_zero, Nat.add_zero] at this
          rw [hks]
          exact this.symm
        simp only [Option.getD_some] at hk
        obtain ⟨e, he, hb⟩ := Array.any_eq_true'.1 hk
        simp only [Bool.and_eq_true, Bool.or_eq_true, beq_iff_eq] at hb
        have hx : listed.getD e.on false = false := by
          rcases hb.2 with h1 | h1
          · rw [h1]; exact hi
          · exact (hacc e.on h1).1
        constructor
        · cases hj : listed.getD k false with
          | false => rfl
          | true => have := hd k o hj ho e he hb.1; rw [hx] at this; cases this
        · intro hr
          obtain ⟨_, o', ho', hall⟩ := mem_ready.1 hr
          rw [ho] at ho'
          cases ho'
          have := hall e he hb.1
          rw [hx] at this
          cases this
      · exact hacc k (by rw [Array.getD_eq_getD_getElem?]; exact hk)

theorem waits_unlisted {listed : Array Bool} {i : Nat} (hd : DC md ops listed) (hi : listed.getD i false = false) (f j : Nat) (h : waits md ops i f j = true) :
    listed.getD j false = false ∧ j ∉ Region.ready md ops listed :=
  waitsL_spec hd hi ops.toList #[] (fun k => by simp) (fun j hj => by simp at hj) j h

theorem getD_false_of_true {listed : Array Bool} {i : Nat} (h : listed.getD i true = false) : listed.getD i false = false := by
  rcases Nat.lt_or_ge i listed.size with h' | h'
  · simp [h'] at h ⊢; exact h
  · simp [Array.getElem?_eq_none h'] at h

/-- An operation marked S that may come up now may be taken first. -/
theorem first_S {i : Nat} {oi : Oper} {v : Value} (hi : ops[i]? = some oi) (hm : mk i = .S) (hsel : ∀ (j : Nat) (o : Oper) cs b, ops[j]? = some o → o.op ≠ .select cs b) :
    ∀ (fuel : Nat) (listed : Array Bool) (a : Act) (w : World), DC md ops listed →
      (∀ j oj, ops[j]? = some oj → j ≠ i → listed.getD j true = false → waits md ops i ops.size j = false → oi.apart ops oj = true ∧ mk j ≠ .T) →
      i ∈ Region.ready md ops listed → C w → Still P ops C oi a v →
      wpM P md ops mk C Q fuel (listed.setIfInBounds i true) (a.put oi.dst v) w → wpM P md ops mk C Q (fuel + 1) listed a w := by
  intro fuel
  induction fuel with
  | zero =>
    intro listed a w _ _ hr hC hy H
    refine ⟨fun h => (by rw [h] at hr; cases hr), fun j hj oj hoj => ?_⟩
    by_cases hji : j = i
    · subst hji
      rw [hi] at hoj
      cases hoj
      rw [hm]
      exact ⟨hC, v, hy, H⟩
    · have := ready_mono hj hji
      rw [H.1] at this
      cases this
  | succ fuel ih =>
    intro listed a w hd hfree hr hC hy H
    refine ⟨fun h => (by rw [h] at hr; cases hr), fun j hj oj hoj => ?_⟩
    by_cases hji : j = i
    · subst hji
      rw [hi] at hoj
      cases hoj
      rw [hm]
      exact ⟨hC, v, hy, H⟩
    · have hjun := (mem_ready.1 hj).1
      have hiun : listed.getD i false = false := getD_false_of_true (mem_ready.1 hr).1
      have hjw : waits md ops i ops.size j = false := by
        cases hq : waits md ops i ops.size j with
        | false => rfl
        | true => exact absurd hj (waits_unlisted hd hiun _ _ hq).2
      obtain ⟨hap, hT⟩ := hfree j oj hoj hji hjun hjw
      obtain ⟨h1, h2, h3⟩ := Oper.apart_spec hap
      have hfree' : ∀ k ok, ops[k]? = some ok → k ≠ i → (listed.setIfInBounds j true).getD k true = false → waits md ops i ops.size k = false → oi.apart ops ok = true ∧ mk k ≠ .T := fun k ok hk hki hun hno => by
        refine hfree k ok hk hki ?_ hno
        by_cases hjk : j = k
        · subst hjk; exact hjun
        · rw [getD_set_ne true hjk] at hun; exact hun
      have key : ∀ (a' : Act) (w' : World), C w' → Still P ops C oi a' v → wpM P md ops mk C Q fuel ((listed.setIfInBounds i true).setIfInBounds j true) (a'.put oi.dst v) w' →
          wpM P md ops mk C Q (fuel + 1) (listed.setIfInBounds j true) a' w' := fun a' w' hC' hy' hk =>
        ih _ a' w' (hd.set hj) hfree' (ready_mono hr (Ne.symm hji)) hC' hy' (by rw [Array.setIfInBounds_comm _ _ hji]; exact hk)
      have keep : ∀ u, Still P ops C oi (a.put oj.dst u) v := fun u =>
        hy.of_same (execOp_put oi (fun cs b => hsel i oi cs b hi) a oj.dst u h3) (wanted_put oi a oj.dst u h3)
      have hc := H.2 j (ready_mono hj hji) oj hoj
      have he := execOp_put oj (fun cs b => hsel j oj cs b hoj) a oi.dst v h1
      have hw := wanted_put oj a oi.dst v h1
      cases hmj : mk j <;> simp only [hmj, clause] at hc ⊢
      · obtain ⟨_, u, hu, hk⟩ := hc
        exact ⟨hC, u, hu.of_same he.symm hw.symm, key _ _ hC (keep u) (by rw [← Act.put_comm a v u h2]; exact hk)⟩
      · obtain ⟨_, V, hV, hk⟩ := hc
        exact ⟨hC, V, hV.of_same he.symm hw.symm, fun u w' hu hw' => key _ _ hw' (keep u) (by rw [← Act.put_comm a v u h2]; exact hk u w' hu hw')⟩
      · rw [hw] at hc
        refine ⟨fun hq => ?_, fun hq => key _ _ hC (keep _) (by rw [← Act.put_comm a v undef h2]; exact hc.2 hq)⟩
        exact Oper.wp_mono (fun a' w' h => ⟨h.2.1, key a' w' h.2.1 h.1 h.2.2⟩) (wp_put hap (fun cs b => hsel i oi cs b hi) (fun cs b => hsel j oj cs b hoj) hy (hc.1 hq))
      · exact absurd hmj hT

/-- An operation marked L that may come up now may be taken first, if no other than S or L may come up beside it. -/
theorem first_L {i : Nat} {oi : Oper} {V : Value → Prop} (hi : ops[i]? = some oi) (hm : mk i = .L) (hsel : ∀ (j : Nat) (o : Oper) cs b, ops[j]? = some o → o.op ≠ .select cs b) :
    ∀ (fuel : Nat) (listed : Array Bool) (a : Act) (w : World), DC md ops listed →
      (∀ j oj, ops[j]? = some oj → j ≠ i → listed.getD j true = false → waits md ops i ops.size j = false → oi.apart ops oj = true ∧ mk j ≠ .T ∧ mk j ≠ .A) →
      i ∈ Region.ready md ops listed → C w → Loose P ops C oi a V →
      (∀ v w', V v → C w' → wpM P md ops mk C Q fuel (listed.setIfInBounds i true) (a.put oi.dst v) w') → wpM P md ops mk C Q (fuel + 1) listed a w := by
  intro fuel
  induction fuel with
  | zero =>
    intro listed a w _ _ hr hC hy H
    refine ⟨fun h => (by rw [h] at hr; cases hr), fun j hj oj hoj => ?_⟩
    by_cases hji : j = i
    · subst hji
      rw [hi] at hoj
      cases hoj
      rw [hm]
      exact ⟨hC, V, hy, H⟩
    · have := ready_mono hj hji
      have hex : ∃ v w', V v ∧ C w' := by
        rcases hy with ⟨_, hy⟩ | ⟨_, hv⟩
        · obtain ⟨v, w', _, hv, hw'⟩ := hy w hC; exact ⟨v, w', hv, hw'⟩
        · exact ⟨_, w, hv, hC⟩
      obtain ⟨v0, w0, hv0, hw0⟩ := hex
      rw [(H v0 w0 hv0 hw0).1] at this
      cases this
  | succ fuel ih =>
    intro listed a w hd hfree hr hC hy H
    refine ⟨fun h => (by rw [h] at hr; cases hr), fun j hj oj hoj => ?_⟩
    by_cases hji : j = i
    · subst hji
      rw [hi] at hoj
      cases hoj
      rw [hm]
      exact ⟨hC, V, hy, H⟩
    · have hex : ∃ v w', V v ∧ C w' := by
        rcases hy with ⟨_, hy⟩ | ⟨_, hv⟩
        · obtain ⟨v, w', _, hv, hw'⟩ := hy w hC; exact ⟨v, w', hv, hw'⟩
        · exact ⟨_, w, hv, hC⟩
      obtain ⟨v0, w0, hv0, hw0⟩ := hex
      have hjun := (mem_ready.1 hj).1
      have hiun : listed.getD i false = false := getD_false_of_true (mem_ready.1 hr).1
      have hjw : waits md ops i ops.size j = false := by
        cases hq : waits md ops i ops.size j with
        | false => rfl
        | true => exact absurd hj (waits_unlisted hd hiun _ _ hq).2
      obtain ⟨hap, hT, hA⟩ := hfree j oj hoj hji hjun hjw
      obtain ⟨h1, h2, h3⟩ := Oper.apart_spec hap
      have hfree' : ∀ k ok, ops[k]? = some ok → k ≠ i → (listed.setIfInBounds j true).getD k true = false → waits md ops i ops.size k = false → oi.apart ops ok = true ∧ mk k ≠ .T ∧ mk k ≠ .A := fun k ok hk hki hun hno => by
        refine hfree k ok hk hki ?_ hno
        by_cases hjk : j = k
        · subst hjk; exact hjun
        · rw [getD_set_ne true hjk] at hun; exact hun
      have key : ∀ (u : Value) (w' : World), C w' → (∀ v w'', V v → C w'' → wpM P md ops mk C Q fuel ((listed.setIfInBounds i true).setIfInBounds j true) ((a.put oi.dst v).put oj.dst u) w'') →
          wpM P md ops mk C Q (fuel + 1) (listed.setIfInBounds j true) (a.put oj.dst u) w' := fun u w' hC' hk =>
        ih _ _ w' (hd.set hj) hfree' (ready_mono hr (Ne.symm hji)) hC'
          (hy.of_same (execOp_put oi (fun cs b => hsel i oi cs b hi) a oj.dst u h3) (wanted_put oi a oj.dst u h3))
          (fun v w'' hv hw'' => by rw [Array.setIfInBounds_comm _ _ hji, ← Act.put_comm a v u h2]; exact hk v w'' hv hw'')
      have hcl := fun v w' hv hw' => (H v w' hv hw').2 j (ready_mono hj hji) oj hoj
      have he := fun v => execOp_put oj (fun cs b => hsel j oj cs b hoj) a oi.dst v h1
      have hw := fun v => wanted_put oj a oi.dst v h1
      cases hmj : mk j <;> simp only [hmj, clause] at hcl ⊢
      · obtain ⟨_, u, hu, _⟩ := hcl v0 w hv0 hC
        have hu' : Still P ops C oj a u := hu.of_same (he v0).symm (hw v0).symm
        refine ⟨hC, u, hu', key u w hC fun v w'' hv hw'' => ?_⟩
        obtain ⟨_, u2, hu2, hk2⟩ := hcl v w'' hv hw''
        have hu2' : Still P ops C oj a u2 := hu2.of_same (he v).symm (hw v).symm
        have := Still.unique hC hu' hu2'
        rw [this]
        exact hk2
      · obtain ⟨_, V0, hV0, _⟩ := hcl v0 w hv0 hC
        have hV0' : Loose P ops C oj a V0 := hV0.of_same (he v0).symm (hw v0).symm
        refine ⟨hC, fun u => (Region.wanted oj (yielded ops a.tmps) = true ∧ ∃ w1 w2, C w1 ∧ (execOp a.eval oj).run P w1 = .ok (.value u) w2) ∨ (Region.wanted oj (yielded ops a.tmps) = false ∧ u = undef), ?_, ?_⟩
        · rcases hV0' with ⟨hq, hx⟩ | ⟨hq, _⟩
          · refine .inl ⟨hq, fun w1 hw1 => ?_⟩
            obtain ⟨u, w2, hr1, _, hw2⟩ := hx w1 hw1
            exact ⟨u, w2, hr1, .inl ⟨hq, w1, w2, hw1, hr1⟩, hw2⟩
          · exact .inr ⟨hq, .inr ⟨hq, rfl⟩⟩
        · intro u w' hu hw'
          refine key u w' hw' fun v w'' hv hw'' => ?_
          obtain ⟨_, V2, hV2, hk2⟩ := hcl v w'' hv hw''
          have hV2' : Loose P ops C oj a V2 := hV2.of_same (he v).symm (hw v).symm
          refine hk2 u w'' ?_ hw''
          rcases hu with ⟨hq, w1, w2, hw1, hr1⟩ | ⟨hq, rfl⟩
          · rcases hV2' with ⟨_, hx⟩ | ⟨hq', _⟩
            · obtain ⟨u', w3, hr2, hv2, _⟩ := hx w1 hw1
              rw [hr1] at hr2
              simp only [Result.ok.injEq, Next.value.injEq] at hr2
              rw [hr2.1]
              exact hv2
            · rw [hq] at hq'; cases hq'
          · rcases hV2' with ⟨hq', _⟩ | ⟨_, hv2⟩
            · rw [hq] at hq'; cases hq'
            · exact hv2
      · exact absurd hmj hA
      · exact absurd hmj hT

/-! ### The one order -/

/-- May i (marked so) be taken now? -/
def freeB (md : Region.Mode) (ops : Array Oper) (mk : Nat → Mk) (listed : Array Bool) (noA : Bool) (i : Nat) : Bool :=
  match ops[i]? with
  | none => false
  | some oi => (fun ws : Array Bool => (List.range ops.size).all fun j => j == i || listed.getD j true || ws.getD j false || match ops[j]? with
      | some oj => oi.apart ops oj && !(mk j).isT && !(noA && (mk j).isA)
      | none => true) (waitsL md i ops.toList #[])

theorem freeB_spec {i : Nat} {oi : Oper} {listed : Array Bool} {noA : Bool} (hi : ops[i]? = some oi) (h : freeB md ops mk listed noA i = true) (j : Nat) (oj : Oper)
    (hj : ops[j]? = some oj) (hne : j ≠ i) (hun : listed.getD j true = false) (hno : waits md ops i ops.size j = false) :
    oi.apart ops oj = true ∧ mk j ≠ .T ∧ (noA = true → mk j ≠ .A) := by
  simp only [freeB, hi, List.all_eq_true, List.mem_range] at h
  have h1 := h j (Array.getElem?_eq_some_iff.1 hj).1
  unfold waits at hno
  simp only [hj, Bool.or_eq_true, beq_iff_eq, hne, false_or, hun, Bool.false_eq_true, hno, Bool.and_eq_true, Bool.not_eq_true'] at h1
  refine ⟨h1.1.1, fun hx => ?_, fun hn hx => ?_⟩
  · have := h1.1.2; rw [hx] at this; cases this
  · have := h1.2; rw [hx, hn] at this; cases this

def sfB (md : Region.Mode) (ops : Array Oper) (mk : Nat → Mk) : List Nat → Array Bool → Bool
  | [], listed => (Region.ready md ops listed).isEmpty
  | i :: σ, listed => (Region.ready md ops listed).contains i &&
      (match mk i with
       | .S => freeB md ops mk listed false i
       | .L => freeB md ops mk listed true i
       | .A => Region.ready md ops listed == [i]
       | .T => Region.ready md ops listed == [i] && σ.all fun j => (mk j).isT) &&
      sfB md ops mk σ (listed.setIfInBounds i true)

def mixB (ops : Array Oper) (mk : Nat → Mk) (σ : List Nat) : Bool :=
  Region.noSelect ops && σ.length == ops.size && sfB .any ops mk σ (Array.replicate ops.size false)

/-- The walk in that order. -/
def wpSF (P : Program) (ops : Array Oper) (mk : Nat → Mk) (C : World → Prop) (Q : Act → World → Prop) : List Nat → Act → World → Prop
  | [], a, w => Q a w
  | i :: σ, a, w => ∃ o, ops[i]? = some o ∧ (match mk i with
      | .S => ∃ v, Still P ops C o a v ∧ wpSF P ops mk C Q σ (a.put o.dst v) w
      | .L => ∃ V, Loose P ops C o a V ∧ ∀ v w', V v → C w' → wpSF P ops mk C Q σ (a.put o.dst v) w'
      | .A => (Region.wanted o (yielded ops a.tmps) = true → o.wp P a w (fun a' w' => C w' ∧ wpSF P ops mk C Q σ a' w') Qf) ∧ (Region.wanted o (yielded ops a.tmps) = false → wpSF P ops mk C Q σ (a.put o.dst undef) w)
      | .T => (Region.wanted o (yielded ops a.tmps) = true → o.wp P a w (wpSF P ops mk C Q σ) Qf) ∧ (Region.wanted o (yielded ops a.tmps) = false → wpSF P ops mk C Q σ (a.put o.dst undef) w))

theorem wpM_of_SF (hs : Region.noSelect ops = true) : ∀ (σ : List Nat) (listed : Array Bool) (a : Act) (w : World), DC md ops listed →
    (C w ∨ σ.all (fun j => (mk j).isT) = true) → sfB md ops mk σ listed = true → wpSF P ops mk C (Q .normal) σ a w → wpM P md ops mk C Q σ.length listed a w
  | [], _, _, _, _, _, hB, h => ⟨by simpa [sfB] using hB, h⟩
  | i :: σ, listed, a, w, hd, hC, hB, h => by
    obtain ⟨o, ho, h⟩ := h
    simp only [sfB, Bool.and_eq_true] at hB
    obtain ⟨⟨hr, hf⟩, hB'⟩ := hB
    have hr : i ∈ Region.ready md ops listed := by simpa using hr
    have hd' := hd.set hr
    have hsel := Region.noSelect_spec hs
    have hCw : (mk i).isT = false → C w := fun hq => by
      rcases hC with h1 | h1
      · exact h1
      · simp only [List.all_cons, Bool.and_eq_true] at h1; rw [hq] at h1; cases h1.1
    cases hm : mk i <;> simp only [hm] at h hf
    · obtain ⟨v, hv, hk⟩ := h
      have hCw := hCw (by rw [hm]; rfl)
      exact first_S ho hm hsel _ listed a w hd (fun j oj h1 h2 h3 h4 => ⟨(freeB_spec ho hf j oj h1 h2 h3 h4).1, (freeB_spec ho hf j oj h1 h2 h3 h4).2.1⟩) hr hCw hv
        (wpM_of_SF hs σ _ _ _ hd' (.inl hCw) hB' hk)
    · obtain ⟨V, hV, hk⟩ := h
      have hCw := hCw (by rw [hm]; rfl)
      exact first_L ho hm hsel _ listed a w hd (fun j oj h1 h2 h3 h4 => ⟨(freeB_spec ho hf j oj h1 h2 h3 h4).1, (freeB_spec ho hf j oj h1 h2 h3 h4).2.1, (freeB_spec ho hf j oj h1 h2 h3 h4).2.2 rfl⟩) hr hCw hV
        (fun v w' hv hw' => wpM_of_SF hs σ _ _ _ hd' (.inl hw') hB' (hk v w' hv hw'))
    · have hCx : C w := hCw (by rw [hm]; rfl)
      have hr1 : Region.ready md ops listed = [i] := by simpa using hf
      refine ⟨fun hx => (by rw [hr1] at hx; cases hx), fun j hj oj hoj => ?_⟩
      rw [hr1] at hj
      have hj : j = i := by simpa using hj
      subst hj
      rw [ho] at hoj
      cases hoj
      rw [hm]
      exact ⟨fun hq => Oper.wp_mono (fun a' w' hx => ⟨hx.1, wpM_of_SF hs σ _ _ _ hd' (.inl hx.1) hB' hx.2⟩) (h.1 hq), fun hq => wpM_of_SF hs σ _ _ _ hd' (.inl hCx) hB' (h.2 hq)⟩
    · simp only [Bool.and_eq_true] at hf
      have hr1 : Region.ready md ops listed = [i] := by simpa using hf.1
      refine ⟨fun hx => (by rw [hr1] at hx; cases hx), fun j hj oj hoj => ?_⟩
      rw [hr1] at hj
      have hj : j = i := by simpa using hj
      subst hj
      rw [ho] at hoj
      cases hoj
      rw [hm]
      exact ⟨fun hq => Oper.wp_mono (fun a' w' hx => wpM_of_SF hs σ _ _ _ hd' (.inr hf.2) hB' hx) (h.1 hq), fun hq => wpM_of_SF hs σ _ _ _ hd' (.inr hf.2) hB' (h.2 hq)⟩

/-- A REGION THAT DRAWS ITS ORDER, BY ONE WALK. -/
theorem wp_mix {id : Nat} {l : List Oper} {a : Act} {w : World} (ms : List Mk) (σ : List Nat) (C : World → Prop) (hm : P.follows .mixedOrders = true)
    (hB : mixB l.toArray (fun i => ms.getD i .A) σ = true) (hC : C w.drew)
    (h : wpSF P l.toArray (fun i => ms.getD i .A) C (Q .normal) σ a w.drew) : (Code.region id l.toArray true).wp P Q a w := by
  simp only [mixB, Bool.and_eq_true, beq_iff_eq] at hB
  refine wp_region_any hm (wpM_sound (mk := fun i => ms.getD i .A) (C := C) _ _ _ _ ?_)
  have := wpM_of_SF (md := .any) hB.1.1 σ (Array.replicate l.toArray.size false) a w.drew (DC.start _) (.inl hC) hB.2 h
  rw [hB.1.2] at this
  exact this

/-! ### The steps -/
def nth : List Oper → Nat → Option Oper
  | [], _ => none
  | o :: _, 0 => some o
  | _ :: l, n + 1 => nth l n

theorem nth_eq : ∀ (l : List Oper) (n : Nat), nth l n = l.toArray[n]?
  | [], n => by simp [nth]
  | o :: l, 0 => by simp [nth]
  | o :: l, n + 1 => by
    have := nth_eq l n
    simp only [List.getElem?_toArray] at this
    simp [nth, this]

section steps
variable {l : List Oper} {i : Nat} {σ : List Nat} {a : Act} {w : World} {o : Oper} {ms : List Mk} {K0 : Act → World → Prop}

theorem sf_nil (h : K0 a w) : wpSF P l.toArray mk C K0 [] a w := h

/-- An operation whose guard says no. -/
theorem sf_skip {m : Mk} (ho : nth l i = some o) (hm : mk i = m) (hw : Region.wanted o (yielded l.toArray a.tmps) = false) (hC : m = .L → ∀ w', C w' → wpSF P l.toArray mk C K0 σ (a.put o.dst undef) w')
    (h : wpSF P l.toArray mk C K0 σ (a.put o.dst undef) w) : wpSF P l.toArray mk C K0 (i :: σ) a w := by
  refine ⟨o, (nth_eq l i).symm.trans ho, ?_⟩
  cases m <;> simp only [hm]
  · exact ⟨undef, .inr ⟨hw, rfl⟩, h⟩
  · refine ⟨fun v => v = undef, .inr ⟨hw, rfl⟩, ?_⟩
    rintro v w' rfl hw'
    exact hC rfl w' hw'
  · exact ⟨fun hq => (by rw [hw] at hq; cases hq), fun _ => h⟩
  · exact ⟨fun hq => (by rw [hw] at hq; cases hq), fun _ => h⟩

/-- 'undef' into slot d. -/
def blank (d : Tmp) : Oper := { dst := some d, op := .move (.const undef), type := 0, pos := "", after := #[], guard := none }

theorem of_blank {d : Tmp} {a' : Act} (h : ∀ K : Act → World → Prop, K a' w → Oper.wp P { dst := some d, op := .move (.const undef), type := 0, pos := "", after := #[], guard := none } a w K Qf) : a.put (some d) undef = a' := by
  have := h (fun x _ => x = a') rfl
  simpa [Oper.wp, execOp, Oper.upon, Act.eval] using this

/-- An operation whose guard says no, not marked L: its slot is blank behind it. -/
theorem sf_skipS {d : Tmp} (ho : nth l i = some o) (hm : mk i = .S) (hw : Region.wanted o (yielded l.toArray a.tmps) = false) (hd : o.dst = some d)
    (h : ∃ a' : Act, (∀ K : Act → World → Prop, K a' w → Oper.wp P { dst := some d, op := .move (.const undef), type := 0, pos := "", after := #[], guard := none } a w K Qf) ∧ wpSF P l.toArray mk C K0 σ a' w) : wpSF P l.toArray mk C K0 (i :: σ) a w := by
  obtain ⟨a', h1, h2⟩ := h
  exact sf_skip ho hm hw (fun hx => by cases hx) (by rw [hd, of_blank h1]; exact h2)
theorem sf_skipA {d : Tmp} (ho : nth l i = some o) (hm : mk i = .A) (hw : Region.wanted o (yielded l.toArray a.tmps) = false) (hd : o.dst = some d)
    (h : ∃ a' : Act, (∀ K : Act → World → Prop, K a' w → Oper.wp P { dst := some d, op := .move (.const undef), type := 0, pos := "", after := #[], guard := none } a w K Qf) ∧ wpSF P l.toArray mk C K0 σ a' w) : wpSF P l.toArray mk C K0 (i :: σ) a w := by
  obtain ⟨a', h1, h2⟩ := h
  exact sf_skip ho hm hw (fun hx => by cases hx) (by rw [hd, of_blank h1]; exact h2)
theorem sf_skipL {d : Tmp} (ho : nth l i = some o) (hm : mk i = .L) (hw : Region.wanted o (yielded l.toArray a.tmps) = false) (hd : o.dst = some d)
    (h : ∃ a' : Act, (∀ K : Act → World → Prop, K a' w → Oper.wp P { dst := some d, op := .move (.const undef), type := 0, pos := "", after := #[], guard := none } a w K Qf) ∧ ∀ w', C w' → wpSF P l.toArray mk C K0 σ a' w') (hC : C w) : wpSF P l.toArray mk C K0 (i :: σ) a w := by
  obtain ⟨a', h1, h2⟩ := h
  exact sf_skip ho hm hw (fun _ w' hw' => by rw [hd, of_blank h1]; exact h2 w' hw') (by rw [hd, of_blank h1]; exact h2 w hC)

/-- Marked S: it is shown by its wp in whatever world of the class; the frame behind it is read off there. -/
theorem sf_S {d : Tmp} (ho : nth l i = some o) (hm : mk i = .S) (hw : Region.wanted o (yielded l.toArray a.tmps) = true) (hd : o.dst = some d) (hlt' : decide (d < a.tmps.size) = true)
    (hne : ∀ ρ w' n w'', (execOp ρ o).run P w' = .ok n w'' → ∃ u, n = .value u)
    (hC : C w) (h : ∃ a' : Act, (∀ w', C w' → ∀ K : Act → World → Prop, K a' w' → o.wp P a w' K Qf) ∧ wpSF P l.toArray mk C K0 σ a' w) : wpSF P l.toArray mk C K0 (i :: σ) a w := by
  obtain ⟨a', hs, h⟩ := h
  have hlt : d < a.tmps.size := of_decide_eq_true hlt'
  have hx : ∀ w', C w' → ∃ u, (execOp a.eval o).run P w' = .ok (.value u) w' ∧ a.put o.dst u = a' := fun w' hw' => by
    have h1 := hs w' hw' (fun x y => x = a' ∧ y = w') ⟨rfl, rfl⟩
    unfold Oper.wp at h1
    cases hr : (execOp a.eval o).run P w' with
    | ok n w'' =>
      obtain ⟨u, rfl⟩ := hne _ _ _ _ hr
      rw [hr] at h1
      obtain ⟨h2, h3⟩ := h1
      exact ⟨u, by rw [h3], h2⟩
    | halt x w'' => rw [hr] at h1; cases x <;> exact h1.elim
  obtain ⟨u, hu, hua⟩ := hx w hC
  refine ⟨o, (nth_eq l i).symm.trans ho, ?_⟩
  simp only [hm]
  refine ⟨u, .inl ⟨hw, fun w' hw' => ?_⟩, by rw [hua]; exact h⟩
  obtain ⟨u', hu', hua'⟩ := hx w' hw'
  have : u' = u := by
    have h4 := hua'.trans hua.symm
    have h5 : (a.put o.dst u').tmps[d]? = (a.put o.dst u).tmps[d]? := by rw [h4]
    simp [Act.put, hd, hlt] at h5
    exact h5
  rw [this] at hu'
  exact hu'

/-- Marked L. -/
theorem sf_L {V : Value → Prop} (ho : nth l i = some o) (hm : mk i = .L) (hw : Region.wanted o (yielded l.toArray a.tmps) = true)
    (hs : ∀ w', C w' → ∃ v w'', (execOp a.eval o).run P w' = .ok (.value v) w'' ∧ V v ∧ C w'') (h : ∀ v w', V v → C w' → wpSF P l.toArray mk C K0 σ (a.put o.dst v) w') : wpSF P l.toArray mk C K0 (i :: σ) a w := by
  refine ⟨o, (nth_eq l i).symm.trans ho, ?_⟩
  simp only [hm]
  exact ⟨V, .inl ⟨hw, hs⟩, h⟩

/-- Marked A: the walk goes on behind a variable. -/
theorem sf_A (ho : nth l i = some o) (hm : mk i = .A) (hw : Region.wanted o (yielded l.toArray a.tmps) = true)
    (h : ∀ K : Act → World → Prop, (∀ a' w', C w' → wpSF P l.toArray mk C K0 σ a' w' → K a' w') → o.wp P a w K Qf) : wpSF P l.toArray mk C K0 (i :: σ) a w := by
  refine ⟨o, (nth_eq l i).symm.trans ho, ?_⟩
  simp only [hm]
  exact ⟨fun _ => h _ fun a' w' h1 h2 => ⟨h1, h2⟩, fun hq => by rw [hw] at hq; cases hq⟩

/-- Marked T. -/
theorem sf_T (ho : nth l i = some o) (hm : mk i = .T) (hw : Region.wanted o (yielded l.toArray a.tmps) = true)
    (h : ∀ K : Act → World → Prop, (∀ a' w', wpSF P l.toArray mk C K0 σ a' w' → K a' w') → o.wp P a w K Qf) : wpSF P l.toArray mk C K0 (i :: σ) a w := by
  refine ⟨o, (nth_eq l i).symm.trans ho, ?_⟩
  simp only [hm]
  exact ⟨fun _ => h _ fun a' w' h2 => h2, fun hq => by rw [hw] at hq; cases hq⟩
end steps
end

/-! ### Which operations yield a value, if they come to an end -/

theorem value_of_do {P : Program} {s : Sem Value} {w w' : World} {n : Next} (h : (do pure (.value (← s)) : Sem Next).run P w = .ok n w') : ∃ u, n = .value u := by
  rw [Sem.run_bind] at h
  cases hs : s.run P w with
  | ok u w1 => rw [hs] at h; simp only [Result.andThen_ok, Sem.run_pure, Result.ok.injEq] at h; exact ⟨u, h.1.symm⟩
  | halt x w1 => rw [hs] at h; simp at h

def valOp : Op → Bool
  | .move _ | .assign _ | .pick .. | .load .. | .binOp .. | .unOp .. | .convert .. | .fieldAddr .. | .field .. | .indexAddr .. | .index .. | .extract .. | .slice .. | .build .. | .makeFunc ..
  | .makeInterface .. | .nilCheck _ => true
  | .call { callee := .builtin .len, .. } => true
  | _ => false

theorem valOp_spec {P : Program} {o : Oper} (h : valOp o.op = true) (ρ : Operand → Value) (w : World) (n : Next) (w' : World) (hr : (execOp ρ o).run P w = .ok n w') : ∃ u, n = .value u := by
  obtain ⟨dst, op, type, pos, after, guard⟩ := o
  cases op <;> simp only [valOp] at h <;> try (cases h; done)
  case move x => simp only [execOp, Sem.run_pure, Result.ok.injEq] at hr; exact ⟨_, hr.1.symm⟩
  case assign x => simp only [execOp, Sem.run_pure, Result.ok.injEq] at hr; exact ⟨_, hr.1.symm⟩
  case pick c x y =>
    simp only [execOp] at hr
    rw [Sem.run_bind] at hr
    cases hs : (asBool (ρ c)).run P w with
    | ok u w1 => rw [hs] at hr; simp only [Result.andThen_ok, Sem.run_pure, Result.ok.injEq] at hr; exact ⟨_, hr.1.symm⟩
    | halt x w1 => rw [hs] at hr; simp at hr
  case nilCheck x =>
    simp only [execOp] at hr
    split at hr
    · simp [runtimePanic] at hr
    · simp [runtimePanic] at hr
    · simp [runtimePanic] at hr
    · split at hr
      · simp [runtimePanic] at hr
      · rw [Sem.run_bind] at hr
        simp only [run_program, Result.andThen_ok] at hr
        rw [Sem.run_bind] at hr
        generalize Sem.run P (nilAhead _ _ _ _) w = r at hr
        cases r with
        | ok u w1 =>
          simp only [Result.andThen_ok] at hr
          split at hr
          · simp at hr
          · simp at hr; exact ⟨_, hr.1.symm⟩
        | halt x w1 => simp at hr
      · simp only [Sem.run_pure, Result.ok.injEq] at hr; exact ⟨_, hr.1.symm⟩
    · simp only [Sem.run_pure, Result.ok.injEq] at hr; exact ⟨_, hr.1.symm⟩
  case call c =>
    obtain ⟨callee, args, argTypes⟩ := c
    cases callee <;> try (cases h; done)
    case builtin b =>
      cases b <;> try (cases h; done)
      exact value_of_do (s := Builtin.len_ argTypes type (args.map ρ)) hr
  all_goals exact value_of_do hr
end Mix
end Go.Proofs.Ytggbdmgonobefaa
