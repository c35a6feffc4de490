import Derived.Test.YtggbdmgonobefaaL1
namespace Go.Proofs.Ytggbdmgonobefaa
open Go.RowKit
set_option linter.unusedVariables false
set_option linter.unusedSimpArgs false
attribute [local go_sem] Fl.run_fadd Fl.run_fsub Fl.run_fmul Fl.run_fquo Fl.run_wide Fl.run_store_float

/-! ### Pictures held against each other -/

set_option maxHeartbeats 1000000 in
theorem eqPicture_yes (W H : Int) (xs ys : List Nat) (va vb : Value) (w : World) (ha : Sl w va (xs.map fv)) (hb : Sl w vb (ys.map fv)) (hlen : xs.length ≤ 140737488351232) (h : nl xs = nl ys) :
    Calls Try.prog 36 #[.agg #[.int .i64 W, .int .i64 H, va], .agg #[.int .i64 W, .int .i64 H, vb]] w fun e w' => e = .returned (.bool true) ∧ Below w.heap.size w w' := by
  obtain ⟨ada, capa, hva⟩ := ha.form
  obtain ⟨adb, capb, hvb⟩ := hb.form
  obtain ⟨n1, hn1⟩ : ∃ n1, n1 = (xs.map fv).length := ⟨_, rfl⟩
  obtain ⟨n2, hn2⟩ : ∃ n2, n2 = (ys.map fv).length := ⟨_, rfl⟩
  rw [← hn1] at hva
  rw [← hn2] at hvb
  clear hn1 hn2
  subst hva
  subst hvb
  have hcall := fun (o1 o2 : Obj) => eqFloat32S_yes xs ys _ _ ((w.alloc o1).alloc o2) ((ha.alloc o1).alloc o2) ((hb.alloc o1).alloc o2) hlen h
  clear ha hb h
  go_enter Try.func36, Try.ntmps36
  go_wp2_with fail
  refine (hcall _ _).mono ?_
  rintro e w1 ⟨rfl, hb1⟩
  go_wp2
  go_ret
  exact ⟨rfl, (((Below.refl _ _).alloc (Nat.le_refl _) _).alloc (by simp) _).trans (hb1.mono (by simp; omega))⟩

/-! ### Marks -/

def marks (k : Int) (n : Nat) : List Value := (List.range n).map fun (i : Nat) => fv (floatOfInt .f32 (k + (i : Int)))

theorem marks_length (k : Int) (n : Nat) : (marks k n).length = n := by simp [marks]
theorem marks_get (k : Int) (n j : Nat) (h : j < n) : (marks k n)[j]? = some (fv (floatOfInt .f32 (k + j))) := by simp [marks, h]

theorem marks_set (k : Int) (j : Nat) (cs : List Value) (h : j < cs.length) :
    (marks k j ++ cs.drop j).set j (fv (floatOfInt .f32 (k + j))) = marks k (j + 1) ++ cs.drop (j + 1) := by
  rw [List.set_append_right _ _ (by rw [marks_length]; exact Nat.le_refl _), marks_length, Nat.sub_self, List.drop_eq_getElem_cons h, List.set_cons_zero]
  simp [marks, List.range_succ]

theorem own_form {w : World} {base : Nat} {e : TypeId} {v : Value} {n : Nat} {cs : List Value} (h : w.ownsRow base e 1 v n cs) :
    ∃ ad cap, v = .slice ad n cap ∧ (0 < n → ∃ g, ad = some ⟨g, 0, none⟩ ∧ base ≤ g ∧ g < w.heap.size) := by
  rcases h.2 with ⟨rfl, rfl⟩ | ⟨g, cap, cur, rfl, hb, hg, _⟩
  · exact ⟨none, 0, rfl, fun h => absurd h (Nat.lt_irrefl _)⟩
  · exact ⟨_, _, rfl, fun _ => ⟨g, rfl, hb, (Array.getElem?_eq_some_iff.1 hg).1⟩⟩

theorem ownBlock_slice {ad : Option Addr} {n cap : Nat} {g : Nat} (h : ad = some ⟨g, 0, none⟩) : (Value.slice ad n cap).ownBlock = some g := by subst h; rfl

theorem grownBy_refl (w : World) (row : Option Nat) : w.grownBy w row := ⟨rfl, rfl, rfl, Nat.le_refl _, fun _ _ _ => rfl⟩
theorem grownBy_trans {w w1 w2 : World} {row : Option Nat} (h : w.grownBy w1 row) (h' : w1.grownBy w2 row) : w.grownBy w2 row :=
  ⟨h'.os.trans h.os, h'.tape.trans h.tape, h'.output.trans h.output, Nat.le_trans h.size h'.size, fun k hk hne => (h'.block k (Nat.lt_of_lt_of_le hk h.size) hne).trans (h.block k hk hne)⟩
theorem grownBy_below {w w1 w2 : World} {row : Option Nat} (h : w.grownBy w1 row) (h' : Below w1.heap.size w1 w2) : w.grownBy w2 row :=
  ⟨h'.os.trans h.os, h'.tape.trans h.tape, h'.output.trans h.output, Nat.le_trans h.size h'.size, fun k hk hne => (h'.block k (Nat.lt_of_lt_of_le hk h.size)).trans (h.block k hk hne)⟩
theorem below_grownBy {w w1 w2 : World} {row : Option Nat} (h : Below w.heap.size w w1) (h' : w1.grownBy w2 row) : w.grownBy w2 row :=
  ⟨h'.os.trans h.os, h'.tape.trans h.tape, h'.output.trans h.output, Nat.le_trans h.size h'.size, fun k hk hne => (h'.block k (Nat.lt_of_lt_of_le hk h.size) hne).trans (h.block k hk)⟩

set_option maxHeartbeats 1000000 in
theorem markFloat32S_any (base : Nat) (v : Value) (n : Nat) (cs : List Value) (k : Int) (w : World) (hown : w.ownsRow base 52 1 v n cs) (h0 : 0 ≤ k) (h1 : k + n ≤ 1099511627776) :
    Calls Try.prog 91 #[v, .int .i64 k] w fun e w' => e = .returned (.int .i64 (k + n)) ∧ w'.ownsRow base 52 1 v n (marks k n) ∧ w.grownBy w' v.ownBlock := by
  obtain ⟨ad, cap, hv, had⟩ := own_form hown
  have hlen : cs.length = n := by have := hown.1; omega
  have Hlen := hid hlen
  clear hlen
  subst hv
  go_enter Try.func91, Try.ntmps91
  go_wp2
  go_loopw [1, 5] (fun q i wr => ∃ j : Nat, j ≤ n ∧ i = .int .i64 j ∧ q = .int .i64 (k + j) ∧ wr.ownsRow base 52 1 (.slice ad n cap) n (marks k j ++ cs.drop j) ∧ w.grownBy wr (Value.slice ad n cap).ownBlock) (fun _ i _ => n - (intOf i).toNat)
  case atStart => exact ⟨0, Nat.zero_le _, rfl, by simp, by simpa [marks] using hown, grownBy_refl _ _⟩
  case round =>
    obtain ⟨j, hj, rfl, rfl, hownr, hgr⟩ := hrel
    by_cases hlt : j < n
    · obtain ⟨g, hg, hbg, hgs⟩ := had (by omega)
      have hcs : (marks k j ++ cs.drop j).length = n := by rw [List.length_append, marks_length, List.length_drop, Hlen.out]; omega
      have hst := marks_set k j cs (by rw [Hlen.out]; exact hlt)
      have hob := ownBlock_slice (n := n) (cap := cap) hg
      rw [hob] at hgr
      rw [hg] at hownr
      have hc1 : ∃ c, wr.cell? ⟨g, j, none⟩ = some c := by
        rw [hownr.cellAt j (by omega)]
        exact ⟨_, List.getElem?_eq_getElem (by omega)⟩
      obtain ⟨c, hc1⟩ := hc1
      have hf1 := hownr.frozenAt j
      have hs := hownr.stored j (fv (floatOfInt .f32 (k + j)))
      rw [hst] at hs
      have Hs := hid hs
      have Hgr := hid hgr
      have Hob := hid hob
      clear hs hgr hownr hcs hst hown hob
      subst hg
      go_wp2
      go_roundw
      case rel => exact ⟨j + 1, by omega, by go_num, by go_num, Hs.out.1, by rw [Hob.out]; exact grownBy_trans Hgr.out Hs.out.2⟩
      case measure => simp [intOf]; omega
    · have hjn : j = n := by omega
      subst hjn
      go_wp2
      go_ret
      refine ⟨rfl, ?_, hgr⟩
      rwa [List.drop_of_length_le (by rw [Hlen.out]; exact Nat.le_refl _), List.append_nil] at hownr

set_option maxHeartbeats 1000000 in
theorem markPicture_any (base : Nat) (W H : Int) (v : Value) (n : Nat) (cs : List Value) (k : Int) (w : World) (hown : w.ownsRow base 52 1 v n cs) (h0 : 0 ≤ k) (h1 : k + n ≤ 1099511627776) (hbase : base ≤ w.heap.size) :
    Calls Try.prog 37 #[.agg #[.int .i64 W, .int .i64 H, v], .int .i64 k] w fun e w' => e = .returned (.int .i64 (k + n)) ∧ w'.ownsRow base 52 1 v n (marks k n) ∧ w.grownBy w' v.ownBlock := by
  obtain ⟨ad, cap, hv, had⟩ := own_form hown
  subst hv
  have hcall := fun (o1 : Obj) => markFloat32S_any base _ n cs k (w.alloc o1) (hown.alloc o1) h0 h1
  clear hown had
  go_enter Try.func37, Try.ntmps37
  go_wp2_with fail
  refine (hcall _).mono ?_
  rintro e w1 ⟨rfl, ho1, hg1⟩
  go_wp2
  go_ret
  exact ⟨rfl, ho1, below_grownBy ((Below.refl _ _).alloc (Nat.le_refl _) _) hg1⟩

theorem order_ofInt (k : Int) : (FloatKind.f32.format.order (floatOfInt .f32 k) (floatOfInt .f32 k) != some Ordering.eq) = false := by
  rw [Fl.order_self, Fl.isnan_ofInt]

set_option maxHeartbeats 1000000 in
theorem heldFloat32S_any (v : Value) (n : Nat) (k : Int) (w : World) (hx : Sl w v (marks k n)) (h0 : 0 ≤ k) (h1 : k + n ≤ 1099511627776) :
    Calls Try.prog 110 #[v, .int .i64 k] w fun e w' => e = .returned (.int .i64 (k + n)) ∧ Below w.heap.size w w' := by
  obtain ⟨ad, cap, hv⟩ := hx.form
  rw [marks_length] at hv
  subst hv
  go_enter Try.func110, Try.ntmps110
  go_wp2
  go_loop [1, 5] (fun q i => ∃ j : Nat, j ≤ n ∧ i = .int .i64 j ∧ q = .int .i64 (k + j)) (fun _ i => n - (intOf i).toNat)
  case atStart => exact ⟨0, Nat.zero_le _, rfl, by simp⟩
  case round =>
    obtain ⟨j, hj, rfl, rfl⟩ := hrel
    by_cases hlt : j < n
    · obtain ⟨b, off, c, rfl, hci, hcell, hbs⟩ := hx.at j hlt
      rw [marks_get k n j hlt] at hci
      obtain rfl : fv (floatOfInt .f32 (k + j)) = c := Option.some.inj hci
      have hord := order_ofInt (k + j)
      clear hci hx
      go_wp2
      go_round
      case rel => exact ⟨j + 1, by omega, by go_num, by go_num⟩
      case measure => simp [intOf]; omega
    · have hjn : j = n := by omega
      subst hjn
      go_wp2
      go_ret
      exact ⟨rfl, Below.refl _ _⟩

set_option maxHeartbeats 1000000 in
theorem heldPicture_any (W H : Int) (v : Value) (n : Nat) (k : Int) (w : World) (hx : Sl w v (marks k n)) (h0 : 0 ≤ k) (h1 : k + n ≤ 1099511627776) :
    Calls Try.prog 51 #[.agg #[.int .i64 W, .int .i64 H, v], .int .i64 k] w fun e w' => e = .returned (.int .i64 (k + n)) ∧ Below w.heap.size w w' := by
  obtain ⟨ad, cap, hv⟩ := hx.form
  rw [marks_length] at hv
  subst hv
  have hcall := fun (o1 : Obj) => heldFloat32S_any _ n k (w.alloc o1) (hx.alloc o1) h0 h1
  clear hx
  go_enter Try.func51, Try.ntmps51
  go_wp2_with fail
  refine (hcall _).mono ?_
  rintro e w1 ⟨rfl, hb1⟩
  go_wp2
  go_ret
  exact ⟨rfl, ((Below.refl _ _).alloc (Nat.le_refl _) _).trans (hb1.mono (by simp))⟩

/-! ### Sizes -/

def szB (left : Int) (n : Nat) : Int := if left < n then -1 else left - n

set_option maxHeartbeats 1000000 in
theorem szFloat32S_any (ad : Option Addr) (n cap : Nat) (left : Int) (w : World) (h0 : 0 ≤ left) (h1 : left ≤ 1099511627776) (hn : n ≤ 140737488351232) :
    Calls Try.prog 84 #[.slice ad n cap, .int .i64 left] w fun e w' => e = .returned (.int .i64 (szB left n)) ∧ w = w' := by
  by_cases h : left < n
  all_goals
    go_enter Try.func84, Try.ntmps84
    go_wp2
    go_ret
    exact ⟨ret_int (by first | (simp [szB, h]; done) | (simp [szB]; omega)), rfl⟩

set_option maxHeartbeats 1000000 in
theorem szPicture_any (W H : Int) (ad : Option Addr) (n cap : Nat) (left : Int) (w : World) (h0 : 0 ≤ left) (h1 : left ≤ 1099511627776) (hn : n ≤ 140737488351232) :
    Calls Try.prog 30 #[.agg #[.int .i64 W, .int .i64 H, .slice ad n cap], .int .i64 left] w fun e w' => e = .returned (.int .i64 (szB left n)) ∧ Below w.heap.size w w' := by
  have hcall := fun (o1 : Obj) => szFloat32S_any ad n cap left (w.alloc o1) h0 h1 hn
  by_cases h : left < n
  all_goals
    have hz : szB left n = if left < n then -1 else left - n := rfl
    simp only [h, if_true, if_false] at hz
    rw [hz] at hcall ⊢
    clear hz
    go_enter Try.func30, Try.ntmps30
    go_wp2_with fail
    refine (hcall _).mono ?_
    rintro e w1 ⟨rfl, rfl⟩
    go_wp2
    go_ret
    exact ⟨rfl, (Below.refl _ _).alloc (Nat.le_refl _) _⟩

/-! ### Copies -/



theorem map_take_set {α : Type} (xs : List α) (cs : List α) (j : Nat) (hc : cs.length = xs.length) (h : j < xs.length) :
    (xs.take j ++ cs.drop j).set j xs[j] = xs.take (j + 1) ++ cs.drop (j + 1) := by
  rw [List.set_append_right _ _ (by rw [List.length_take]; omega), List.length_take, Nat.min_eq_left (Nat.le_of_lt h), Nat.sub_self, List.drop_eq_getElem_cons (by omega), List.set_cons_zero, List.take_succ_eq_append_getElem h, List.append_assoc]
  rfl

set_option maxHeartbeats 2000000 in
theorem toFloat32S_any (cs : List Value) (xs : List Nat) (hxs : cs = xs.map fv) (v : Value) (w : World) (hx : Sl w v cs) (hlen : xs.length ≤ 1048576) :
    Calls Try.prog 87 #[v] w fun e w' => ∃ v', e = .returned v' ∧ w'.ownsRow w.heap.size 52 1 v' xs.length cs ∧ Below w.heap.size w w' := by
  obtain ⟨ad, cap, hv⟩ := hx.form
  obtain ⟨n, hn⟩ : ∃ n, n = cs.length := ⟨_, rfl⟩
  have hnl : xs.length = n := by rw [hn, hxs, List.length_map]
  rw [hnl] at hlen ⊢
  rw [← hn] at hv
  subst hv
  have Hn := hid hn
  clear hn hnl
  obtain ⟨i0, hi, hz0, hz1, hz2⟩ := info_parts Try.infoF
  go_enter Try.func87, Try.ntmps87
  go_wp2_with (at_make; refine wpList_make_full _ rfl _ _ 22 rfl w.heap.size 52 i0 (.float .f32 0) 1 Try.underlying22 hi hz0 hz1 _ _ _ _ n rfl rfl (by omega) (by omega) ?c1 ?c2 ?c3 ?_)
  case c1 => rw [hz2]; omega
  case c2 => unfold maxLen; omega
  case c3 => exact Nat.le_refl _
  intro w1 hown hgrow
  have hb1 : Below w.heap.size w w1 := (Below.refl _ _).grown hgrow (Nat.le_refl _) (fun k hk => by cases hk)
  have hcs : (madeCells #[Value.float .f32 0] n).toList.length = n := by have := hown.1; omega
  obtain ⟨ds, hds⟩ : ∃ ds, ds = (madeCells #[Value.float .f32 0] n).toList := ⟨_, rfl⟩
  rw [← hds] at hcs hown
  have Hcs := hid hcs
  clear hds hcs hgrow hi hz0 hz1 hz2
  go_wp2
  go_loopw [4] (fun i wr => ∃ j : Nat, j ≤ n ∧ i = .int .i64 j ∧ wr.ownsRow w.heap.size 52 1 (.slice (some ⟨w.heap.size, 0, none⟩) n n) n (cs.take j ++ ds.drop j) ∧ Below w.heap.size w wr) (fun i _ => n - (intOf i).toNat)
  case atStart => exact ⟨0, Nat.zero_le _, rfl, by simpa using hown, hb1⟩
  case round =>
    obtain ⟨j, hj, rfl, hownr, hbr⟩ := hrel
    by_cases hlt : j < n
    · obtain ⟨b, off, c, rfl, hci, hcell, hbs⟩ := (hx.mono hbr).at j hlt
      have hjc : j < cs.length := by rw [← Hn.out]; exact hlt
      have hcj : c = cs[j] := by rw [List.getElem?_eq_getElem hjc] at hci; exact (Option.some.inj hci).symm
      have hst := map_take_set cs ds j (by rw [Hcs.out, ← Hn.out]) hjc
      rw [← hcj] at hst
      obtain ⟨q, hq⟩ : ∃ q, c = fv q := by
        have hm : c ∈ xs.map fv := by rw [← hxs, hcj]; exact List.getElem_mem hjc
        obtain ⟨q, _, hq⟩ := List.mem_map.1 hm
        exact ⟨q, hq.symm⟩
      have hl2 : (cs.take j ++ ds.drop j).length = n := by have := hownr.1; omega
      have hc1 : ∃ c, wr.cell? ⟨w.heap.size, j, none⟩ = some c := by
        rw [hownr.cellAt j (by omega)]
        exact ⟨_, List.getElem?_eq_getElem (by omega)⟩
      obtain ⟨c1, hc1⟩ := hc1
      have hf1 := hownr.frozenAt j
      have hs := hownr.stored j c
      rw [hst] at hs
      rw [hq] at hs hcell
      have Hs := hid hs
      have hbne : b ≠ w.heap.size := by
        have := (hx.at j hlt)
        obtain ⟨b', _, _, h1, _, _, h2⟩ := this
        simp only [Option.some.injEq, Addr.mk.injEq] at h1
        omega
      clear hs hst hl2 hownr hci hcj hq hx hxs hown
      go_wp2
      go_roundw
      case rel => exact ⟨j + 1, by omega, by go_num, Hs.out.1, hbr.setCell (Nat.le_refl _) _⟩
      case measure => simp [intOf]; omega
    · have hjn : j = n := by omega
      subst hjn
      go_wp2
      go_ret
      refine ⟨_, rfl, ?_, hbr⟩
      rwa [List.drop_of_length_le (by rw [Hcs.out]; exact Nat.le_refl _), List.append_nil, Hn.out, List.take_length, ← Hn.out] at hownr

theorem own_base {w : World} {b b' : Nat} {e : TypeId} {sz : Nat} {v : Value} {n : Nat} {cs : List Value} (h : b' ≤ b) (ho : w.ownsRow b e sz v n cs) : w.ownsRow b' e sz v n cs := by
  obtain ⟨h1, h2⟩ := ho
  refine ⟨h1, ?_⟩
  rcases h2 with h2 | ⟨g, cap, cur, a, hb, c⟩
  · exact .inl h2
  · exact .inr ⟨g, cap, cur, a, Nat.le_trans h hb, c⟩

set_option maxHeartbeats 2000000 in
theorem toPicture_any (W H : Int) (cs : List Value) (xs : List Nat) (hxs : cs = xs.map fv) (v : Value) (w : World) (hx : Sl w v cs) (hlen : xs.length ≤ 1048576) :
    Calls Try.prog 32 #[.agg #[.int .i64 W, .int .i64 H, v]] w fun e w' => ∃ v', e = .returned (.agg #[.int .i64 W, .int .i64 H, v']) ∧ w'.ownsRow w.heap.size 52 1 v' xs.length cs ∧ Below w.heap.size w w' := by
  obtain ⟨ad, cap, hv⟩ := hx.form
  obtain ⟨n, hn⟩ : ∃ n, n = cs.length := ⟨_, rfl⟩
  rw [← hn] at hv
  clear hn
  subst hv
  have hcall := fun (w1 : World) (hb : Below w.heap.size w w1) => toFloat32S_any cs xs hxs _ w1 (hx.mono hb) hlen
  clear hx hxs
  go_enter Try.func32, Try.ntmps32
  go_wp2_with fail
  refine (hcall _ ?hb).mono ?_
  case hb => exact (((Below.refl _ _).alloc (Nat.le_refl _) _).alloc (by simp) _).alloc (by simp; omega) _
  rintro e w1 ⟨v', rfl, hown, hb1⟩
  obtain ⟨ad', cap', rfl, _⟩ := own_form hown
  have hb2 : Below w.heap.size w w1 := ((((Below.refl _ _).alloc (Nat.le_refl _) _).alloc (by simp) _).alloc (by simp; omega) _).trans (hb1.mono (by simp; omega))
  obtain ⟨hc, hf⟩ := bcell hb1
  have c0 : w1.cell? ⟨w.heap.size + 1 + 1, 0, none⟩ = some (.int .i64 W) := by rw [hc _ _ (by simp)]; simp [go_sem]
  have c1 : w1.cell? ⟨w.heap.size + 1 + 1, 1, none⟩ = some (.int .i64 H) := by rw [hc _ _ (by simp)]; simp [go_sem]
  have c2 : w1.cell? ⟨w.heap.size + 1 + 1, 2, none⟩ = some (.slice none 0 0) := by rw [hc _ _ (by simp)]; simp [go_sem]
  have f2 : w1.frozen? ⟨w.heap.size + 1 + 1, 2, none⟩ = false := by rw [hf _ _ (by simp)]; simp [go_sem]
  have d0 : w1.cell? ⟨w.heap.size + 1, 0, none⟩ = some (.int .i64 0) := by rw [hc _ _ (by simp)]; simp [go_sem]
  have d1 : w1.cell? ⟨w.heap.size + 1, 1, none⟩ = some (.int .i64 0) := by rw [hc _ _ (by simp)]; simp [go_sem]
  have d2 : w1.cell? ⟨w.heap.size + 1, 2, none⟩ = some (.slice none 0 0) := by rw [hc _ _ (by simp)]; simp [go_sem]
  have g0 : w1.frozen? ⟨w.heap.size + 1, 0, none⟩ = false := by rw [hf _ _ (by simp)]; simp [go_sem]
  have g1 : w1.frozen? ⟨w.heap.size + 1, 1, none⟩ = false := by rw [hf _ _ (by simp)]; simp [go_sem]
  have g2 : w1.frozen? ⟨w.heap.size + 1, 2, none⟩ = false := by rw [hf _ _ (by simp)]; simp [go_sem]
  have Hown := hid hown
  have Hb1 := hid hb1
  have Hb2 := hid hb2
  clear hown hb1 hb2 hc hf
  go_wp2
  refine bodyPost_ret (v := .agg #[.int .i64 W, .int .i64 H, .slice ad' xs.length cap']) (by simp [results, Try.results32, go_sem, c0, c1, c2, f2, d0, d1, d2, g0, g1, g2]) rfl ⟨_, rfl, ?_, ?_⟩
  · exact own_base (by simp; omega) (ownsRow_setCell_below (ownsRow_setCell_below (ownsRow_setCell_below (ownsRow_setCell_below Hown.out (by simp) _) (by simp) _) (by simp) _) (by simp) _)
  · exact ((((Hb2.out).setCell (by simp; omega) _).setCell (by simp) _).setCell (by simp) _).setCell (by simp) _

end Go.Proofs.Ytggbdmgonobefaa
