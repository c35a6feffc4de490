import Derived.Test.YtggbdmgonobefaaMixF
import Derived.Test.YtggbdmgonobefaaRows
namespace Go.Proofs.Ytggbdmgonobefaa
open Go.RowKit
set_option linter.unusedVariables false
set_option linter.unusedSimpArgs false
attribute [local go_sem] Fl.run_fadd Fl.run_fsub Fl.run_fmul Fl.run_fquo Fl.run_wide Fl.run_store_float

theorem Try.infoF : (Try.prog.info? 52).map (fun i => (i.zero, i.size, i.bytes)) = some (some (.float .f32 0), 1, 4) := by kernel_rfl

def inB (n lo hi : Int) : Bool := decide (lo ≤ n) && decide (n ≤ hi)

set_option maxHeartbeats 400000 in
theorem between_any (n lo hi : Int) (w : World) :
    Calls Try.prog 102 #[.int .i64 n, .int .i64 lo, .int .i64 hi] w fun e w' => e = .returned (.bool (inB n lo hi)) ∧ w = w' := by
  go_enter Try.func102, Try.ntmps102
  go_wp2
  · have h : lo ≤ n := by assumption
    go_ret
    exact ⟨by simp [inB, h], rfl⟩
  · have h : n < lo := by assumption
    go_ret
    exact ⟨by simp [inB]; omega, rfl⟩

set_option maxHeartbeats 400000 in
theorem isNaN_any (x : Nat) (w : World) :
    Calls Try.prog 172 #[fv x] w fun e w' => e = .returned (.bool (Fl.isnan .f32 x)) ∧ w = w' := by
  go_enter Try.func172, Try.ntmps172
  go_wp2
  go_ret
  exact ⟨ret_bool (Fl.order_self _ _), rfl⟩

set_option maxHeartbeats 400000 in
theorem IsFinite_any (x : Nat) (w : World) :
    Calls Try.prog 143 #[fv x] w fun e w' => e = .returned (.bool (Fl.fin x)) ∧ ∃ n, w' = w.drewN n := by
  go_enter Try.func143, Try.ntmps143
  go_wp2_with (go_at_call 172; refine (isNaN_any _ _).mono ?_; rintro e w' ⟨rfl, rfl⟩)
  go_ret
  refine ⟨ret_bool ?_, _, rfl⟩
  rw [Fl.fin, ← Fl.isnan_nf, Fl.nf_fres]

set_option maxHeartbeats 400000 in
theorem areFinite1_any (x : Nat) (w : World) :
    Calls Try.prog 180 #[fv x] w fun e w' => e = .returned (.bool (!Fl.fin x)) ∧ ∃ n, w' = w.drewN n := by
  go_enter Try.func180, Try.ntmps180
  go_wp2_with (go_at_call 143; refine (IsFinite_any _ _).mono ?_; rintro e w' ⟨rfl, n, rfl⟩)
  go_ret
  exact ⟨rfl, _, rfl⟩

/-- The index of the first element that a function finds; the function may make memory of its own. -/
def idx (g : Nat → Bool) : List Nat → Nat → Int
  | [], _ => -1
  | x :: xs, k => if g x then k else idx g xs (k + 1)

theorem idx_ge (g : Nat → Bool) : ∀ (xs : List Nat) (k : Nat), decide (0 ≤ idx g xs k) = xs.any g
  | [], _ => by simp [idx]
  | x :: xs, k => by
    unfold idx
    cases h : g x
    · simp [h, idx_ge g xs (k + 1)]
    · simp [h]

set_option maxHeartbeats 800000 in
theorem IndexFunc_any (f : Nat) (cap : Array Value) (g : Nat → Bool) (xs : List Nat) (v : Value) (w : World) (hx : Sl w v (xs.map fv)) (hlen : xs.length ≤ 140737488351232)
    (hent : ∀ args w, (callFunc f args).run Try.prog w = .ok (.enter f args) w)
    (hf : ∀ (x : Nat) (w1 : World), x ∈ xs → Below w.heap.size w w1 → Calls Try.prog f (#[fv x] ++ cap) w1 fun e w' => e = .returned (.bool (g x)) ∧ Below w1.heap.size w1 w') :
    Calls Try.prog 187 #[v, .func (.func f) #[] cap] w fun e w' => e = .returned (.int .i64 (idx g xs 0)) ∧ Below w.heap.size w w' := by
  obtain ⟨ad, cp, hv⟩ := hx.form
  rw [List.length_map] at hv
  rw [hv] at hx ⊢
  clear hv
  obtain ⟨n, hn⟩ : ∃ n, n = xs.length := ⟨_, rfl⟩
  rw [← hn] at hlen hx ⊢
  have Hn := hid hn
  clear hn
  go_enter Try.func187, Try.ntmps187
  go_wp2
  go_loopw [5, 8] (fun _ i wr => ∃ k : Nat, k ≤ n ∧ i = .int .i64 k ∧ idx g xs 0 = idx g (xs.drop k) k ∧ Below w.heap.size w wr) (fun _ i _ => n - (intOf i).toNat)
  case atStart => exact ⟨0, Nat.zero_le _, rfl, rfl, Below.refl _ _⟩
  case round =>
    obtain ⟨k, hk, rfl, hidx, hb⟩ := hrel
    have Hidx := hid hidx
    clear hidx
    by_cases hlt : k < n
    · obtain ⟨b, off, c, rfl, hci, hcell, hbs⟩ := (hx.mono hb).at k hlt
      have hkx : k < xs.length := by rw [← Hn.out]; exact hlt
      have hdrop : xs.drop k = xs[k] :: xs.drop (k + 1) := List.drop_eq_getElem_cons hkx
      have hc : c = fv xs[k] := by
        rw [List.getElem?_map, List.getElem?_eq_getElem hkx] at hci
        exact (Option.some.inj hci).symm
      rw [hc] at hcell
      have hcall := hf xs[k] wr (List.getElem_mem hkx) hb
      obtain ⟨x, hxk⟩ : ∃ x, x = xs[k] := ⟨_, rfl⟩
      rw [← hxk] at hdrop hcell hcall
      have Hdrop := hid hdrop
      clear hdrop hc hci hxk hf
      cases hg : g x
      · have hstep : idx g xs 0 = idx g (xs.drop (k + 1)) (k + 1) := by rw [Hidx.out, Hdrop.out, idx, hg]; rfl
        have Hstep := hid hstep
        clear hstep
        rw [hg] at hcall
        go_wp2_with fail
        refine hcall.mono ?_
        rintro e w1 ⟨rfl, hb1⟩
        go_wp2
        go_roundw
        case rel => exact ⟨k + 1, by omega, by go_num, Hstep.out, hb.trans (hb1.mono hb.size)⟩
        case measure => simp [intOf]; omega
      · have hz : idx g xs 0 = k := by rw [Hidx.out, Hdrop.out, idx, hg]; rfl
        have Hz := hid hz
        clear hz
        rw [hg] at hcall
        go_wp2_with fail
        refine hcall.mono ?_
        rintro e w1 ⟨rfl, hb1⟩
        go_wp2
        go_ret
        exact ⟨ret_int Hz.out.symm, hb.trans (hb1.mono hb.size)⟩
    · have hke : k = n := by omega
      have hz : idx g xs 0 = -1 := by rw [Hidx.out, hke, Hn.out, List.drop_length]; rfl
      have Hz := hid hz
      clear hz hke
      go_wp2
      go_ret
      exact ⟨ret_int Hz.out.symm, hb⟩

set_option maxHeartbeats 400000 in
theorem ContainsFunc_any (f : Nat) (cap : Array Value) (g : Nat → Bool) (xs : List Nat) (v : Value) (w : World) (hx : Sl w v (xs.map fv)) (hlen : xs.length ≤ 140737488351232)
    (hent : ∀ args w, (callFunc f args).run Try.prog w = .ok (.enter f args) w)
    (hf : ∀ (x : Nat) (w1 : World), x ∈ xs → Below w.heap.size w w1 → Calls Try.prog f (#[fv x] ++ cap) w1 fun e w' => e = .returned (.bool (g x)) ∧ Below w1.heap.size w1 w') :
    Calls Try.prog 179 #[v, .func (.func f) #[] cap] w fun e w' => e = .returned (.bool (xs.any g)) ∧ Below w.heap.size w w' := by
  have hcall := IndexFunc_any f cap g xs v w hx hlen hent hf
  have hge := idx_ge g xs 0
  have Hge := hid hge
  clear hge hf hent hx
  go_enter Try.func179, Try.ntmps179
  go_wp2_with fail
  refine hcall.mono ?_
  rintro e w1 ⟨rfl, hb1⟩
  go_wp2
  go_ret
  exact ⟨ret_bool Hge.out, hb1⟩

theorem ent180 (args : Array Value) (w : World) : (callFunc 180 args).run Try.prog w = .ok (.enter 180 args) w := by kernel_rfl

theorem Below.of_drewN {w : World} (n : Nat) : Below w.heap.size w (w.drewN n) := Below.drewN' n (Below.refl _ _)

def allFin (xs : List Nat) : Bool := xs.all Fl.fin

theorem any_not_fin (xs : List Nat) : (!xs.any fun x => !Fl.fin x) = allFin xs := by
  unfold allFin
  induction xs with
  | nil => rfl
  | cons x xs ih => simp only [List.any_cons, List.all_cons, Bool.not_or, Bool.not_not, ih]

set_option maxHeartbeats 400000 in
theorem areFinite_any (xs : List Nat) (v : Value) (w : World) (hx : Sl w v (xs.map fv)) (hlen : xs.length ≤ 140737488351232) :
    Calls Try.prog 142 #[v] w fun e w' => e = .returned (.bool (allFin xs)) ∧ Below w.heap.size w w' := by
  have hcall := ContainsFunc_any 180 #[] (fun x => !Fl.fin x) xs v w hx hlen ent180
    (fun x w1 _ _ => (areFinite1_any x w1).mono fun e w' ⟨he, n, hw⟩ => ⟨he, hw ▸ Below.of_drewN n⟩)
  have h1 := any_not_fin xs
  have H1 := hid h1
  clear h1 hx
  go_enter Try.func142, Try.ntmps142
  go_wp2_with fail
  refine hcall.mono ?_
  rintro e w1 ⟨rfl, hb1⟩
  go_wp2
  go_ret
  exact ⟨ret_bool H1.out, hb1⟩

set_option maxHeartbeats 400000 in
theorem size_any (ad : Option Addr) (n cap : Nat) (w : World) : Calls Try.prog 141 #[.slice ad n cap] w fun e w' => e = .returned (.int .i64 n) ∧ w = w' := by
  go_enter Try.func141, Try.ntmps141
  go_wp2
  go_ret
  exact ⟨rfl, rfl⟩

end Go.Proofs.Ytggbdmgonobefaa
