/-
  MeetSeam of both: the seam of the least cost where two pictures meet.
  Conditions: the lights read as rows of cells.
-/
import Derived.Test.YtggbdmgonobefaaL6
import Derived.Test.YtggbdmgonobefaaA14
namespace Go.Proofs.Ytggbdmgonobefaa
open Go.RowKit
set_option linter.unusedVariables false
set_option linter.unusedSimpArgs false

theorem meets_high {W1 H1 : Int} {x1 : List Nat} {W2 H2 : Int} {x2 : List Nat} {over : Int} (h : meetsB W1 H1 x1 W2 H2 x2 over = true) : 1 ≤ H1 := by
  simp only [meetsB, Bool.and_eq_true, validB, inB_spec, beq_iff_eq] at h
  obtain ⟨⟨⟨⟨⟨⟨a1, a2⟩, a3⟩, -⟩, -⟩, -⟩, -⟩ := h
  exact a2.1

def meetR (W1 H1 : Int) (x1 : List Nat) (W2 H2 : Int) (x2 : List Nat) (over : Int) : Option (List Int × Nat) :=
  if meetsB W1 H1 x1 W2 H2 x2 over then leastR over.toNat H1.toNat (grid over.toNat H1.toNat (apartV W1.toNat x1 W2.toNat x2 over.toNat)) else none

theorem meetR_len (W1 H1 : Int) (x1 : List Nat) (W2 H2 : Int) (x2 : List Nat) (over : Int) : ((meetR W1 H1 x1 W2 H2 x2 over).getD ([], 0)).1.length ≤ 1048576 := by
  unfold meetR
  split
  · rename_i h
    obtain ⟨w1, hh, w2, ov, rfl, rfl, rfl, rfl, rfl, -, -, -, -, g3, -⟩ := meets_nat h
    have := leastR_len ov hh (grid ov hh (apartV w1 x1 w2 x2 ov))
    simp only [Int.toNat_natCast]
    omega
  · simp

set_option maxHeartbeats 4000000 in
set_option maxRecDepth 100000 in
theorem l07Meet_any (W1 W2 H ov : Nat) (v1 v2 : Value) (x1 x2 : List Nat) (b1 o1 b2 o2 : Nat) (w : World) (hp1 : PicAt w b1 o1 W1 H v1 x1) (hp2 : PicAt w b2 o2 W2 H v2 x2)
    (hl1 : x1.length = W1 * H) (hl2 : x2.length = W2 * H) (hW1 : W1 ≤ 16) (hW2 : W2 ≤ 16) (hH : H ≤ 16) (hH1 : 1 ≤ H) (ho0 : 1 ≤ ov) (ho1 : ov ≤ W1) (ho2 : ov ≤ W2) :
    Calls Try.prog 93 #[.pointer (some ⟨b1, o1, none⟩), .pointer (some ⟨b2, o2, none⟩), .int .i64 ov] w (SeamRes w (leastR ov H (grid ov H (apartV W1 x1 W2 x2 ov)))) := by
  have hed := l07Differences_any W1 W2 H ov v1 v2 x1 x2 b1 o1 b2 o2 w hp1 hp2 hl1 hl2 hW1 hW2 hH ho0 ho1 ho2
  obtain ⟨G, hG⟩ : ∃ G, G = grid ov H (apartV W1 x1 W2 x2 ov) := ⟨_, rfl⟩
  have hGl : G.length = ov * H := by rw [hG]; exact grid_len _ _ _
  have hov : ov ≤ 16 := by omega
  have hmn : ov * H ≤ 256 := by have : ov * H ≤ 16 * 16 := Nat.mul_le_mul hov hH; omega
  rw [← hG] at hed ⊢
  obtain ⟨R, hR⟩ : ∃ R, R = leastR ov H G := ⟨_, rfl⟩
  rw [← hR]
  have HR := hid hR
  have HGl := hid hGl
  clear hp1 hp2 hl1 hl2 hG hGl hR
  go_enter Try.func93, Try.ntmps93
  go_wp2_with fail
  refine hed.mono ?_
  rintro e w1 ⟨v1, ys, rfl, hown, hys, hb1⟩
  obtain ⟨ad, cap, rfl, -⟩ := own_form hown
  have hyl : ys.length = ov * H := by rw [nl_len hys]; exact HGl.out
  have hbox := PicAt.box w1 ov H (.slice ad ys.length cap) ys 32 (Sl.of_own hown)
  have hI := ((Inv.start w).fresh hb1 hown).alloc [.int .i64 ov, .int .i64 H, .slice ad ys.length cap] 32
  have hb2 := hI.below
  obtain ⟨w2, hw2⟩ : ∃ w2, w2 = w1.alloc (.cells #[.int .i64 ov, .int .i64 H, .slice ad ys.length cap] 32) := ⟨_, rfl⟩
  rw [show w1.alloc (.cells [Value.int .i64 ov, .int .i64 H, .slice ad ys.length cap].toArray 32) = w2 from hw2.symm] at hb2
  rw [← hw2] at hbox
  obtain ⟨B, hB⟩ : ∃ B, B = w1.heap.size := ⟨_, rfl⟩
  rw [← hB] at hbox
  have his := l02Is_any B 0 ov H _ ys w2 hbox (by omega)
  rw [valid_fin hyl hov hH ho0 hH1] at his
  have Hseam := hid (fun (w3 : World) (h : Below w2.heap.size w2 w3) => l07Seam_any ov H _ ys B 0 w3 (hbox.mono h) hyl hov hH ho0 hH1)
  have Hcost := hid (costAll_nl (W := ov) (H := H) hys)
  have Hyl := hid hyl
  have Hb2 := hid hb2
  clear hI hb1 hown hys hed hbox hyl hb2
  cases hf : allFin ys
  · rw [hf] at his
    have HR2 := hid (show R = none by
      have : allFin (costAll ov H G) = false := by
        cases hc : allFin (costAll ov H G)
        · rfl
        · rw [← Hcost.out] at hc
          rw [costAll_fin Hyl.out hc] at hf
          cases hf
      rw [HR.out, leastR, this]
      rfl)
    clear hf
    go_wp2_with fail
    rw [← hw2, ← hB]
    clear hw2 hB
    refine his.mono ?_
    rintro e w3 ⟨rfl, hb3⟩
    clear his
    go_wp2
    rw [HR2.out]
    exact bodyPost_ret (v := .tuple #[.slice none 0 0, fv 0, .bool false]) (by simp [results, Try.results93, go_sem]) rfl ⟨rfl, Hb2.out.trans (hb3.mono Hb2.out.size)⟩
  · rw [hf] at his
    clear hf
    go_wp2_with fail
    rw [← hw2, ← hB]
    clear hw2 hB
    refine his.mono ?_
    rintro e w3 ⟨rfl, hb3⟩
    clear his
    go_wp2_with fail
    refine (Hseam.out _ hb3).mono ?_
    rintro e w4 ⟨sv, r, rfl, hr, hs, hb4⟩
    rw [Hcost.out] at hr hs ⊢
    obtain ⟨ok, hok⟩ : ∃ ok, ok = allFin (costAll ov H G) := ⟨_, rfl⟩
    rw [← hok]
    have Hok := hid hok
    have Hr := hid hr
    have Hs := hid hs
    have hb := Hb2.out.trans (hb3.mono Hb2.out.size)
    clear hr hs hok
    cases ok
    · have HR2 := hid (show R = none by rw [HR.out, leastR, ← Hok.out]; rfl)
      clear Hok
      go_wp2
      rw [HR2.out]
      exact bodyPost_ret (v := .tuple #[.slice none 0 0, fv 0, .bool false]) (by simp [results, Try.results93, go_sem]) rfl ⟨rfl, hb.trans (hb4.mono hb.size)⟩
    · have HR2 := hid (show R = some (seamL ov H (costAll ov H G), seamN ov H (costAll ov H G)) by rw [HR.out, leastR, ← Hok.out]; rfl)
      clear Hok
      go_wp2
      rw [HR2.out]
      exact bodyPost_ret (v := .tuple #[sv, fv r, .bool true]) (by simp [results, Try.results93, go_sem]) rfl ⟨_, r, rfl, Hr.out, by rw [seamL_len]; exact own_base hb.size Hs.out, hb.trans (hb4.mono hb.size)⟩

set_option maxHeartbeats 4000000 in
set_option maxRecDepth 100000 in
theorem specMeetSeam_any (W1 H1 : Int) (v1 : Value) (x1 : List Nat) (W2 H2 : Int) (v2 : Value) (x2 : List Nat) (over : Int) (w : World) (hx1 : Sl w v1 (x1.map fv)) (hx2 : Sl w v2 (x2.map fv))
    (hl1 : x1.length ≤ 140737488351232) (hl2 : x2.length ≤ 140737488351232) :
    Calls Try.prog 40 #[.agg #[.int .i64 W1, .int .i64 H1, v1], .agg #[.int .i64 W2, .int .i64 H2, v2], .int .i64 over] w (SeamRes w (meetR W1 H1 x1 W2 H2 x2 over)) := by
  have hI := ((Inv.start w).alloc [.int .i64 W1, .int .i64 H1, v1] 32).alloc [.int .i64 W2, .int .i64 H2, v2] 32
  simp only [size_alloc1] at hI
  obtain ⟨w1, hw1⟩ : ∃ w1, w1 = (w.alloc (.cells #[.int .i64 W1, .int .i64 H1, v1] 32)).alloc (.cells #[.int .i64 W2, .int .i64 H2, v2] 32) := ⟨_, rfl⟩
  rw [show (w.alloc (.cells [Value.int .i64 W1, .int .i64 H1, v1].toArray 32)).alloc (.cells [Value.int .i64 W2, .int .i64 H2, v2].toArray 32) = w1 from hw1.symm] at hI
  obtain ⟨b, hbe⟩ : ∃ b, b = w.heap.size := ⟨_, rfl⟩
  rw [← hbe] at hI
  have hp1 : PicAt w1 b 0 W1 H1 v1 x1 := ⟨(hI.blk 1 rfl).cell 0, (hI.blk 1 rfl).cell 1, (hI.blk 1 rfl).cell 2, hI.arg hx1⟩
  have hp2 : PicAt w1 (b + 1) 0 W2 H2 v2 x2 := ⟨(hI.blk 0 rfl).cell 0, (hI.blk 0 rfl).cell 1, (hI.blk 0 rfl).cell 2, hI.arg hx2⟩
  have hcall := l07Meets_any _ 0 W1 H1 v1 x1 _ 0 W2 H2 v2 x2 over w1 hp1 hp2 hl1 hl2
  have hb1 := hI.below
  obtain ⟨R, hR⟩ : ∃ R, R = meetR W1 H1 x1 W2 H2 x2 over := ⟨_, rfl⟩
  rw [← hR]
  cases hm : meetsB W1 H1 x1 W2 H2 x2 over
  · have HR := hid (show R = none by rw [hR, meetR, hm]; rfl)
    rw [hm] at hcall
    clear hp1 hp2 hI hR hx1 hx2 hm
    go_enter Try.func40, Try.ntmps40
    go_wp2_with fail
    rw [← hw1, ← hbe]
    clear hw1 hbe
    refine hcall.mono ?_
    rintro e w2 ⟨rfl, hb2⟩
    go_wp2
    rw [HR.out]
    exact bodyPost_ret (v := .tuple #[.slice none 0 0, fv 0, .bool false]) (by simp [results, Try.results40, go_sem]) rfl ⟨rfl, hb1.trans (hb2.mono hb1.size)⟩
  · have hh1 := meets_high hm
    have HR := hid (show R = leastR over.toNat H1.toNat (grid over.toNat H1.toNat (apartV W1.toNat x1 W2.toNat x2 over.toNat)) by rw [hR, meetR, hm]; rfl)
    rw [hm] at hcall
    obtain ⟨m1, hh, m2, ov, rfl, rfl, rfl, rfl, rfl, q1, q2, g1, g2, g3, g4, g5, g6⟩ := meets_nat hm
    simp only [Int.toNat_natCast] at HR
    have hmeet := fun w3 (h : Below w1.heap.size w1 w3) => l07Meet_any m1 m2 hh ov v1 v2 x1 x2 _ 0 _ 0 w3 (hp1.mono h) (hp2.mono h) q1 q2 g1 g2 g3 (by omega) g4 g5 g6
    rw [← HR.out] at hmeet
    have Hmeet := hid hmeet
    clear hp1 hp2 hI hR hx1 hx2 hm hmeet q1 q2 HR
    go_enter Try.func40, Try.ntmps40
    go_wp2_with fail
    rw [← hw1, ← hbe]
    clear hw1 hbe
    refine hcall.mono ?_
    rintro e w2 ⟨rfl, hb2⟩
    go_wp2_with fail
    refine (Hmeet.out _ hb2).mono ?_
    rintro e w4 hres
    have hres := hres.mono (hb1.trans (hb2.mono hb1.size))
    cases R with
    | none =>
      obtain ⟨rfl, hb4⟩ := hres
      clear Hmeet
      go_wp2
      exact bodyPost_ret (v := .tuple #[.slice none 0 0, fv 0, .bool false]) (by simp [results, Try.results40, go_sem]) rfl ⟨rfl, hb4⟩
    | some p =>
      obtain ⟨s, c⟩ := p
      obtain ⟨sv, r, rfl, hr, ho, hb4⟩ := hres
      have Hr := hid hr
      have Ho := hid ho
      clear Hmeet hr ho
      go_wp2
      exact bodyPost_ret (v := .tuple #[sv, fv r, .bool true]) (by simp [results, Try.results40, go_sem]) rfl ⟨_, r, rfl, Hr.out, Ho.out, hb4⟩

set_option maxHeartbeats 4000000 in
set_option maxRecDepth 100000 in
theorem implMeetSeam_any (W1 H1 : Int) (v1 : Value) (x1 : List Nat) (W2 H2 : Int) (v2 : Value) (x2 : List Nat) (over : Int) (w : World) (hx1 : Sl w v1 (x1.map fv)) (hx2 : Sl w v2 (x2.map fv))
    (hl1 : x1.length ≤ 140737488351232) (hl2 : x2.length ≤ 140737488351232) :
    Calls Try.prog 41 #[.agg #[.int .i64 W1, .int .i64 H1, v1], .agg #[.int .i64 W2, .int .i64 H2, v2], .int .i64 over] w (SeamRes w (meetR W1 H1 x1 W2 H2 x2 over)) := by
  have hI := ((Inv.start w).alloc [.int .i64 W1, .int .i64 H1, v1] 32).alloc [.int .i64 W2, .int .i64 H2, v2] 32
  simp only [size_alloc1] at hI
  obtain ⟨w1, hw1⟩ : ∃ w1, w1 = (w.alloc (.cells #[.int .i64 W1, .int .i64 H1, v1] 32)).alloc (.cells #[.int .i64 W2, .int .i64 H2, v2] 32) := ⟨_, rfl⟩
  rw [show (w.alloc (.cells [Value.int .i64 W1, .int .i64 H1, v1].toArray 32)).alloc (.cells [Value.int .i64 W2, .int .i64 H2, v2].toArray 32) = w1 from hw1.symm] at hI
  obtain ⟨b, hbe⟩ : ∃ b, b = w.heap.size := ⟨_, rfl⟩
  rw [← hbe] at hI
  have hcall := isOver_any W1 H1 v1 x1 W2 H2 v2 x2 over w1 (hI.arg hx1) (hI.arg hx2) hl1 hl2
  obtain ⟨R, hR⟩ : ∃ R, R = meetR W1 H1 x1 W2 H2 x2 over := ⟨_, rfl⟩
  rw [← hR]
  cases hm : meetsB W1 H1 x1 W2 H2 x2 over
  · have HR := hid (show R = none by rw [hR, meetR, hm]; rfl)
    rw [hm] at hcall
    clear hR hx1 hx2 hm
    go_enter Try.func41, Try.ntmps41
    go_wp2_with fail
    rw [← hw1, ← hbe]
    clear hw1 hbe
    refine hcall.mono ?_
    rintro e w2 ⟨rfl, hb2⟩
    replace hI := hI.call hb2
    go_wp2
    rw [HR.out]
    exact bodyPost_ret (v := .tuple #[.slice none 0 0, fv 0, .bool false]) (by simp [results, Try.results41, go_sem]) rfl ⟨rfl, hI.below⟩
  · have hh1 := meets_high hm
    have HR := hid (show R = leastR over.toNat H1.toNat (grid over.toNat H1.toNat (apartV W1.toNat x1 W2.toNat x2 over.toNat)) by rw [hR, meetR, hm]; rfl)
    rw [hm] at hcall
    obtain ⟨m1, hh, m2, ov, rfl, rfl, rfl, rfl, rfl, q1, q2, g1, g2, g3, g4, g5, g6⟩ := meets_nat hm
    simp only [Int.toNat_natCast] at HR
    have hap := fun w3 (h : Below w1.heap.size w1 w3) => apart_any m1 m2 hh ov v1 v2 x1 x2 w3 ((hI.arg hx1).mono h) ((hI.arg hx2).mono h) q1 q2 g1 g2 g3 g5 g6
    obtain ⟨G, hG⟩ : ∃ G, G = grid ov hh (apartV m1 x1 m2 x2 ov) := ⟨_, rfl⟩
    have HGl := hid (show G.length = ov * hh by rw [hG]; exact grid_len _ _ _)
    rw [← hG] at hap HR
    have Hap := hid hap
    clear hR hx1 hx2 hm hap q1 q2 hG
    go_enter Try.func41, Try.ntmps41
    go_wp2_with fail
    rw [← hw1, ← hbe]
    clear hw1 hbe
    refine hcall.mono ?_
    rintro e w2 ⟨rfl, hb2⟩
    replace hI := hI.call hb2
    have q0 := (hI.blk 0 rfl).cell 0
    have q1 := (hI.blk 0 rfl).cell 1
    have q2 := (hI.blk 0 rfl).cell 2
    have hlb := (hI.blk 0 rfl).lt
    have k0 := (hI.blk 1 rfl).cell 0
    have k1 := (hI.blk 1 rfl).cell 1
    have k2 := (hI.blk 1 rfl).cell 2
    have hlb1 := (hI.blk 1 rfl).lt
    go_wp2_with fail
    refine (Hap.out _ hb2).mono ?_
    rintro e w3 ⟨v3, ys, rfl, hown, hys, hb3⟩
    have hb := hI.below.trans (hb3.mono hI.below.size)
    have hyl : ys.length = ov * hh := by rw [nl_len hys]; exact HGl.out
    have hls := leastSeam_any ov hh v3 ys w3 (Sl.of_own hown) hyl (by omega) g3 g4 (by omega)
    rw [leastR_nl hys, ← HR.out] at hls
    have Hb := hid hb
    clear hown hys hb3 hyl q0 q1 q2 k0 k1 k2 hI HR
    go_wp2_with fail
    refine hls.mono ?_
    rintro e w4 hres
    have hres := hres.mono Hb.out
    cases R with
    | none =>
      obtain ⟨rfl, hb4⟩ := hres
      clear hls
      go_wp2
      exact bodyPost_ret (v := .tuple #[.slice none 0 0, fv 0, .bool false]) (by simp [results, Try.results41, go_sem]) rfl ⟨rfl, hb4⟩
    | some p =>
      obtain ⟨s, c⟩ := p
      obtain ⟨sv, r, rfl, hr, ho, hb4⟩ := hres
      have Hr := hid hr
      have Ho := hid ho
      clear hls hr ho
      go_wp2
      exact bodyPost_ret (v := .tuple #[sv, fv r, .bool true]) (by simp [results, Try.results41, go_sem]) rfl ⟨_, r, rfl, Hr.out, Ho.out, hb4⟩

end Go.Proofs.Ytggbdmgonobefaa
