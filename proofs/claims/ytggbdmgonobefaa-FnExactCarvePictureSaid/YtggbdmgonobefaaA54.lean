/-
  SeamOf of both: the seam of the least cost of a picture.
  Conditions: the lights read as a row of cells.
-/
import Derived.Test.YtggbdmgonobefaaA53
namespace Go.Proofs.Ytggbdmgonobefaa
open Go.RowKit
set_option linter.unusedVariables false
set_option linter.unusedSimpArgs false

theorem nl_self {ys G : List Nat} (h : nl ys = G) : nl ys = nl G := by rw [← h]; simp [nl, Fl.nf_nf]
theorem costAll_nl {W H : Nat} {ys G : List Nat} (h : nl ys = G) : costAll W H ys = costAll W H G := costC_nl (nl_self h) _
theorem leastR_nl {W H : Nat} {ys G : List Nat} (h : nl ys = G) : leastR W H ys = leastR W H G := by unfold leastR; rw [costAll_nl h]
theorem valid_fin {W H : Nat} {ys : List Nat} (hl : ys.length = W * H) (hW : W ≤ 16) (hH : H ≤ 16) (hW1 : 1 ≤ W) (hH1 : 1 ≤ H) : validB W H ys = allFin ys := by
  unfold validB
  rw [inB_spec.2 (show (1 : Int) ≤ W ∧ (W : Int) ≤ 16 by omega), inB_spec.2 (show (1 : Int) ≤ H ∧ (H : Int) ≤ 16 by omega), hl]
  simp

/-- A seam that was sought, its cost, and whether it was found. -/
def FoundAt (w : World) (W H : Nat) (G : List Nat) (e : Ending) (w' : World) : Prop :=
  ∃ sv r ok, e = .returned (.tuple #[sv, fv r, .bool ok]) ∧ ok = allFin (costAll W H G) ∧
    (ok = true → Fl.nf .f32 r = seamN W H (costAll W H G) ∧ w'.ownsRow w.heap.size 2 1 sv H ((seamL W H (costAll W H G)).map iv)) ∧ Below w.heap.size w w'

def seamOfR (W H : Int) (xs : List Nat) : Option (List Int × Nat) := if validB W H xs then leastR W.toNat H.toNat (grid W.toNat H.toNat (edgeV W.toNat H.toNat xs)) else none

theorem SeamRes.mono {w0 w : World} {r : Option (List Int × Nat)} {e : Ending} {w' : World} (h : SeamRes w r e w') (hb : Below w0.heap.size w0 w) : SeamRes w0 r e w' := by
  cases r with
  | none => exact ⟨h.1, hb.trans (h.2.mono hb.size)⟩
  | some p =>
    obtain ⟨s, c⟩ := p
    obtain ⟨sv, r, he, hr, ho, hb2⟩ := h
    exact ⟨sv, r, he, hr, own_base hb.size ho, hb.trans (hb2.mono hb.size)⟩

set_option maxHeartbeats 4000000 in
set_option maxRecDepth 100000 in
theorem l07Find_any (W H : Nat) (v : Value) (xs : List Nat) (b1 o1 : Nat) (w : World) (hp : PicAt w b1 o1 W H v xs) (hl : xs.length = W * H) (hW : W ≤ 16) (hH : H ≤ 16) (hW1 : 1 ≤ W) (hH1 : 1 ≤ H) :
    Calls Try.prog 86 #[.pointer (some ⟨b1, o1, none⟩)] w (FoundAt w W H (grid W H (edgeV W H xs))) := by
  have hed := l07Edges_any W H v xs b1 o1 w hp hl hW hH hW1 hH1
  obtain ⟨G, hG⟩ : ∃ G, G = grid W H (edgeV W H xs) := ⟨_, rfl⟩
  have hGl : G.length = W * H := by rw [hG]; exact grid_len _ _ _
  have hmn : W * H ≤ 256 := by have : W * H ≤ 16 * 16 := Nat.mul_le_mul hW hH; omega
  rw [← hG] at hed ⊢
  have HGl := hid hGl
  clear hp hl hG hGl
  go_enter Try.func86, Try.ntmps86
  go_wp2_with fail
  refine hed.mono ?_
  rintro e w1 ⟨v1, ys, rfl, hown, hys, hb1⟩
  obtain ⟨ad, cap, rfl, -⟩ := own_form hown
  have hyl : ys.length = W * H := by rw [nl_len hys]; exact HGl.out
  have hbox := PicAt.box w1 W H (.slice ad ys.length cap) ys 32 (Sl.of_own hown)
  have hI := ((Inv.start w).fresh hb1 hown).alloc [.int .i64 W, .int .i64 H, .slice ad ys.length cap] 32
  have hb2 := hI.below
  obtain ⟨w2, hw2⟩ : ∃ w2, w2 = w1.alloc (.cells #[.int .i64 W, .int .i64 H, .slice ad ys.length cap] 32) := ⟨_, rfl⟩
  rw [show w1.alloc (.cells [Value.int .i64 W, .int .i64 H, .slice ad ys.length cap].toArray 32) = w2 from hw2.symm] at hb2
  rw [← hw2] at hbox
  obtain ⟨B, hB⟩ : ∃ B, B = w1.heap.size := ⟨_, rfl⟩
  rw [← hB] at hbox
  have his := l02Is_any B 0 W H _ ys w2 hbox (by omega)
  rw [valid_fin hyl hW hH hW1 hH1] at his
  have Hseam := hid (fun (w3 : World) (h : Below w2.heap.size w2 w3) => l07Seam_any W H _ ys B 0 w3 (hbox.mono h) hyl hW hH hW1 hH1)
  have Hcost := hid (costAll_nl (W := W) (H := H) hys)
  have Hyl := hid hyl
  have Hb2 := hid hb2
  clear hI hb1 hown hys hed hbox hyl hb2
  cases hf : allFin ys
  · rw [hf] at his
    have Hf := hid (show allFin (costAll W H G) = false by
      cases hc : allFin (costAll W H G)
      · rfl
      · rw [← Hcost.out] at hc
        rw [costAll_fin Hyl.out hc] at hf
        cases hf)
    clear hf
    go_wp2_with fail
    rw [← hw2, ← hB]
    clear hw2 hB
    refine his.mono ?_
    rintro e w3 ⟨rfl, hb3⟩
    clear his
    go_wp2
    refine bodyPost_ret (v := .tuple #[.slice none 0 0, fv 0, .bool false]) (by simp [results, Try.results86, go_sem]) rfl ⟨_, 0, false, rfl, Hf.out.symm, (fun h => by cases h), ?_⟩
    exact Hb2.out.trans (hb3.mono Hb2.out.size)
  · rw [hf] at his
    clear hf
    go_wp2_with fail
    rw [← hw2, ← hB]
    clear hw2 hB
    refine his.mono ?_
    rintro e w3 ⟨rfl, hb3⟩
    clear his
    go_wp2_with fail
    refine (Hseam.out _ hb3).mono ?_
    rintro e w4 ⟨sv, r, rfl, hr, hs, hb4⟩
    rw [Hcost.out] at hr hs ⊢
    obtain ⟨ok, hok⟩ : ∃ ok, ok = allFin (costAll W H G) := ⟨_, rfl⟩
    rw [← hok]
    have Hok := hid hok
    have Hr := hid hr
    have Hs := hid hs
    clear hr hs hok
    go_wp2
    have hb := Hb2.out.trans (hb3.mono Hb2.out.size)
    exact bodyPost_ret (v := .tuple #[sv, fv r, .bool ok]) (by simp [results, Try.results86, go_sem]) rfl ⟨_, r, ok, rfl, Hok.out, (fun _ => ⟨Hr.out, own_base hb.size Hs.out⟩), hb.trans (hb4.mono hb.size)⟩

set_option maxHeartbeats 4000000 in
set_option maxRecDepth 100000 in
theorem specSeamOf_any (W H : Int) (v : Value) (xs : List Nat) (w : World) (hx : Sl w v (xs.map fv)) (hlen : xs.length ≤ 140737488351232) :
    Calls Try.prog 31 #[.agg #[.int .i64 W, .int .i64 H, v]] w (SeamRes w (seamOfR W H xs)) := by
  have hb1 : Below w.heap.size w (w.alloc (.cells #[.int .i64 W, .int .i64 H, v] 32)) := (Below.refl _ _).alloc (Nat.le_refl _) _
  have hbox := PicAt.box w W H v xs 32 hx
  obtain ⟨w1, hw1⟩ : ∃ w1, w1 = w.alloc (.cells #[.int .i64 W, .int .i64 H, v] 32) := ⟨_, rfl⟩
  rw [← hw1] at hb1 hbox
  obtain ⟨b, hbe⟩ : ∃ b, b = w.heap.size := ⟨_, rfl⟩
  rw [← hbe] at hbox
  have his := l02Is_any b 0 W H v xs w1 hbox hlen
  cases hok : validB W H xs
  · rw [hok] at his
    have hr : seamOfR W H xs = none := by rw [seamOfR, hok]; rfl
    rw [hr]
    clear hr hok hx hbox
    go_enter Try.func31, Try.ntmps31
    go_wp2_with fail
    rw [← hw1, ← hbe]
    clear hw1 hbe
    refine his.mono ?_
    rintro e w2 ⟨rfl, hb2⟩
    go_wp2
    exact bodyPost_ret (v := .tuple #[.slice none 0 0, fv 0, .bool false]) (by simp [results, Try.results31, go_sem]) rfl ⟨rfl, hb1.trans (hb2.mono hb1.size)⟩
  · obtain ⟨m, n, rfl, rfl, g1, g2, g3, g4, g5⟩ := valid_nat hok
    rw [hok] at his
    have hfind := fun (w3 : World) (h : Below w1.heap.size w1 w3) => l07Find_any m n v xs b 0 w3 (hbox.mono h) g5 g2 g4 g1 g3
    have hr : seamOfR (m : Int) (n : Int) xs = leastR m n (grid m n (edgeV m n xs)) := by rw [seamOfR, hok]; rfl
    rw [hr]
    obtain ⟨G, hG⟩ : ∃ G, G = grid m n (edgeV m n xs) := ⟨_, rfl⟩
    rw [← hG] at hfind ⊢
    obtain ⟨R, hR⟩ : ∃ R, R = leastR m n G := ⟨_, rfl⟩
    rw [← hR]
    have HR := hid hR
    have Hfind := hid hfind
    clear hr hok hx hbox hfind hG hR
    go_enter Try.func31, Try.ntmps31
    go_wp2_with fail
    rw [← hw1, ← hbe]
    clear hw1 hbe
    refine his.mono ?_
    rintro e w2 ⟨rfl, hb2⟩
    go_wp2_with fail
    refine (Hfind.out _ hb2).mono ?_
    rintro e w4 ⟨sv, r, ok, rfl, hokk, hsv, hb4⟩
    have hb := hb1.trans (hb2.mono hb1.size)
    have Hsv := hid hsv
    have Hok := hid hokk
    clear hokk hsv
    cases ok
    · have HR2 := hid (show R = none by rw [HR.out, leastR, ← Hok.out]; rfl)
      go_wp2
      rw [HR2.out]
      exact bodyPost_ret (v := .tuple #[.slice none 0 0, fv 0, .bool false]) (by simp [results, Try.results31, go_sem]) rfl ⟨rfl, hb.trans (hb4.mono hb.size)⟩
    · have HR2 := hid (show R = some (seamL m n (costAll m n G), seamN m n (costAll m n G)) by rw [HR.out, leastR, ← Hok.out]; rfl)
      have Hs2 := hid (Hsv.out rfl)
      clear Hsv
      go_wp2
      rw [HR2.out]
      exact bodyPost_ret (v := .tuple #[sv, fv r, .bool true]) (by simp [results, Try.results31, go_sem]) rfl ⟨_, r, rfl, Hs2.out.1, by rw [seamL_len]; exact own_base hb.size Hs2.out.2, hb.trans (hb4.mono hb.size)⟩

set_option maxHeartbeats 4000000 in
set_option maxRecDepth 100000 in
theorem implSeamOf_any (W H : Int) (v : Value) (xs : List Nat) (w : World) (hx : Sl w v (xs.map fv)) (hlen : xs.length ≤ 140737488351232) :
    Calls Try.prog 33 #[.agg #[.int .i64 W, .int .i64 H, v]] w (SeamRes w (seamOfR W H xs)) := by
  have hI := (Inv.start w).alloc [.int .i64 W, .int .i64 H, v] 32
  obtain ⟨w1, hw1⟩ : ∃ w1, w1 = w.alloc (.cells #[.int .i64 W, .int .i64 H, v] 32) := ⟨_, rfl⟩
  rw [show w.alloc (.cells [Value.int .i64 W, .int .i64 H, v].toArray 32) = w1 from hw1.symm] at hI
  obtain ⟨b, hbe⟩ : ∃ b, b = w.heap.size := ⟨_, rfl⟩
  rw [← hbe] at hI
  have his := ValidPicture_any W H xs v w1 (hI.arg hx) hlen
  cases hok : validB W H xs
  · rw [hok] at his
    have hr : seamOfR W H xs = none := by rw [seamOfR, hok]; rfl
    rw [hr]
    clear hr hok hx
    go_enter Try.func33, Try.ntmps33
    go_wp2_with fail
    rw [← hw1, ← hbe]
    clear hw1 hbe
    refine his.mono ?_
    rintro e w2 ⟨rfl, hb2⟩
    replace hI := hI.call hb2
    go_wp2
    exact bodyPost_ret (v := .tuple #[.slice none 0 0, fv 0, .bool false]) (by simp [results, Try.results33, go_sem]) rfl ⟨rfl, hI.below⟩
  · obtain ⟨m, n, rfl, rfl, g1, g2, g3, g4, g5⟩ := valid_nat hok
    rw [hok] at his
    have hed := fun (w3 : World) (h : Below w1.heap.size w1 w3) => edges_any m n v xs w3 ((hI.arg hx).mono h) g5 g2 g4
    have hr : seamOfR (m : Int) (n : Int) xs = leastR m n (grid m n (edgeV m n xs)) := by rw [seamOfR, hok]; rfl
    rw [hr]
    obtain ⟨G, hG⟩ : ∃ G, G = grid m n (edgeV m n xs) := ⟨_, rfl⟩
    have HGl := hid (show G.length = m * n by rw [hG]; exact grid_len _ _ _)
    rw [← hG] at hed ⊢
    obtain ⟨R, hR⟩ : ∃ R, R = leastR m n G := ⟨_, rfl⟩
    rw [← hR]
    have HR := hid hR
    have Hed := hid hed
    clear hr hok hx hed hG hR
    go_enter Try.func33, Try.ntmps33
    go_wp2_with fail
    rw [← hw1, ← hbe]
    clear hw1 hbe
    refine his.mono ?_
    rintro e w2 ⟨rfl, hb2⟩
    replace hI := hI.call hb2
    have q0 := (hI.blk 0 rfl).cell 0
    have q1 := (hI.blk 0 rfl).cell 1
    have q2 := (hI.blk 0 rfl).cell 2
    have hlb := (hI.blk 0 rfl).lt
    go_wp2_with fail
    refine (Hed.out _ hb2).mono ?_
    rintro e w3 ⟨v3, ys, rfl, hown, hys, hb3⟩
    have hb := hI.below.trans (hb3.mono hI.below.size)
    have hyl : ys.length = m * n := by rw [nl_len hys]; exact HGl.out
    have hls := leastSeam_any m n v3 ys w3 (Sl.of_own hown) hyl g2 g4 g1 g3
    rw [leastR_nl hys, ← HR.out] at hls
    have Hb := hid hb
    clear hown hys hb3 hyl q0 q1 q2 hI
    go_wp2_with fail
    refine hls.mono ?_
    rintro e w4 hres
    have hres := hres.mono Hb.out
    cases R with
    | none =>
      obtain ⟨rfl, hb4⟩ := hres
      clear hls
      go_wp2
      exact bodyPost_ret (v := .tuple #[.slice none 0 0, fv 0, .bool false]) (by simp [results, Try.results33, go_sem]) rfl ⟨rfl, hb4⟩
    | some p =>
      obtain ⟨s, c⟩ := p
      obtain ⟨sv, r, rfl, hr, ho, hb4⟩ := hres
      have Hr := hid hr
      have Ho := hid ho
      clear hls hr ho
      go_wp2
      exact bodyPost_ret (v := .tuple #[sv, fv r, .bool true]) (by simp [results, Try.results33, go_sem]) rfl ⟨_, r, rfl, Hr.out, Ho.out, hb4⟩

end Go.Proofs.Ytggbdmgonobefaa
