/-
  CarvePicture by the reference: seams of the least cost cut out, one by one.
  Conditions: the lights read as a row of cells.
-/
import Derived.Test.YtggbdmgonobefaaA54
import Derived.Test.YtggbdmgonobefaaA18
namespace Go.Proofs.Ytggbdmgonobefaa
open Go.RowKit
set_option linter.unusedVariables false
set_option linter.unusedSimpArgs false

theorem Inv.boxes {w0 w : World} {bs bs' : List BoxD} {os : List OwnD} (h : Inv w0 w bs os) (hs : ∀ b ∈ bs', b ∈ bs) : Inv w0 w bs' os :=
  ⟨h.below, fun b hb => h.box b (hs b hb), h.own, h.sep, fun b hb => h.apart b (hs b hb)⟩

theorem edgeV_nl {W H : Nat} {ys L : List Nat} (h : nl ys = L) : edgeV W H ys = edgeV W H L := by
  funext x y
  have e : ∀ i, Fl.nf .f32 (ys.getD i 0) = L.getD i 0 := fun i => by rw [← h, getD_nl]
  have e2 : ∀ i j, Fl.fop .sub .f32 (ys.getD i 0) (ys.getD j 0) = Fl.fop .sub .f32 (L.getD i 0) (L.getD j 0) := fun i j => by rw [← Fl.fop_nf, e, e]
  simp only [edgeV, e2]
theorem cutV_nl {W : Nat} {ys L : List Nat} {s : List Int} (h : nl ys = L) : cutV W ys s = cutV W L s := by
  funext x y
  simp only [cutV]
  rw [← h, getD_nl, Fl.nf_nf]

theorem fin_getD {xs : List Nat} (h : allFin xs = true) (i : Nat) : Fl.fin (xs.getD i 0) = true := by
  rw [List.getD_eq_getElem?_getD]
  cases hi : xs[i]? with
  | none => decide +kernel
  | some x =>
    rw [allFin, List.all_eq_true] at h
    exact h x (List.mem_of_getElem? hi)

theorem cut_fin {W H : Nat} {xs : List Nat} {s : List Int} (h : allFin xs = true) : allFin (grid (W - 1) H (cutV W xs s)) = true := by
  rw [allFin, List.all_eq_true]
  intro x hx
  simp only [grid, cellsTo, List.mem_map] at hx
  obtain ⟨i, -, rfl⟩ := hx
  rw [cutV, Fl.fin_nf]
  exact fin_getD h _

/-- k seams cut out. -/
def carve (H : Nat) : Nat → Nat → List Nat → Option (List Nat)
  | 0, _, L => some L
  | k + 1, W, L =>
    if allFin (costAll W H (grid W H (edgeV W H L))) then carve H k (W - 1) (grid (W - 1) H (cutV W L (seamL W H (costAll W H (grid W H (edgeV W H L)))))) else none

def carveR (W H : Int) (xs : List Nat) (wide : Int) : Option Pic :=
  if validB W H xs && inB wide 1 W then (carve H.toNat (W.toNat - wide.toNat) W.toNat (nl xs)).map fun L => ⟨wide, H, L⟩ else none

theorem carve_len (H : Nat) : ∀ (k W : Nat) (L L' : List Nat), L.length = W * H → carve H k W L = some L' → L'.length = (W - k) * H
  | 0, W, L, L', hl, h => by
    simp only [carve, Option.some.injEq] at h
    rw [← h, hl, Nat.sub_zero]
  | k + 1, W, L, L', hl, h => by
    rw [carve] at h
    split at h
    · have := carve_len H k (W - 1) _ L' (grid_len _ _ _) h
      rw [this, Nat.sub_sub, Nat.add_comm 1 k]
    · cases h

theorem seamL_in {W H : Nat} {C : List Nat} (hW : 0 < W) : ∀ k, k < H → 0 ≤ (seamL W H C).getD k 0 ∧ (seamL W H C).getD k 0 < W := by
  intro k hk
  have : (seamL W H C).getD k 0 = ((backX W H C (H - 1 - k) : Nat) : Int) := by
    simp [seamL, List.getD_eq_getElem?_getD, hk]
  rw [this]
  have := backX_lt (H := H) (C := C) hW (H - 1 - k)
  omega

/-- The number in a block's first cell. -/
def cellNat (w : World) (b : Nat) : Nat := match w.cell? ⟨b, 0, none⟩ with
  | some (.int _ z) => z.toNat
  | _ => 0
theorem cellNat_eq {w : World} {b : Nat} {k : IntKind} {n : Nat} (h : w.cell? ⟨b, 0, none⟩ = some (.int k n)) : cellNat w b = n := by
  unfold cellNat
  rw [h]
  rfl

set_option maxHeartbeats 8000000 in
set_option maxRecDepth 100000 in
theorem specCarve_any (W H : Int) (v : Value) (xs : List Nat) (wide : Int) (w : World) (hx : Sl w v (xs.map fv)) (hlen : xs.length ≤ 140737488351232) :
    Calls Try.prog 57 #[.agg #[.int .i64 W, .int .i64 H, v], .int .i64 wide] w (PicRes w (carveR W H xs wide)) := by
  have hI := ((Inv.start w).alloc [.int .i64 W, .int .i64 H, v] 32).alloc [.int .i64 0, .int .i64 0, .slice none 0 0] 32
  simp only [size_alloc1] at hI
  obtain ⟨w1, hw1⟩ : ∃ w1, w1 = (w.alloc (.cells #[.int .i64 W, .int .i64 H, v] 32)).alloc (.cells #[.int .i64 0, .int .i64 0, .slice none 0 0] 32) := ⟨_, rfl⟩
  rw [show (w.alloc (.cells [Value.int .i64 W, .int .i64 H, v].toArray 32)).alloc (.cells [Value.int .i64 0, .int .i64 0, .slice none 0 0].toArray 32) = w1 from hw1.symm] at hI
  obtain ⟨b, hbe⟩ : ∃ b, b = w.heap.size := ⟨_, rfl⟩
  rw [← hbe] at hI
  have hp : PicAt w1 b 0 W H v xs := ⟨(hI.blk 1 rfl).cell 0, (hI.blk 1 rfl).cell 1, (hI.blk 1 rfl).cell 2, hI.arg hx⟩
  have hcall := l02Is_any b 0 W H v xs w1 hp hlen
  obtain ⟨R, hR⟩ : ∃ R, R = carveR W H xs wide := ⟨_, rfl⟩
  rw [← hR]
  rcases (show validB W H xs = false ∨ (validB W H xs = true ∧ inB wide 1 W = false) ∨ (validB W H xs = true ∧ inB wide 1 W = true) by
    cases validB W H xs <;> cases inB wide 1 W <;> simp) with hok | ⟨hok, hin⟩ | ⟨hok, hin⟩
  · have HR := hid (show R = none by rw [hR, carveR, hok]; rfl)
    rw [hok] at hcall
    clear hR hp hx
    go_enter Try.func57, Try.ntmps57
    go_wp2_with fail
    rw [← hw1, ← hbe]
    have Hbe := hid hbe
    clear hw1 hbe
    refine hcall.mono ?_
    rintro e w2 ⟨rfl, hb2⟩
    replace hI := hI.call hb2
    have hres := hI.blk 0 rfl
    have r0 := hres.cell 0
    have r1 := hres.cell 1
    have r2 := hres.cell 2
    have f0 := hres.frozen 0
    have f1 := hres.frozen 1
    have f2 := hres.frozen 2
    go_wp2
    rw [HR.out]
    refine bodyPost_ret (v := .tuple #[.agg #[.int .i64 0, .int .i64 0, .slice none 0 0], .bool false]) (by simp [results, Try.results57, go_sem, r0, r1, r2, f0, f1, f2]) rfl ⟨rfl, ?_⟩
    have hsz := Hbe.out
    exact ((hI.below.setCell (by simp; omega) _).setCell (by simp; omega) _).setCell (by simp; omega) _
  · have HR := hid (show R = none by rw [hR, carveR, hok, hin]; rfl)
    have hin2 := fun w3 => l00In_any wide 1 W w3
    rw [hok] at hcall
    rw [hin] at hin2
    clear hR hp hx
    go_enter Try.func57, Try.ntmps57
    go_wp2_with fail
    rw [← hw1, ← hbe]
    have Hbe := hid hbe
    clear hw1 hbe
    refine hcall.mono ?_
    rintro e w2 ⟨rfl, hb2⟩
    replace hI := hI.call hb2
    have q0 := (hI.blk 1 rfl).cell 0
    have hlb := (hI.blk 1 rfl).lt
    have hres := hI.blk 0 rfl
    have r0 := hres.cell 0
    have r1 := hres.cell 1
    have r2 := hres.cell 2
    have f0 := hres.frozen 0
    have f1 := hres.frozen 1
    have f2 := hres.frozen 2
    go_wp2_with fail
    refine (hin2 _).mono ?_
    rintro e w3 ⟨rfl, rfl⟩
    go_wp2
    rw [HR.out]
    refine bodyPost_ret (v := .tuple #[.agg #[.int .i64 0, .int .i64 0, .slice none 0 0], .bool false]) (by simp [results, Try.results57, go_sem, r0, r1, r2, f0, f1, f2]) rfl ⟨rfl, ?_⟩
    have hsz := Hbe.out
    exact ((hI.below.setCell (by simp; omega) _).setCell (by simp; omega) _).setCell (by simp; omega) _
  · obtain ⟨m, n, rfl, rfl, g1, g2, g3, g4, g5⟩ := valid_nat hok
    have hin3 := inB_spec.1 hin
    obtain ⟨k, rfl⟩ := Int.eq_ofNat_of_zero_le (show 0 ≤ wide by omega)
    have hin2 := fun w3 => l00In_any k 1 m w3
    rw [hok] at hcall
    rw [hin] at hin2
    have hk1 : 1 ≤ k := by omega
    have hkm : k ≤ m := by omega
    have HR := hid (show R = (carve n (m - k) m (nl xs)).map fun L => ⟨k, n, L⟩ by rw [hR, carveR, hok, hin]; rfl)
    have hmn : m * n ≤ 256 := by have : m * n ≤ 16 * 16 := Nat.mul_le_mul g2 g4; omega
    have hpos : 0 < m * n := Nat.mul_pos g1 g3
    have hown := fun (w3 : World) (h : Below w1.heap.size w1 w3) => l02Own_any m n v xs b 0 w3 (hp.mono h) (by omega) (by omega)
    have hfx : allFin xs = true := by rw [← valid_fin g5 g2 g4 g1 g3]; exact hok
    have hq := g5
    obtain ⟨q, hqe⟩ : ∃ q, q = xs.length := ⟨_, rfl⟩
    rw [← hqe] at hown hq
    have Hown := hid hown
    have Hlm := hid (show (xs.map fv).length = q by rw [List.length_map, hqe])
    have Hqe := hid hqe
    have Hq := hid hq
    have Hfx := hid hfx
    clear hR hp hx hok hin hin3 hown hfx hqe hq g5
    go_enter Try.func57, Try.ntmps57
    go_wp2_with fail
    rw [← hw1, ← hbe]
    have Hbe := hid hbe
    clear hw1 hbe
    refine hcall.mono ?_
    rintro e w2 ⟨rfl, hb2⟩
    replace hI := hI.call hb2
    have q0 := (hI.blk 1 rfl).cell 0
    have hlb := (hI.blk 1 rfl).lt
    go_wp2_with fail
    refine (hin2 _).mono ?_
    rintro e w3 ⟨rfl, rfl⟩
    go_wp2_with fail
    refine (Hown.out _ hb2).mono ?_
    rintro e w4 ⟨ad, cap, rfl, hown, hb4⟩
    replace hI := hI.fresh hb4 hown
    clear q0 hlb hown hb4 hb2 Hown hin2
    have hne := hid hI.box_ne
    replace hI := hI.alloc [.int .i64 m, .int .i64 n, .slice ad q cap] 32
    obtain ⟨B6, hB6⟩ : ∃ B, B = w4.heap.size := ⟨_, rfl⟩
    obtain ⟨w5, hw5⟩ : ∃ w5, w5 = w4.alloc (.cells #[.int .i64 m, .int .i64 n, .slice ad q cap] 32) := ⟨_, rfl⟩
    rw [show w4.alloc (.cells [Value.int .i64 m, .int .i64 n, .slice ad q cap].toArray 32) = w5 from hw5.symm, ← hB6] at hI
    rw [← hB6] at hne
    have hI0 : ∃ (j : Nat) (ad : Option Addr) (cap : Nat) (ys : List Nat), k ≤ j ∧ j ≤ m ∧ ys.length = j * n ∧ carve n (j - k) j (nl ys) = carve n (m - k) m (nl xs) ∧
        Inv w w5 [(B6, [.int .i64 j, .int .i64 n, .slice ad (j * n) cap], 32), (b + 1, [.int .i64 0, .int .i64 0, .slice none 0 0], 32)] [(.slice ad (j * n) cap, 52, ys.map fv)] :=
      ⟨m, ad, cap, xs, hkm, Nat.le_refl _, by rw [← Hqe.out]; exact Hq.out, rfl, by
        rw [← Hq.out]
        exact hI.boxes (by simp)⟩
    clear hI
    go_wp2
    rw [← hw5, ← hB6]
    clear hw5 hB6
    obtain ⟨CR, hCR⟩ : ∃ c, c = carve n (m - k) m (nl xs) := ⟨_, rfl⟩
    rw [← hCR] at hI0 HR
    clear hCR
    go_loopw [7] (fun _ wr => ∃ (j : Nat) (ad : Option Addr) (cap : Nat) (ys : List Nat), k ≤ j ∧ j ≤ m ∧ ys.length = j * n ∧ carve n (j - k) j (nl ys) = CR ∧
        Inv w wr [(B6, [.int .i64 j, .int .i64 n, .slice ad (j * n) cap], 32), (b + 1, [.int .i64 0, .int .i64 0, .slice none 0 0], 32)] [(.slice ad (j * n) cap, 52, ys.map fv)]) (fun _ wr => cellNat wr B6)
    case atStart => exact hI0
    case round =>
      clear hI0
      obtain ⟨j, ad, cap, ys, hkj, hjm, hyl, hcv, hI⟩ := hrel
      have q0 := (hI.blk 0 rfl).cell 0
      have hlb := (hI.blk 0 rfl).lt
      have hlb2 := (hI.blk 1 rfl).lt
      by_cases hlt : k < j
      · obtain ⟨i, rfl⟩ : ∃ i, j = i + 1 := ⟨j - 1, by omega⟩
        have hcs : carve n (i + 1 - k) (i + 1) (nl ys) = if allFin (costAll (i + 1) n (grid (i + 1) n (edgeV (i + 1) n ys))) then carve n (i - k) i (grid i n (cutV (i + 1) ys (seamL (i + 1) n (costAll (i + 1) n (grid (i + 1) n (edgeV (i + 1) n ys)))))) else none := by
          rw [show i + 1 - k = (i - k) + 1 by omega, carve, edgeV_nl (show nl ys = nl ys from rfl), Nat.add_sub_cancel, cutV_nl (show nl ys = nl ys from rfl)]
        rw [hcv] at hcs
        have hpa : PicAt wr B6 0 ((i + 1 : Nat) : Int) n (.slice ad ((i + 1) * n) cap) ys := ⟨(hI.blk 0 rfl).cell 0, (hI.blk 0 rfl).cell 1, (hI.blk 0 rfl).cell 2, hI.sl 0 rfl⟩
        have hfind := l07Find_any (i + 1) n _ ys B6 0 wr hpa hyl (by omega) g4 (by omega) g3
        obtain ⟨C, hC⟩ : ∃ C, C = costAll (i + 1) n (grid (i + 1) n (edgeV (i + 1) n ys)) := ⟨_, rfl⟩
        rw [← hC] at hcs
        have HI := hid hI
        have HC := hid hC
        have Hcs := hid hcs
        have Hyl := hid hyl
        have Hpa := hid hpa
        have hij : i < m := by omega
        have Hcn := hid (cellNat_eq (w := wr) (b := B6) ((hI.blk 0 rfl).cell 0))
        clear hI hcs hcv hyl hpa hC
        go_wp2_with fail
        refine hfind.mono ?_
        rintro e w6 ⟨sv, r, ok, rfl, hok, hsv, hb6⟩
        rw [← HC.out] at hok hsv
        clear hfind
        cases ok
        · have HR2 := hid (show R = none by rw [HR.out, Hcs.out, ← hok]; rfl)
          clear hok hsv
          have hI6 := HI.out.call hb6
          have hres := hI6.blk 1 rfl
          have r0 := hres.cell 0
          have r1 := hres.cell 1
          have r2 := hres.cell 2
          have f0 := hres.frozen 0
          have f1 := hres.frozen 1
          have f2 := hres.frozen 2
          have Hb6 := hid hI6.below
          clear hres hI6 hb6
          go_wp2
          rw [HR2.out]
          refine bodyPost_ret (v := .tuple #[.agg #[.int .i64 0, .int .i64 0, .slice none 0 0], .bool false]) (by simp [results, Try.results57, go_sem, r0, r1, r2, f0, f1, f2]) rfl ⟨rfl, ?_⟩
          have hsz := Hbe.out
          exact ((Hb6.out.setCell (by simp; omega) _).setCell (by simp; omega) _).setCell (by simp; omega) _
        · have Hcv := hid (show carve n (i - k) i (grid i n (cutV (i + 1) ys (seamL (i + 1) n C))) = CR by rw [Hcs.out, ← hok]; rfl)
          obtain ⟨-, hos⟩ := hsv rfl
          have hcut := l07Cut_any (i + 1) n _ ys (seamL (i + 1) n C) sv B6 0 w6 (Hpa.out.mono hb6) (Sl.of_own hos) Hyl.out (seamL_len _ _ _) (by omega) g4 (by omega) (seamL_in (by omega))
          rw [Nat.add_sub_cancel] at hcut
          have HI6 := hid (HI.out.call hb6)
          obtain ⟨adS, capS, rfl, -⟩ := own_form hos
          clear hok hsv hos hb6 Hcs Hpa
          go_wp2_with fail
          refine hcut.mono ?_
          rintro e w7 ⟨v7, zs, rfl, hoz, hzs, hb7⟩
          obtain ⟨adz, capz, rfl, -⟩ := own_form hoz
          have hzl : zs.length = i * n := by rw [nl_len hzs]; exact grid_len _ _ _
          rw [hzl] at hoz ⊢
          have hI7 := HI6.out.fresh hb7 hoz
          have hne2 : ∀ x ∈ [((b + 1, [.int .i64 0, .int .i64 0, .slice none 0 0], 32) : BoxD)], x.1 ≠ B6 := fun x hx => hne.out x (by rw [List.mem_singleton.1 hx]; exact List.mem_cons_self ..)
          have hI8 := ((hI7.sethead hne2 0 (.int .i64 i)).sethead hne2 1 (.int .i64 n)).sethead hne2 2 (.slice adz (i * n) capz)
          have HI8 := hid (hI8.rowsub (.cons_cons _ (.cons _ .slnil)))
          have hres := hI7.blk 0 rfl
          have r0 := hres.cell 0
          have r1 := hres.cell 1
          have r2 := hres.cell 2
          have f0 := hres.frozen 0
          have f1 := hres.frozen 1
          have f2 := hres.frozen 2
          have hlb7 := hres.lt
          have Hzl := hid hzl
          have Hcv2 := hid (show carve n (i - k) i (nl zs) = CR by rw [hzs]; exact Hcv.out)
          rw [show ((i + 1 : Nat) : Int) - 1 = (i : Int) by omega]
          clear hI7 hI8 hres hoz hzs hzl hb7 hcut hne2 Hcv
          go_wp2
          go_roundw
          case rel => exact ⟨i, adz, capz, zs, by omega, by omega, Hzl.out, Hcv2.out, HI8.out⟩
          case measure =>
            have h1 := cellNat_eq ((HI8.out.blk 0 rfl).cell 0)
            rw [Hcn.out]
            refine Nat.lt_of_le_of_lt (Nat.le_of_eq h1) (Nat.lt_succ_self _)
      · have hjk : k = j := by omega
        subst hjk
        rw [Nat.sub_self] at hcv
        have HR2 := hid (show R = some ⟨k, n, nl ys⟩ by rw [HR.out, ← hcv]; rfl)
        have hres := hI.blk 1 rfl
        have r0 := hres.cell 0
        have r1 := hres.cell 1
        have r2 := hres.cell 2
        have f0 := hres.frozen 0
        have f1 := hres.frozen 1
        have f2 := hres.frozen 2
        have q1 := (hI.blk 0 rfl).cell 1
        have q2 := (hI.blk 0 rfl).cell 2
        have n1 := hI.sepbox 1 0 rfl rfl
        have HI := hid hI
        have Hyl := hid hyl
        have Hn1 := hid n1
        clear hI hres hcv hyl n1
        go_wp2
        rw [HR2.out]
        refine bodyPost_ret (v := .tuple #[.agg #[.int .i64 k, .int .i64 n, .slice ad (k * n) cap], .bool true]) (by simp [results, Try.results57, go_sem, r0, r1, r2, f0, f1, f2]) rfl ⟨_, ys, rfl, ?_, rfl, ?_⟩
        · have := HI.out.row 0 rfl
          rw [List.length_map, ← Hyl.out] at this
          rw [← Hyl.out]
          rw [← Hyl.out] at Hn1
          exact own_setCell_ne (own_setCell_ne (own_setCell_ne this _ _ _ Hn1.out) _ _ _ Hn1.out) _ _ _ Hn1.out
        · have hsz := Hbe.out
          exact ((HI.out.below.setCell (by simp; omega) _).setCell (by simp; omega) _).setCell (by simp; omega) _

end Go.Proofs.Ytggbdmgonobefaa
