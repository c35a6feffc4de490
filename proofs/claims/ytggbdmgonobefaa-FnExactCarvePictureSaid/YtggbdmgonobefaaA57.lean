/-
  CarvePicture by the program.
  Conditions: the lights read as a row of cells.
-/
import Derived.Test.YtggbdmgonobefaaA56
namespace Go.Proofs.Ytggbdmgonobefaa
open Go.RowKit
set_option linter.unusedVariables false
set_option linter.unusedSimpArgs false

set_option maxHeartbeats 8000000 in
set_option maxRecDepth 100000 in
theorem implCarve_any (W H : Int) (v : Value) (xs : List Nat) (wide : Int) (w : World) (hx : Sl w v (xs.map fv)) (hlen : xs.length ≤ 140737488351232) :
    Calls Try.prog 58 #[.agg #[.int .i64 W, .int .i64 H, v], .int .i64 wide] w (PicRes w (carveR W H xs wide)) := by
  have hI := ((Inv.start w).alloc [.int .i64 W, .int .i64 H, v] 32).alloc [.int .i64 0, .int .i64 0, .slice none 0 0] 32
  simp only [size_alloc1] at hI
  obtain ⟨w1, hw1⟩ : ∃ w1, w1 = (w.alloc (.cells #[.int .i64 W, .int .i64 H, v] 32)).alloc (.cells #[.int .i64 0, .int .i64 0, .slice none 0 0] 32) := ⟨_, rfl⟩
  rw [show (w.alloc (.cells [Value.int .i64 W, .int .i64 H, v].toArray 32)).alloc (.cells [Value.int .i64 0, .int .i64 0, .slice none 0 0].toArray 32) = w1 from hw1.symm] at hI
  obtain ⟨b, hbe⟩ : ∃ b, b = w.heap.size := ⟨_, rfl⟩
  rw [← hbe] at hI
  have hcall := ValidPicture_any W H xs v w1 (hI.arg hx) hlen
  obtain ⟨R, hR⟩ : ∃ R, R = carveR W H xs wide := ⟨_, rfl⟩
  rw [← hR]
  rcases (show validB W H xs = false ∨ (validB W H xs = true ∧ inB wide 1 W = false) ∨ (validB W H xs = true ∧ inB wide 1 W = true) by
    cases validB W H xs <;> cases inB wide 1 W <;> simp) with hok | ⟨hok, hin⟩ | ⟨hok, hin⟩
  · have HR := hid (show R = none by rw [hR, carveR, hok]; rfl)
    rw [hok] at hcall
    clear hR hx
    go_enter Try.func58, Try.ntmps58
    go_wp2_with fail
    rw [← hw1, ← hbe]
    have Hbe := hid hbe
    clear hw1 hbe
    refine hcall.mono ?_
    rintro e w2 ⟨rfl, hb2⟩
    replace hI := hI.call hb2
    have hres := hI.blk 0 rfl
    have r0 := hres.cell 0
    have r1 := hres.cell 1
    have r2 := hres.cell 2
    have f0 := hres.frozen 0
    have f1 := hres.frozen 1
    have f2 := hres.frozen 2
    go_wp2
    rw [HR.out]
    refine bodyPost_ret (v := .tuple #[.agg #[.int .i64 0, .int .i64 0, .slice none 0 0], .bool false]) (by simp [results, Try.results58, go_sem, r0, r1, r2, f0, f1, f2]) rfl ⟨rfl, ?_⟩
    have hsz := Hbe.out
    exact ((hI.below.setCell (by simp; omega) _).setCell (by simp; omega) _).setCell (by simp; omega) _
  · have HR := hid (show R = none by rw [hR, carveR, hok, hin]; rfl)
    have hin2 := fun w3 => between_any wide 1 W w3
    rw [hok] at hcall
    rw [hin] at hin2
    clear hR hx
    go_enter Try.func58, Try.ntmps58
    go_wp2_with fail
    rw [← hw1, ← hbe]
    have Hbe := hid hbe
    clear hw1 hbe
    refine hcall.mono ?_
    rintro e w2 ⟨rfl, hb2⟩
    replace hI := hI.call hb2
    have q0 := (hI.blk 1 rfl).cell 0
    have hlb := (hI.blk 1 rfl).lt
    have hres := hI.blk 0 rfl
    have r0 := hres.cell 0
    have r1 := hres.cell 1
    have r2 := hres.cell 2
    have f0 := hres.frozen 0
    have f1 := hres.frozen 1
    have f2 := hres.frozen 2
    go_wp2_with fail
    refine (hin2 _).mono ?_
    rintro e w3 ⟨rfl, rfl⟩
    go_wp2
    rw [HR.out]
    refine bodyPost_ret (v := .tuple #[.agg #[.int .i64 0, .int .i64 0, .slice none 0 0], .bool false]) (by simp [results, Try.results58, go_sem, r0, r1, r2, f0, f1, f2]) rfl ⟨rfl, ?_⟩
    have hsz := Hbe.out
    exact ((hI.below.setCell (by simp; omega) _).setCell (by simp; omega) _).setCell (by simp; omega) _
  · obtain ⟨m, n, rfl, rfl, g1, g2, g3, g4, g5⟩ := valid_nat hok
    have hin3 := inB_spec.1 hin
    obtain ⟨k, rfl⟩ := Int.eq_ofNat_of_zero_le (show 0 ≤ wide by omega)
    have hin2 := fun w3 => between_any k 1 m w3
    rw [hok] at hcall
    rw [hin] at hin2
    have hk1 : 1 ≤ k := by omega
    have hkm : k ≤ m := by omega
    have HR := hid (show R = (carve n (m - k) m (nl xs)).map fun L => ⟨k, n, L⟩ by rw [hR, carveR, hok, hin]; rfl)
    have hmn : m * n ≤ 256 := by have : m * n ≤ 16 * 16 := Nat.mul_le_mul g2 g4; omega
    have hpos : 0 < m * n := Nat.mul_pos g1 g3
    have hown := fun (w3 : World) (h : Below w1.heap.size w1 w3) => copied_any m n v xs w3 ((hI.arg hx).mono h) (by omega) (by omega)
    have hfx : allFin xs = true := by rw [← valid_fin g5 g2 g4 g1 g3]; exact hok
    have hq := g5
    obtain ⟨q, hqe⟩ : ∃ q, q = xs.length := ⟨_, rfl⟩
    rw [← hqe] at hown hq
    have Hown := hid hown
    have Hlm := hid (show (xs.map fv).length = q by rw [List.length_map, hqe])
    have Hqe := hid hqe
    have Hq := hid hq
    have Hfx := hid hfx
    clear hR hx hok hin hin3 hown hfx hqe hq g5
    go_enter Try.func58, Try.ntmps58
    go_wp2_with fail
    rw [← hw1, ← hbe]
    have Hbe := hid hbe
    clear hw1 hbe
    refine hcall.mono ?_
    rintro e w2 ⟨rfl, hb2⟩
    replace hI := hI.call hb2
    have q0 := (hI.blk 1 rfl).cell 0
    have q1 := (hI.blk 1 rfl).cell 1
    have q2 := (hI.blk 1 rfl).cell 2
    have hlb := (hI.blk 1 rfl).lt
    go_wp2_with fail
    refine (hin2 _).mono ?_
    rintro e w3 ⟨rfl, rfl⟩
    go_wp2_with fail
    refine (Hown.out _ hb2).mono ?_
    rintro e w4 ⟨ad, cap, rfl, hown, hb4⟩
    replace hI := hI.fresh hb4 hown
    clear q0 q1 q2 hlb hown hb4 hb2 Hown hin2
    have hbb : ∀ x ∈ [((b + 1, [.int .i64 0, .int .i64 0, .slice none 0 0], 32) : BoxD)], x.1 ≠ b := fun x hx => by rw [List.mem_singleton.1 hx]; show b + 1 ≠ b; omega
    have hI4 := hI.boxes (bs' := [(b, [.int .i64 m, .int .i64 n, v], 32), (b + 1, [.int .i64 0, .int .i64 0, .slice none 0 0], 32)]) (by simp)
    have q0 := (hI4.blk 0 rfl).cell 0
    have q1 := (hI4.blk 0 rfl).cell 1
    have q2 := (hI4.blk 0 rfl).cell 2
    have f0 := (hI4.blk 0 rfl).frozen 0
    have f1 := (hI4.blk 0 rfl).frozen 1
    have f2 := (hI4.blk 0 rfl).frozen 2
    have hlb := (hI4.blk 0 rfl).lt
    have hI5 := ((hI4.sethead hbb 0 (.int .i64 m)).sethead hbb 1 (.int .i64 n)).sethead hbb 2 (.slice ad q cap)
    have Hbb := hid hbb
    have HI0 : Hid (∃ (j : Nat) (ad' : Option Addr) (cap' : Nat) (ys : List Nat), k ≤ j ∧ j ≤ m ∧ ys.length = j * n ∧ carve n (j - k) j (nl ys) = carve n (m - k) m (nl xs) ∧ allFin ys = true ∧
        Inv w (((w4.setCell ⟨b, 0, none⟩ (.int .i64 m)).setCell ⟨b, 1, none⟩ (.int .i64 n)).setCell ⟨b, 2, none⟩ (.slice ad q cap)) [(b, [.int .i64 j, .int .i64 n, .slice ad' (j * n) cap'], 32), (b + 1, [.int .i64 0, .int .i64 0, .slice none 0 0], 32)] [(.slice ad' (j * n) cap', 52, ys.map fv)]) :=
      hid ⟨m, ad, cap, xs, hkm, Nat.le_refl _, by rw [← Hqe.out]; exact Hq.out, rfl, Hfx.out, by
        rw [← Hq.out]
        exact hI5⟩
    clear hI hI4 hI5 hbb
    obtain ⟨CR, hCR⟩ : ∃ c, c = carve n (m - k) m (nl xs) := ⟨_, rfl⟩
    rw [← hCR] at HI0 HR
    clear hCR
    go_wp2
    generalize ((w4.setCell ⟨b, 0, none⟩ (.int .i64 m)).setCell ⟨b, 1, none⟩ (.int .i64 n)).setCell ⟨b, 2, none⟩ (.slice ad q cap) = w5 at HI0 ⊢
    clear q0 q1 q2 f0 f1 f2 hlb
    go_loopw [6] (fun _ wr => ∃ (j : Nat) (ad : Option Addr) (cap : Nat) (ys : List Nat), k ≤ j ∧ j ≤ m ∧ ys.length = j * n ∧ carve n (j - k) j (nl ys) = CR ∧ allFin ys = true ∧
        Inv w wr [(b, [.int .i64 j, .int .i64 n, .slice ad (j * n) cap], 32), (b + 1, [.int .i64 0, .int .i64 0, .slice none 0 0], 32)] [(.slice ad (j * n) cap, 52, ys.map fv)]) (fun _ wr => cellNat wr b)
    case atStart => exact HI0.out
    case round =>
      clear HI0
      obtain ⟨j, ad, cap, ys, hkj, hjm, hyl, hcv, hfin, hI⟩ := hrel
      have q0 := (hI.blk 0 rfl).cell 0
      have q1 := (hI.blk 0 rfl).cell 1
      have q2 := (hI.blk 0 rfl).cell 2
      have hlb := (hI.blk 0 rfl).lt
      have hlb2 := (hI.blk 1 rfl).lt
      by_cases hlt : k < j
      · obtain ⟨i, rfl⟩ : ∃ i, j = i + 1 := ⟨j - 1, by omega⟩
        have hcs : carve n (i + 1 - k) (i + 1) (nl ys) = if allFin (costAll (i + 1) n (grid (i + 1) n (edgeV (i + 1) n ys))) then carve n (i - k) i (grid i n (cutV (i + 1) ys (seamL (i + 1) n (costAll (i + 1) n (grid (i + 1) n (edgeV (i + 1) n ys)))))) else none := by
          rw [show i + 1 - k = (i - k) + 1 by omega, carve, edgeV_nl (show nl ys = nl ys from rfl), Nat.add_sub_cancel, cutV_nl (show nl ys = nl ys from rfl)]
        rw [hcv] at hcs
        have hlen256 : (i + 1) * n ≤ 256 := by have : (i + 1) * n ≤ 16 * 16 := Nat.mul_le_mul (by omega) g4; omega
        have hso := implSeamOf_any ((i + 1 : Nat) : Int) n _ ys wr (hI.sl 0 rfl) (by omega)
        have hsr : seamOfR ((i + 1 : Nat) : Int) n ys = leastR (i + 1) n (grid (i + 1) n (edgeV (i + 1) n ys)) := by
          rw [seamOfR, valid_fin hyl (by omega) g4 (by omega) g3, hfin]
          rfl
        rw [hsr, leastR] at hso
        obtain ⟨C, hC⟩ : ∃ C, C = costAll (i + 1) n (grid (i + 1) n (edgeV (i + 1) n ys)) := ⟨_, rfl⟩
        rw [← hC] at hcs hso
        have HI := hid hI
        have Hcs := hid hcs
        have Hyl := hid hyl
        have Hfin := hid hfin
        have hij : i < m := by omega
        have Hcn := hid (cellNat_eq (w := wr) (b := b) ((hI.blk 0 rfl).cell 0))
        clear hI hcs hcv hyl hC hsr hfin
        cases hok : allFin C
        · have HR2 := hid (show R = none by rw [HR.out, Hcs.out, hok]; rfl)
          rw [hok] at hso
          clear hok Hcs
          go_wp2_with fail
          refine hso.mono ?_
          rintro e w6 ⟨rfl, hb6⟩
          clear hso
          have hI6 := HI.out.call hb6
          have hres := hI6.blk 1 rfl
          have r0 := hres.cell 0
          have r1 := hres.cell 1
          have r2 := hres.cell 2
          have f0 := hres.frozen 0
          have f1 := hres.frozen 1
          have f2 := hres.frozen 2
          have Hb6 := hid hI6.below
          clear hres hI6 hb6
          go_wp2
          rw [HR2.out]
          refine bodyPost_ret (v := .tuple #[.agg #[.int .i64 0, .int .i64 0, .slice none 0 0], .bool false]) (by simp [results, Try.results58, go_sem, r0, r1, r2, f0, f1, f2]) rfl ⟨rfl, ?_⟩
          have hsz := Hbe.out
          exact ((Hb6.out.setCell (by simp; omega) _).setCell (by simp; omega) _).setCell (by simp; omega) _
        · have Hcv := hid (show carve n (i - k) i (grid i n (cutV (i + 1) ys (seamL (i + 1) n C))) = CR by rw [Hcs.out, hok]; rfl)
          rw [hok] at hso
          clear hok Hcs
          go_wp2_with fail
          refine hso.mono ?_
          rintro e w6 ⟨sv, r, rfl, -, hos, hb6⟩
          clear hso
          rw [seamL_len] at hos
          have hcut := cutSeam_any (i + 1) n _ ys (seamL (i + 1) n C) sv w6 ((HI.out.call hb6).sl 0 rfl) (Sl.of_own hos) Hyl.out (seamL_len _ _ _) (by omega) g4 (by omega) (seamL_in (by omega))
          rw [Nat.add_sub_cancel] at hcut
          have HI6 := hid (HI.out.call hb6)
          obtain ⟨adS, capS, rfl, -⟩ := own_form hos
          clear hos hb6 q0 q1 q2 hlb hlb2
          have q0 := (HI6.out.blk 0 rfl).cell 0
          have q1 := (HI6.out.blk 0 rfl).cell 1
          have q2 := (HI6.out.blk 0 rfl).cell 2
          have hlb := (HI6.out.blk 0 rfl).lt
          go_wp2_with fail
          clear q0 q1 q2
          refine hcut.mono ?_
          rintro e w7 ⟨v7, zs, rfl, hoz, hzs, hb7⟩
          obtain ⟨adz, capz, rfl, -⟩ := own_form hoz
          have hzl : zs.length = i * n := by rw [nl_len hzs]; exact grid_len _ _ _
          rw [hzl] at hoz ⊢
          have hI7 := HI6.out.fresh hb7 hoz
          have hI8 := ((hI7.sethead Hbb.out 0 (.int .i64 i)).sethead Hbb.out 1 (.int .i64 n)).sethead Hbb.out 2 (.slice adz (i * n) capz)
          have HI8 := hid (hI8.rowsub (.cons_cons _ (.cons _ .slnil)))
          have hres := hI7.blk 0 rfl
          have r0 := hres.cell 0
          have r1 := hres.cell 1
          have r2 := hres.cell 2
          have f0 := hres.frozen 0
          have f1 := hres.frozen 1
          have f2 := hres.frozen 2
          have hlb7 := hres.lt
          have Hzl := hid hzl
          have Hcv2 := hid (show carve n (i - k) i (nl zs) = CR by rw [hzs]; exact Hcv.out)
          have Hfz := hid (show allFin zs = true by rw [allFin_nl hzs]; have := cut_fin (W := i + 1) (H := n) (s := seamL (i + 1) n C) Hfin.out; rwa [Nat.add_sub_cancel] at this)
          clear hI7 hI8 hres hoz hzs hzl hb7 hcut Hcv
          go_wp2
          go_roundw
          case rel => exact ⟨i, adz, capz, zs, by omega, by omega, Hzl.out, Hcv2.out, Hfz.out, HI8.out⟩
          case measure =>
            have h1 := cellNat_eq ((HI8.out.blk 0 rfl).cell 0)
            rw [Hcn.out]
            refine Nat.lt_of_le_of_lt (Nat.le_of_eq h1) (Nat.lt_succ_self _)
      · have hjk : k = j := by omega
        subst hjk
        rw [Nat.sub_self] at hcv
        have HR2 := hid (show R = some ⟨k, n, nl ys⟩ by rw [HR.out, ← hcv]; rfl)
        have hres := hI.blk 1 rfl
        have r0 := hres.cell 0
        have r1 := hres.cell 1
        have r2 := hres.cell 2
        have f0 := hres.frozen 0
        have f1 := hres.frozen 1
        have f2 := hres.frozen 2
        have n1 := hI.sepbox 1 0 rfl rfl
        have HI := hid hI
        have Hyl := hid hyl
        have Hn1 := hid n1
        clear hI hres hcv hyl n1 hfin
        go_wp2
        rw [HR2.out]
        refine bodyPost_ret (v := .tuple #[.agg #[.int .i64 k, .int .i64 n, .slice ad (k * n) cap], .bool true]) (by simp [results, Try.results58, go_sem, r0, r1, r2, f0, f1, f2]) rfl ⟨_, ys, rfl, ?_, rfl, ?_⟩
        · have := HI.out.row 0 rfl
          rw [List.length_map, ← Hyl.out] at this
          rw [← Hyl.out]
          rw [← Hyl.out] at Hn1
          exact own_setCell_ne (own_setCell_ne (own_setCell_ne this _ _ _ Hn1.out) _ _ _ Hn1.out) _ _ _ Hn1.out
        · have hsz := Hbe.out
          exact ((HI.out.below.setCell (by simp; omega) _).setCell (by simp; omega) _).setCell (by simp; omega) _

end Go.Proofs.Ytggbdmgonobefaa
