/-
  Floats up to the bits of a NaN: a canonical word for each number, the operations on canonical words, and what each operation of the program hands back, as one equation without a condition.
  Conditions: none; plain lemmas over whatever program.
-/
import Derived.WalkKit
import Derived.WalkLawsBesides
namespace Go.Proofs.Ytggbdmgonobefaa.Fl
set_option linter.unusedVariables false
set_option linter.unusedSimpArgs false

abbrev S := FloatKind.f32
abbrev D := FloatKind.f64

/-- The canonical NaN. -/
def NAN : FloatKind → Nat
  | .f32 => 2143289344
  | .f64 => 9221120237041090560
/-- Is this word a NaN? -/
def isnan (k : FloatKind) (b : Nat) : Bool := (k.format.read b).isNaN
/-- The canonical word. -/
def nf (k : FloatKind) (b : Nat) : Nat := if isnan k b then NAN k else b

theorem isnan_NAN (k : FloatKind) : isnan k (NAN k) = true := by cases k <;> decide +kernel
theorem nf_NAN (k : FloatKind) : nf k (NAN k) = NAN k := by unfold nf; rw [if_pos (isnan_NAN k)]
theorem nf_of_nan {k : FloatKind} {b : Nat} (h : isnan k b = true) : nf k b = NAN k := by unfold nf; rw [if_pos h]
theorem nf_of_not {k : FloatKind} {b : Nat} (h : isnan k b = false) : nf k b = b := by unfold nf; rw [if_neg (by rw [h]; exact Bool.false_ne_true)]
theorem isnan_nf (k : FloatKind) (b : Nat) : isnan k (nf k b) = isnan k b := by
  cases h : isnan k b
  · rw [nf_of_not h, h]
  · rw [nf_of_nan h, isnan_NAN]
theorem nf_nf (k : FloatKind) (b : Nat) : nf k (nf k b) = nf k b := by
  cases h : isnan k b
  · rw [nf_of_not h, nf_of_not h]
  · rw [nf_of_nan h, nf_NAN]

theorem read_nan {k : FloatKind} {b : Nat} (h : isnan k b = true) : ∃ s f, k.format.read b = .nan s f := by
  unfold isnan Ieee.Datum.isNaN at h
  split at h
  · rename_i s f he; exact ⟨s, f, he⟩
  · cases h

/-! ### The operations -/

/-- 'x op y' on words: some NaN where it is one. -/
def fop (op : BinOp) (k : FloatKind) (x y : Nat) : Nat := nf k ((floatBits op k x y).getD (NAN k))

theorem floatBits_nan_l {op : BinOp} {k : FloatKind} {x y : Nat} (h : isnan k x = true) : floatBits op k x y = none := by
  obtain ⟨s, f, hr⟩ := read_nan h
  unfold floatBits
  cases op <;> simp [Ieee.Format.add, Ieee.Format.sub, Ieee.Format.mul, Ieee.Format.div, hr, Ieee.Datum.sum, Ieee.Datum.product, Ieee.Datum.quotient]
theorem floatBits_nan_r {op : BinOp} {k : FloatKind} {x y : Nat} (h : isnan k y = true) : floatBits op k x y = none := by
  obtain ⟨s, f, hr⟩ := read_nan h
  unfold floatBits
  cases op <;> simp [Ieee.Format.add, Ieee.Format.sub, Ieee.Format.mul, Ieee.Format.div, hr, Ieee.Datum.opposite] <;>
    cases k.format.read x <;> simp [Ieee.Datum.sum, Ieee.Datum.product, Ieee.Datum.quotient]
theorem floatBits_nf (op : BinOp) (k : FloatKind) (x y : Nat) : floatBits op k (nf k x) (nf k y) = floatBits op k x y := by
  cases hx : isnan k x
  · cases hy : isnan k y
    · rw [nf_of_not hx, nf_of_not hy]
    · rw [floatBits_nan_r (by rw [isnan_nf]; exact hy), floatBits_nan_r hy]
  · rw [floatBits_nan_l (by rw [isnan_nf]; exact hx), floatBits_nan_l hx]
theorem fop_nf (op : BinOp) (k : FloatKind) (x y : Nat) : fop op k (nf k x) (nf k y) = fop op k x y := by unfold fop; rw [floatBits_nf]
theorem fop_nf_l (op : BinOp) (k : FloatKind) (x y : Nat) : fop op k (nf k x) y = fop op k x y := by rw [← fop_nf, nf_nf, fop_nf]
theorem fop_nf_r (op : BinOp) (k : FloatKind) (x y : Nat) : fop op k x (nf k y) = fop op k x y := by rw [← fop_nf, nf_nf, fop_nf]
theorem nf_fop (op : BinOp) (k : FloatKind) (x y : Nat) : nf k (fop op k x y) = fop op k x y := by unfold fop; rw [nf_nf]

/-- How two words stand to each other. -/
def ford (k : FloatKind) (x y : Nat) : Option Ordering := k.format.order x y
theorem ford_nan_l {k : FloatKind} {x y : Nat} (h : isnan k x = true) : k.format.order x y = none := by
  obtain ⟨s, f, hr⟩ := read_nan h
  simp [Ieee.Format.order, hr, Ieee.Datum.order]
theorem ford_nan_r {k : FloatKind} {x y : Nat} (h : isnan k y = true) : k.format.order x y = none := by
  obtain ⟨s, f, hr⟩ := read_nan h
  simp only [Ieee.Format.order, hr]
  cases k.format.read x <;> simp [Ieee.Datum.order]
theorem order_nf (k : FloatKind) (x y : Nat) : k.format.order (nf k x) (nf k y) = k.format.order x y := by
  cases hx : isnan k x
  · cases hy : isnan k y
    · rw [nf_of_not hx, nf_of_not hy]
    · rw [ford_nan_r (by rw [isnan_nf]; exact hy), ford_nan_r hy]
  · rw [ford_nan_l (by rw [isnan_nf]; exact hx), ford_nan_l hx]

theorem order_self (k : FloatKind) (x : Nat) : (k.format.order x x != some Ordering.eq) = isnan k x := by
  unfold isnan Ieee.Datum.isNaN Ieee.Format.order
  cases k.format.read x <;> simp [Ieee.Datum.order, compare, compareOfLessAndEq]
theorem order_self' (k : FloatKind) (x : Nat) : (k.format.order x x == some Ordering.eq) = !isnan k x := by rw [← order_self, bne, Bool.not_not]

/-- Neither an infinity nor a NaN. -/
def fin (x : Nat) : Bool := !isnan .f32 (fop .sub .f32 x x)
theorem fin_nf (x : Nat) : fin (nf .f32 x) = fin x := by unfold fin; rw [fop_nf]

/-! ### What the program's operations hand back -/

/-- The NaN that the tape picks. -/
def pickNaN (w : World) (q : Question) : Nat := q.cut (w.tape w.drawn q)

theorem infRung32 : FloatKind.f32.format.infRung = 2139095040 := by decide +kernel
theorem infRung64 : FloatKind.f64.format.infRung = 9218868437227405312 := by decide +kernel
theorem signWeight32 : FloatKind.f32.format.signWeight = 2147483648 := by decide +kernel
theorem signWeight64 : FloatKind.f64.format.signWeight = 9223372036854775808 := by decide +kernel
theorem binade32 : FloatKind.f32.format.binade = 8388608 := by decide +kernel
theorem binade64 : FloatKind.f64.format.binade = 4503599627370496 := by decide +kernel
theorem binade_le (k : FloatKind) : k.format.binade ≤ k.format.infRung := by cases k <;> decide +kernel

theorem isnan_of_rung {k : FloatKind} {b : Nat} (h : k.format.infRung < b % k.format.signWeight) : isnan k b = true := by
  have hb := binade_le k
  unfold isnan Ieee.Format.read
  dsimp only
  rw [if_neg (by omega), if_neg (by omega), if_neg (by omega)]
  rfl
theorem isnan_word32 (m : Nat) (s : Nat) (_hs : s < 2) (h : m < 2 ^ 23 - 1) : isnan .f32 (s * 2 ^ 31 + 0x7f800000 + 1 + m) = true := by
  refine isnan_of_rung ?_
  rw [infRung32, signWeight32]
  omega
theorem isnan_word64 (m : Nat) (s : Nat) (_hs : s < 2) (h : m < 2 ^ 52 - 1) : isnan .f64 (s * 2 ^ 63 + 0x7ff0000000000000 + 1 + m) = true := by
  refine isnan_of_rung ?_
  rw [infRung64, signWeight64]
  omega
theorem isnan_bits (w : World) (k : FloatKind) (x y : Nat) : isnan k (pickNaN w (.nanBits k x y)) = true := by
  unfold pickNaN Question.cut
  cases k
  · exact isnan_word32 _ _ (Nat.mod_lt _ (by decide)) (Nat.mod_lt _ (by decide))
  · exact isnan_word64 _ _ (Nat.mod_lt _ (by decide)) (Nat.mod_lt _ (by decide))
theorem isnan_conv (w : World) (k : FloatKind) (x : Nat) : isnan k (pickNaN w (.nanConv k x)) = true := by
  unfold pickNaN Question.cut
  cases k
  · exact isnan_word32 _ _ (Nat.mod_lt _ (by decide)) (Nat.mod_lt _ (by decide))
  · exact isnan_word64 _ _ (Nat.mod_lt _ (by decide)) (Nat.mod_lt _ (by decide))

/-- The word that 'x op y' hands back in w. -/
def fres (w : World) (op : BinOp) (k : FloatKind) (x y : Nat) : Nat := (floatBits op k x y).getD (pickNaN w (.nanBits k x y))
/-- How many answers of the tape it takes. -/
def fdr (op : BinOp) (k : FloatKind) (x y : Nat) : Nat := if (floatBits op k x y).isSome then 0 else 1

theorem nf_fres (w : World) (op : BinOp) (k : FloatKind) (x y : Nat) : nf k (fres w op k x y) = fop op k x y := by
  unfold fres fop
  cases h : floatBits op k x y with
  | some r => rfl
  | none => simp only [Option.getD_none]; rw [nf_of_nan (isnan_bits _ _ _ _), nf_NAN]

theorem run_farith {P : Program} (w : World) (op : BinOp) (t : TypeId) (k : FloatKind) (x y : Nat) (ho : op = .add ∨ op = .sub ∨ op = .mul ∨ op = .quo) :
    (binOp op t (.float k x) (.float k y)).run P w = .ok (.float k (fres w op k x y)) (w.drewN (fdr op k x y)) := by
  unfold fres fdr
  cases h : floatBits op k x y with
  | some r => simp only [Option.getD_some, Option.isSome_some, if_true]; exact run_float_arith w op t k x y r h
  | none =>
    simp only [Option.getD_none, Option.isSome_none, Bool.false_eq_true, if_false]
    unfold floatBits at h
    rcases ho with rfl | rfl | rfl | rfl <;> simp only at h <;> simp [binOp, Op.floatArith, h, Question.forced, pickNaN, World.drewN]

theorem run_fadd {P : Program} (w : World) (t : TypeId) (k : FloatKind) (x y : Nat) : (binOp .add t (.float k x) (.float k y)).run P w = .ok (.float k (fres w .add k x y)) (w.drewN (fdr .add k x y)) := run_farith w _ t k x y (.inl rfl)
theorem run_fsub {P : Program} (w : World) (t : TypeId) (k : FloatKind) (x y : Nat) : (binOp .sub t (.float k x) (.float k y)).run P w = .ok (.float k (fres w .sub k x y)) (w.drewN (fdr .sub k x y)) := run_farith w _ t k x y (.inr (.inl rfl))
theorem run_fmul {P : Program} (w : World) (t : TypeId) (k : FloatKind) (x y : Nat) : (binOp .mul t (.float k x) (.float k y)).run P w = .ok (.float k (fres w .mul k x y)) (w.drewN (fdr .mul k x y)) := run_farith w _ t k x y (.inr (.inr (.inl rfl)))
theorem run_fquo {P : Program} (w : World) (t : TypeId) (k : FloatKind) (x y : Nat) : (binOp .quo t (.float k x) (.float k y)).run P w = .ok (.float k (fres w .quo k x y)) (w.drewN (fdr .quo k x y)) := run_farith w _ t k x y (.inr (.inr (.inr rfl)))

theorem run_store_float {P : Program} (w : World) (a : Addr) (m : Mode) (k : FloatKind) (b : Nat) : (store a (.float k b) m).run P w = stored P w a (.float k b) m := run_store P w a _ m rfl

/-! ### From one kind to the other -/

/-- The canonical word of the other kind (of a number too great: nought, and the caller says that there is none). -/
def fconv (s k : FloatKind) (b : Nat) : Nat := nf k ((floatToFloatBits s b k).getD (NAN k))
/-- A finite number too great for the narrower kind. -/
def tooGreat (s k : FloatKind) (b : Nat) : Bool := !(floatToFloatBits s b k).isSome && !isnan s b
def cres (w : World) (s k : FloatKind) (b : Nat) : Nat := (floatToFloatBits s b k).getD (pickNaN w (.nanConv k b))
def cdr (s k : FloatKind) (b : Nat) : Nat := if (floatToFloatBits s b k).isSome then 0 else 1

theorem conv_nan {s k : FloatKind} {b : Nat} (hk : s ≠ k) (h : isnan s b = true) : floatToFloatBits s b k = none := by
  obtain ⟨g, f, hr⟩ := read_nan h
  simp [floatToFloatBits, hk, FloatKind.decode, hr]
theorem nf_cres {w : World} {s k : FloatKind} {b : Nat} : nf k (cres w s k b) = fconv s k b := by
  unfold cres fconv
  cases h : floatToFloatBits s b k with
  | some r => rfl
  | none => simp only [Option.getD_none]; rw [nf_of_nan (isnan_conv _ _ _), nf_NAN]
theorem fconv_nf {s k : FloatKind} (hk : s ≠ k) (b : Nat) : fconv s k (nf s b) = fconv s k b := by
  cases h : isnan s b
  · rw [nf_of_not h]
  · unfold fconv; rw [conv_nan hk h, conv_nan hk (by rw [isnan_nf]; exact h)]

theorem run_fconv {P : Program} (w : World) (src dst : TypeId) (s k : FloatKind) (b : Nat) (hs : (P.underlying src).isSome = true) (hd : P.underlying dst = some (.float k)) (hk : s ≠ k) (hg : tooGreat s k b = false) :
    (convert src dst (.float s b)).run P w = .ok (.float k (cres w s k b)) (w.drewN (cdr s k b)) := by
  unfold cres cdr
  cases h : floatToFloatBits s b k with
  | some r => simp only [Option.getD_some, Option.isSome_some, if_true]; exact run_convert_float_float w src dst s k b r hs hd h
  | none =>
    unfold tooGreat at hg
    rw [h] at hg
    simp only [Option.isSome_none, Bool.not_false, Bool.true_and, Bool.not_eq_false'] at hg
    obtain ⟨g, f, hr⟩ := read_nan hg
    obtain ⟨u, hs'⟩ := Option.isSome_iff_exists.1 hs
    simp only [Option.getD_none, Option.isSome_none, Bool.false_eq_true, if_false]
    cases u <;> simp [convert, run_underlying hs', run_underlying hd, Conv.floatToFloat, hk, FloatKind.decode, hr, Question.forced, pickNaN, World.drewN]

end Go.Proofs.Ytggbdmgonobefaa.Fl
