/-
  No cell of these rows narrows 'for every input' (looked for: loops, veiled, ifaces, maps, wideKeys, modest, calm, conditions, laid).
  DERIVED. THE GIVEN ROWS OF THIS SEAT. 11 by the template 'for every input the law returns true; each argument reads behind the call as it read before'; 0 by the template 'total and deterministic' (their statements: YtggbdmgonobefaaTotals.lean).
  GIVEN WITH THE SEED: the statements are not yours to turn. If you find one false, say at which input.
  Laid BY PROGRAM, IN A SANDBOX (cutbox-rows.mjs): the forced cells as the released guide's own fill.sh prints them over the translation 34f5f00be440d32c… (all of the seat's roots in one cut). By AI agents, Wed Nov 11 2026. No macro, syntax, notation, axiom, sorry.
-/
import Derived.Test.YtggbdmgonobefaaChecked
import GoSem.Claim
import GoSem.ClaimJoined
import GoSem.ClaimMapViews
import Derived.JoinedTies
import Derived.KernelRfl
namespace Go.Proofs.Ytggbdmgonobefaa
/- THE CELL 'sum', in the pinned program and in every row, IS THE sha256 OF THE DUMP (.gsa) THAT YtggbdmgonobefaaProg.lean LOADS. Nothing in Lean hashes anything: it is a label: what it is worth is what the hold of that sum in a sandbox is worth. -/
noncomputable def Try.pinned : Pinned := { name := "ytggbdmgonobefaa", sum := "34f5f00be440d32c8a315d5fc7cc429fa6e26b2d90bc34f0e21d4b38eaceb6b3", checked := Try.checked }
namespace Rows
def none {H : Type} : Left H := { results := [], args := [] }

/-- 'laws.FnExactSameDesk': WHATEVER THE INPUT: true; the input reads as it did. -/
def fnExactSameDeskSpec : ChangeSpec := { name := "fnExactSameDesk", fn := fun _ => fun
  | [d1, d2] => { results := [.lit (.bool true)], args := [d1, d2] }
  | _ => none }
def fnExactSameDeskRow : OpenClaim := { program := "ytggbdmgonobefaa", sum := "34f5f00be440d32c8a315d5fc7cc429fa6e26b2d90bc34f0e21d4b38eaceb6b3", func := "loop.example/g01308/laws.FnExactSameDesk", spec := "fnExactSameDesk", inPlace := ["math.Float32bits", "math.Float64bits"], unfollowed := true, recurses := true, apart := false }
def FnExactSameDeskSaid : Prop := fnExactSameDeskRow.holds Try.pinned (OpenSpec.ofChange fnExactSameDeskSpec)

/-- ITS FALSE NEIGHBOUR: 'it returns false'. Refute it at one input. -/
def fnExactSameDeskWrong : ChangeSpec := { name := "fnExactSameDesk", fn := fun _ => fun
  | [d1, d2] => { results := [.lit (.bool false)], args := [d1, d2] }
  | _ => none }
def FnExactSameDeskWrongFalsely : Prop := fnExactSameDeskRow.holds Try.pinned (OpenSpec.ofChange fnExactSameDeskWrong)

/-- 'laws.FnExactFindPage': WHATEVER THE INPUT: true; the input reads as it did. -/
def fnExactFindPageSpec : ChangeSpec := { name := "fnExactFindPage", fn := fun _ => fun
  | [d1, d2] => { results := [.lit (.bool true)], args := [d1, d2] }
  | _ => none }
def fnExactFindPageRow : OpenClaim := { program := "ytggbdmgonobefaa", sum := "34f5f00be440d32c8a315d5fc7cc429fa6e26b2d90bc34f0e21d4b38eaceb6b3", func := "loop.example/g01308/laws.FnExactFindPage", spec := "fnExactFindPage", unfollowed := true, recurses := true, apart := false }
def FnExactFindPageSaid : Prop := fnExactFindPageRow.holds Try.pinned (OpenSpec.ofChange fnExactFindPageSpec)

/-- ITS FALSE NEIGHBOUR: 'it returns false'. Refute it at one input. -/
def fnExactFindPageWrong : ChangeSpec := { name := "fnExactFindPage", fn := fun _ => fun
  | [d1, d2] => { results := [.lit (.bool false)], args := [d1, d2] }
  | _ => none }
def FnExactFindPageWrongFalsely : Prop := fnExactFindPageRow.holds Try.pinned (OpenSpec.ofChange fnExactFindPageWrong)

/-- 'laws.FnExactValidDesk': WHATEVER THE INPUT: true; the input reads as it did. -/
def fnExactValidDeskSpec : ChangeSpec := { name := "fnExactValidDesk", fn := fun _ => fun
  | [d] => { results := [.lit (.bool true)], args := [d] }
  | _ => none }
def fnExactValidDeskRow : OpenClaim := { program := "ytggbdmgonobefaa", sum := "34f5f00be440d32c8a315d5fc7cc429fa6e26b2d90bc34f0e21d4b38eaceb6b3", func := "loop.example/g01308/laws.FnExactValidDesk", spec := "fnExactValidDesk", unfollowed := true, recurses := true, apart := false }
def FnExactValidDeskSaid : Prop := fnExactValidDeskRow.holds Try.pinned (OpenSpec.ofChange fnExactValidDeskSpec)

/-- ITS FALSE NEIGHBOUR: 'it returns false'. Refute it at one input. -/
def fnExactValidDeskWrong : ChangeSpec := { name := "fnExactValidDesk", fn := fun _ => fun
  | [d] => { results := [.lit (.bool false)], args := [d] }
  | _ => none }
def FnExactValidDeskWrongFalsely : Prop := fnExactValidDeskRow.holds Try.pinned (OpenSpec.ofChange fnExactValidDeskWrong)

/-- 'laws.FnExactNewDesk': WHATEVER THE INPUT: true; the input reads as it did. -/
def fnExactNewDeskSpec : ChangeSpec := { name := "fnExactNewDesk", fn := fun _ => fun
  | [] => { results := [.lit (.bool true)], args := [] }
  | _ => none }
def fnExactNewDeskRow : OpenClaim := { program := "ytggbdmgonobefaa", sum := "34f5f00be440d32c8a315d5fc7cc429fa6e26b2d90bc34f0e21d4b38eaceb6b3", func := "loop.example/g01308/laws.FnExactNewDesk", spec := "fnExactNewDesk", unfollowed := true, recurses := true, apart := false }
def FnExactNewDeskSaid : Prop := fnExactNewDeskRow.holds Try.pinned (OpenSpec.ofChange fnExactNewDeskSpec)

/-- ITS FALSE NEIGHBOUR: 'it returns false'. Refute it at one input. -/
def fnExactNewDeskWrong : ChangeSpec := { name := "fnExactNewDesk", fn := fun _ => fun
  | [] => { results := [.lit (.bool false)], args := [] }
  | _ => none }
def FnExactNewDeskWrongFalsely : Prop := fnExactNewDeskRow.holds Try.pinned (OpenSpec.ofChange fnExactNewDeskWrong)

/-- 'laws.FnExactSeamOf': WHATEVER THE INPUT: true; the input reads as it did. -/
def fnExactSeamOfSpec : ChangeSpec := { name := "fnExactSeamOf", fn := fun _ => fun
  | [d] => { results := [.lit (.bool true)], args := [d] }
  | _ => none }
def fnExactSeamOfRow : OpenClaim := { program := "ytggbdmgonobefaa", sum := "34f5f00be440d32c8a315d5fc7cc429fa6e26b2d90bc34f0e21d4b38eaceb6b3", func := "loop.example/g01308/laws.FnExactSeamOf", spec := "fnExactSeamOf", inPlace := ["math.Float64bits", "math.Float64frombits"], unfollowed := true, recurses := true, apart := false }
def FnExactSeamOfSaid : Prop := fnExactSeamOfRow.holds Try.pinned (OpenSpec.ofChange fnExactSeamOfSpec)

/-- ITS FALSE NEIGHBOUR: 'it returns false'. Refute it at one input. -/
def fnExactSeamOfWrong : ChangeSpec := { name := "fnExactSeamOf", fn := fun _ => fun
  | [d] => { results := [.lit (.bool false)], args := [d] }
  | _ => none }
def FnExactSeamOfWrongFalsely : Prop := fnExactSeamOfRow.holds Try.pinned (OpenSpec.ofChange fnExactSeamOfWrong)

/-- 'laws.FnExactMeetSeam': WHATEVER THE INPUT: true; the input reads as it did. -/
def fnExactMeetSeamSpec : ChangeSpec := { name := "fnExactMeetSeam", fn := fun _ => fun
  | [d1, d2, d3] => { results := [.lit (.bool true)], args := [d1, d2, d3] }
  | _ => none }
def fnExactMeetSeamRow : OpenClaim := { program := "ytggbdmgonobefaa", sum := "34f5f00be440d32c8a315d5fc7cc429fa6e26b2d90bc34f0e21d4b38eaceb6b3", func := "loop.example/g01308/laws.FnExactMeetSeam", spec := "fnExactMeetSeam", unfollowed := true, recurses := true, apart := false }
def FnExactMeetSeamSaid : Prop := fnExactMeetSeamRow.holds Try.pinned (OpenSpec.ofChange fnExactMeetSeamSpec)

/-- ITS FALSE NEIGHBOUR: 'it returns false'. Refute it at one input. -/
def fnExactMeetSeamWrong : ChangeSpec := { name := "fnExactMeetSeam", fn := fun _ => fun
  | [d1, d2, d3] => { results := [.lit (.bool false)], args := [d1, d2, d3] }
  | _ => none }
def FnExactMeetSeamWrongFalsely : Prop := fnExactMeetSeamRow.holds Try.pinned (OpenSpec.ofChange fnExactMeetSeamWrong)

/-- 'laws.FnExactPyramidOf': WHATEVER THE INPUT: true; the input reads as it did. -/
def fnExactPyramidOfSpec : ChangeSpec := { name := "fnExactPyramidOf", fn := fun _ => fun
  | [d1, d2] => { results := [.lit (.bool true)], args := [d1, d2] }
  | _ => none }
def fnExactPyramidOfRow : OpenClaim := { program := "ytggbdmgonobefaa", sum := "34f5f00be440d32c8a315d5fc7cc429fa6e26b2d90bc34f0e21d4b38eaceb6b3", func := "loop.example/g01308/laws.FnExactPyramidOf", spec := "fnExactPyramidOf", unfollowed := true, recurses := true, apart := false }
def FnExactPyramidOfSaid : Prop := fnExactPyramidOfRow.holds Try.pinned (OpenSpec.ofChange fnExactPyramidOfSpec)

/-- ITS FALSE NEIGHBOUR: 'it returns false'. Refute it at one input. -/
def fnExactPyramidOfWrong : ChangeSpec := { name := "fnExactPyramidOf", fn := fun _ => fun
  | [d1, d2] => { results := [.lit (.bool false)], args := [d1, d2] }
  | _ => none }
def FnExactPyramidOfWrongFalsely : Prop := fnExactPyramidOfRow.holds Try.pinned (OpenSpec.ofChange fnExactPyramidOfWrong)

/-- 'laws.FnExactFromPyramid': WHATEVER THE INPUT: true; the input reads as it did. -/
def fnExactFromPyramidSpec : ChangeSpec := { name := "fnExactFromPyramid", fn := fun _ => fun
  | [d] => { results := [.lit (.bool true)], args := [d] }
  | _ => none }
def fnExactFromPyramidRow : OpenClaim := { program := "ytggbdmgonobefaa", sum := "34f5f00be440d32c8a315d5fc7cc429fa6e26b2d90bc34f0e21d4b38eaceb6b3", func := "loop.example/g01308/laws.FnExactFromPyramid", spec := "fnExactFromPyramid", unfollowed := true, recurses := true, apart := false }
def FnExactFromPyramidSaid : Prop := fnExactFromPyramidRow.holds Try.pinned (OpenSpec.ofChange fnExactFromPyramidSpec)

/-- ITS FALSE NEIGHBOUR: 'it returns false'. Refute it at one input. -/
def fnExactFromPyramidWrong : ChangeSpec := { name := "fnExactFromPyramid", fn := fun _ => fun
  | [d] => { results := [.lit (.bool false)], args := [d] }
  | _ => none }
def FnExactFromPyramidWrongFalsely : Prop := fnExactFromPyramidRow.holds Try.pinned (OpenSpec.ofChange fnExactFromPyramidWrong)

/-- 'laws.FnExactGradientBlend': WHATEVER THE INPUT: true; the input reads as it did. -/
def fnExactGradientBlendSpec : ChangeSpec := { name := "fnExactGradientBlend", fn := fun _ => fun
  | [d1, d2, d3, d4] => { results := [.lit (.bool true)], args := [d1, d2, d3, d4] }
  | _ => none }
def fnExactGradientBlendRow : OpenClaim := { program := "ytggbdmgonobefaa", sum := "34f5f00be440d32c8a315d5fc7cc429fa6e26b2d90bc34f0e21d4b38eaceb6b3", func := "loop.example/g01308/laws.FnExactGradientBlend", spec := "fnExactGradientBlend", inPlace := ["math.Float64bits", "math.Float64frombits"], unfollowed := true, recurses := true, apart := false }
def FnExactGradientBlendSaid : Prop := fnExactGradientBlendRow.holds Try.pinned (OpenSpec.ofChange fnExactGradientBlendSpec)

/-- ITS FALSE NEIGHBOUR: 'it returns false'. Refute it at one input. -/
def fnExactGradientBlendWrong : ChangeSpec := { name := "fnExactGradientBlend", fn := fun _ => fun
  | [d1, d2, d3, d4] => { results := [.lit (.bool false)], args := [d1, d2, d3, d4] }
  | _ => none }
def FnExactGradientBlendWrongFalsely : Prop := fnExactGradientBlendRow.holds Try.pinned (OpenSpec.ofChange fnExactGradientBlendWrong)

/-- 'laws.FnExactJoinPictures': WHATEVER THE INPUT: true; the input reads as it did. -/
def fnExactJoinPicturesSpec : ChangeSpec := { name := "fnExactJoinPictures", fn := fun _ => fun
  | [d1, d2, d3] => { results := [.lit (.bool true)], args := [d1, d2, d3] }
  | _ => none }
def fnExactJoinPicturesRow : OpenClaim := { program := "ytggbdmgonobefaa", sum := "34f5f00be440d32c8a315d5fc7cc429fa6e26b2d90bc34f0e21d4b38eaceb6b3", func := "loop.example/g01308/laws.FnExactJoinPictures", spec := "fnExactJoinPictures", unfollowed := true, recurses := true, apart := false }
def FnExactJoinPicturesSaid : Prop := fnExactJoinPicturesRow.holds Try.pinned (OpenSpec.ofChange fnExactJoinPicturesSpec)

/-- ITS FALSE NEIGHBOUR: 'it returns false'. Refute it at one input. -/
def fnExactJoinPicturesWrong : ChangeSpec := { name := "fnExactJoinPictures", fn := fun _ => fun
  | [d1, d2, d3] => { results := [.lit (.bool false)], args := [d1, d2, d3] }
  | _ => none }
def FnExactJoinPicturesWrongFalsely : Prop := fnExactJoinPicturesRow.holds Try.pinned (OpenSpec.ofChange fnExactJoinPicturesWrong)

/-- 'laws.FnExactCarvePicture': WHATEVER THE INPUT: true; the input reads as it did. -/
def fnExactCarvePictureSpec : ChangeSpec := { name := "fnExactCarvePicture", fn := fun _ => fun
  | [d1, d2] => { results := [.lit (.bool true)], args := [d1, d2] }
  | _ => none }
def fnExactCarvePictureRow : OpenClaim := { program := "ytggbdmgonobefaa", sum := "34f5f00be440d32c8a315d5fc7cc429fa6e26b2d90bc34f0e21d4b38eaceb6b3", func := "loop.example/g01308/laws.FnExactCarvePicture", spec := "fnExactCarvePicture", inPlace := ["math.Float64bits", "math.Float64frombits"], unfollowed := true, recurses := true, apart := false }
def FnExactCarvePictureSaid : Prop := fnExactCarvePictureRow.holds Try.pinned (OpenSpec.ofChange fnExactCarvePictureSpec)

/-- ITS FALSE NEIGHBOUR: 'it returns false'. Refute it at one input. -/
def fnExactCarvePictureWrong : ChangeSpec := { name := "fnExactCarvePicture", fn := fun _ => fun
  | [d1, d2] => { results := [.lit (.bool false)], args := [d1, d2] }
  | _ => none }
def FnExactCarvePictureWrongFalsely : Prop := fnExactCarvePictureRow.holds Try.pinned (OpenSpec.ofChange fnExactCarvePictureWrong)

/- THE SECOND FORM. 'bulk': how many values and letters a reading holds, each counted each time it is reached (what is shared counts as often as it is met; a slice's spare places count too). A statement '..UptoSaid' is the law's where the arguments, and the package variables that the reading takes, are together of bulk at most 1048576: NARROWER than '..Said'. Prove '..Said' where nothing that the law and all that it calls make is longer than what came in: it says more and counts as full. Else prove '..UptoSaid'. A law counts once. -/
mutual
def uptoBulk {H : Type} : DataW H → Nat
  | .lit (.string bytes) => bytes.length + 1
  | .lit _ => 1
  | .nil => 1
  | .ptr d => uptoBulk d + 1
  | .slice elems spare => uptoBulkAll elems + uptoBulkAll spare + 1
  | .agg parts => uptoBulkAll parts + 1
  | .iface _ d => uptoBulk d + 1
  | .map entries => uptoBulkEntries entries + 1
  | .held _ => 1
def uptoBulkAll {H : Type} : List (DataW H) → Nat
  | [] => 0
  | d :: r => uptoBulk d + uptoBulkAll r
def uptoBulkEntries {H : Type} : List (Lit × DataW H) → Nat
  | [] => 0
  | x :: r => uptoBulkEntry x + uptoBulkEntries r
def uptoBulkEntry {H : Type} : Lit × DataW H → Nat
  | (.string bytes, d) => bytes.length + uptoBulk d + 1
  | (_, d) => uptoBulk d + 1
 end
def uptoSmall : (H : Type) → List (DataW H) → Bool := fun _ ds => decide (uptoBulkAll ds ≤ 1048576)
def OpenSpec.upto (s : _root_.Go.ChangeSpec) : _root_.Go.OpenSpec := { _root_.Go.OpenSpec.ofChange s with cond := some uptoSmall }

/-- 'laws.FnExactSameDesk', WHERE WHAT IT READS IS OF BULK AT MOST 1048576: true; the input reads as it did. -/
def fnExactSameDeskUptoRow : OpenClaim := { program := "ytggbdmgonobefaa", sum := "34f5f00be440d32c8a315d5fc7cc429fa6e26b2d90bc34f0e21d4b38eaceb6b3", func := "loop.example/g01308/laws.FnExactSameDesk", spec := "fnExactSameDesk", inPlace := ["math.Float32bits", "math.Float64bits"], unfollowed := true, recurses := true, apart := false, narrowed := true }
def FnExactSameDeskUptoSaid : Prop := fnExactSameDeskUptoRow.holds Try.pinned (OpenSpec.upto fnExactSameDeskSpec)

/-- 'laws.FnExactFindPage', WHERE WHAT IT READS IS OF BULK AT MOST 1048576: true; the input reads as it did. -/
def fnExactFindPageUptoRow : OpenClaim := { program := "ytggbdmgonobefaa", sum := "34f5f00be440d32c8a315d5fc7cc429fa6e26b2d90bc34f0e21d4b38eaceb6b3", func := "loop.example/g01308/laws.FnExactFindPage", spec := "fnExactFindPage", unfollowed := true, recurses := true, apart := false, narrowed := true }
def FnExactFindPageUptoSaid : Prop := fnExactFindPageUptoRow.holds Try.pinned (OpenSpec.upto fnExactFindPageSpec)

/-- 'laws.FnExactValidDesk', WHERE WHAT IT READS IS OF BULK AT MOST 1048576: true; the input reads as it did. -/
def fnExactValidDeskUptoRow : OpenClaim := { program := "ytggbdmgonobefaa", sum := "34f5f00be440d32c8a315d5fc7cc429fa6e26b2d90bc34f0e21d4b38eaceb6b3", func := "loop.example/g01308/laws.FnExactValidDesk", spec := "fnExactValidDesk", unfollowed := true, recurses := true, apart := false, narrowed := true }
def FnExactValidDeskUptoSaid : Prop := fnExactValidDeskUptoRow.holds Try.pinned (OpenSpec.upto fnExactValidDeskSpec)

/-- 'laws.FnExactNewDesk', WHERE WHAT IT READS IS OF BULK AT MOST 1048576: true; the input reads as it did. -/
def fnExactNewDeskUptoRow : OpenClaim := { program := "ytggbdmgonobefaa", sum := "34f5f00be440d32c8a315d5fc7cc429fa6e26b2d90bc34f0e21d4b38eaceb6b3", func := "loop.example/g01308/laws.FnExactNewDesk", spec := "fnExactNewDesk", unfollowed := true, recurses := true, apart := false, narrowed := true }
def FnExactNewDeskUptoSaid : Prop := fnExactNewDeskUptoRow.holds Try.pinned (OpenSpec.upto fnExactNewDeskSpec)

/-- 'laws.FnExactSeamOf', WHERE WHAT IT READS IS OF BULK AT MOST 1048576: true; the input reads as it did. -/
def fnExactSeamOfUptoRow : OpenClaim := { program := "ytggbdmgonobefaa", sum := "34f5f00be440d32c8a315d5fc7cc429fa6e26b2d90bc34f0e21d4b38eaceb6b3", func := "loop.example/g01308/laws.FnExactSeamOf", spec := "fnExactSeamOf", inPlace := ["math.Float64bits", "math.Float64frombits"], unfollowed := true, recurses := true, apart := false, narrowed := true }
def FnExactSeamOfUptoSaid : Prop := fnExactSeamOfUptoRow.holds Try.pinned (OpenSpec.upto fnExactSeamOfSpec)

/-- 'laws.FnExactMeetSeam', WHERE WHAT IT READS IS OF BULK AT MOST 1048576: true; the input reads as it did. -/
def fnExactMeetSeamUptoRow : OpenClaim := { program := "ytggbdmgonobefaa", sum := "34f5f00be440d32c8a315d5fc7cc429fa6e26b2d90bc34f0e21d4b38eaceb6b3", func := "loop.example/g01308/laws.FnExactMeetSeam", spec := "fnExactMeetSeam", unfollowed := true, recurses := true, apart := false, narrowed := true }
def FnExactMeetSeamUptoSaid : Prop := fnExactMeetSeamUptoRow.holds Try.pinned (OpenSpec.upto fnExactMeetSeamSpec)

/-- 'laws.FnExactPyramidOf', WHERE WHAT IT READS IS OF BULK AT MOST 1048576: true; the input reads as it did. -/
def fnExactPyramidOfUptoRow : OpenClaim := { program := "ytggbdmgonobefaa", sum := "34f5f00be440d32c8a315d5fc7cc429fa6e26b2d90bc34f0e21d4b38eaceb6b3", func := "loop.example/g01308/laws.FnExactPyramidOf", spec := "fnExactPyramidOf", unfollowed := true, recurses := true, apart := false, narrowed := true }
def FnExactPyramidOfUptoSaid : Prop := fnExactPyramidOfUptoRow.holds Try.pinned (OpenSpec.upto fnExactPyramidOfSpec)

/-- 'laws.FnExactFromPyramid', WHERE WHAT IT READS IS OF BULK AT MOST 1048576: true; the input reads as it did. -/
def fnExactFromPyramidUptoRow : OpenClaim := { program := "ytggbdmgonobefaa", sum := "34f5f00be440d32c8a315d5fc7cc429fa6e26b2d90bc34f0e21d4b38eaceb6b3", func := "loop.example/g01308/laws.FnExactFromPyramid", spec := "fnExactFromPyramid", unfollowed := true, recurses := true, apart := false, narrowed := true }
def FnExactFromPyramidUptoSaid : Prop := fnExactFromPyramidUptoRow.holds Try.pinned (OpenSpec.upto fnExactFromPyramidSpec)

/-- 'laws.FnExactGradientBlend', WHERE WHAT IT READS IS OF BULK AT MOST 1048576: true; the input reads as it did. -/
def fnExactGradientBlendUptoRow : OpenClaim := { program := "ytggbdmgonobefaa", sum := "34f5f00be440d32c8a315d5fc7cc429fa6e26b2d90bc34f0e21d4b38eaceb6b3", func := "loop.example/g01308/laws.FnExactGradientBlend", spec := "fnExactGradientBlend", inPlace := ["math.Float64bits", "math.Float64frombits"], unfollowed := true, recurses := true, apart := false, narrowed := true }
def FnExactGradientBlendUptoSaid : Prop := fnExactGradientBlendUptoRow.holds Try.pinned (OpenSpec.upto fnExactGradientBlendSpec)

/-- 'laws.FnExactJoinPictures', WHERE WHAT IT READS IS OF BULK AT MOST 1048576: true; the input reads as it did. -/
def fnExactJoinPicturesUptoRow : OpenClaim := { program := "ytggbdmgonobefaa", sum := "34f5f00be440d32c8a315d5fc7cc429fa6e26b2d90bc34f0e21d4b38eaceb6b3", func := "loop.example/g01308/laws.FnExactJoinPictures", spec := "fnExactJoinPictures", unfollowed := true, recurses := true, apart := false, narrowed := true }
def FnExactJoinPicturesUptoSaid : Prop := fnExactJoinPicturesUptoRow.holds Try.pinned (OpenSpec.upto fnExactJoinPicturesSpec)

/-- 'laws.FnExactCarvePicture', WHERE WHAT IT READS IS OF BULK AT MOST 1048576: true; the input reads as it did. -/
def fnExactCarvePictureUptoRow : OpenClaim := { program := "ytggbdmgonobefaa", sum := "34f5f00be440d32c8a315d5fc7cc429fa6e26b2d90bc34f0e21d4b38eaceb6b3", func := "loop.example/g01308/laws.FnExactCarvePicture", spec := "fnExactCarvePicture", inPlace := ["math.Float64bits", "math.Float64frombits"], unfollowed := true, recurses := true, apart := false, narrowed := true }
def FnExactCarvePictureUptoSaid : Prop := fnExactCarvePictureUptoRow.holds Try.pinned (OpenSpec.upto fnExactCarvePictureSpec)

end Rows
end Go.Proofs.Ytggbdmgonobefaa
