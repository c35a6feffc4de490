/-
  No cell of these rows narrows 'for every input' (looked for: loops, veiled, ifaces, maps, wideKeys, modest, calm, conditions, laid).
  DERIVED. THE GIVEN ROWS OF THIS SEAT. 12 by the template 'for every input the law returns true; each argument reads behind the call as it read before'; 0 by the template 'total and deterministic' (their statements: YtjennldpjfeppaaTotals.lean).
  GIVEN WITH THE SEED: the statements are not yours to turn. If you find one false, say at which input.
  Laid BY PROGRAM, IN A SANDBOX (cutbox-rows.mjs): the forced cells as the released guide's own fill.sh prints them over the translation 8b2bb08fa3e5b1a7… (all of the seat's roots in one cut). By AI agents, Wed Nov 11 2026. No macro, syntax, notation, axiom, sorry.
-/
import Derived.Test.YtjennldpjfeppaaChecked
import GoSem.Claim
import GoSem.ClaimJoined
import GoSem.ClaimMapViews
import Derived.JoinedTies
import Derived.KernelRfl
namespace Go.Proofs.Ytjennldpjfeppaa
/- THE CELL 'sum', in the pinned program and in every row, IS THE sha256 OF THE DUMP (.gsa) THAT YtjennldpjfeppaaProg.lean LOADS. Nothing in Lean hashes anything: it is a label: what it is worth is what the hold of that sum in a sandbox is worth. -/
noncomputable def Try.pinned : Pinned := { name := "ytjennldpjfeppaa", sum := "8b2bb08fa3e5b1a79514796959273b6a0c0110adef9daac3bd5fce3ee38ab8d9", checked := Try.checked }
namespace Rows
def none {H : Type} : Left H := { results := [], args := [] }

/-- 'laws.FnExactFeatherMask': WHATEVER THE INPUT: true; the input reads as it did. -/
def fnExactFeatherMaskSpec : ChangeSpec := { name := "fnExactFeatherMask", fn := fun _ => fun
  | [d1, d2, d3, d4] => { results := [.lit (.bool true)], args := [d1, d2, d3, d4] }
  | _ => none }
def fnExactFeatherMaskRow : OpenClaim := { program := "ytjennldpjfeppaa", sum := "8b2bb08fa3e5b1a79514796959273b6a0c0110adef9daac3bd5fce3ee38ab8d9", func := "loop.example/g01308/laws.FnExactFeatherMask", spec := "fnExactFeatherMask", unfollowed := true, recurses := true, apart := false }
def FnExactFeatherMaskSaid : Prop := fnExactFeatherMaskRow.holds Try.pinned (OpenSpec.ofChange fnExactFeatherMaskSpec)

/-- ITS FALSE NEIGHBOUR: 'it returns false'. Refute it at one input. -/
def fnExactFeatherMaskWrong : ChangeSpec := { name := "fnExactFeatherMask", fn := fun _ => fun
  | [d1, d2, d3, d4] => { results := [.lit (.bool false)], args := [d1, d2, d3, d4] }
  | _ => none }
def FnExactFeatherMaskWrongFalsely : Prop := fnExactFeatherMaskRow.holds Try.pinned (OpenSpec.ofChange fnExactFeatherMaskWrong)

/-- 'laws.FnExactIsSeam': WHATEVER THE INPUT: true; the input reads as it did. -/
def fnExactIsSeamSpec : ChangeSpec := { name := "fnExactIsSeam", fn := fun _ => fun
  | [d1, d2] => { results := [.lit (.bool true)], args := [d1, d2] }
  | _ => none }
def fnExactIsSeamRow : OpenClaim := { program := "ytjennldpjfeppaa", sum := "8b2bb08fa3e5b1a79514796959273b6a0c0110adef9daac3bd5fce3ee38ab8d9", func := "loop.example/g01308/laws.FnExactIsSeam", spec := "fnExactIsSeam", unfollowed := true, recurses := true, apart := false }
def FnExactIsSeamSaid : Prop := fnExactIsSeamRow.holds Try.pinned (OpenSpec.ofChange fnExactIsSeamSpec)

/-- ITS FALSE NEIGHBOUR: 'it returns false'. Refute it at one input. -/
def fnExactIsSeamWrong : ChangeSpec := { name := "fnExactIsSeam", fn := fun _ => fun
  | [d1, d2] => { results := [.lit (.bool false)], args := [d1, d2] }
  | _ => none }
def FnExactIsSeamWrongFalsely : Prop := fnExactIsSeamRow.holds Try.pinned (OpenSpec.ofChange fnExactIsSeamWrong)

/-- 'laws.FnExactValidPage': WHATEVER THE INPUT: true; the input reads as it did. -/
def fnExactValidPageSpec : ChangeSpec := { name := "fnExactValidPage", fn := fun _ => fun
  | [d] => { results := [.lit (.bool true)], args := [d] }
  | _ => none }
def fnExactValidPageRow : OpenClaim := { program := "ytjennldpjfeppaa", sum := "8b2bb08fa3e5b1a79514796959273b6a0c0110adef9daac3bd5fce3ee38ab8d9", func := "loop.example/g01308/laws.FnExactValidPage", spec := "fnExactValidPage", unfollowed := true, recurses := true, apart := false }
def FnExactValidPageSaid : Prop := fnExactValidPageRow.holds Try.pinned (OpenSpec.ofChange fnExactValidPageSpec)

/-- ITS FALSE NEIGHBOUR: 'it returns false'. Refute it at one input. -/
def fnExactValidPageWrong : ChangeSpec := { name := "fnExactValidPage", fn := fun _ => fun
  | [d] => { results := [.lit (.bool false)], args := [d] }
  | _ => none }
def FnExactValidPageWrongFalsely : Prop := fnExactValidPageRow.holds Try.pinned (OpenSpec.ofChange fnExactValidPageWrong)

/-- 'laws.FnExactSamePages': WHATEVER THE INPUT: true; the input reads as it did. -/
def fnExactSamePagesSpec : ChangeSpec := { name := "fnExactSamePages", fn := fun _ => fun
  | [d1, d2] => { results := [.lit (.bool true)], args := [d1, d2] }
  | _ => none }
def fnExactSamePagesRow : OpenClaim := { program := "ytjennldpjfeppaa", sum := "8b2bb08fa3e5b1a79514796959273b6a0c0110adef9daac3bd5fce3ee38ab8d9", func := "loop.example/g01308/laws.FnExactSamePages", spec := "fnExactSamePages", inPlace := ["math.Float32bits", "math.Float64bits"], unfollowed := true, recurses := true, apart := false }
def FnExactSamePagesSaid : Prop := fnExactSamePagesRow.holds Try.pinned (OpenSpec.ofChange fnExactSamePagesSpec)

/-- ITS FALSE NEIGHBOUR: 'it returns false'. Refute it at one input. -/
def fnExactSamePagesWrong : ChangeSpec := { name := "fnExactSamePages", fn := fun _ => fun
  | [d1, d2] => { results := [.lit (.bool false)], args := [d1, d2] }
  | _ => none }
def FnExactSamePagesWrongFalsely : Prop := fnExactSamePagesRow.holds Try.pinned (OpenSpec.ofChange fnExactSamePagesWrong)

/-- 'laws.FnExactOverlapError': WHATEVER THE INPUT: true; the input reads as it did. -/
def fnExactOverlapErrorSpec : ChangeSpec := { name := "fnExactOverlapError", fn := fun _ => fun
  | [d1, d2, d3] => { results := [.lit (.bool true)], args := [d1, d2, d3] }
  | _ => none }
def fnExactOverlapErrorRow : OpenClaim := { program := "ytjennldpjfeppaa", sum := "8b2bb08fa3e5b1a79514796959273b6a0c0110adef9daac3bd5fce3ee38ab8d9", func := "loop.example/g01308/laws.FnExactOverlapError", spec := "fnExactOverlapError", unfollowed := true, recurses := true, apart := false }
def FnExactOverlapErrorSaid : Prop := fnExactOverlapErrorRow.holds Try.pinned (OpenSpec.ofChange fnExactOverlapErrorSpec)

/-- ITS FALSE NEIGHBOUR: 'it returns false'. Refute it at one input. -/
def fnExactOverlapErrorWrong : ChangeSpec := { name := "fnExactOverlapError", fn := fun _ => fun
  | [d1, d2, d3] => { results := [.lit (.bool false)], args := [d1, d2, d3] }
  | _ => none }
def FnExactOverlapErrorWrongFalsely : Prop := fnExactOverlapErrorRow.holds Try.pinned (OpenSpec.ofChange fnExactOverlapErrorWrong)

/-- 'laws.FnExactArePages': WHATEVER THE INPUT: true; the input reads as it did. -/
def fnExactArePagesSpec : ChangeSpec := { name := "fnExactArePages", fn := fun _ => fun
  | [d] => { results := [.lit (.bool true)], args := [d] }
  | _ => none }
def fnExactArePagesRow : OpenClaim := { program := "ytjennldpjfeppaa", sum := "8b2bb08fa3e5b1a79514796959273b6a0c0110adef9daac3bd5fce3ee38ab8d9", func := "loop.example/g01308/laws.FnExactArePages", spec := "fnExactArePages", unfollowed := true, recurses := true, apart := false }
def FnExactArePagesSaid : Prop := fnExactArePagesRow.holds Try.pinned (OpenSpec.ofChange fnExactArePagesSpec)

/-- ITS FALSE NEIGHBOUR: 'it returns false'. Refute it at one input. -/
def fnExactArePagesWrong : ChangeSpec := { name := "fnExactArePages", fn := fun _ => fun
  | [d] => { results := [.lit (.bool false)], args := [d] }
  | _ => none }
def FnExactArePagesWrongFalsely : Prop := fnExactArePagesRow.holds Try.pinned (OpenSpec.ofChange fnExactArePagesWrong)

/-- 'laws.FnExactMaskMix': WHATEVER THE INPUT: true; the input reads as it did. -/
def fnExactMaskMixSpec : ChangeSpec := { name := "fnExactMaskMix", fn := fun _ => fun
  | [d1, d2, d3] => { results := [.lit (.bool true)], args := [d1, d2, d3] }
  | _ => none }
def fnExactMaskMixRow : OpenClaim := { program := "ytjennldpjfeppaa", sum := "8b2bb08fa3e5b1a79514796959273b6a0c0110adef9daac3bd5fce3ee38ab8d9", func := "loop.example/g01308/laws.FnExactMaskMix", spec := "fnExactMaskMix", unfollowed := true, recurses := true, apart := false }
def FnExactMaskMixSaid : Prop := fnExactMaskMixRow.holds Try.pinned (OpenSpec.ofChange fnExactMaskMixSpec)

/-- ITS FALSE NEIGHBOUR: 'it returns false'. Refute it at one input. -/
def fnExactMaskMixWrong : ChangeSpec := { name := "fnExactMaskMix", fn := fun _ => fun
  | [d1, d2, d3] => { results := [.lit (.bool false)], args := [d1, d2, d3] }
  | _ => none }
def FnExactMaskMixWrongFalsely : Prop := fnExactMaskMixRow.holds Try.pinned (OpenSpec.ofChange fnExactMaskMixWrong)

/-- 'laws.FnExactBestOverlap': WHATEVER THE INPUT: true; the input reads as it did. -/
def fnExactBestOverlapSpec : ChangeSpec := { name := "fnExactBestOverlap", fn := fun _ => fun
  | [d1, d2, d3, d4] => { results := [.lit (.bool true)], args := [d1, d2, d3, d4] }
  | _ => none }
def fnExactBestOverlapRow : OpenClaim := { program := "ytjennldpjfeppaa", sum := "8b2bb08fa3e5b1a79514796959273b6a0c0110adef9daac3bd5fce3ee38ab8d9", func := "loop.example/g01308/laws.FnExactBestOverlap", spec := "fnExactBestOverlap", unfollowed := true, recurses := true, apart := false }
def FnExactBestOverlapSaid : Prop := fnExactBestOverlapRow.holds Try.pinned (OpenSpec.ofChange fnExactBestOverlapSpec)

/-- ITS FALSE NEIGHBOUR: 'it returns false'. Refute it at one input. -/
def fnExactBestOverlapWrong : ChangeSpec := { name := "fnExactBestOverlap", fn := fun _ => fun
  | [d1, d2, d3, d4] => { results := [.lit (.bool false)], args := [d1, d2, d3, d4] }
  | _ => none }
def FnExactBestOverlapWrongFalsely : Prop := fnExactBestOverlapRow.holds Try.pinned (OpenSpec.ofChange fnExactBestOverlapWrong)

/-- 'laws.FnExactCutSeam': WHATEVER THE INPUT: true; the input reads as it did. -/
def fnExactCutSeamSpec : ChangeSpec := { name := "fnExactCutSeam", fn := fun _ => fun
  | [d1, d2] => { results := [.lit (.bool true)], args := [d1, d2] }
  | _ => none }
def fnExactCutSeamRow : OpenClaim := { program := "ytjennldpjfeppaa", sum := "8b2bb08fa3e5b1a79514796959273b6a0c0110adef9daac3bd5fce3ee38ab8d9", func := "loop.example/g01308/laws.FnExactCutSeam", spec := "fnExactCutSeam", unfollowed := true, recurses := true, apart := false }
def FnExactCutSeamSaid : Prop := fnExactCutSeamRow.holds Try.pinned (OpenSpec.ofChange fnExactCutSeamSpec)

/-- ITS FALSE NEIGHBOUR: 'it returns false'. Refute it at one input. -/
def fnExactCutSeamWrong : ChangeSpec := { name := "fnExactCutSeam", fn := fun _ => fun
  | [d1, d2] => { results := [.lit (.bool false)], args := [d1, d2] }
  | _ => none }
def FnExactCutSeamWrongFalsely : Prop := fnExactCutSeamRow.holds Try.pinned (OpenSpec.ofChange fnExactCutSeamWrong)

/-- 'laws.FnExactEdgesOf': WHATEVER THE INPUT: true; the input reads as it did. -/
def fnExactEdgesOfSpec : ChangeSpec := { name := "fnExactEdgesOf", fn := fun _ => fun
  | [d] => { results := [.lit (.bool true)], args := [d] }
  | _ => none }
def fnExactEdgesOfRow : OpenClaim := { program := "ytjennldpjfeppaa", sum := "8b2bb08fa3e5b1a79514796959273b6a0c0110adef9daac3bd5fce3ee38ab8d9", func := "loop.example/g01308/laws.FnExactEdgesOf", spec := "fnExactEdgesOf", inPlace := ["math.Float64bits", "math.Float64frombits"], unfollowed := true, recurses := true, apart := false }
def FnExactEdgesOfSaid : Prop := fnExactEdgesOfRow.holds Try.pinned (OpenSpec.ofChange fnExactEdgesOfSpec)

/-- ITS FALSE NEIGHBOUR: 'it returns false'. Refute it at one input. -/
def fnExactEdgesOfWrong : ChangeSpec := { name := "fnExactEdgesOf", fn := fun _ => fun
  | [d] => { results := [.lit (.bool false)], args := [d] }
  | _ => none }
def FnExactEdgesOfWrongFalsely : Prop := fnExactEdgesOfRow.holds Try.pinned (OpenSpec.ofChange fnExactEdgesOfWrong)

/-- 'laws.FnExactGrowSeam': WHATEVER THE INPUT: true; the input reads as it did. -/
def fnExactGrowSeamSpec : ChangeSpec := { name := "fnExactGrowSeam", fn := fun _ => fun
  | [d1, d2] => { results := [.lit (.bool true)], args := [d1, d2] }
  | _ => none }
def fnExactGrowSeamRow : OpenClaim := { program := "ytjennldpjfeppaa", sum := "8b2bb08fa3e5b1a79514796959273b6a0c0110adef9daac3bd5fce3ee38ab8d9", func := "loop.example/g01308/laws.FnExactGrowSeam", spec := "fnExactGrowSeam", unfollowed := true, recurses := true, apart := false }
def FnExactGrowSeamSaid : Prop := fnExactGrowSeamRow.holds Try.pinned (OpenSpec.ofChange fnExactGrowSeamSpec)

/-- ITS FALSE NEIGHBOUR: 'it returns false'. Refute it at one input. -/
def fnExactGrowSeamWrong : ChangeSpec := { name := "fnExactGrowSeam", fn := fun _ => fun
  | [d1, d2] => { results := [.lit (.bool false)], args := [d1, d2] }
  | _ => none }
def FnExactGrowSeamWrongFalsely : Prop := fnExactGrowSeamRow.holds Try.pinned (OpenSpec.ofChange fnExactGrowSeamWrong)

/-- 'laws.FnExactSeamCost': WHATEVER THE INPUT: true; the input reads as it did. -/
def fnExactSeamCostSpec : ChangeSpec := { name := "fnExactSeamCost", fn := fun _ => fun
  | [d1, d2] => { results := [.lit (.bool true)], args := [d1, d2] }
  | _ => none }
def fnExactSeamCostRow : OpenClaim := { program := "ytjennldpjfeppaa", sum := "8b2bb08fa3e5b1a79514796959273b6a0c0110adef9daac3bd5fce3ee38ab8d9", func := "loop.example/g01308/laws.FnExactSeamCost", spec := "fnExactSeamCost", inPlace := ["math.Float64bits", "math.Float64frombits"], unfollowed := true, recurses := true, apart := false }
def FnExactSeamCostSaid : Prop := fnExactSeamCostRow.holds Try.pinned (OpenSpec.ofChange fnExactSeamCostSpec)

/-- ITS FALSE NEIGHBOUR: 'it returns false'. Refute it at one input. -/
def fnExactSeamCostWrong : ChangeSpec := { name := "fnExactSeamCost", fn := fun _ => fun
  | [d1, d2] => { results := [.lit (.bool false)], args := [d1, d2] }
  | _ => none }
def FnExactSeamCostWrongFalsely : Prop := fnExactSeamCostRow.holds Try.pinned (OpenSpec.ofChange fnExactSeamCostWrong)

/- THE SECOND FORM. 'bulk': how many values and letters a reading holds, each counted each time it is reached (what is shared counts as often as it is met; a slice's spare places count too). A statement '..UptoSaid' is the law's where the arguments, and the package variables that the reading takes, are together of bulk at most 1048576: NARROWER than '..Said'. Prove '..Said' where nothing that the law and all that it calls make is longer than what came in: it says more and counts as full. Else prove '..UptoSaid'. A law counts once. -/
mutual
def uptoBulk {H : Type} : DataW H → Nat
  | .lit (.string bytes) => bytes.length + 1
  | .lit _ => 1
  | .nil => 1
  | .ptr d => uptoBulk d + 1
  | .slice elems spare => uptoBulkAll elems + uptoBulkAll spare + 1
  | .agg parts => uptoBulkAll parts + 1
  | .iface _ d => uptoBulk d + 1
  | .map entries => uptoBulkEntries entries + 1
  | .held _ => 1
def uptoBulkAll {H : Type} : List (DataW H) → Nat
  | [] => 0
  | d :: r => uptoBulk d + uptoBulkAll r
def uptoBulkEntries {H : Type} : List (Lit × DataW H) → Nat
  | [] => 0
  | x :: r => uptoBulkEntry x + uptoBulkEntries r
def uptoBulkEntry {H : Type} : Lit × DataW H → Nat
  | (.string bytes, d) => bytes.length + uptoBulk d + 1
  | (_, d) => uptoBulk d + 1
 end
def uptoSmall : (H : Type) → List (DataW H) → Bool := fun _ ds => decide (uptoBulkAll ds ≤ 1048576)
def OpenSpec.upto (s : _root_.Go.ChangeSpec) : _root_.Go.OpenSpec := { _root_.Go.OpenSpec.ofChange s with cond := some uptoSmall }

/-- 'laws.FnExactFeatherMask', WHERE WHAT IT READS IS OF BULK AT MOST 1048576: true; the input reads as it did. -/
def fnExactFeatherMaskUptoRow : OpenClaim := { program := "ytjennldpjfeppaa", sum := "8b2bb08fa3e5b1a79514796959273b6a0c0110adef9daac3bd5fce3ee38ab8d9", func := "loop.example/g01308/laws.FnExactFeatherMask", spec := "fnExactFeatherMask", unfollowed := true, recurses := true, apart := false, narrowed := true }
def FnExactFeatherMaskUptoSaid : Prop := fnExactFeatherMaskUptoRow.holds Try.pinned (OpenSpec.upto fnExactFeatherMaskSpec)

/-- 'laws.FnExactIsSeam', WHERE WHAT IT READS IS OF BULK AT MOST 1048576: true; the input reads as it did. -/
def fnExactIsSeamUptoRow : OpenClaim := { program := "ytjennldpjfeppaa", sum := "8b2bb08fa3e5b1a79514796959273b6a0c0110adef9daac3bd5fce3ee38ab8d9", func := "loop.example/g01308/laws.FnExactIsSeam", spec := "fnExactIsSeam", unfollowed := true, recurses := true, apart := false, narrowed := true }
def FnExactIsSeamUptoSaid : Prop := fnExactIsSeamUptoRow.holds Try.pinned (OpenSpec.upto fnExactIsSeamSpec)

/-- 'laws.FnExactValidPage', WHERE WHAT IT READS IS OF BULK AT MOST 1048576: true; the input reads as it did. -/
def fnExactValidPageUptoRow : OpenClaim := { program := "ytjennldpjfeppaa", sum := "8b2bb08fa3e5b1a79514796959273b6a0c0110adef9daac3bd5fce3ee38ab8d9", func := "loop.example/g01308/laws.FnExactValidPage", spec := "fnExactValidPage", unfollowed := true, recurses := true, apart := false, narrowed := true }
def FnExactValidPageUptoSaid : Prop := fnExactValidPageUptoRow.holds Try.pinned (OpenSpec.upto fnExactValidPageSpec)

/-- 'laws.FnExactSamePages', WHERE WHAT IT READS IS OF BULK AT MOST 1048576: true; the input reads as it did. -/
def fnExactSamePagesUptoRow : OpenClaim := { program := "ytjennldpjfeppaa", sum := "8b2bb08fa3e5b1a79514796959273b6a0c0110adef9daac3bd5fce3ee38ab8d9", func := "loop.example/g01308/laws.FnExactSamePages", spec := "fnExactSamePages", inPlace := ["math.Float32bits", "math.Float64bits"], unfollowed := true, recurses := true, apart := false, narrowed := true }
def FnExactSamePagesUptoSaid : Prop := fnExactSamePagesUptoRow.holds Try.pinned (OpenSpec.upto fnExactSamePagesSpec)

/-- 'laws.FnExactOverlapError', WHERE WHAT IT READS IS OF BULK AT MOST 1048576: true; the input reads as it did. -/
def fnExactOverlapErrorUptoRow : OpenClaim := { program := "ytjennldpjfeppaa", sum := "8b2bb08fa3e5b1a79514796959273b6a0c0110adef9daac3bd5fce3ee38ab8d9", func := "loop.example/g01308/laws.FnExactOverlapError", spec := "fnExactOverlapError", unfollowed := true, recurses := true, apart := false, narrowed := true }
def FnExactOverlapErrorUptoSaid : Prop := fnExactOverlapErrorUptoRow.holds Try.pinned (OpenSpec.upto fnExactOverlapErrorSpec)

/-- 'laws.FnExactArePages', WHERE WHAT IT READS IS OF BULK AT MOST 1048576: true; the input reads as it did. -/
def fnExactArePagesUptoRow : OpenClaim := { program := "ytjennldpjfeppaa", sum := "8b2bb08fa3e5b1a79514796959273b6a0c0110adef9daac3bd5fce3ee38ab8d9", func := "loop.example/g01308/laws.FnExactArePages", spec := "fnExactArePages", unfollowed := true, recurses := true, apart := false, narrowed := true }
def FnExactArePagesUptoSaid : Prop := fnExactArePagesUptoRow.holds Try.pinned (OpenSpec.upto fnExactArePagesSpec)

/-- 'laws.FnExactMaskMix', WHERE WHAT IT READS IS OF BULK AT MOST 1048576: true; the input reads as it did. -/
def fnExactMaskMixUptoRow : OpenClaim := { program := "ytjennldpjfeppaa", sum := "8b2bb08fa3e5b1a79514796959273b6a0c0110adef9daac3bd5fce3ee38ab8d9", func := "loop.example/g01308/laws.FnExactMaskMix", spec := "fnExactMaskMix", unfollowed := true, recurses := true, apart := false, narrowed := true }
def FnExactMaskMixUptoSaid : Prop := fnExactMaskMixUptoRow.holds Try.pinned (OpenSpec.upto fnExactMaskMixSpec)

/-- 'laws.FnExactBestOverlap', WHERE WHAT IT READS IS OF BULK AT MOST 1048576: true; the input reads as it did. -/
def fnExactBestOverlapUptoRow : OpenClaim := { program := "ytjennldpjfeppaa", sum := "8b2bb08fa3e5b1a79514796959273b6a0c0110adef9daac3bd5fce3ee38ab8d9", func := "loop.example/g01308/laws.FnExactBestOverlap", spec := "fnExactBestOverlap", unfollowed := true, recurses := true, apart := false, narrowed := true }
def FnExactBestOverlapUptoSaid : Prop := fnExactBestOverlapUptoRow.holds Try.pinned (OpenSpec.upto fnExactBestOverlapSpec)

/-- 'laws.FnExactCutSeam', WHERE WHAT IT READS IS OF BULK AT MOST 1048576: true; the input reads as it did. -/
def fnExactCutSeamUptoRow : OpenClaim := { program := "ytjennldpjfeppaa", sum := "8b2bb08fa3e5b1a79514796959273b6a0c0110adef9daac3bd5fce3ee38ab8d9", func := "loop.example/g01308/laws.FnExactCutSeam", spec := "fnExactCutSeam", unfollowed := true, recurses := true, apart := false, narrowed := true }
def FnExactCutSeamUptoSaid : Prop := fnExactCutSeamUptoRow.holds Try.pinned (OpenSpec.upto fnExactCutSeamSpec)

/-- 'laws.FnExactEdgesOf', WHERE WHAT IT READS IS OF BULK AT MOST 1048576: true; the input reads as it did. -/
def fnExactEdgesOfUptoRow : OpenClaim := { program := "ytjennldpjfeppaa", sum := "8b2bb08fa3e5b1a79514796959273b6a0c0110adef9daac3bd5fce3ee38ab8d9", func := "loop.example/g01308/laws.FnExactEdgesOf", spec := "fnExactEdgesOf", inPlace := ["math.Float64bits", "math.Float64frombits"], unfollowed := true, recurses := true, apart := false, narrowed := true }
def FnExactEdgesOfUptoSaid : Prop := fnExactEdgesOfUptoRow.holds Try.pinned (OpenSpec.upto fnExactEdgesOfSpec)

/-- 'laws.FnExactGrowSeam', WHERE WHAT IT READS IS OF BULK AT MOST 1048576: true; the input reads as it did. -/
def fnExactGrowSeamUptoRow : OpenClaim := { program := "ytjennldpjfeppaa", sum := "8b2bb08fa3e5b1a79514796959273b6a0c0110adef9daac3bd5fce3ee38ab8d9", func := "loop.example/g01308/laws.FnExactGrowSeam", spec := "fnExactGrowSeam", unfollowed := true, recurses := true, apart := false, narrowed := true }
def FnExactGrowSeamUptoSaid : Prop := fnExactGrowSeamUptoRow.holds Try.pinned (OpenSpec.upto fnExactGrowSeamSpec)

/-- 'laws.FnExactSeamCost', WHERE WHAT IT READS IS OF BULK AT MOST 1048576: true; the input reads as it did. -/
def fnExactSeamCostUptoRow : OpenClaim := { program := "ytjennldpjfeppaa", sum := "8b2bb08fa3e5b1a79514796959273b6a0c0110adef9daac3bd5fce3ee38ab8d9", func := "loop.example/g01308/laws.FnExactSeamCost", spec := "fnExactSeamCost", inPlace := ["math.Float64bits", "math.Float64frombits"], unfollowed := true, recurses := true, apart := false, narrowed := true }
def FnExactSeamCostUptoSaid : Prop := fnExactSeamCostUptoRow.holds Try.pinned (OpenSpec.upto fnExactSeamCostSpec)

end Rows
end Go.Proofs.Ytjennldpjfeppaa
