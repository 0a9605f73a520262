/-
  No cell of these rows narrows 'for every input' (looked for: loops, veiled, ifaces, maps, wideKeys, modest, calm, conditions, laid).
  DERIVED. THE GIVEN ROWS OF THIS SEAT. 12 by the template 'for every input the law returns true; each argument reads behind the call as it read before'; 0 by the template 'total and deterministic' (their statements: YtldmhlpfkclclaaTotals.lean).
  GIVEN WITH THE SEED: the statements are not yours to turn. If you find one false, say at which input.
  Laid BY PROGRAM, IN A SANDBOX (cutbox-rows.mjs): the forced cells as the released guide's own fill.sh prints them over the translation 7d039dbd8150483a… (all of the seat's roots in one cut). By AI agents, Wed Nov 11 2026. No macro, syntax, notation, axiom, sorry.
-/
import Derived.Test.YtldmhlpfkclclaaChecked
import GoSem.Claim
import GoSem.ClaimJoined
import GoSem.ClaimMapViews
import Derived.JoinedTies
import Derived.KernelRfl
namespace Go.Proofs.Ytldmhlpfkclclaa
/- THE CELL 'sum', in the pinned program and in every row, IS THE sha256 OF THE DUMP (.gsa) THAT YtldmhlpfkclclaaProg.lean LOADS. Nothing in Lean hashes anything: it is a label: what it is worth is what the hold of that sum in a sandbox is worth. -/
noncomputable def Try.pinned : Pinned := { name := "ytldmhlpfkclclaa", sum := "7d039dbd8150483ab72720c515ee92320c6e443a8532b62bfbd456e0b291eca8", checked := Try.checked }
namespace Rows
def none {H : Type} : Left H := { results := [], args := [] }

/-- 'laws.FnExactFindPath': WHATEVER THE INPUT: true; the input reads as it did. -/
def fnExactFindPathSpec : ChangeSpec := { name := "fnExactFindPath", fn := fun _ => fun
  | [d1, d2] => { results := [.lit (.bool true)], args := [d1, d2] }
  | _ => none }
def fnExactFindPathRow : OpenClaim := { program := "ytldmhlpfkclclaa", sum := "7d039dbd8150483ab72720c515ee92320c6e443a8532b62bfbd456e0b291eca8", func := "loop.example/g03006/laws.FnExactFindPath", spec := "fnExactFindPath", unfollowed := true, recurses := true, apart := false }
def FnExactFindPathSaid : Prop := fnExactFindPathRow.holds Try.pinned (OpenSpec.ofChange fnExactFindPathSpec)

/-- ITS FALSE NEIGHBOUR: 'it returns false'. Refute it at one input. -/
def fnExactFindPathWrong : ChangeSpec := { name := "fnExactFindPath", fn := fun _ => fun
  | [d1, d2] => { results := [.lit (.bool false)], args := [d1, d2] }
  | _ => none }
def FnExactFindPathWrongFalsely : Prop := fnExactFindPathRow.holds Try.pinned (OpenSpec.ofChange fnExactFindPathWrong)

/-- 'laws.FnExactIsTogether': WHATEVER THE INPUT: true; the input reads as it did. -/
def fnExactIsTogetherSpec : ChangeSpec := { name := "fnExactIsTogether", fn := fun _ => fun
  | [d1, d2] => { results := [.lit (.bool true)], args := [d1, d2] }
  | _ => none }
def fnExactIsTogetherRow : OpenClaim := { program := "ytldmhlpfkclclaa", sum := "7d039dbd8150483ab72720c515ee92320c6e443a8532b62bfbd456e0b291eca8", func := "loop.example/g03006/laws.FnExactIsTogether", spec := "fnExactIsTogether", unfollowed := true, recurses := true, apart := false }
def FnExactIsTogetherSaid : Prop := fnExactIsTogetherRow.holds Try.pinned (OpenSpec.ofChange fnExactIsTogetherSpec)

/-- ITS FALSE NEIGHBOUR: 'it returns false'. Refute it at one input. -/
def fnExactIsTogetherWrong : ChangeSpec := { name := "fnExactIsTogether", fn := fun _ => fun
  | [d1, d2] => { results := [.lit (.bool false)], args := [d1, d2] }
  | _ => none }
def FnExactIsTogetherWrongFalsely : Prop := fnExactIsTogetherRow.holds Try.pinned (OpenSpec.ofChange fnExactIsTogetherWrong)

/-- 'laws.FnExactConflictsOf': WHATEVER THE INPUT: true; the input reads as it did. -/
def fnExactConflictsOfSpec : ChangeSpec := { name := "fnExactConflictsOf", fn := fun _ => fun
  | [d1, d2] => { results := [.lit (.bool true)], args := [d1, d2] }
  | _ => none }
def fnExactConflictsOfRow : OpenClaim := { program := "ytldmhlpfkclclaa", sum := "7d039dbd8150483ab72720c515ee92320c6e443a8532b62bfbd456e0b291eca8", func := "loop.example/g03006/laws.FnExactConflictsOf", spec := "fnExactConflictsOf", unfollowed := true, recurses := true, apart := false }
def FnExactConflictsOfSaid : Prop := fnExactConflictsOfRow.holds Try.pinned (OpenSpec.ofChange fnExactConflictsOfSpec)

/-- ITS FALSE NEIGHBOUR: 'it returns false'. Refute it at one input. -/
def fnExactConflictsOfWrong : ChangeSpec := { name := "fnExactConflictsOf", fn := fun _ => fun
  | [d1, d2] => { results := [.lit (.bool false)], args := [d1, d2] }
  | _ => none }
def FnExactConflictsOfWrongFalsely : Prop := fnExactConflictsOfRow.holds Try.pinned (OpenSpec.ofChange fnExactConflictsOfWrong)

/-- 'laws.FnExactClearBetween': WHATEVER THE INPUT: true; the input reads as it did. -/
def fnExactClearBetweenSpec : ChangeSpec := { name := "fnExactClearBetween", fn := fun _ => fun
  | [d1, d2, d3] => { results := [.lit (.bool true)], args := [d1, d2, d3] }
  | _ => none }
def fnExactClearBetweenRow : OpenClaim := { program := "ytldmhlpfkclclaa", sum := "7d039dbd8150483ab72720c515ee92320c6e443a8532b62bfbd456e0b291eca8", func := "loop.example/g03006/laws.FnExactClearBetween", spec := "fnExactClearBetween", unfollowed := true, recurses := true, apart := false }
def FnExactClearBetweenSaid : Prop := fnExactClearBetweenRow.holds Try.pinned (OpenSpec.ofChange fnExactClearBetweenSpec)

/-- ITS FALSE NEIGHBOUR: 'it returns false'. Refute it at one input. -/
def fnExactClearBetweenWrong : ChangeSpec := { name := "fnExactClearBetween", fn := fun _ => fun
  | [d1, d2, d3] => { results := [.lit (.bool false)], args := [d1, d2, d3] }
  | _ => none }
def FnExactClearBetweenWrongFalsely : Prop := fnExactClearBetweenRow.holds Try.pinned (OpenSpec.ofChange fnExactClearBetweenWrong)

/-- 'laws.FnExactCovers': WHATEVER THE INPUT: true; the input reads as it did. -/
def fnExactCoversSpec : ChangeSpec := { name := "fnExactCovers", fn := fun _ => fun
  | [d1, d2] => { results := [.lit (.bool true)], args := [d1, d2] }
  | _ => none }
def fnExactCoversRow : OpenClaim := { program := "ytldmhlpfkclclaa", sum := "7d039dbd8150483ab72720c515ee92320c6e443a8532b62bfbd456e0b291eca8", func := "loop.example/g03006/laws.FnExactCovers", spec := "fnExactCovers", unfollowed := true, recurses := true, apart := false }
def FnExactCoversSaid : Prop := fnExactCoversRow.holds Try.pinned (OpenSpec.ofChange fnExactCoversSpec)

/-- ITS FALSE NEIGHBOUR: 'it returns false'. Refute it at one input. -/
def fnExactCoversWrong : ChangeSpec := { name := "fnExactCovers", fn := fun _ => fun
  | [d1, d2] => { results := [.lit (.bool false)], args := [d1, d2] }
  | _ => none }
def FnExactCoversWrongFalsely : Prop := fnExactCoversRow.holds Try.pinned (OpenSpec.ofChange fnExactCoversWrong)

/-- 'laws.FnExactIsFullStage': WHATEVER THE INPUT: true; the input reads as it did. -/
def fnExactIsFullStageSpec : ChangeSpec := { name := "fnExactIsFullStage", fn := fun _ => fun
  | [d1, d2] => { results := [.lit (.bool true)], args := [d1, d2] }
  | _ => none }
def fnExactIsFullStageRow : OpenClaim := { program := "ytldmhlpfkclclaa", sum := "7d039dbd8150483ab72720c515ee92320c6e443a8532b62bfbd456e0b291eca8", func := "loop.example/g03006/laws.FnExactIsFullStage", spec := "fnExactIsFullStage", inPlace := ["slices.overlaps[int]"], unfollowed := true, recurses := true, apart := false }
def FnExactIsFullStageSaid : Prop := fnExactIsFullStageRow.holds Try.pinned (OpenSpec.ofChange fnExactIsFullStageSpec)

/-- ITS FALSE NEIGHBOUR: 'it returns false'. Refute it at one input. -/
def fnExactIsFullStageWrong : ChangeSpec := { name := "fnExactIsFullStage", fn := fun _ => fun
  | [d1, d2] => { results := [.lit (.bool false)], args := [d1, d2] }
  | _ => none }
def FnExactIsFullStageWrongFalsely : Prop := fnExactIsFullStageRow.holds Try.pinned (OpenSpec.ofChange fnExactIsFullStageWrong)

/-- 'laws.FnExactAddToStage': WHATEVER THE INPUT: true; the input reads as it did. -/
def fnExactAddToStageSpec : ChangeSpec := { name := "fnExactAddToStage", fn := fun _ => fun
  | [d1, d2] => { results := [.lit (.bool true)], args := [d1, d2] }
  | _ => none }
def fnExactAddToStageRow : OpenClaim := { program := "ytldmhlpfkclclaa", sum := "7d039dbd8150483ab72720c515ee92320c6e443a8532b62bfbd456e0b291eca8", func := "loop.example/g03006/laws.FnExactAddToStage", spec := "fnExactAddToStage", inPlace := ["slices.overlaps[int]"], unfollowed := true, recurses := true, apart := false }
def FnExactAddToStageSaid : Prop := fnExactAddToStageRow.holds Try.pinned (OpenSpec.ofChange fnExactAddToStageSpec)

/-- ITS FALSE NEIGHBOUR: 'it returns false'. Refute it at one input. -/
def fnExactAddToStageWrong : ChangeSpec := { name := "fnExactAddToStage", fn := fun _ => fun
  | [d1, d2] => { results := [.lit (.bool false)], args := [d1, d2] }
  | _ => none }
def FnExactAddToStageWrongFalsely : Prop := fnExactAddToStageRow.holds Try.pinned (OpenSpec.ofChange fnExactAddToStageWrong)

/-- 'laws.FnExactCoverOf': WHATEVER THE INPUT: true; the input reads as it did. -/
def fnExactCoverOfSpec : ChangeSpec := { name := "fnExactCoverOf", fn := fun _ => fun
  | [d] => { results := [.lit (.bool true)], args := [d] }
  | _ => none }
def fnExactCoverOfRow : OpenClaim := { program := "ytldmhlpfkclclaa", sum := "7d039dbd8150483ab72720c515ee92320c6e443a8532b62bfbd456e0b291eca8", func := "loop.example/g03006/laws.FnExactCoverOf", spec := "fnExactCoverOf", inPlace := ["slices.overlaps[int]"], unfollowed := true, recurses := true, apart := false }
def FnExactCoverOfSaid : Prop := fnExactCoverOfRow.holds Try.pinned (OpenSpec.ofChange fnExactCoverOfSpec)

/-- ITS FALSE NEIGHBOUR: 'it returns false'. Refute it at one input. -/
def fnExactCoverOfWrong : ChangeSpec := { name := "fnExactCoverOf", fn := fun _ => fun
  | [d] => { results := [.lit (.bool false)], args := [d] }
  | _ => none }
def FnExactCoverOfWrongFalsely : Prop := fnExactCoverOfRow.holds Try.pinned (OpenSpec.ofChange fnExactCoverOfWrong)

/-- 'laws.FnConflicts': WHATEVER THE INPUT: true; the input reads as it did. -/
def fnConflictsSpec : ChangeSpec := { name := "fnConflicts", fn := fun _ => fun
  | [d] => { results := [.lit (.bool true)], args := [d] }
  | _ => none }
def fnConflictsRow : OpenClaim := { program := "ytldmhlpfkclclaa", sum := "7d039dbd8150483ab72720c515ee92320c6e443a8532b62bfbd456e0b291eca8", func := "loop.example/g03006/laws.FnConflicts", spec := "fnConflicts", unfollowed := true, recurses := true, apart := false }
def FnConflictsSaid : Prop := fnConflictsRow.holds Try.pinned (OpenSpec.ofChange fnConflictsSpec)

/-- ITS FALSE NEIGHBOUR: 'it returns false'. Refute it at one input. -/
def fnConflictsWrong : ChangeSpec := { name := "fnConflicts", fn := fun _ => fun
  | [d] => { results := [.lit (.bool false)], args := [d] }
  | _ => none }
def FnConflictsWrongFalsely : Prop := fnConflictsRow.holds Try.pinned (OpenSpec.ofChange fnConflictsWrong)

/-- 'laws.FnClearing': WHATEVER THE INPUT: true; the input reads as it did. -/
def fnClearingSpec : ChangeSpec := { name := "fnClearing", fn := fun _ => fun
  | [d] => { results := [.lit (.bool true)], args := [d] }
  | _ => none }
def fnClearingRow : OpenClaim := { program := "ytldmhlpfkclclaa", sum := "7d039dbd8150483ab72720c515ee92320c6e443a8532b62bfbd456e0b291eca8", func := "loop.example/g03006/laws.FnClearing", spec := "fnClearing", unfollowed := true, recurses := true, apart := false }
def FnClearingSaid : Prop := fnClearingRow.holds Try.pinned (OpenSpec.ofChange fnClearingSpec)

/-- ITS FALSE NEIGHBOUR: 'it returns false'. Refute it at one input. -/
def fnClearingWrong : ChangeSpec := { name := "fnClearing", fn := fun _ => fun
  | [d] => { results := [.lit (.bool false)], args := [d] }
  | _ => none }
def FnClearingWrongFalsely : Prop := fnClearingRow.holds Try.pinned (OpenSpec.ofChange fnClearingWrong)

/-- 'laws.FnStages': WHATEVER THE INPUT: true; the input reads as it did. -/
def fnStagesSpec : ChangeSpec := { name := "fnStages", fn := fun _ => fun
  | [d] => { results := [.lit (.bool true)], args := [d] }
  | _ => none }
def fnStagesRow : OpenClaim := { program := "ytldmhlpfkclclaa", sum := "7d039dbd8150483ab72720c515ee92320c6e443a8532b62bfbd456e0b291eca8", func := "loop.example/g03006/laws.FnStages", spec := "fnStages", inPlace := ["slices.overlaps[int]"], unfollowed := true, recurses := true, apart := false }
def FnStagesSaid : Prop := fnStagesRow.holds Try.pinned (OpenSpec.ofChange fnStagesSpec)

/-- ITS FALSE NEIGHBOUR: 'it returns false'. Refute it at one input. -/
def fnStagesWrong : ChangeSpec := { name := "fnStages", fn := fun _ => fun
  | [d] => { results := [.lit (.bool false)], args := [d] }
  | _ => none }
def FnStagesWrongFalsely : Prop := fnStagesRow.holds Try.pinned (OpenSpec.ofChange fnStagesWrong)

/-- 'laws.FnExactStagesOf': WHATEVER THE INPUT: true; the input reads as it did. -/
def fnExactStagesOfSpec : ChangeSpec := { name := "fnExactStagesOf", fn := fun _ => fun
  | [d] => { results := [.lit (.bool true)], args := [d] }
  | _ => none }
def fnExactStagesOfRow : OpenClaim := { program := "ytldmhlpfkclclaa", sum := "7d039dbd8150483ab72720c515ee92320c6e443a8532b62bfbd456e0b291eca8", func := "loop.example/g03006/laws.FnExactStagesOf", spec := "fnExactStagesOf", unfollowed := true, recurses := true, apart := false }
def FnExactStagesOfSaid : Prop := fnExactStagesOfRow.holds Try.pinned (OpenSpec.ofChange fnExactStagesOfSpec)

/-- ITS FALSE NEIGHBOUR: 'it returns false'. Refute it at one input. -/
def fnExactStagesOfWrong : ChangeSpec := { name := "fnExactStagesOf", fn := fun _ => fun
  | [d] => { results := [.lit (.bool false)], args := [d] }
  | _ => none }
def FnExactStagesOfWrongFalsely : Prop := fnExactStagesOfRow.holds Try.pinned (OpenSpec.ofChange fnExactStagesOfWrong)

/- THE SECOND FORM. 'bulk': how many values and letters a reading holds, each counted each time it is reached (what is shared counts as often as it is met; a slice's spare places count too). A statement '..UptoSaid' is the law's where the arguments, and the package variables that the reading takes, are together of bulk at most 1048576: NARROWER than '..Said'. Prove '..Said' where nothing that the law and all that it calls make is longer than what came in: it says more and counts as full. Else prove '..UptoSaid'. A law counts once. -/
mutual
def uptoBulk {H : Type} : DataW H → Nat
  | .lit (.string bytes) => bytes.length + 1
  | .lit _ => 1
  | .nil => 1
  | .ptr d => uptoBulk d + 1
  | .slice elems spare => uptoBulkAll elems + uptoBulkAll spare + 1
  | .agg parts => uptoBulkAll parts + 1
  | .iface _ d => uptoBulk d + 1
  | .map entries => uptoBulkEntries entries + 1
  | .held _ => 1
def uptoBulkAll {H : Type} : List (DataW H) → Nat
  | [] => 0
  | d :: r => uptoBulk d + uptoBulkAll r
def uptoBulkEntries {H : Type} : List (Lit × DataW H) → Nat
  | [] => 0
  | x :: r => uptoBulkEntry x + uptoBulkEntries r
def uptoBulkEntry {H : Type} : Lit × DataW H → Nat
  | (.string bytes, d) => bytes.length + uptoBulk d + 1
  | (_, d) => uptoBulk d + 1
 end
def uptoSmall : (H : Type) → List (DataW H) → Bool := fun _ ds => decide (uptoBulkAll ds ≤ 1048576)
def OpenSpec.upto (s : _root_.Go.ChangeSpec) : _root_.Go.OpenSpec := { _root_.Go.OpenSpec.ofChange s with cond := some uptoSmall }

/-- 'laws.FnExactFindPath', WHERE WHAT IT READS IS OF BULK AT MOST 1048576: true; the input reads as it did. -/
def fnExactFindPathUptoRow : OpenClaim := { program := "ytldmhlpfkclclaa", sum := "7d039dbd8150483ab72720c515ee92320c6e443a8532b62bfbd456e0b291eca8", func := "loop.example/g03006/laws.FnExactFindPath", spec := "fnExactFindPath", unfollowed := true, recurses := true, apart := false, narrowed := true }
def FnExactFindPathUptoSaid : Prop := fnExactFindPathUptoRow.holds Try.pinned (OpenSpec.upto fnExactFindPathSpec)

/-- 'laws.FnExactIsTogether', WHERE WHAT IT READS IS OF BULK AT MOST 1048576: true; the input reads as it did. -/
def fnExactIsTogetherUptoRow : OpenClaim := { program := "ytldmhlpfkclclaa", sum := "7d039dbd8150483ab72720c515ee92320c6e443a8532b62bfbd456e0b291eca8", func := "loop.example/g03006/laws.FnExactIsTogether", spec := "fnExactIsTogether", unfollowed := true, recurses := true, apart := false, narrowed := true }
def FnExactIsTogetherUptoSaid : Prop := fnExactIsTogetherUptoRow.holds Try.pinned (OpenSpec.upto fnExactIsTogetherSpec)

/-- 'laws.FnExactConflictsOf', WHERE WHAT IT READS IS OF BULK AT MOST 1048576: true; the input reads as it did. -/
def fnExactConflictsOfUptoRow : OpenClaim := { program := "ytldmhlpfkclclaa", sum := "7d039dbd8150483ab72720c515ee92320c6e443a8532b62bfbd456e0b291eca8", func := "loop.example/g03006/laws.FnExactConflictsOf", spec := "fnExactConflictsOf", unfollowed := true, recurses := true, apart := false, narrowed := true }
def FnExactConflictsOfUptoSaid : Prop := fnExactConflictsOfUptoRow.holds Try.pinned (OpenSpec.upto fnExactConflictsOfSpec)

/-- 'laws.FnExactClearBetween', WHERE WHAT IT READS IS OF BULK AT MOST 1048576: true; the input reads as it did. -/
def fnExactClearBetweenUptoRow : OpenClaim := { program := "ytldmhlpfkclclaa", sum := "7d039dbd8150483ab72720c515ee92320c6e443a8532b62bfbd456e0b291eca8", func := "loop.example/g03006/laws.FnExactClearBetween", spec := "fnExactClearBetween", unfollowed := true, recurses := true, apart := false, narrowed := true }
def FnExactClearBetweenUptoSaid : Prop := fnExactClearBetweenUptoRow.holds Try.pinned (OpenSpec.upto fnExactClearBetweenSpec)

/-- 'laws.FnExactCovers', WHERE WHAT IT READS IS OF BULK AT MOST 1048576: true; the input reads as it did. -/
def fnExactCoversUptoRow : OpenClaim := { program := "ytldmhlpfkclclaa", sum := "7d039dbd8150483ab72720c515ee92320c6e443a8532b62bfbd456e0b291eca8", func := "loop.example/g03006/laws.FnExactCovers", spec := "fnExactCovers", unfollowed := true, recurses := true, apart := false, narrowed := true }
def FnExactCoversUptoSaid : Prop := fnExactCoversUptoRow.holds Try.pinned (OpenSpec.upto fnExactCoversSpec)

/-- 'laws.FnExactIsFullStage', WHERE WHAT IT READS IS OF BULK AT MOST 1048576: true; the input reads as it did. -/
def fnExactIsFullStageUptoRow : OpenClaim := { program := "ytldmhlpfkclclaa", sum := "7d039dbd8150483ab72720c515ee92320c6e443a8532b62bfbd456e0b291eca8", func := "loop.example/g03006/laws.FnExactIsFullStage", spec := "fnExactIsFullStage", inPlace := ["slices.overlaps[int]"], unfollowed := true, recurses := true, apart := false, narrowed := true }
def FnExactIsFullStageUptoSaid : Prop := fnExactIsFullStageUptoRow.holds Try.pinned (OpenSpec.upto fnExactIsFullStageSpec)

/-- 'laws.FnExactAddToStage', WHERE WHAT IT READS IS OF BULK AT MOST 1048576: true; the input reads as it did. -/
def fnExactAddToStageUptoRow : OpenClaim := { program := "ytldmhlpfkclclaa", sum := "7d039dbd8150483ab72720c515ee92320c6e443a8532b62bfbd456e0b291eca8", func := "loop.example/g03006/laws.FnExactAddToStage", spec := "fnExactAddToStage", inPlace := ["slices.overlaps[int]"], unfollowed := true, recurses := true, apart := false, narrowed := true }
def FnExactAddToStageUptoSaid : Prop := fnExactAddToStageUptoRow.holds Try.pinned (OpenSpec.upto fnExactAddToStageSpec)

/-- 'laws.FnExactCoverOf', WHERE WHAT IT READS IS OF BULK AT MOST 1048576: true; the input reads as it did. -/
def fnExactCoverOfUptoRow : OpenClaim := { program := "ytldmhlpfkclclaa", sum := "7d039dbd8150483ab72720c515ee92320c6e443a8532b62bfbd456e0b291eca8", func := "loop.example/g03006/laws.FnExactCoverOf", spec := "fnExactCoverOf", inPlace := ["slices.overlaps[int]"], unfollowed := true, recurses := true, apart := false, narrowed := true }
def FnExactCoverOfUptoSaid : Prop := fnExactCoverOfUptoRow.holds Try.pinned (OpenSpec.upto fnExactCoverOfSpec)

/-- 'laws.FnConflicts', WHERE WHAT IT READS IS OF BULK AT MOST 1048576: true; the input reads as it did. -/
def fnConflictsUptoRow : OpenClaim := { program := "ytldmhlpfkclclaa", sum := "7d039dbd8150483ab72720c515ee92320c6e443a8532b62bfbd456e0b291eca8", func := "loop.example/g03006/laws.FnConflicts", spec := "fnConflicts", unfollowed := true, recurses := true, apart := false, narrowed := true }
def FnConflictsUptoSaid : Prop := fnConflictsUptoRow.holds Try.pinned (OpenSpec.upto fnConflictsSpec)

/-- 'laws.FnClearing', WHERE WHAT IT READS IS OF BULK AT MOST 1048576: true; the input reads as it did. -/
def fnClearingUptoRow : OpenClaim := { program := "ytldmhlpfkclclaa", sum := "7d039dbd8150483ab72720c515ee92320c6e443a8532b62bfbd456e0b291eca8", func := "loop.example/g03006/laws.FnClearing", spec := "fnClearing", unfollowed := true, recurses := true, apart := false, narrowed := true }
def FnClearingUptoSaid : Prop := fnClearingUptoRow.holds Try.pinned (OpenSpec.upto fnClearingSpec)

/-- 'laws.FnStages', WHERE WHAT IT READS IS OF BULK AT MOST 1048576: true; the input reads as it did. -/
def fnStagesUptoRow : OpenClaim := { program := "ytldmhlpfkclclaa", sum := "7d039dbd8150483ab72720c515ee92320c6e443a8532b62bfbd456e0b291eca8", func := "loop.example/g03006/laws.FnStages", spec := "fnStages", inPlace := ["slices.overlaps[int]"], unfollowed := true, recurses := true, apart := false, narrowed := true }
def FnStagesUptoSaid : Prop := fnStagesUptoRow.holds Try.pinned (OpenSpec.upto fnStagesSpec)

/-- 'laws.FnExactStagesOf', WHERE WHAT IT READS IS OF BULK AT MOST 1048576: true; the input reads as it did. -/
def fnExactStagesOfUptoRow : OpenClaim := { program := "ytldmhlpfkclclaa", sum := "7d039dbd8150483ab72720c515ee92320c6e443a8532b62bfbd456e0b291eca8", func := "loop.example/g03006/laws.FnExactStagesOf", spec := "fnExactStagesOf", unfollowed := true, recurses := true, apart := false, narrowed := true }
def FnExactStagesOfUptoSaid : Prop := fnExactStagesOfUptoRow.holds Try.pinned (OpenSpec.upto fnExactStagesOfSpec)

end Rows
end Go.Proofs.Ytldmhlpfkclclaa
