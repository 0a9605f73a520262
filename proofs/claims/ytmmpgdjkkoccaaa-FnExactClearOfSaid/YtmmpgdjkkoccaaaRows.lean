/-
  No cell of these rows narrows 'for every input' (looked for: loops, veiled, ifaces, maps, wideKeys, modest, calm, conditions, laid).
  DERIVED. THE GIVEN ROWS OF THIS SEAT. 12 by the template 'for every input the law returns true; each argument reads behind the call as it read before'; 0 by the template 'total and deterministic' (their statements: YtmmpgdjkkoccaaaTotals.lean).
  GIVEN WITH THE SEED: the statements are not yours to turn. If you find one false, say at which input.
  Laid BY PROGRAM, IN A SANDBOX (cutbox-rows.mjs): the forced cells as the released guide's own fill.sh prints them over the translation 3cb186fa0e79ee42… (all of the seat's roots in one cut). By AI agents, Wed Nov 11 2026. No macro, syntax, notation, axiom, sorry.
-/
import Derived.Test.YtmmpgdjkkoccaaaChecked
import GoSem.Claim
import GoSem.ClaimJoined
import GoSem.ClaimMapViews
import Derived.JoinedTies
import Derived.KernelRfl
namespace Go.Proofs.Ytmmpgdjkkoccaaa
/- THE CELL 'sum', in the pinned program and in every row, IS THE sha256 OF THE DUMP (.gsa) THAT YtmmpgdjkkoccaaaProg.lean LOADS. Nothing in Lean hashes anything: it is a label: what it is worth is what the hold of that sum in a sandbox is worth. -/
noncomputable def Try.pinned : Pinned := { name := "ytmmpgdjkkoccaaa", sum := "3cb186fa0e79ee425465b66fd3f7b4d2169f405d708574df94d49774520f4058", checked := Try.checked }
namespace Rows
def none {H : Type} : Left H := { results := [], args := [] }

/-- 'laws.FnExactConstants': WHATEVER THE INPUT: true; the input reads as it did. -/
def fnExactConstantsSpec : ChangeSpec := { name := "fnExactConstants", fn := fun _ => fun
  | [] => { results := [.lit (.bool true)], args := [] }
  | _ => none }
def fnExactConstantsRow : OpenClaim := { program := "ytmmpgdjkkoccaaa", sum := "3cb186fa0e79ee425465b66fd3f7b4d2169f405d708574df94d49774520f4058", func := "loop.example/g03006/laws.FnExactConstants", spec := "fnExactConstants", apart := false }
def FnExactConstantsSaid : Prop := fnExactConstantsRow.holds Try.pinned (OpenSpec.ofChange fnExactConstantsSpec)

/-- ITS FALSE NEIGHBOUR: 'it returns false'. Refute it at one input. -/
def fnExactConstantsWrong : ChangeSpec := { name := "fnExactConstants", fn := fun _ => fun
  | [] => { results := [.lit (.bool false)], args := [] }
  | _ => none }
def FnExactConstantsWrongFalsely : Prop := fnExactConstantsRow.holds Try.pinned (OpenSpec.ofChange fnExactConstantsWrong)

/-- 'laws.FnExactInRange': WHATEVER THE INPUT: true; the input reads as it did. -/
def fnExactInRangeSpec : ChangeSpec := { name := "fnExactInRange", fn := fun _ => fun
  | [d1, d2, d3] => { results := [.lit (.bool true)], args := [d1, d2, d3] }
  | _ => none }
def fnExactInRangeRow : OpenClaim := { program := "ytmmpgdjkkoccaaa", sum := "3cb186fa0e79ee425465b66fd3f7b4d2169f405d708574df94d49774520f4058", func := "loop.example/g03006/laws.FnExactInRange", spec := "fnExactInRange", apart := false }
def FnExactInRangeSaid : Prop := fnExactInRangeRow.holds Try.pinned (OpenSpec.ofChange fnExactInRangeSpec)

/-- ITS FALSE NEIGHBOUR: 'it returns false'. Refute it at one input. -/
def fnExactInRangeWrong : ChangeSpec := { name := "fnExactInRange", fn := fun _ => fun
  | [d1, d2, d3] => { results := [.lit (.bool false)], args := [d1, d2, d3] }
  | _ => none }
def FnExactInRangeWrongFalsely : Prop := fnExactInRangeRow.holds Try.pinned (OpenSpec.ofChange fnExactInRangeWrong)

/-- 'laws.FnExactIsValidKey': WHATEVER THE INPUT: true; the input reads as it did. -/
def fnExactIsValidKeySpec : ChangeSpec := { name := "fnExactIsValidKey", fn := fun _ => fun
  | [d] => { results := [.lit (.bool true)], args := [d] }
  | _ => none }
def fnExactIsValidKeyRow : OpenClaim := { program := "ytmmpgdjkkoccaaa", sum := "3cb186fa0e79ee425465b66fd3f7b4d2169f405d708574df94d49774520f4058", func := "loop.example/g03006/laws.FnExactIsValidKey", spec := "fnExactIsValidKey", apart := false }
def FnExactIsValidKeySaid : Prop := fnExactIsValidKeyRow.holds Try.pinned (OpenSpec.ofChange fnExactIsValidKeySpec)

/-- ITS FALSE NEIGHBOUR: 'it returns false'. Refute it at one input. -/
def fnExactIsValidKeyWrong : ChangeSpec := { name := "fnExactIsValidKey", fn := fun _ => fun
  | [d] => { results := [.lit (.bool false)], args := [d] }
  | _ => none }
def FnExactIsValidKeyWrongFalsely : Prop := fnExactIsValidKeyRow.holds Try.pinned (OpenSpec.ofChange fnExactIsValidKeyWrong)

/-- 'laws.FnExactMax': WHATEVER THE INPUT: true; the input reads as it did. -/
def fnExactMaxSpec : ChangeSpec := { name := "fnExactMax", fn := fun _ => fun
  | [d1, d2] => { results := [.lit (.bool true)], args := [d1, d2] }
  | _ => none }
def fnExactMaxRow : OpenClaim := { program := "ytmmpgdjkkoccaaa", sum := "3cb186fa0e79ee425465b66fd3f7b4d2169f405d708574df94d49774520f4058", func := "loop.example/g03006/laws.FnExactMax", spec := "fnExactMax", apart := false }
def FnExactMaxSaid : Prop := fnExactMaxRow.holds Try.pinned (OpenSpec.ofChange fnExactMaxSpec)

/-- ITS FALSE NEIGHBOUR: 'it returns false'. Refute it at one input. -/
def fnExactMaxWrong : ChangeSpec := { name := "fnExactMax", fn := fun _ => fun
  | [d1, d2] => { results := [.lit (.bool false)], args := [d1, d2] }
  | _ => none }
def FnExactMaxWrongFalsely : Prop := fnExactMaxRow.holds Try.pinned (OpenSpec.ofChange fnExactMaxWrong)

/-- 'laws.FnExactMin': WHATEVER THE INPUT: true; the input reads as it did. -/
def fnExactMinSpec : ChangeSpec := { name := "fnExactMin", fn := fun _ => fun
  | [d1, d2] => { results := [.lit (.bool true)], args := [d1, d2] }
  | _ => none }
def fnExactMinRow : OpenClaim := { program := "ytmmpgdjkkoccaaa", sum := "3cb186fa0e79ee425465b66fd3f7b4d2169f405d708574df94d49774520f4058", func := "loop.example/g03006/laws.FnExactMin", spec := "fnExactMin", apart := false }
def FnExactMinSaid : Prop := fnExactMinRow.holds Try.pinned (OpenSpec.ofChange fnExactMinSpec)

/-- ITS FALSE NEIGHBOUR: 'it returns false'. Refute it at one input. -/
def fnExactMinWrong : ChangeSpec := { name := "fnExactMin", fn := fun _ => fun
  | [d1, d2] => { results := [.lit (.bool false)], args := [d1, d2] }
  | _ => none }
def FnExactMinWrongFalsely : Prop := fnExactMinRow.holds Try.pinned (OpenSpec.ofChange fnExactMinWrong)

/-- 'laws.FnExactCeilDiv': WHATEVER THE INPUT: true; the input reads as it did. -/
def fnExactCeilDivSpec : ChangeSpec := { name := "fnExactCeilDiv", fn := fun _ => fun
  | [d1, d2] => { results := [.lit (.bool true)], args := [d1, d2] }
  | _ => none }
def fnExactCeilDivRow : OpenClaim := { program := "ytmmpgdjkkoccaaa", sum := "3cb186fa0e79ee425465b66fd3f7b4d2169f405d708574df94d49774520f4058", func := "loop.example/g03006/laws.FnExactCeilDiv", spec := "fnExactCeilDiv", apart := false }
def FnExactCeilDivSaid : Prop := fnExactCeilDivRow.holds Try.pinned (OpenSpec.ofChange fnExactCeilDivSpec)

/-- ITS FALSE NEIGHBOUR: 'it returns false'. Refute it at one input. -/
def fnExactCeilDivWrong : ChangeSpec := { name := "fnExactCeilDiv", fn := fun _ => fun
  | [d1, d2] => { results := [.lit (.bool false)], args := [d1, d2] }
  | _ => none }
def FnExactCeilDivWrongFalsely : Prop := fnExactCeilDivRow.holds Try.pinned (OpenSpec.ofChange fnExactCeilDivWrong)

/-- 'laws.FnExactInPlace': WHATEVER THE INPUT: true; the input reads as it did. -/
def fnExactInPlaceSpec : ChangeSpec := { name := "fnExactInPlace", fn := fun _ => fun
  | [d] => { results := [.lit (.bool true)], args := [d] }
  | _ => none }
def fnExactInPlaceRow : OpenClaim := { program := "ytmmpgdjkkoccaaa", sum := "3cb186fa0e79ee425465b66fd3f7b4d2169f405d708574df94d49774520f4058", func := "loop.example/g03006/laws.FnExactInPlace", spec := "fnExactInPlace", apart := false }
def FnExactInPlaceSaid : Prop := fnExactInPlaceRow.holds Try.pinned (OpenSpec.ofChange fnExactInPlaceSpec)

/-- ITS FALSE NEIGHBOUR: 'it returns false'. Refute it at one input. -/
def fnExactInPlaceWrong : ChangeSpec := { name := "fnExactInPlace", fn := fun _ => fun
  | [d] => { results := [.lit (.bool false)], args := [d] }
  | _ => none }
def FnExactInPlaceWrongFalsely : Prop := fnExactInPlaceRow.holds Try.pinned (OpenSpec.ofChange fnExactInPlaceWrong)

/-- 'laws.FnExactOutPlace': WHATEVER THE INPUT: true; the input reads as it did. -/
def fnExactOutPlaceSpec : ChangeSpec := { name := "fnExactOutPlace", fn := fun _ => fun
  | [d] => { results := [.lit (.bool true)], args := [d] }
  | _ => none }
def fnExactOutPlaceRow : OpenClaim := { program := "ytmmpgdjkkoccaaa", sum := "3cb186fa0e79ee425465b66fd3f7b4d2169f405d708574df94d49774520f4058", func := "loop.example/g03006/laws.FnExactOutPlace", spec := "fnExactOutPlace", apart := false }
def FnExactOutPlaceSaid : Prop := fnExactOutPlaceRow.holds Try.pinned (OpenSpec.ofChange fnExactOutPlaceSpec)

/-- ITS FALSE NEIGHBOUR: 'it returns false'. Refute it at one input. -/
def fnExactOutPlaceWrong : ChangeSpec := { name := "fnExactOutPlace", fn := fun _ => fun
  | [d] => { results := [.lit (.bool false)], args := [d] }
  | _ => none }
def FnExactOutPlaceWrongFalsely : Prop := fnExactOutPlaceRow.holds Try.pinned (OpenSpec.ofChange fnExactOutPlaceWrong)

/-- 'laws.FnExactIsPath': WHATEVER THE INPUT: true; the input reads as it did. -/
def fnExactIsPathSpec : ChangeSpec := { name := "fnExactIsPath", fn := fun _ => fun
  | [d] => { results := [.lit (.bool true)], args := [d] }
  | _ => none }
def fnExactIsPathRow : OpenClaim := { program := "ytmmpgdjkkoccaaa", sum := "3cb186fa0e79ee425465b66fd3f7b4d2169f405d708574df94d49774520f4058", func := "loop.example/g03006/laws.FnExactIsPath", spec := "fnExactIsPath", apart := false }
def FnExactIsPathSaid : Prop := fnExactIsPathRow.holds Try.pinned (OpenSpec.ofChange fnExactIsPathSpec)

/-- ITS FALSE NEIGHBOUR: 'it returns false'. Refute it at one input. -/
def fnExactIsPathWrong : ChangeSpec := { name := "fnExactIsPath", fn := fun _ => fun
  | [d] => { results := [.lit (.bool false)], args := [d] }
  | _ => none }
def FnExactIsPathWrongFalsely : Prop := fnExactIsPathRow.holds Try.pinned (OpenSpec.ofChange fnExactIsPathWrong)

/-- 'laws.FnExactMod': WHATEVER THE INPUT: true; the input reads as it did. -/
def fnExactModSpec : ChangeSpec := { name := "fnExactMod", fn := fun _ => fun
  | [d1, d2] => { results := [.lit (.bool true)], args := [d1, d2] }
  | _ => none }
def fnExactModRow : OpenClaim := { program := "ytmmpgdjkkoccaaa", sum := "3cb186fa0e79ee425465b66fd3f7b4d2169f405d708574df94d49774520f4058", func := "loop.example/g03006/laws.FnExactMod", spec := "fnExactMod", apart := false }
def FnExactModSaid : Prop := fnExactModRow.holds Try.pinned (OpenSpec.ofChange fnExactModSpec)

/-- ITS FALSE NEIGHBOUR: 'it returns false'. Refute it at one input. -/
def fnExactModWrong : ChangeSpec := { name := "fnExactMod", fn := fun _ => fun
  | [d1, d2] => { results := [.lit (.bool false)], args := [d1, d2] }
  | _ => none }
def FnExactModWrongFalsely : Prop := fnExactModRow.holds Try.pinned (OpenSpec.ofChange fnExactModWrong)

/-- 'laws.FnExactInterleave': WHATEVER THE INPUT: true; the input reads as it did. -/
def fnExactInterleaveSpec : ChangeSpec := { name := "fnExactInterleave", fn := fun _ => fun
  | [d1, d2, d3, d4] => { results := [.lit (.bool true)], args := [d1, d2, d3, d4] }
  | _ => none }
def fnExactInterleaveRow : OpenClaim := { program := "ytmmpgdjkkoccaaa", sum := "3cb186fa0e79ee425465b66fd3f7b4d2169f405d708574df94d49774520f4058", func := "loop.example/g03006/laws.FnExactInterleave", spec := "fnExactInterleave", apart := false }
def FnExactInterleaveSaid : Prop := fnExactInterleaveRow.holds Try.pinned (OpenSpec.ofChange fnExactInterleaveSpec)

/-- ITS FALSE NEIGHBOUR: 'it returns false'. Refute it at one input. -/
def fnExactInterleaveWrong : ChangeSpec := { name := "fnExactInterleave", fn := fun _ => fun
  | [d1, d2, d3, d4] => { results := [.lit (.bool false)], args := [d1, d2, d3, d4] }
  | _ => none }
def FnExactInterleaveWrongFalsely : Prop := fnExactInterleaveRow.holds Try.pinned (OpenSpec.ofChange fnExactInterleaveWrong)

/-- 'laws.FnExactClearOf': WHATEVER THE INPUT: true; the input reads as it did. -/
def fnExactClearOfSpec : ChangeSpec := { name := "fnExactClearOf", fn := fun _ => fun
  | [d] => { results := [.lit (.bool true)], args := [d] }
  | _ => none }
def fnExactClearOfRow : OpenClaim := { program := "ytmmpgdjkkoccaaa", sum := "3cb186fa0e79ee425465b66fd3f7b4d2169f405d708574df94d49774520f4058", func := "loop.example/g03006/laws.FnExactClearOf", spec := "fnExactClearOf", apart := false }
def FnExactClearOfSaid : Prop := fnExactClearOfRow.holds Try.pinned (OpenSpec.ofChange fnExactClearOfSpec)

/-- ITS FALSE NEIGHBOUR: 'it returns false'. Refute it at one input. -/
def fnExactClearOfWrong : ChangeSpec := { name := "fnExactClearOf", fn := fun _ => fun
  | [d] => { results := [.lit (.bool false)], args := [d] }
  | _ => none }
def FnExactClearOfWrongFalsely : Prop := fnExactClearOfRow.holds Try.pinned (OpenSpec.ofChange fnExactClearOfWrong)

/- THE SECOND FORM. 'bulk': how many values and letters a reading holds, each counted each time it is reached (what is shared counts as often as it is met; a slice's spare places count too). A statement '..UptoSaid' is the law's where the arguments, and the package variables that the reading takes, are together of bulk at most 1048576: NARROWER than '..Said'. Prove '..Said' where nothing that the law and all that it calls make is longer than what came in: it says more and counts as full. Else prove '..UptoSaid'. A law counts once. -/
mutual
def uptoBulk {H : Type} : DataW H → Nat
  | .lit (.string bytes) => bytes.length + 1
  | .lit _ => 1
  | .nil => 1
  | .ptr d => uptoBulk d + 1
  | .slice elems spare => uptoBulkAll elems + uptoBulkAll spare + 1
  | .agg parts => uptoBulkAll parts + 1
  | .iface _ d => uptoBulk d + 1
  | .map entries => uptoBulkEntries entries + 1
  | .held _ => 1
def uptoBulkAll {H : Type} : List (DataW H) → Nat
  | [] => 0
  | d :: r => uptoBulk d + uptoBulkAll r
def uptoBulkEntries {H : Type} : List (Lit × DataW H) → Nat
  | [] => 0
  | x :: r => uptoBulkEntry x + uptoBulkEntries r
def uptoBulkEntry {H : Type} : Lit × DataW H → Nat
  | (.string bytes, d) => bytes.length + uptoBulk d + 1
  | (_, d) => uptoBulk d + 1
 end
def uptoSmall : (H : Type) → List (DataW H) → Bool := fun _ ds => decide (uptoBulkAll ds ≤ 1048576)
def OpenSpec.upto (s : _root_.Go.ChangeSpec) : _root_.Go.OpenSpec := { _root_.Go.OpenSpec.ofChange s with cond := some uptoSmall }

/-- 'laws.FnExactConstants', WHERE WHAT IT READS IS OF BULK AT MOST 1048576: true; the input reads as it did. -/
def fnExactConstantsUptoRow : OpenClaim := { program := "ytmmpgdjkkoccaaa", sum := "3cb186fa0e79ee425465b66fd3f7b4d2169f405d708574df94d49774520f4058", func := "loop.example/g03006/laws.FnExactConstants", spec := "fnExactConstants", apart := false, narrowed := true }
def FnExactConstantsUptoSaid : Prop := fnExactConstantsUptoRow.holds Try.pinned (OpenSpec.upto fnExactConstantsSpec)

/-- 'laws.FnExactInRange', WHERE WHAT IT READS IS OF BULK AT MOST 1048576: true; the input reads as it did. -/
def fnExactInRangeUptoRow : OpenClaim := { program := "ytmmpgdjkkoccaaa", sum := "3cb186fa0e79ee425465b66fd3f7b4d2169f405d708574df94d49774520f4058", func := "loop.example/g03006/laws.FnExactInRange", spec := "fnExactInRange", apart := false, narrowed := true }
def FnExactInRangeUptoSaid : Prop := fnExactInRangeUptoRow.holds Try.pinned (OpenSpec.upto fnExactInRangeSpec)

/-- 'laws.FnExactIsValidKey', WHERE WHAT IT READS IS OF BULK AT MOST 1048576: true; the input reads as it did. -/
def fnExactIsValidKeyUptoRow : OpenClaim := { program := "ytmmpgdjkkoccaaa", sum := "3cb186fa0e79ee425465b66fd3f7b4d2169f405d708574df94d49774520f4058", func := "loop.example/g03006/laws.FnExactIsValidKey", spec := "fnExactIsValidKey", apart := false, narrowed := true }
def FnExactIsValidKeyUptoSaid : Prop := fnExactIsValidKeyUptoRow.holds Try.pinned (OpenSpec.upto fnExactIsValidKeySpec)

/-- 'laws.FnExactMax', WHERE WHAT IT READS IS OF BULK AT MOST 1048576: true; the input reads as it did. -/
def fnExactMaxUptoRow : OpenClaim := { program := "ytmmpgdjkkoccaaa", sum := "3cb186fa0e79ee425465b66fd3f7b4d2169f405d708574df94d49774520f4058", func := "loop.example/g03006/laws.FnExactMax", spec := "fnExactMax", apart := false, narrowed := true }
def FnExactMaxUptoSaid : Prop := fnExactMaxUptoRow.holds Try.pinned (OpenSpec.upto fnExactMaxSpec)

/-- 'laws.FnExactMin', WHERE WHAT IT READS IS OF BULK AT MOST 1048576: true; the input reads as it did. -/
def fnExactMinUptoRow : OpenClaim := { program := "ytmmpgdjkkoccaaa", sum := "3cb186fa0e79ee425465b66fd3f7b4d2169f405d708574df94d49774520f4058", func := "loop.example/g03006/laws.FnExactMin", spec := "fnExactMin", apart := false, narrowed := true }
def FnExactMinUptoSaid : Prop := fnExactMinUptoRow.holds Try.pinned (OpenSpec.upto fnExactMinSpec)

/-- 'laws.FnExactCeilDiv', WHERE WHAT IT READS IS OF BULK AT MOST 1048576: true; the input reads as it did. -/
def fnExactCeilDivUptoRow : OpenClaim := { program := "ytmmpgdjkkoccaaa", sum := "3cb186fa0e79ee425465b66fd3f7b4d2169f405d708574df94d49774520f4058", func := "loop.example/g03006/laws.FnExactCeilDiv", spec := "fnExactCeilDiv", apart := false, narrowed := true }
def FnExactCeilDivUptoSaid : Prop := fnExactCeilDivUptoRow.holds Try.pinned (OpenSpec.upto fnExactCeilDivSpec)

/-- 'laws.FnExactInPlace', WHERE WHAT IT READS IS OF BULK AT MOST 1048576: true; the input reads as it did. -/
def fnExactInPlaceUptoRow : OpenClaim := { program := "ytmmpgdjkkoccaaa", sum := "3cb186fa0e79ee425465b66fd3f7b4d2169f405d708574df94d49774520f4058", func := "loop.example/g03006/laws.FnExactInPlace", spec := "fnExactInPlace", apart := false, narrowed := true }
def FnExactInPlaceUptoSaid : Prop := fnExactInPlaceUptoRow.holds Try.pinned (OpenSpec.upto fnExactInPlaceSpec)

/-- 'laws.FnExactOutPlace', WHERE WHAT IT READS IS OF BULK AT MOST 1048576: true; the input reads as it did. -/
def fnExactOutPlaceUptoRow : OpenClaim := { program := "ytmmpgdjkkoccaaa", sum := "3cb186fa0e79ee425465b66fd3f7b4d2169f405d708574df94d49774520f4058", func := "loop.example/g03006/laws.FnExactOutPlace", spec := "fnExactOutPlace", apart := false, narrowed := true }
def FnExactOutPlaceUptoSaid : Prop := fnExactOutPlaceUptoRow.holds Try.pinned (OpenSpec.upto fnExactOutPlaceSpec)

/-- 'laws.FnExactIsPath', WHERE WHAT IT READS IS OF BULK AT MOST 1048576: true; the input reads as it did. -/
def fnExactIsPathUptoRow : OpenClaim := { program := "ytmmpgdjkkoccaaa", sum := "3cb186fa0e79ee425465b66fd3f7b4d2169f405d708574df94d49774520f4058", func := "loop.example/g03006/laws.FnExactIsPath", spec := "fnExactIsPath", apart := false, narrowed := true }
def FnExactIsPathUptoSaid : Prop := fnExactIsPathUptoRow.holds Try.pinned (OpenSpec.upto fnExactIsPathSpec)

/-- 'laws.FnExactMod', WHERE WHAT IT READS IS OF BULK AT MOST 1048576: true; the input reads as it did. -/
def fnExactModUptoRow : OpenClaim := { program := "ytmmpgdjkkoccaaa", sum := "3cb186fa0e79ee425465b66fd3f7b4d2169f405d708574df94d49774520f4058", func := "loop.example/g03006/laws.FnExactMod", spec := "fnExactMod", apart := false, narrowed := true }
def FnExactModUptoSaid : Prop := fnExactModUptoRow.holds Try.pinned (OpenSpec.upto fnExactModSpec)

/-- 'laws.FnExactInterleave', WHERE WHAT IT READS IS OF BULK AT MOST 1048576: true; the input reads as it did. -/
def fnExactInterleaveUptoRow : OpenClaim := { program := "ytmmpgdjkkoccaaa", sum := "3cb186fa0e79ee425465b66fd3f7b4d2169f405d708574df94d49774520f4058", func := "loop.example/g03006/laws.FnExactInterleave", spec := "fnExactInterleave", apart := false, narrowed := true }
def FnExactInterleaveUptoSaid : Prop := fnExactInterleaveUptoRow.holds Try.pinned (OpenSpec.upto fnExactInterleaveSpec)

/-- 'laws.FnExactClearOf', WHERE WHAT IT READS IS OF BULK AT MOST 1048576: true; the input reads as it did. -/
def fnExactClearOfUptoRow : OpenClaim := { program := "ytmmpgdjkkoccaaa", sum := "3cb186fa0e79ee425465b66fd3f7b4d2169f405d708574df94d49774520f4058", func := "loop.example/g03006/laws.FnExactClearOf", spec := "fnExactClearOf", apart := false, narrowed := true }
def FnExactClearOfUptoSaid : Prop := fnExactClearOfUptoRow.holds Try.pinned (OpenSpec.upto fnExactClearOfSpec)

end Rows
end Go.Proofs.Ytmmpgdjkkoccaaa
