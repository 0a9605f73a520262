/-
  No cell of these rows narrows 'for every input' (looked for: loops, veiled, ifaces, maps, wideKeys, modest, calm, conditions, laid).
  DERIVED. THE GIVEN ROWS OF THIS SEAT. 12 by the template 'for every input the law returns true; each argument reads behind the call as it read before'; 0 by the template 'total and deterministic' (their statements: YtepicmocmioiiaaTotals.lean).
  GIVEN WITH THE SEED: the statements are not yours to turn. If you find one false, say at which input.
  Laid BY PROGRAM, IN A SANDBOX (cutbox-rows.mjs): the forced cells as the released guide's own fill.sh prints them over the translation e1e1392dde49248f… (all of the seat's roots in one cut). By AI agents, Wed Nov 11 2026. No macro, syntax, notation, axiom, sorry.
-/
import Derived.Test.YtepicmocmioiiaaChecked
import GoSem.Claim
import GoSem.ClaimJoined
import GoSem.ClaimMapViews
import Derived.JoinedTies
import Derived.KernelRfl
namespace Go.Proofs.Ytepicmocmioiiaa
/- THE CELL 'sum', in the pinned program and in every row, IS THE sha256 OF THE DUMP (.gsa) THAT YtepicmocmioiiaaProg.lean LOADS. Nothing in Lean hashes anything: it is a label: what it is worth is what the hold of that sum in a sandbox is worth. -/
noncomputable def Try.pinned : Pinned := { name := "ytepicmocmioiiaa", sum := "e1e1392dde49248ffd6e8c4465d1c4730c147067e297259f8b365303d3a24be8", checked := Try.checked }
namespace Rows
def none {H : Type} : Left H := { results := [], args := [] }

/-- 'laws.FnExactCloses': WHATEVER THE INPUT: true; the input reads as it did. -/
def fnExactClosesSpec : ChangeSpec := { name := "fnExactCloses", fn := fun _ => fun
  | [d1, d2] => { results := [.lit (.bool true)], args := [d1, d2] }
  | _ => none }
def fnExactClosesRow : OpenClaim := { program := "ytepicmocmioiiaa", sum := "e1e1392dde49248ffd6e8c4465d1c4730c147067e297259f8b365303d3a24be8", func := "loop.example/g03006/laws.FnExactCloses", spec := "fnExactCloses", apart := false }
def FnExactClosesSaid : Prop := fnExactClosesRow.holds Try.pinned (OpenSpec.ofChange fnExactClosesSpec)

/-- ITS FALSE NEIGHBOUR: 'it returns false'. Refute it at one input. -/
def fnExactClosesWrong : ChangeSpec := { name := "fnExactCloses", fn := fun _ => fun
  | [d1, d2] => { results := [.lit (.bool false)], args := [d1, d2] }
  | _ => none }
def FnExactClosesWrongFalsely : Prop := fnExactClosesRow.holds Try.pinned (OpenSpec.ofChange fnExactClosesWrong)

/-- 'laws.FnExactStaysOpen': WHATEVER THE INPUT: true; the input reads as it did. -/
def fnExactStaysOpenSpec : ChangeSpec := { name := "fnExactStaysOpen", fn := fun _ => fun
  | [d1, d2] => { results := [.lit (.bool true)], args := [d1, d2] }
  | _ => none }
def fnExactStaysOpenRow : OpenClaim := { program := "ytepicmocmioiiaa", sum := "e1e1392dde49248ffd6e8c4465d1c4730c147067e297259f8b365303d3a24be8", func := "loop.example/g03006/laws.FnExactStaysOpen", spec := "fnExactStaysOpen", apart := false }
def FnExactStaysOpenSaid : Prop := fnExactStaysOpenRow.holds Try.pinned (OpenSpec.ofChange fnExactStaysOpenSpec)

/-- ITS FALSE NEIGHBOUR: 'it returns false'. Refute it at one input. -/
def fnExactStaysOpenWrong : ChangeSpec := { name := "fnExactStaysOpen", fn := fun _ => fun
  | [d1, d2] => { results := [.lit (.bool false)], args := [d1, d2] }
  | _ => none }
def FnExactStaysOpenWrongFalsely : Prop := fnExactStaysOpenRow.holds Try.pinned (OpenSpec.ofChange fnExactStaysOpenWrong)

/-- 'laws.FnExactArePaths': WHATEVER THE INPUT: true; the input reads as it did. -/
def fnExactArePathsSpec : ChangeSpec := { name := "fnExactArePaths", fn := fun _ => fun
  | [d] => { results := [.lit (.bool true)], args := [d] }
  | _ => none }
def fnExactArePathsRow : OpenClaim := { program := "ytepicmocmioiiaa", sum := "e1e1392dde49248ffd6e8c4465d1c4730c147067e297259f8b365303d3a24be8", func := "loop.example/g03006/laws.FnExactArePaths", spec := "fnExactArePaths", apart := false }
def FnExactArePathsSaid : Prop := fnExactArePathsRow.holds Try.pinned (OpenSpec.ofChange fnExactArePathsSpec)

/-- ITS FALSE NEIGHBOUR: 'it returns false'. Refute it at one input. -/
def fnExactArePathsWrong : ChangeSpec := { name := "fnExactArePaths", fn := fun _ => fun
  | [d] => { results := [.lit (.bool false)], args := [d] }
  | _ => none }
def FnExactArePathsWrongFalsely : Prop := fnExactArePathsRow.holds Try.pinned (OpenSpec.ofChange fnExactArePathsWrong)

/-- 'laws.FnExactReadBytes': WHATEVER THE INPUT: true; the input reads as it did. -/
def fnExactReadBytesSpec : ChangeSpec := { name := "fnExactReadBytes", fn := fun _ => fun
  | [d1, d2, d3] => { results := [.lit (.bool true)], args := [d1, d2, d3] }
  | _ => none }
def fnExactReadBytesRow : OpenClaim := { program := "ytepicmocmioiiaa", sum := "e1e1392dde49248ffd6e8c4465d1c4730c147067e297259f8b365303d3a24be8", func := "loop.example/g03006/laws.FnExactReadBytes", spec := "fnExactReadBytes", apart := false }
def FnExactReadBytesSaid : Prop := fnExactReadBytesRow.holds Try.pinned (OpenSpec.ofChange fnExactReadBytesSpec)

/-- ITS FALSE NEIGHBOUR: 'it returns false'. Refute it at one input. -/
def fnExactReadBytesWrong : ChangeSpec := { name := "fnExactReadBytes", fn := fun _ => fun
  | [d1, d2, d3] => { results := [.lit (.bool false)], args := [d1, d2, d3] }
  | _ => none }
def FnExactReadBytesWrongFalsely : Prop := fnExactReadBytesRow.holds Try.pinned (OpenSpec.ofChange fnExactReadBytesWrong)

/-- 'laws.FnExactEncodeInts': WHATEVER THE INPUT: true; the input reads as it did. -/
def fnExactEncodeIntsSpec : ChangeSpec := { name := "fnExactEncodeInts", fn := fun _ => fun
  | [d] => { results := [.lit (.bool true)], args := [d] }
  | _ => none }
def fnExactEncodeIntsRow : OpenClaim := { program := "ytepicmocmioiiaa", sum := "e1e1392dde49248ffd6e8c4465d1c4730c147067e297259f8b365303d3a24be8", func := "loop.example/g03006/laws.FnExactEncodeInts", spec := "fnExactEncodeInts", apart := false }
def FnExactEncodeIntsSaid : Prop := fnExactEncodeIntsRow.holds Try.pinned (OpenSpec.ofChange fnExactEncodeIntsSpec)

/-- ITS FALSE NEIGHBOUR: 'it returns false'. Refute it at one input. -/
def fnExactEncodeIntsWrong : ChangeSpec := { name := "fnExactEncodeInts", fn := fun _ => fun
  | [d] => { results := [.lit (.bool false)], args := [d] }
  | _ => none }
def FnExactEncodeIntsWrongFalsely : Prop := fnExactEncodeIntsRow.holds Try.pinned (OpenSpec.ofChange fnExactEncodeIntsWrong)

/-- 'laws.FnCipher': WHATEVER THE INPUT: true; the input reads as it did. -/
def fnCipherSpec : ChangeSpec := { name := "fnCipher", fn := fun _ => fun
  | [d] => { results := [.lit (.bool true)], args := [d] }
  | _ => none }
def fnCipherRow : OpenClaim := { program := "ytepicmocmioiiaa", sum := "e1e1392dde49248ffd6e8c4465d1c4730c147067e297259f8b365303d3a24be8", func := "loop.example/g03006/laws.FnCipher", spec := "fnCipher", apart := false }
def FnCipherSaid : Prop := fnCipherRow.holds Try.pinned (OpenSpec.ofChange fnCipherSpec)

/-- ITS FALSE NEIGHBOUR: 'it returns false'. Refute it at one input. -/
def fnCipherWrong : ChangeSpec := { name := "fnCipher", fn := fun _ => fun
  | [d] => { results := [.lit (.bool false)], args := [d] }
  | _ => none }
def FnCipherWrongFalsely : Prop := fnCipherRow.holds Try.pinned (OpenSpec.ofChange fnCipherWrong)

/-- 'laws.FnExactConflict': WHATEVER THE INPUT: true; the input reads as it did. -/
def fnExactConflictSpec : ChangeSpec := { name := "fnExactConflict", fn := fun _ => fun
  | [d1, d2] => { results := [.lit (.bool true)], args := [d1, d2] }
  | _ => none }
def fnExactConflictRow : OpenClaim := { program := "ytepicmocmioiiaa", sum := "e1e1392dde49248ffd6e8c4465d1c4730c147067e297259f8b365303d3a24be8", func := "loop.example/g03006/laws.FnExactConflict", spec := "fnExactConflict", apart := false }
def FnExactConflictSaid : Prop := fnExactConflictRow.holds Try.pinned (OpenSpec.ofChange fnExactConflictSpec)

/-- ITS FALSE NEIGHBOUR: 'it returns false'. Refute it at one input. -/
def fnExactConflictWrong : ChangeSpec := { name := "fnExactConflict", fn := fun _ => fun
  | [d1, d2] => { results := [.lit (.bool false)], args := [d1, d2] }
  | _ => none }
def FnExactConflictWrongFalsely : Prop := fnExactConflictRow.holds Try.pinned (OpenSpec.ofChange fnExactConflictWrong)

/-- 'laws.FnKeyedHash': WHATEVER THE INPUT: true; the input reads as it did. -/
def fnKeyedHashSpec : ChangeSpec := { name := "fnKeyedHash", fn := fun _ => fun
  | [d] => { results := [.lit (.bool true)], args := [d] }
  | _ => none }
def fnKeyedHashRow : OpenClaim := { program := "ytepicmocmioiiaa", sum := "e1e1392dde49248ffd6e8c4465d1c4730c147067e297259f8b365303d3a24be8", func := "loop.example/g03006/laws.FnKeyedHash", spec := "fnKeyedHash", apart := false }
def FnKeyedHashSaid : Prop := fnKeyedHashRow.holds Try.pinned (OpenSpec.ofChange fnKeyedHashSpec)

/-- ITS FALSE NEIGHBOUR: 'it returns false'. Refute it at one input. -/
def fnKeyedHashWrong : ChangeSpec := { name := "fnKeyedHash", fn := fun _ => fun
  | [d] => { results := [.lit (.bool false)], args := [d] }
  | _ => none }
def FnKeyedHashWrongFalsely : Prop := fnKeyedHashRow.holds Try.pinned (OpenSpec.ofChange fnKeyedHashWrong)

/-- 'laws.FnExactLongestClear': WHATEVER THE INPUT: true; the input reads as it did. -/
def fnExactLongestClearSpec : ChangeSpec := { name := "fnExactLongestClear", fn := fun _ => fun
  | [d] => { results := [.lit (.bool true)], args := [d] }
  | _ => none }
def fnExactLongestClearRow : OpenClaim := { program := "ytepicmocmioiiaa", sum := "e1e1392dde49248ffd6e8c4465d1c4730c147067e297259f8b365303d3a24be8", func := "loop.example/g03006/laws.FnExactLongestClear", spec := "fnExactLongestClear", apart := false }
def FnExactLongestClearSaid : Prop := fnExactLongestClearRow.holds Try.pinned (OpenSpec.ofChange fnExactLongestClearSpec)

/-- ITS FALSE NEIGHBOUR: 'it returns false'. Refute it at one input. -/
def fnExactLongestClearWrong : ChangeSpec := { name := "fnExactLongestClear", fn := fun _ => fun
  | [d] => { results := [.lit (.bool false)], args := [d] }
  | _ => none }
def FnExactLongestClearWrongFalsely : Prop := fnExactLongestClearRow.holds Try.pinned (OpenSpec.ofChange fnExactLongestClearWrong)

/-- 'laws.FnExactDecodeInts': WHATEVER THE INPUT: true; the input reads as it did. -/
def fnExactDecodeIntsSpec : ChangeSpec := { name := "fnExactDecodeInts", fn := fun _ => fun
  | [d1, d2, d3] => { results := [.lit (.bool true)], args := [d1, d2, d3] }
  | _ => none }
def fnExactDecodeIntsRow : OpenClaim := { program := "ytepicmocmioiiaa", sum := "e1e1392dde49248ffd6e8c4465d1c4730c147067e297259f8b365303d3a24be8", func := "loop.example/g03006/laws.FnExactDecodeInts", spec := "fnExactDecodeInts", apart := false }
def FnExactDecodeIntsSaid : Prop := fnExactDecodeIntsRow.holds Try.pinned (OpenSpec.ofChange fnExactDecodeIntsSpec)

/-- ITS FALSE NEIGHBOUR: 'it returns false'. Refute it at one input. -/
def fnExactDecodeIntsWrong : ChangeSpec := { name := "fnExactDecodeInts", fn := fun _ => fun
  | [d1, d2, d3] => { results := [.lit (.bool false)], args := [d1, d2, d3] }
  | _ => none }
def FnExactDecodeIntsWrongFalsely : Prop := fnExactDecodeIntsRow.holds Try.pinned (OpenSpec.ofChange fnExactDecodeIntsWrong)

/-- 'laws.FnByteStrings': WHATEVER THE INPUT: true; the input reads as it did. -/
def fnByteStringsSpec : ChangeSpec := { name := "fnByteStrings", fn := fun _ => fun
  | [d] => { results := [.lit (.bool true)], args := [d] }
  | _ => none }
def fnByteStringsRow : OpenClaim := { program := "ytepicmocmioiiaa", sum := "e1e1392dde49248ffd6e8c4465d1c4730c147067e297259f8b365303d3a24be8", func := "loop.example/g03006/laws.FnByteStrings", spec := "fnByteStrings", apart := false }
def FnByteStringsSaid : Prop := fnByteStringsRow.holds Try.pinned (OpenSpec.ofChange fnByteStringsSpec)

/-- ITS FALSE NEIGHBOUR: 'it returns false'. Refute it at one input. -/
def fnByteStringsWrong : ChangeSpec := { name := "fnByteStrings", fn := fun _ => fun
  | [d] => { results := [.lit (.bool false)], args := [d] }
  | _ => none }
def FnByteStringsWrongFalsely : Prop := fnByteStringsRow.holds Try.pinned (OpenSpec.ofChange fnByteStringsWrong)

/-- 'laws.FnVarints': WHATEVER THE INPUT: true; the input reads as it did. -/
def fnVarintsSpec : ChangeSpec := { name := "fnVarints", fn := fun _ => fun
  | [d] => { results := [.lit (.bool true)], args := [d] }
  | _ => none }
def fnVarintsRow : OpenClaim := { program := "ytepicmocmioiiaa", sum := "e1e1392dde49248ffd6e8c4465d1c4730c147067e297259f8b365303d3a24be8", func := "loop.example/g03006/laws.FnVarints", spec := "fnVarints", apart := false }
def FnVarintsSaid : Prop := fnVarintsRow.holds Try.pinned (OpenSpec.ofChange fnVarintsSpec)

/-- ITS FALSE NEIGHBOUR: 'it returns false'. Refute it at one input. -/
def fnVarintsWrong : ChangeSpec := { name := "fnVarints", fn := fun _ => fun
  | [d] => { results := [.lit (.bool false)], args := [d] }
  | _ => none }
def FnVarintsWrongFalsely : Prop := fnVarintsRow.holds Try.pinned (OpenSpec.ofChange fnVarintsWrong)

/- THE SECOND FORM. 'bulk': how many values and letters a reading holds, each counted each time it is reached (what is shared counts as often as it is met; a slice's spare places count too). A statement '..UptoSaid' is the law's where the arguments, and the package variables that the reading takes, are together of bulk at most 1048576: NARROWER than '..Said'. Prove '..Said' where nothing that the law and all that it calls make is longer than what came in: it says more and counts as full. Else prove '..UptoSaid'. A law counts once. -/
mutual
def uptoBulk {H : Type} : DataW H → Nat
  | .lit (.string bytes) => bytes.length + 1
  | .lit _ => 1
  | .nil => 1
  | .ptr d => uptoBulk d + 1
  | .slice elems spare => uptoBulkAll elems + uptoBulkAll spare + 1
  | .agg parts => uptoBulkAll parts + 1
  | .iface _ d => uptoBulk d + 1
  | .map entries => uptoBulkEntries entries + 1
  | .held _ => 1
def uptoBulkAll {H : Type} : List (DataW H) → Nat
  | [] => 0
  | d :: r => uptoBulk d + uptoBulkAll r
def uptoBulkEntries {H : Type} : List (Lit × DataW H) → Nat
  | [] => 0
  | x :: r => uptoBulkEntry x + uptoBulkEntries r
def uptoBulkEntry {H : Type} : Lit × DataW H → Nat
  | (.string bytes, d) => bytes.length + uptoBulk d + 1
  | (_, d) => uptoBulk d + 1
 end
def uptoSmall : (H : Type) → List (DataW H) → Bool := fun _ ds => decide (uptoBulkAll ds ≤ 1048576)
def OpenSpec.upto (s : _root_.Go.ChangeSpec) : _root_.Go.OpenSpec := { _root_.Go.OpenSpec.ofChange s with cond := some uptoSmall }

/-- 'laws.FnExactCloses', WHERE WHAT IT READS IS OF BULK AT MOST 1048576: true; the input reads as it did. -/
def fnExactClosesUptoRow : OpenClaim := { program := "ytepicmocmioiiaa", sum := "e1e1392dde49248ffd6e8c4465d1c4730c147067e297259f8b365303d3a24be8", func := "loop.example/g03006/laws.FnExactCloses", spec := "fnExactCloses", apart := false, narrowed := true }
def FnExactClosesUptoSaid : Prop := fnExactClosesUptoRow.holds Try.pinned (OpenSpec.upto fnExactClosesSpec)

/-- 'laws.FnExactStaysOpen', WHERE WHAT IT READS IS OF BULK AT MOST 1048576: true; the input reads as it did. -/
def fnExactStaysOpenUptoRow : OpenClaim := { program := "ytepicmocmioiiaa", sum := "e1e1392dde49248ffd6e8c4465d1c4730c147067e297259f8b365303d3a24be8", func := "loop.example/g03006/laws.FnExactStaysOpen", spec := "fnExactStaysOpen", apart := false, narrowed := true }
def FnExactStaysOpenUptoSaid : Prop := fnExactStaysOpenUptoRow.holds Try.pinned (OpenSpec.upto fnExactStaysOpenSpec)

/-- 'laws.FnExactArePaths', WHERE WHAT IT READS IS OF BULK AT MOST 1048576: true; the input reads as it did. -/
def fnExactArePathsUptoRow : OpenClaim := { program := "ytepicmocmioiiaa", sum := "e1e1392dde49248ffd6e8c4465d1c4730c147067e297259f8b365303d3a24be8", func := "loop.example/g03006/laws.FnExactArePaths", spec := "fnExactArePaths", apart := false, narrowed := true }
def FnExactArePathsUptoSaid : Prop := fnExactArePathsUptoRow.holds Try.pinned (OpenSpec.upto fnExactArePathsSpec)

/-- 'laws.FnExactReadBytes', WHERE WHAT IT READS IS OF BULK AT MOST 1048576: true; the input reads as it did. -/
def fnExactReadBytesUptoRow : OpenClaim := { program := "ytepicmocmioiiaa", sum := "e1e1392dde49248ffd6e8c4465d1c4730c147067e297259f8b365303d3a24be8", func := "loop.example/g03006/laws.FnExactReadBytes", spec := "fnExactReadBytes", apart := false, narrowed := true }
def FnExactReadBytesUptoSaid : Prop := fnExactReadBytesUptoRow.holds Try.pinned (OpenSpec.upto fnExactReadBytesSpec)

/-- 'laws.FnExactEncodeInts', WHERE WHAT IT READS IS OF BULK AT MOST 1048576: true; the input reads as it did. -/
def fnExactEncodeIntsUptoRow : OpenClaim := { program := "ytepicmocmioiiaa", sum := "e1e1392dde49248ffd6e8c4465d1c4730c147067e297259f8b365303d3a24be8", func := "loop.example/g03006/laws.FnExactEncodeInts", spec := "fnExactEncodeInts", apart := false, narrowed := true }
def FnExactEncodeIntsUptoSaid : Prop := fnExactEncodeIntsUptoRow.holds Try.pinned (OpenSpec.upto fnExactEncodeIntsSpec)

/-- 'laws.FnCipher', WHERE WHAT IT READS IS OF BULK AT MOST 1048576: true; the input reads as it did. -/
def fnCipherUptoRow : OpenClaim := { program := "ytepicmocmioiiaa", sum := "e1e1392dde49248ffd6e8c4465d1c4730c147067e297259f8b365303d3a24be8", func := "loop.example/g03006/laws.FnCipher", spec := "fnCipher", apart := false, narrowed := true }
def FnCipherUptoSaid : Prop := fnCipherUptoRow.holds Try.pinned (OpenSpec.upto fnCipherSpec)

/-- 'laws.FnExactConflict', WHERE WHAT IT READS IS OF BULK AT MOST 1048576: true; the input reads as it did. -/
def fnExactConflictUptoRow : OpenClaim := { program := "ytepicmocmioiiaa", sum := "e1e1392dde49248ffd6e8c4465d1c4730c147067e297259f8b365303d3a24be8", func := "loop.example/g03006/laws.FnExactConflict", spec := "fnExactConflict", apart := false, narrowed := true }
def FnExactConflictUptoSaid : Prop := fnExactConflictUptoRow.holds Try.pinned (OpenSpec.upto fnExactConflictSpec)

/-- 'laws.FnKeyedHash', WHERE WHAT IT READS IS OF BULK AT MOST 1048576: true; the input reads as it did. -/
def fnKeyedHashUptoRow : OpenClaim := { program := "ytepicmocmioiiaa", sum := "e1e1392dde49248ffd6e8c4465d1c4730c147067e297259f8b365303d3a24be8", func := "loop.example/g03006/laws.FnKeyedHash", spec := "fnKeyedHash", apart := false, narrowed := true }
def FnKeyedHashUptoSaid : Prop := fnKeyedHashUptoRow.holds Try.pinned (OpenSpec.upto fnKeyedHashSpec)

/-- 'laws.FnExactLongestClear', WHERE WHAT IT READS IS OF BULK AT MOST 1048576: true; the input reads as it did. -/
def fnExactLongestClearUptoRow : OpenClaim := { program := "ytepicmocmioiiaa", sum := "e1e1392dde49248ffd6e8c4465d1c4730c147067e297259f8b365303d3a24be8", func := "loop.example/g03006/laws.FnExactLongestClear", spec := "fnExactLongestClear", apart := false, narrowed := true }
def FnExactLongestClearUptoSaid : Prop := fnExactLongestClearUptoRow.holds Try.pinned (OpenSpec.upto fnExactLongestClearSpec)

/-- 'laws.FnExactDecodeInts', WHERE WHAT IT READS IS OF BULK AT MOST 1048576: true; the input reads as it did. -/
def fnExactDecodeIntsUptoRow : OpenClaim := { program := "ytepicmocmioiiaa", sum := "e1e1392dde49248ffd6e8c4465d1c4730c147067e297259f8b365303d3a24be8", func := "loop.example/g03006/laws.FnExactDecodeInts", spec := "fnExactDecodeInts", apart := false, narrowed := true }
def FnExactDecodeIntsUptoSaid : Prop := fnExactDecodeIntsUptoRow.holds Try.pinned (OpenSpec.upto fnExactDecodeIntsSpec)

/-- 'laws.FnByteStrings', WHERE WHAT IT READS IS OF BULK AT MOST 1048576: true; the input reads as it did. -/
def fnByteStringsUptoRow : OpenClaim := { program := "ytepicmocmioiiaa", sum := "e1e1392dde49248ffd6e8c4465d1c4730c147067e297259f8b365303d3a24be8", func := "loop.example/g03006/laws.FnByteStrings", spec := "fnByteStrings", apart := false, narrowed := true }
def FnByteStringsUptoSaid : Prop := fnByteStringsUptoRow.holds Try.pinned (OpenSpec.upto fnByteStringsSpec)

/-- 'laws.FnVarints', WHERE WHAT IT READS IS OF BULK AT MOST 1048576: true; the input reads as it did. -/
def fnVarintsUptoRow : OpenClaim := { program := "ytepicmocmioiiaa", sum := "e1e1392dde49248ffd6e8c4465d1c4730c147067e297259f8b365303d3a24be8", func := "loop.example/g03006/laws.FnVarints", spec := "fnVarints", apart := false, narrowed := true }
def FnVarintsUptoSaid : Prop := fnVarintsUptoRow.holds Try.pinned (OpenSpec.upto fnVarintsSpec)

end Rows
end Go.Proofs.Ytepicmocmioiiaa
