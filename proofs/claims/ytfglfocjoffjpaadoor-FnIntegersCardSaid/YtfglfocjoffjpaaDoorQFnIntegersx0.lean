/- Our own text: the functions that FnIntegers reaches, and what a call of each comes to (written by wip/drive.py). Each theorem states its own conditions. -/
import Derived.Test.YtfglfocjoffjpaaDoorProg
import Derived.Below
import Derived.Deep.Draws
import Derived.Deep.AppendLies
import Derived.Maps.AppendAt
import Derived.OwnWalk
import Derived.Laws.BytesArg
import Derived.Laws.MakeOwn
import Derived.Laws.OwnMore
import Derived.Deep.OwnRows
import Derived.Tactics
import Derived.Lib.ConvBytes
import Derived.Laws.Slices
import Derived.WalkKit
import Derived.KernelRfl
import Derived.RowKit3
import Derived.Deep.LoopGhost
import Derived.Deep.QuietTactic
import Derived.BigQuiet
import Derived.WideLaws
import Derived.Deep.DeepCutAuto
import Derived.Deep.CutBlock
import Derived.Deep.RegionHeld3
import Derived.Laws.Rows
import Derived.Lib.AppendStr
import Derived.ArgAppend
import Derived.Laws.IdiomCopy
import Derived.OrdersHeld
import Derived.Laws.BitsLemmas
import Derived.RowKit
import Derived.Shelf.Strconv.Itoa3
import Derived.Lib.SmallJoins
import Derived.Lib.AppendIntMem
import Derived.Test.YtfglfocjoffjpaaDoorWWords
import Derived.Test.YtfglfocjoffjpaaDoorWLast
import Derived.Test.YtfglfocjoffjpaaDoorWTab
import Derived.Test.YtfglfocjoffjpaaDoorWFour
import Derived.Test.YtfglfocjoffjpaaDoorWQPut
import Derived.Test.YtfglfocjoffjpaaDoorWApart
import Derived.Test.YtfglfocjoffjpaaDoorWArr
import Derived.Test.YtfglfocjoffjpaaDoorWZeros
import Derived.Test.YtfglfocjoffjpaaDoorWFoot
import Derived.Test.YtfglfocjoffjpaaDoorWKept
import Derived.Test.YtfglfocjoffjpaaDoorWShare
import Derived.Test.YtfglfocjoffjpaaDoorWN
import Derived.Test.YtfglfocjoffjpaaDoorWFootNe
import Derived.Test.YtfglfocjoffjpaaDoorWAt
import Derived.Test.YtfglfocjoffjpaaDoorWEqStruct
import Derived.Test.YtfglfocjoffjpaaDoorWRepsOne
import Derived.Test.YtfglfocjoffjpaaDoorWInv
import Derived.Test.YtfglfocjoffjpaaDoorWInvWords
import Derived.Test.YtfglfocjoffjpaaDoorWGuard
import Derived.Test.YtfglfocjoffjpaaDoorWNEv
import Derived.Test.YtfglfocjoffjpaaDoorWMore
namespace Go.Proofs.YtfglfocjoffjpaaDoor.PFnIntegers
open Go.RowKit Go.Proofs.YtfglfocjoffjpaaDoorW.PrintWords Go.Proofs.YtfglfocjoffjpaaDoorW.PrintLast Go.Proofs.YtfglfocjoffjpaaDoorW.PrintMore
attribute [local go_sem] max2_int min2_int max_two min_two max_three min_three max_four min_four   -- for this text's walks alone
set_option linter.unusedVariables false
set_option linter.unusedSimpArgs false



def errW : Option Int → Value
  | none => .nilIface
  | some c => .iface 0 (.int .i64 c)
theorem errW_none : errW none = .nilIface := rfl
theorem errW_some (c : Int) : errW (some c) = .iface 0 (.int .i64 c) := rfl

theorem info3 : (Tryd.prog.info? 3).map (fun i => (i.zero, i.size, i.bytes)) = some (some (.int .i64 0), 1, 8) := by kernel_rfl
theorem info5 : (Tryd.prog.info? 5).map (fun i => (i.zero, i.size, i.bytes)) = some (some (.int .u8 0), 1, 1) := by kernel_rfl
theorem info9 : (Tryd.prog.info? 9).map (fun i => (i.zero, i.size, i.bytes)) = some (some (.string ⟨#[]⟩), 1, 16) := by kernel_rfl
-- the values' own types

end Go.Proofs.YtfglfocjoffjpaaDoor.PFnIntegers
