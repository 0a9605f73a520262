/- Our own text: the functions that FnExactTurnOf reaches, and what a call of each comes to (written by wip/drive.py). Each theorem states its own conditions. -/
import Derived.Test.YtfglfocjoffjpaaProg
import Derived.Below
import Derived.Deep.Draws
import Derived.Deep.AppendLies
import Derived.Maps.AppendAt
import Derived.OwnWalk
import Derived.Laws.BytesArg
import Derived.Laws.MakeOwn
import Derived.Laws.OwnMore
import Derived.Deep.OwnRows
import Derived.Tactics
import Derived.Lib.ConvBytes
import Derived.Laws.Slices
import Derived.WalkKit
import Derived.KernelRfl
import Derived.RowKit3
import Derived.Deep.LoopGhost
import Derived.Deep.QuietTactic
import Derived.BigQuiet
import Derived.WideLaws
import Derived.Deep.DeepCutAuto
import Derived.Deep.CutBlock
import Derived.Deep.RegionHeld3
import Derived.Laws.Rows
import Derived.Lib.AppendStr
import Derived.ArgAppend
import Derived.Laws.IdiomCopy
import Derived.OrdersHeld
import Derived.Laws.BitsLemmas
import Derived.RowKit
import Derived.Test.YtfglfocjoffjpaaWWords
import Derived.Test.YtfglfocjoffjpaaWLast
import Derived.Test.YtfglfocjoffjpaaWTab
import Derived.Test.YtfglfocjoffjpaaWFour
import Derived.Test.YtfglfocjoffjpaaWQPut
import Derived.Test.YtfglfocjoffjpaaWApart
import Derived.Test.YtfglfocjoffjpaaWArr
import Derived.Test.YtfglfocjoffjpaaWZeros
import Derived.Test.YtfglfocjoffjpaaWFoot
import Derived.Test.YtfglfocjoffjpaaWKept
import Derived.Test.YtfglfocjoffjpaaWShare
import Derived.Test.YtfglfocjoffjpaaWN
import Derived.Test.YtfglfocjoffjpaaWFootNe
import Derived.Test.YtfglfocjoffjpaaWAt
import Derived.Test.YtfglfocjoffjpaaWEqStruct
import Derived.Test.YtfglfocjoffjpaaWRepsOne
import Derived.Test.YtfglfocjoffjpaaWInv
import Derived.Test.YtfglfocjoffjpaaWInvWords
import Derived.Test.YtfglfocjoffjpaaWGuard
import Derived.Test.YtfglfocjoffjpaaWNEv
import Derived.Test.YtfglfocjoffjpaaWMore
namespace Go.Proofs.Ytfglfocjoffjpaa.PFnExactTurnOf
open Go.RowKit Go.Proofs.YtfglfocjoffjpaaW.PrintWords Go.Proofs.YtfglfocjoffjpaaW.PrintLast Go.Proofs.YtfglfocjoffjpaaW.PrintMore
attribute [local go_sem] max2_int min2_int max_two min_two max_three min_three max_four min_four   -- for this text's walks alone
set_option linter.unusedVariables false
set_option linter.unusedSimpArgs false



def errW : Option Int → Value
  | none => .nilIface
  | some c => .iface 0 (.int .i64 c)
theorem errW_none : errW none = .nilIface := rfl
theorem errW_some (c : Int) : errW (some c) = .iface 0 (.int .i64 c) := rfl

theorem info9 : (Try.prog.info? 9).map (fun i => (i.zero, i.size, i.bytes)) = some (some (.string ⟨#[]⟩), 1, 16) := by kernel_rfl
-- the values' own types

end Go.Proofs.Ytfglfocjoffjpaa.PFnExactTurnOf
