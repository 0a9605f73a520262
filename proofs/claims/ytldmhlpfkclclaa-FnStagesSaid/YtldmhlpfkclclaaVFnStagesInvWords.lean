import Derived.Test.YtldmhlpfkclclaaVFnStagesInv
import Derived.Test.YtldmhlpfkclclaaVFnStagesFootNe
namespace Go.Proofs.YtldmhlpfkclclaaW.PrintWords
open Go.RowKit
end Go.Proofs.YtldmhlpfkclclaaW.PrintWords
namespace Go.Proofs.YtldmhlpfkclclaaW.PrintLast
section
variable {ops : Array Oper} {a : Act} {o og : Oper} {g : Nat} {t : Tmp} {u : Bool}
end
end Go.Proofs.YtldmhlpfkclclaaW.PrintLast
