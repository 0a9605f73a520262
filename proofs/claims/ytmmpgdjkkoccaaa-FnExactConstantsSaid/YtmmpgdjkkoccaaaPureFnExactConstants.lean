/- The row of FnExactConstants: the law answers true, always. -/
import Derived.Test.YtmmpgdjkkoccaaaPFnExactConstantsx1
set_option linter.unusedVariables false
set_option linter.unusedSimpArgs false
namespace Go.Proofs.Ytmmpgdjkkoccaaa.Pure
open Go.RowKit Go.Proofs.Ytmmpgdjkkoccaaa.PFnExactConstants Go.Proofs.YtmmpgdjkkoccaaaW.PrintWords Go.Proofs.YtmmpgdjkkoccaaaW.PrintLast

theorem FnExactConstants : laws_FnExactConstants.Pure := rfl

end Go.Proofs.Ytmmpgdjkkoccaaa.Pure
