/- Proved here: the pure statement behind FnExactConstants: the program's function and the reference's give the same answer. Conditions: none beyond that the whole numbers are 64-bit ones. -/
import Derived.Test.YtafehlajangbfaaPFnExactConstantsx1
namespace Go.Proofs.Ytafehlajangbfaa.Pure
open Go.RowKit Go.Proofs.Ytafehlajangbfaa.PFnExactConstants Go.Proofs.YtafehlajangbfaaW.PrintWords Go.Proofs.YtafehlajangbfaaW.PrintLast

theorem FnExactConstants : laws_FnExactConstants.Pure := rfl

end Go.Proofs.Ytafehlajangbfaa.Pure
