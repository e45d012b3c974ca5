/- Merged texts of one claim: part 18 of what the statement's proof stands on. No condition. -/
import Derived.Test.YtdmeiiedbhfniaaDoorE1WInv
import Derived.Test.YtdmeiiedbhfniaaDoorE1WFootNe
set_option linter.unusedSimpArgs false
set_option linter.unusedVariables false
section
namespace Go.Proofs.YtdmeiiedbhfniaaDoorW.PrintWords
open Go.RowKit
end Go.Proofs.YtdmeiiedbhfniaaDoorW.PrintWords
namespace Go.Proofs.YtdmeiiedbhfniaaDoorW.PrintLast
section
variable {ops : Array Oper} {a : Act} {o og : Oper} {g : Nat} {t : Tmp} {u : Bool}
theorem eval_of {v : Value} (h : a.tmps[t]? = some v) : a.eval (.tmp t) = v := by simp [Act.eval, h]
end
end Go.Proofs.YtdmeiiedbhfniaaDoorW.PrintLast
end
