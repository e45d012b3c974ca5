/- Merged texts of one claim: part 4 of what the statement's proof stands on. No condition. -/
import Derived.Test.YtdmeiiedbhfniaaDoorE1WTab
set_option linter.unusedSimpArgs false
set_option linter.unusedVariables false
