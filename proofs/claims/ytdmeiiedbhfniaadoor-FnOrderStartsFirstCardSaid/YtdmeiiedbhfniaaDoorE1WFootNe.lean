/- Merged texts of one claim: part 13 of what the statement's proof stands on. No condition. -/
import Derived.Test.YtdmeiiedbhfniaaDoorE1WN
set_option linter.unusedSimpArgs false
set_option linter.unusedVariables false
