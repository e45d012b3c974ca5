/- Merged texts of one claim: part 19 of what the statement's proof stands on. No condition. -/
import Derived.Test.YtdmeiiedbhfniaaDoorE1WWords
set_option linter.unusedSimpArgs false
set_option linter.unusedVariables false
