/- Merged texts of one claim: part 5 of what the statement's proof stands on. No condition. -/
import Derived.Test.YtdmeiiedbhfniaaDoorE1WWords
import Derived.Test.YtdmeiiedbhfniaaDoorE1WLast
set_option linter.unusedSimpArgs false
set_option linter.unusedVariables false
