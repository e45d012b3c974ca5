/- Merged texts of one claim: part 15 of what the statement's proof stands on. No condition. -/
import Derived.Test.YtajapkjplgaigaaDoorD2WWords
import Derived.Laws.StructEq
