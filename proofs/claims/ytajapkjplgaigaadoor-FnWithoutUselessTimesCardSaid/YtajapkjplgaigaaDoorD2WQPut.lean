/- Merged texts of one claim: part 5 of what the statement's proof stands on. No condition. -/
import Derived.Test.YtajapkjplgaigaaDoorD2WWords
import Derived.Test.YtajapkjplgaigaaDoorD2WLast
