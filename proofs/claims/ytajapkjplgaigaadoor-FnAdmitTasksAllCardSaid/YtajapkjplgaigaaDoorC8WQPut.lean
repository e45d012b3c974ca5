/- Merged texts of one claim: part 5 of what the statement's proof stands on. No condition. -/
import Derived.Test.YtajapkjplgaigaaDoorC8WWords
import Derived.Test.YtajapkjplgaigaaDoorC8WLast
