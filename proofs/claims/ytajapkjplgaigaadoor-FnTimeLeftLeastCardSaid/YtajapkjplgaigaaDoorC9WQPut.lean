/- Merged texts of one claim: part 5 of what the statement's proof stands on. No condition. -/
import Derived.Test.YtajapkjplgaigaaDoorC9WWords
import Derived.Test.YtajapkjplgaigaaDoorC9WLast
