/- Merged texts of one claim: part 14 of what the statement's proof stands on. No condition. -/
import Derived.Test.YtajapkjplgaigaaDoorD2WFootNe
