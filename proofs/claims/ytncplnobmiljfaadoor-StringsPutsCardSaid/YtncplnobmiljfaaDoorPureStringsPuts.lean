/- Any text is put as exactly the documented bytes, in memory of their own, and told as the documented name and path. For any text. No condition; the card ties three tables of Go's library to their text. -/
import Derived.Test.YtncplnobmiljfaaDoorP03
