/- Anybody who calls is put as exactly the documented bytes, or refused as documented, in memory of its own; what was handed in stays as it was. For any stamp, any machine, anybody. No condition; the card ties three tables of Go's library to their text. -/
import Derived.Test.YtncplnobmiljfaaDoorP5
