/- Who calls by any bytes is exactly the documented one, or refused as documented, in memory of its own; the bytes stay as they were. For any bytes. No condition; the card ties three tables of Go's library to their text. -/
import Derived.Test.YtncplnobmiljfaaDoorP5
