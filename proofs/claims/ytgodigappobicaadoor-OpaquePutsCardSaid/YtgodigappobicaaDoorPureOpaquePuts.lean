/- Any bytes are put as exactly the documented bytes, in memory of their own, and a fixed count of bytes as documented. No condition; the card ties three tables of Go's library to their text. -/
import Derived.Test.YtgodigappobicaaDoorP02
