/- Any bytes are read as the documented fixed count of bytes: the value, what is left over and the fault are the documented ones. No condition; the card ties three tables of Go's library to their text. -/
import Derived.Test.YtgodigappobicaaDoorP02
