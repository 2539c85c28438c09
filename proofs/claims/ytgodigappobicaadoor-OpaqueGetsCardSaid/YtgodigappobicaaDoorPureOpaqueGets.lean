/- Any bytes are read as the documented opaque: the value, what is left over and the fault are the documented ones, in memory of their own. No condition; the card ties three tables of Go's library to their text. -/
import Derived.Test.YtgodigappobicaaDoorP02
