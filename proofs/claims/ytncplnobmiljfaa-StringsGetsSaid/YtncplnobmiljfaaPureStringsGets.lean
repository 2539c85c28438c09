/- The text that any bytes begin with is the documented one, or they are refused. For any bytes, any bound. No condition. -/
import Derived.Test.YtncplnobmiljfaaR3
import Derived.Test.YtncplnobmiljfaaQ0
