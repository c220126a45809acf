/- The code of functions of the program, the functions that they call left open. -/
import Derived.Test.YtkefjgfcbcpcbaaGoSecH
set_option linter.unusedVariables false
set_option linter.unusedSimpArgs false
namespace Go.Abs

end Go.Abs

