/- RegsMore: the walk. -/
import Derived.Test.YtnbpgipbfejllaaDoorMG54
import Derived.Test.YtnbpgipbfejllaaDoorMG59
import Derived.Test.YtnbpgipbfejllaaDoorMG43
namespace Go.Proofs.YtnbpgipbfejllaaDoor
open Go.RowKit Go.Lib
set_option linter.unusedVariables false
set_option linter.unusedSimpArgs false

end Go.Proofs.YtnbpgipbfejllaaDoor
