/- regs: with more registers the locations are the same, plain. -/
import Derived.Test.YtnbpgipbfejllaaDoorMG33
namespace Go.Proofs.YtnbpgipbfejllaaDoor
set_option linter.unusedVariables false
set_option linter.unusedSimpArgs false

end Go.Proofs.YtnbpgipbfejllaaDoor
