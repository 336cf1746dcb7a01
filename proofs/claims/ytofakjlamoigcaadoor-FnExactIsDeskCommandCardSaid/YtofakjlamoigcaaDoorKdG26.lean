/-
  Plain laws: a place's text cut and read, an edit's text read.
-/
import Derived.Test.YtofakjlamoigcaaDoorKdG25
import Derived.Test.YtofakjlamoigcaaDoorKdS2
namespace Go.Proofs.YtofakjlamoigcaaDoor
set_option linter.unusedSimpArgs false
set_option linter.unusedVariables false
open Go

end Go.Proofs.YtofakjlamoigcaaDoor
