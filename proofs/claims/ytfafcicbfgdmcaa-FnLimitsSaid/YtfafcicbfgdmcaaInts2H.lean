/- Slices of int64: copies, comparison, sizes, marks. Written by a program (gen_one.py). -/
import Derived.Test.YtfafcicbfgdmcaaRows
import Derived.Test.YtfafcicbfgdmcaaMem4
import Derived.Test.YtfafcicbfgdmcaaMark
import Derived.Test.YtfafcicbfgdmcaaIntsH
namespace Go.Proofs.Ytfafcicbfgdmcaa
open Go.RowKit
set_option linter.unusedVariables false



end Go.Proofs.Ytfafcicbfgdmcaa
