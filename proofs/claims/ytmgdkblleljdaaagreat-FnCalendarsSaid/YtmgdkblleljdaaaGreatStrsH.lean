/- Slices of string: copies, comparison, sizes, marks. Written by a program (gen_one.py). -/
import Derived.Test.YtmgdkblleljdaaaGreatRows
import Derived.Test.YtmgdkblleljdaaaGreatMem4
import Derived.Test.YtmgdkblleljdaaaGreatMark
import Derived.Test.YtmgdkblleljdaaaGreatIntsH
namespace Go.Proofs.YtmgdkblleljdaaaGreat
open Go.RowKit
set_option linter.unusedVariables false




end Go.Proofs.YtmgdkblleljdaaaGreat
