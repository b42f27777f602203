/- Slices of string: copies, comparison, sizes, marks. Written by a program (gen_one.py). -/
import Derived.Test.YtmfidoahdkipmaaDoorRows
import Derived.Test.YtmfidoahdkipmaaDoorMem4
import Derived.Test.YtmfidoahdkipmaaDoorMark
import Derived.Test.YtmfidoahdkipmaaDoorIntsH
namespace Go.Proofs.YtmfidoahdkipmaaDoor
open Go.RowKit
set_option linter.unusedVariables false




end Go.Proofs.YtmfidoahdkipmaaDoor
