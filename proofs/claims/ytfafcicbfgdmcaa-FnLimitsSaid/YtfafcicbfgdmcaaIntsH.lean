/- Slices of integers: copies, comparison, sizes, marks; the marks' text. -/
import Derived.Test.YtfafcicbfgdmcaaRows
import Derived.Test.YtfafcicbfgdmcaaMem
namespace Go.Proofs.Ytfafcicbfgdmcaa
open Go.RowKit
set_option linter.unusedVariables false

def intEq (a b : Int) : Bool := a == b
theorem intEq_iff (a b : Int) : intEq a b = true ↔ a = b := by simp [intEq]


/-- The marks k, k + 1, .. of n cells. -/
def marksI (k : Int) (n : Nat) : List Int := (List.range n).map fun (i : Nat) => k + (i : Int)
theorem marksI_len (k : Int) (n : Nat) : (marksI k n).length = n := by simp [marksI]
theorem marksI_at {k : Int} {n i : Nat} (h : i < n) : (marksI k n)[i]? = some (k + (i : Int)) := by simp [marksI, h]

end Go.Proofs.Ytfafcicbfgdmcaa
