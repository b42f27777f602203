/- Walks of the small tests over integers: membership, rising lists, holidays, court days. -/
import Derived.Test.YtdcfenkkgnnbbaaBase
import Derived.Test.YtdcfenkkgnnbbaaMem4
import Derived.BigQuiet
import Derived.Deep.QuietTactic
import Derived.IntWalk
namespace Go.Proofs.Ytdcfenkkgnnbbaa
open Go.RowKit
set_option linter.unusedVariables false

def hasI (xs : List Int) (n : Int) : Bool := xs.any fun m => m == n
theorem hasI_iff {xs : List Int} {n : Int} : hasI xs n = true ↔ n ∈ xs := by simp [hasI]


/-- Strictly rising from lo to hi. -/
def incrP (lo hi : Int) (before : List Int) (n : Int) : Bool := inR n lo hi && (match before.getLast? with | none => true | some m => decide (m < n))
def incr (lo hi : Int) (xs : List Int) : Bool := prefOk (incrP lo hi) xs
theorem take_last {α : Type} {xs : List α} {k : Nat} {x : α} (hx : xs[k]? = some x) : (xs.take (k + 1)).getLast? = some x := by
  rw [List.take_add_one, hx]; simp
theorem take_last0 {α : Type} (xs : List α) : (xs.take 0).getLast? = none := rfl
def holidaysOk (xs : List Int) : Bool := incr 0 20000 xs && decide (xs.length ≤ 40)
def court (hol : List Int) (d : Int) : Bool := decide (d % 7 < 5) && !hasI hol d
end Go.Proofs.Ytdcfenkkgnnbbaa
