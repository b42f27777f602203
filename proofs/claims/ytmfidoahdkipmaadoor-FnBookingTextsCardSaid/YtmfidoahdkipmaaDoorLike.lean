/- Helpers of the draw laws: big, likeInts, hasInt. -/
import Derived.Test.YtmfidoahdkipmaaDoorSrcL
namespace Go.Proofs.YtmfidoahdkipmaaDoor
open Go.RowKit
set_option linter.unusedVariables false

set_option maxRecDepth 100000 in
set_option maxHeartbeats 1000000 in
theorem big_any (A : Option Addr) (c n : Nat) (w : World) : Calls Tryd.prog 13 #[.slice A n c] w fun e w' => e = .returned (.bool (decide ((4096 : Int) < (n : Int)))) ∧ Below w.heap.size w w' := by
  by_cases hb : (4096 : Int) < (n : Int)
  · go_enter Tryd.func13, Tryd.ntmps13
    go_wp2_with fail
    go_ret
    exact ⟨ret_bool (by simp; omega), Below.refl _ _⟩
  · go_enter Tryd.func13, Tryd.ntmps13
    go_wp2_with fail
    go_ret
    exact ⟨ret_bool (by simp; omega), Below.refl _ _⟩
end Go.Proofs.YtmfidoahdkipmaaDoor
