/- Helpers of the draw laws: big, likeInts, hasInt. -/
import Derived.Test.YtfafcicbfgdmcaaSrcL
namespace Go.Proofs.Ytfafcicbfgdmcaa
open Go.RowKit
set_option linter.unusedVariables false

set_option maxRecDepth 100000 in
set_option maxHeartbeats 1000000 in
theorem big_any (A : Option Addr) (c n : Nat) (w : World) : Calls Try.prog 5 #[.slice A n c] w fun e w' => e = .returned (.bool (decide ((4096 : Int) < (n : Int)))) ∧ Below w.heap.size w w' := by
  by_cases hb : (4096 : Int) < (n : Int)
  · go_enter Try.func5, Try.ntmps5
    go_wp2_with fail
    go_ret
    exact ⟨ret_bool (by simp; omega), Below.refl _ _⟩
  · go_enter Try.func5, Try.ntmps5
    go_wp2_with fail
    go_ret
    exact ⟨ret_bool (by simp; omega), Below.refl _ _⟩
set_option maxRecDepth 100000 in
set_option maxHeartbeats 1000000 in
theorem likeInts_any (v v' : Value) (xs : List Int) (lo hi lo' hi' : Nat) (w : World) (h : RdF encInt 1 w lo hi v xs) (hh : hi ≤ w.heap.size) (h' : RdF encInt 1 w lo' hi' v' xs) (hh' : hi' ≤ w.heap.size) (hm : xs.length ≤ 1048576) :
    Calls Try.prog 44 #[v, v'] w fun e w' => e = .returned (.bool true) ∧ Below w.heap.size w w' := by
  obtain ⟨A, c, rfl, hc⟩ := h.form
  obtain ⟨A', c', rfl, hc'⟩ := h'.form
  go_enter Try.func44, Try.ntmps44
  go_wp2_with fail
  go_loopw [5] (fun i wr => ∃ k : Nat, k ≤ xs.length ∧ i = .int .i64 k ∧ Below w.heap.size w wr) (fun i _ => xs.length - (intOf i).toNat)
  case atStart => exact ⟨0, Nat.zero_le _, rfl, Below.refl _ _⟩
  case round =>
    obtain ⟨k, hk, rfl, hbel⟩ := hrel
    have z0 := hbel.size
    by_cases hlt : k < xs.length
    · have hki : (k : Int) < (xs.length : Int) := by omega
      obtain ⟨x, b, off, HS, rfl, -, hbw, hcell⟩ := RdF.get h hbel hh hlt
      obtain ⟨x', b', off', HS', rfl, -, hbw', hcell'⟩ := RdF.get h' hbel hh' hlt
      obtain rfl : x' = x := by have := HS'.out; rw [HS.out] at this; injection this with this; exact this.symm
      have x1 : wr.cell? ⟨b, off + k, none⟩ = some (.int .i64 x') := by simpa [encInt] using hcell 0 _ rfl
      have x2 : wr.cell? ⟨b', off' + k, none⟩ = some (.int .i64 x') := by simpa [encInt] using hcell' 0 _ rfl
      clear hcell hcell'
      go_wp2_with fail
      go_quiet (fail)
      go_wp2_with fail
      go_roundw
      case rel => exact ⟨k + 1, by omega, by go_num, by (repeat (first | with_reducible assumption | with_reducible exact Below.refl _ _ | with_reducible refine Below.setCell ?_ ?_ _ | with_reducible refine Below.alloc ?_ ?_ _ | with_reducible refine Below.drew ?_ | with_reducible refine below_drewN ?_ _ | with_reducible refine Below.step (by with_reducible assumption) ?_ ?_ | omega | (simp <;> omega) | (simp; done)))⟩
      case measure => simp [intOf]; omega
    · go_wp2_with fail
      go_ret
      exact ⟨rfl, hbel⟩
end Go.Proofs.Ytfafcicbfgdmcaa
