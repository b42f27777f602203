/- Walks: whether hearings and choices are as described. -/
import Derived.Test.YtmgdkblleljdaaaGreatHearingL
import Derived.Test.YtmgdkblleljdaaaGreatSlotW
import Derived.Test.YtmgdkblleljdaaaGreatSlotA
namespace Go.Proofs.YtmgdkblleljdaaaGreat
open Go.RowKit
set_option linter.unusedVariables false

def bothOk (xs : List Hearing) (ps : List Slot) : Bool := hearingsOk xs && choicesOk ps
def bothCode (xs : List Hearing) (ps : List Slot) : Int := if bothOk xs ps then 0 else 1
theorem bothCode_no {xs : List Hearing} {ps : List Slot} (h : bothOk xs ps = false) : bothCode xs ps = 1 := by rw [bothCode, h]; rfl
theorem bothCode_yes {xs : List Hearing} {ps : List Slot} (h : bothOk xs ps = true) : bothCode xs ps = 0 := by rw [bothCode, h]; rfl
set_option maxRecDepth 100000 in
set_option maxHeartbeats 4000000 in
theorem bothOk_any (v : Value) (xs : List Hearing) (lo hi : Nat) (v2 : Value) (ps : List Slot) (lo2 hi2 : Nat) (w : World) (h : RdHearing w lo hi v xs) (hh : hi ≤ w.heap.size) (hm : xs.length ≤ 1048576) (hms : ∀ x ∈ xs, Hearing.small x) (h2 : RdF Slot.enc 3 w lo2 hi2 v2 ps) (hh2 : hi2 ≤ w.heap.size) (hm2 : ps.length ≤ 1048576) :
    Calls Tryz.prog 24 #[v, v2] w fun e w' => e = .returned (.bool (bothOk xs ps)) ∧ Below w.heap.size w w' := by
  have hbk : Below w.heap.size w w := Below.refl _ _
  go_enter Tryz.func24, Tryz.ntmps24
  go_wp2_with fail
  refine (areHearings_any v xs lo hi _ h hh hm hms).mono ?_
  rintro e w1 ⟨rfl, b1⟩
  have z1 := b1.size
  replace h2 := h2.below b1 (by omega)
  replace hbk := Below.step b1 (by omega) hbk
  clear b1
  cases hc1 : hearingsOk xs with
  | false =>
    go_wp2_with fail
    go_ret
    exact ⟨ret_bool (by rw [bothOk, hc1]; rfl), by (repeat (first | with_reducible assumption | with_reducible exact Below.refl _ _ | with_reducible refine Below.setCell ?_ ?_ _ | with_reducible refine Below.alloc ?_ ?_ _ | with_reducible refine Below.drew ?_ | with_reducible refine below_drewN ?_ _ | with_reducible refine Below.step (by with_reducible assumption) ?_ ?_ | omega | (simp <;> omega) | (simp; done)))⟩
  | true =>
    go_wp2_with fail
    refine (areChoices_any v2 ps lo2 hi2 _ h2 (by omega) hm2).mono ?_
    rintro e w2 ⟨rfl, b2⟩
    have z2 := b2.size
    replace hbk := Below.step b2 (by omega) hbk
    go_wp2_with fail
    go_ret
    exact ⟨ret_bool (by rw [bothOk, hc1]; rfl), by (repeat (first | with_reducible assumption | with_reducible exact Below.refl _ _ | with_reducible refine Below.setCell ?_ ?_ _ | with_reducible refine Below.alloc ?_ ?_ _ | with_reducible refine Below.drew ?_ | with_reducible refine below_drewN ?_ _ | with_reducible refine Below.step (by with_reducible assumption) ?_ ?_ | omega | (simp <;> omega) | (simp; done)))⟩
set_option maxRecDepth 100000 in
set_option maxHeartbeats 4000000 in
theorem l21Code_any (v : Value) (xs : List Hearing) (lo hi : Nat) (v2 : Value) (ps : List Slot) (lo2 hi2 : Nat) (w : World) (h : RdHearing w lo hi v xs) (hh : hi ≤ w.heap.size) (hm : xs.length ≤ 1048576) (hms : ∀ x ∈ xs, Hearing.small x) (h2 : RdF Slot.enc 3 w lo2 hi2 v2 ps) (hh2 : hi2 ≤ w.heap.size) (hm2 : ps.length ≤ 1048576) :
    Calls Tryz.prog 28 #[v, v2] w fun e w' => e = .returned (.int .i64 (bothCode xs ps)) ∧ Below w.heap.size w w' := by
  have hbk : Below w.heap.size w w := Below.refl _ _
  go_enter Tryz.func28, Tryz.ntmps28
  go_wp2_with fail
  refine (sAreHearings_any v xs lo hi _ h hh hm hms).mono ?_
  rintro e w1 ⟨rfl, b1⟩
  have z1 := b1.size
  replace h2 := h2.below b1 (by omega)
  replace hbk := Below.step b1 (by omega) hbk
  clear b1
  cases hc1 : hearingsOk xs with
  | false =>
    go_wp2_with fail
    go_ret
    exact ⟨ret_int (by rw [bothCode_no (by rw [bothOk, hc1]; rfl)]), by (repeat (first | with_reducible assumption | with_reducible exact Below.refl _ _ | with_reducible refine Below.setCell ?_ ?_ _ | with_reducible refine Below.alloc ?_ ?_ _ | with_reducible refine Below.drew ?_ | with_reducible refine below_drewN ?_ _ | with_reducible refine Below.step (by with_reducible assumption) ?_ ?_ | omega | (simp <;> omega) | (simp; done)))⟩
  | true =>
    go_wp2_with fail
    refine (sAreChoices_any v2 ps lo2 hi2 _ h2 (by omega) hm2).mono ?_
    rintro e w2 ⟨rfl, b2⟩
    have z2 := b2.size
    replace hbk := Below.step b2 (by omega) hbk
    clear b2
    cases hc2 : choicesOk ps with
    | false =>
      go_wp2_with fail
      go_ret
      exact ⟨ret_int (by rw [bothCode_no (by rw [bothOk, hc1, hc2]; rfl)]), by (repeat (first | with_reducible assumption | with_reducible exact Below.refl _ _ | with_reducible refine Below.setCell ?_ ?_ _ | with_reducible refine Below.alloc ?_ ?_ _ | with_reducible refine Below.drew ?_ | with_reducible refine below_drewN ?_ _ | with_reducible refine Below.step (by with_reducible assumption) ?_ ?_ | omega | (simp <;> omega) | (simp; done)))⟩
    | true =>
      go_wp2_with fail
      go_ret
      exact ⟨ret_int (by rw [bothCode_yes (by rw [bothOk, hc1, hc2]; rfl)]), by (repeat (first | with_reducible assumption | with_reducible exact Below.refl _ _ | with_reducible refine Below.setCell ?_ ?_ _ | with_reducible refine Below.alloc ?_ ?_ _ | with_reducible refine Below.drew ?_ | with_reducible refine below_drewN ?_ _ | with_reducible refine Below.step (by with_reducible assumption) ?_ ?_ | omega | (simp <;> omega) | (simp; done)))⟩
end Go.Proofs.YtmgdkblleljdaaaGreat
