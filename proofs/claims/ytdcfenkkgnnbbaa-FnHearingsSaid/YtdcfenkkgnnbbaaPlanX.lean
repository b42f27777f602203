/- Walks: IsPlan. Written by a program (gen_planx.py). -/
import Derived.Test.YtdcfenkkgnnbbaaPlanW
namespace Go.Proofs.Ytdcfenkkgnnbbaa
open Go.RowKit
set_option linter.unusedVariables false

set_option maxRecDepth 100000 in
set_option maxHeartbeats 4000000 in
theorem planOk_any (v : Value) (xs : List Hearing) (lo hi : Nat) (v2 : Value) (ps : List Slot) (lo2 hi2 : Nat) (w : World) (h : RdHearing w lo hi v xs) (hh : hi ≤ w.heap.size) (hm : xs.length ≤ 1048576) (hms : ∀ x ∈ xs, Hearing.small x) (h2 : RdF Slot.enc 3 w lo2 hi2 v2 ps) (hh2 : hi2 ≤ w.heap.size) (hm2 : ps.length ≤ 1048576) :
    Calls Try.prog 86 #[v, v2] w fun e w' => e = .returned (.bool (hearingsOk xs && slotsOk ps)) ∧ Below w.heap.size w w' := by
  have hbk : Below w.heap.size w w := Below.refl _ _
  go_enter Try.func86, Try.ntmps86
  go_wp2_with fail
  refine (areHearings_any v xs lo hi _ h hh hm hms).mono ?_
  rintro e w1 ⟨rfl, b1⟩
  have zb1 := b1.size
  replace h := h.below b1 (by omega)
  replace h2 := h2.below b1 (by omega)
  replace hbk := Below.step b1 (by omega) hbk
  clear b1
  cases hc1 : hearingsOk xs with
  | false =>
    go_wp2_with fail
    go_ret
    exact ⟨ret_bool (by rw [hc1]; rfl), by (repeat (first | with_reducible assumption | with_reducible exact Below.refl _ _ | with_reducible refine Below.setCell ?_ ?_ _ | with_reducible refine Below.alloc ?_ ?_ _ | with_reducible refine Below.drew ?_ | with_reducible refine below_drewN ?_ _ | with_reducible refine Below.step (by with_reducible assumption) ?_ ?_ | omega | (simp <;> omega) | (simp; done)))⟩
  | true =>
    go_wp2_with fail
    refine (areSlots_any v2 ps lo2 hi2 _ h2 (by omega) hm2).mono ?_
    rintro e w2 ⟨rfl, b2⟩
    have zb2 := b2.size
    replace h := h.below b2 (by omega)
    replace h2 := h2.below b2 (by omega)
    replace hbk := Below.step b2 (by omega) hbk
    clear b2
    go_wp2_with fail
    go_ret
    exact ⟨ret_bool (by rw [hc1]; rfl), by (repeat (first | with_reducible assumption | with_reducible exact Below.refl _ _ | with_reducible refine Below.setCell ?_ ?_ _ | with_reducible refine Below.alloc ?_ ?_ _ | with_reducible refine Below.drew ?_ | with_reducible refine below_drewN ?_ _ | with_reducible refine Below.step (by with_reducible assumption) ?_ ?_ | omega | (simp <;> omega) | (simp; done)))⟩
set_option maxRecDepth 100000 in
set_option maxHeartbeats 4000000 in
theorem impIsPlan_any (v : Value) (xs : List Hearing) (lo hi : Nat) (v2 : Value) (ps : List Slot) (lo2 hi2 : Nat) (w : World) (h : RdHearing w lo hi v xs) (hh : hi ≤ w.heap.size) (hm : xs.length ≤ 1048576) (hms : ∀ x ∈ xs, Hearing.small x) (h2 : RdF Slot.enc 3 w lo2 hi2 v2 ps) (hh2 : hi2 ≤ w.heap.size) (hm2 : ps.length ≤ 1048576) :
    Calls Try.prog 35 #[v, v2] w fun e w' => e = .returned (.tuple #[.bool (isPlan xs ps).1, .int .i64 (isPlan xs ps).2]) ∧ Below w.heap.size w w' := by
  have hbk : Below w.heap.size w w := Below.refl _ _
  go_enter Try.func35, Try.ntmps35
  go_wp2_with fail
  refine (planOk_any v xs lo hi v2 ps lo2 hi2 _ h hh hm hms h2 hh2 hm2).mono ?_
  rintro e w1 ⟨rfl, b1⟩
  have zb1 := b1.size
  replace h := h.below b1 (by omega)
  replace h2 := h2.below b1 (by omega)
  replace hbk := Below.step b1 (by omega) hbk
  clear b1
  cases hc : (hearingsOk xs && slotsOk ps) with
  | false =>
    have HF := Lib.hid (show isPlan xs ps = (false, 1) by unfold isPlan; rw [hc]; rfl)
    go_wp2_with fail
    go_ret2
    exact ⟨ret_bc HF.out.symm, by (repeat (first | with_reducible assumption | with_reducible exact Below.refl _ _ | with_reducible refine Below.setCell ?_ ?_ _ | with_reducible refine Below.alloc ?_ ?_ _ | with_reducible refine Below.drew ?_ | with_reducible refine below_drewN ?_ _ | with_reducible refine Below.step (by with_reducible assumption) ?_ ?_ | omega | (simp <;> omega) | (simp; done)))⟩
  | true =>
    have hc1 : hearingsOk xs = true := by rw [Bool.and_eq_true] at hc; exact hc.1
    have hc2 : slotsOk ps = true := by rw [Bool.and_eq_true] at hc; exact hc.2
    clear hc
    have HF := Lib.hid (show isPlan xs ps = (planB xs ps, 0) by unfold isPlan; rw [hc1, hc2]; rfl)
    have hlen := hearingsOk_len hc1
    have hba := hearingsOk_all hc1
    have hsl := slotsOk_all hc2
    go_wp2_with fail
    refine (isPlan_any v xs lo hi v2 ps lo2 hi2 _ h (by omega) (by omega) hms h2 (by omega) hba hsl).mono ?_
    rintro e w3 ⟨rfl, b3⟩
    have zb3 := b3.size
    replace h := h.below b3 (by omega)
    replace h2 := h2.below b3 (by omega)
    replace hbk := Below.step b3 (by omega) hbk
    clear b3
    go_wp2_with fail
    go_ret2
    exact ⟨ret_bc HF.out.symm, by (repeat (first | with_reducible assumption | with_reducible exact Below.refl _ _ | with_reducible refine Below.setCell ?_ ?_ _ | with_reducible refine Below.alloc ?_ ?_ _ | with_reducible refine Below.drew ?_ | with_reducible refine below_drewN ?_ _ | with_reducible refine Below.step (by with_reducible assumption) ?_ ?_ | omega | (simp <;> omega) | (simp; done)))⟩
set_option maxRecDepth 100000 in
set_option maxHeartbeats 4000000 in
theorem sIsPlan_any (v : Value) (xs : List Hearing) (lo hi : Nat) (v2 : Value) (ps : List Slot) (lo2 hi2 : Nat) (w : World) (h : RdHearing w lo hi v xs) (hh : hi ≤ w.heap.size) (hm : xs.length ≤ 1048576) (hms : ∀ x ∈ xs, Hearing.small x) (h2 : RdF Slot.enc 3 w lo2 hi2 v2 ps) (hh2 : hi2 ≤ w.heap.size) (hm2 : ps.length ≤ 1048576) :
    Calls Try.prog 33 #[v, v2] w fun e w' => e = .returned (.tuple #[.bool (isPlan xs ps).1, .int .i64 (isPlan xs ps).2]) ∧ Below w.heap.size w w' := by
  have hbk : Below w.heap.size w w := Below.refl _ _
  go_enter Try.func33, Try.ntmps33
  go_wp2_with fail
  refine (sAreHearings_any v xs lo hi _ h hh hm hms).mono ?_
  rintro e w1 ⟨rfl, b1⟩
  have zb1 := b1.size
  replace h := h.below b1 (by omega)
  replace h2 := h2.below b1 (by omega)
  replace hbk := Below.step b1 (by omega) hbk
  clear b1
  cases hc1 : hearingsOk xs with
  | false =>
    have HF := Lib.hid (show isPlan xs ps = (false, 1) by unfold isPlan; rw [hc1]; rfl)
    go_wp2_with fail
    go_ret2
    exact ⟨ret_bc HF.out.symm, by (repeat (first | with_reducible assumption | with_reducible exact Below.refl _ _ | with_reducible refine Below.setCell ?_ ?_ _ | with_reducible refine Below.alloc ?_ ?_ _ | with_reducible refine Below.drew ?_ | with_reducible refine below_drewN ?_ _ | with_reducible refine Below.step (by with_reducible assumption) ?_ ?_ | omega | (simp <;> omega) | (simp; done)))⟩
  | true =>
    go_wp2_with fail
    refine (sAreSlots_any v2 ps lo2 hi2 _ h2 (by omega) hm2).mono ?_
    rintro e w2 ⟨rfl, b2⟩
    have zb2 := b2.size
    replace h := h.below b2 (by omega)
    replace h2 := h2.below b2 (by omega)
    replace hbk := Below.step b2 (by omega) hbk
    clear b2
    cases hc2 : slotsOk ps with
    | false =>
      have HF := Lib.hid (show isPlan xs ps = (false, 1) by unfold isPlan; rw [hc1, hc2]; rfl)
      go_wp2_with fail
      go_ret2
      exact ⟨ret_bc HF.out.symm, by (repeat (first | with_reducible assumption | with_reducible exact Below.refl _ _ | with_reducible refine Below.setCell ?_ ?_ _ | with_reducible refine Below.alloc ?_ ?_ _ | with_reducible refine Below.drew ?_ | with_reducible refine below_drewN ?_ _ | with_reducible refine Below.step (by with_reducible assumption) ?_ ?_ | omega | (simp <;> omega) | (simp; done)))⟩
    | true =>
      have HF := Lib.hid (show isPlan xs ps = (planB xs ps, 0) by unfold isPlan; rw [hc1, hc2]; rfl)
      have hlen := hearingsOk_len hc1
      have hba := hearingsOk_all hc1
      have hsl := slotsOk_all hc2
      go_wp2_with fail
      refine (l19Plan_any v xs lo hi v2 ps lo2 hi2 _ h (by omega) (by omega) hms h2 (by omega) hba hsl).mono ?_
      rintro e w3 ⟨rfl, b3⟩
      have zb3 := b3.size
      replace h := h.below b3 (by omega)
      replace h2 := h2.below b3 (by omega)
      replace hbk := Below.step b3 (by omega) hbk
      clear b3
      go_wp2_with fail
      go_ret2
      exact ⟨ret_bc HF.out.symm, by (repeat (first | with_reducible assumption | with_reducible exact Below.refl _ _ | with_reducible refine Below.setCell ?_ ?_ _ | with_reducible refine Below.alloc ?_ ?_ _ | with_reducible refine Below.drew ?_ | with_reducible refine below_drewN ?_ _ | with_reducible refine Below.step (by with_reducible assumption) ?_ ?_ | omega | (simp <;> omega) | (simp; done)))⟩
end Go.Proofs.Ytdcfenkkgnnbbaa
