/- Walks: IsCalendar. Written by a program (gen_calx.py). -/
import Derived.Test.YtmgdkblleljdaaaGreatCalW
namespace Go.Proofs.YtmgdkblleljdaaaGreat
open Go.RowKit
set_option linter.unusedVariables false

theorem bothOk_hx {xs : List Hearing} {ps : List Slot} (h : bothOk xs ps = true) : hearingsOk xs = true := by unfold bothOk at h; rw [Bool.and_eq_true] at h; exact h.1
theorem bothOk_sx {xs : List Hearing} {ps : List Slot} (h : bothOk xs ps = true) : slotsOk ps = true := by unfold bothOk choicesOk at h; rw [Bool.and_eq_true, Bool.and_eq_true] at h; exact h.2.1
set_option maxRecDepth 100000 in
set_option maxHeartbeats 4000000 in
theorem isCalendar_any (v : Value) (xs : List Hearing) (lo hi : Nat) (v2 : Value) (ps : List Slot) (lo2 hi2 : Nat) (v3 : Value) (cal : List Int) (lo3 hi3 : Nat) (w : World) (h : RdHearing w lo hi v xs) (hh : hi ≤ w.heap.size) (hm : xs.length ≤ 1048576) (hms : ∀ x ∈ xs, Hearing.small x) (h2 : RdF Slot.enc 3 w lo2 hi2 v2 ps) (hh2 : hi2 ≤ w.heap.size) (hm2 : ps.length ≤ 1048576) (h3 : RdF encInt 1 w lo3 hi3 v3 cal) (hh3 : hi3 ≤ w.heap.size) (hm3 : cal.length ≤ 1048576) (hm5 : xs.length ≤ 1000) (hb : ∀ x ∈ xs, x.ok = true) (hsl : ∀ s ∈ ps, s.ok = true) (hix : cal.all (idxOk ps.length) = true) :
    Calls Tryz.prog 38 #[v, v2, v3] w fun e w' => e = .returned (.bool (calB xs ps cal)) ∧ Below w.heap.size w w' := by
  obtain ⟨A3, c3, rfl, hcap3⟩ := h3.form
  have hms0 := Lib.hid hms; clear hms
  have hb0 := Lib.hid hb; clear hb
  have hsl0 := Lib.hid hsl; clear hsl
  have hix0 := Lib.hid hix; clear hix
  go_enter Tryz.func38, Tryz.ntmps38
  go_wp2
  go_loopw [7, 8, 11] (fun _ _ j wr => ∃ k : Nat, k ≤ cal.length ∧ j = .int .i64 k ∧ Hid (prefAll newI cal k = true) ∧ Below w.heap.size w wr) (fun _ _ j _ => cal.length - (intOf j).toNat)
  case atStart => exact ⟨0, Nat.zero_le _, rfl, rfl, Below.refl _ _⟩
  case round =>
    obtain ⟨k, hk, rfl, HA, hbel⟩ := hrel
    have z0 := hbel.size
    by_cases hlt : k < cal.length
    · obtain ⟨i, b, off, HS, hA3, hbw, c0⟩ := RdF.int h3 hbel (by omega) hlt
      subst hA3
      have ht := (h3.pre (k := k) (by omega)).below hbel (by omega)
      have hki : (k : Int) < (cal.length : Int) := by omega
      have hki' : (k : Int) ≤ (c3 : Int) := by omega
      have hlk : (cal.take k).length ≤ 1048576 := by simp; omega
      go_wp2_with (go_at_call 52; refine (hasInt_any _ (cal.take k) _ _ i _ ht (by omega) hlk).mono ?_; rintro e w' ⟨rfl, rfl⟩)
      · have hf : hasI (cal.take k) i = true := by assumption
        go_ret
        exact ⟨ret_bool (by rw [calB, prefOk_false HS.out (by rw [newI, hf]; rfl)]; rfl), by (repeat (first | with_reducible assumption | with_reducible exact Below.refl _ _ | with_reducible refine Below.setCell ?_ ?_ _ | with_reducible refine Below.alloc ?_ ?_ _ | with_reducible refine Below.drew ?_ | with_reducible refine below_drewN ?_ _ | with_reducible refine Below.step (by with_reducible assumption) ?_ ?_ | omega | (simp <;> omega) | (simp; done)))⟩
      · have hf : hasI (cal.take k) i = false := by assumption
        go_roundw
        case rel => exact ⟨k + 1, by omega, by go_num, prefAll_succ HA.out HS.out (by rw [newI, hf]; rfl), by (repeat (first | with_reducible assumption | with_reducible exact Below.refl _ _ | with_reducible refine Below.setCell ?_ ?_ _ | with_reducible refine Below.alloc ?_ ?_ _ | with_reducible refine Below.drew ?_ | with_reducible refine below_drewN ?_ _ | with_reducible refine Below.step (by with_reducible assumption) ?_ ?_ | omega | (simp <;> omega) | (simp; done)))⟩
        case measure => simp [intOf]; omega
    · have HL := Lib.hid (prefOk_of HA.out hk hlt)
      have hsn := slotsAt_len ps cal
      go_wp2_with fail
      refine (slotsOf_any _ ps lo2 hi2 _ cal lo3 hi3 _ (h2.below hbel (by omega)) (by omega) hm2 (h3.below hbel (by omega)) (by omega) hm3 hix0.out).mono ?_
      rintro e w5 ⟨v5, rfl, hr5, b5⟩
      have z5 := b5.size
      have hbk := Below.step b5 z0 hbel
      go_wp2_with fail
      refine (isPlan_any _ xs lo hi _ (slotsAt ps cal) _ _ _ (h.below hbk (by omega)) (by omega) hm5 hms0.out hr5.rd (Nat.le_refl _) hb0.out (fun s hs => hsl0.out s (slotsAt_mem hs))).mono ?_
      rintro e w6 ⟨rfl, b6⟩
      have z6 := b6.size
      replace hbk := Below.step b6 (by omega) hbk
      go_wp2_with fail
      go_ret
      exact ⟨ret_bool (by rw [calB, HL.out]; rfl), by (repeat (first | with_reducible assumption | with_reducible exact Below.refl _ _ | with_reducible refine Below.setCell ?_ ?_ _ | with_reducible refine Below.alloc ?_ ?_ _ | with_reducible refine Below.drew ?_ | with_reducible refine below_drewN ?_ _ | with_reducible refine Below.step (by with_reducible assumption) ?_ ?_ | omega | (simp <;> omega) | (simp; done)))⟩
set_option maxRecDepth 100000 in
set_option maxHeartbeats 4000000 in
theorem l21Is_any (v : Value) (xs : List Hearing) (lo hi : Nat) (v2 : Value) (ps : List Slot) (lo2 hi2 : Nat) (v3 : Value) (cal : List Int) (lo3 hi3 : Nat) (w : World) (h : RdHearing w lo hi v xs) (hh : hi ≤ w.heap.size) (hm : xs.length ≤ 1048576) (hms : ∀ x ∈ xs, Hearing.small x) (h2 : RdF Slot.enc 3 w lo2 hi2 v2 ps) (hh2 : hi2 ≤ w.heap.size) (hm2 : ps.length ≤ 1048576) (h3 : RdF encInt 1 w lo3 hi3 v3 cal) (hh3 : hi3 ≤ w.heap.size) (hm3 : cal.length ≤ 1048576) (hm5 : xs.length ≤ 1000) (hb : ∀ x ∈ xs, x.ok = true) (hsl : ∀ s ∈ ps, s.ok = true) (hix : cal.all (idxOk ps.length) = true) :
    Calls Tryz.prog 40 #[v, v2, v3] w fun e w' => e = .returned (.bool (calB xs ps cal)) ∧ Below w.heap.size w w' := by
  obtain ⟨A3, c3, rfl, hcap3⟩ := h3.form
  have hms0 := Lib.hid hms; clear hms
  have hb0 := Lib.hid hb; clear hb
  have hsl0 := Lib.hid hsl; clear hsl
  have hix0 := Lib.hid hix; clear hix
  go_enter Tryz.func40, Tryz.ntmps40
  go_wp2
  go_loopw [7] (fun j wr => ∃ k : Nat, k ≤ cal.length ∧ j = .int .i64 k ∧ Hid (prefAll newI cal k = true) ∧ Below w.heap.size w wr) (fun j _ => cal.length - (intOf j).toNat)
  case atStart => exact ⟨0, Nat.zero_le _, rfl, rfl, Below.refl _ _⟩
  case round =>
    obtain ⟨k, hk, rfl, HA, hbel⟩ := hrel
    have z0 := hbel.size
    by_cases hlt : k < cal.length
    · obtain ⟨i, b, off, HS, hA3, hbw, c0⟩ := RdF.int h3 hbel (by omega) hlt
      subst hA3
      have ht := (h3.pre (k := k) (by omega)).below hbel (by omega)
      have hki : (k : Int) < (cal.length : Int) := by omega
      have hki' : (k : Int) ≤ (c3 : Int) := by omega
      have hlk : (cal.take k).length ≤ 1048576 := by simp; omega
      have htn : ∀ n : Nat, RdF encInt 1 (wr.drewN n) lo3 hi3 (.slice (some ⟨b, off, none⟩) k c3) (cal.take k) := fun n => ht.below (B := hi3) (below_drewN (Below.refl _ _) n) (Nat.le_refl _)
      have hzn : ∀ n : Nat, hi3 ≤ (wr.drewN n).heap.size := fun n => by show hi3 ≤ wr.heap.size; omega
      cases hf : hasI (cal.take k) i with
      | true =>
        go_wp2_with fail
        go_quiet ((first | (go_at_call 55; exact Calls.quiet_of_same ((l01Has_any _ (cal.take k) lo3 hi3 i _ (htn _) (hzn _) hlk).mono (by rintro e w' ⟨rfl, rfl⟩; exact ⟨by rw [hf], rfl⟩)))))
        go_wp2_with fail
        go_ret
        exact ⟨ret_bool (by rw [calB, prefOk_false HS.out (by rw [newI, hf]; rfl)]; rfl), by (repeat (first | with_reducible assumption | with_reducible exact Below.refl _ _ | with_reducible refine Below.setCell ?_ ?_ _ | with_reducible refine Below.alloc ?_ ?_ _ | with_reducible refine Below.drew ?_ | with_reducible refine below_drewN ?_ _ | with_reducible refine Below.step (by with_reducible assumption) ?_ ?_ | omega | (simp <;> omega) | (simp; done)))⟩
      | false =>
        go_wp2_with fail
        go_quiet ((first | (go_at_call 55; exact Calls.quiet_of_same ((l01Has_any _ (cal.take k) lo3 hi3 i _ (htn _) (hzn _) hlk).mono (by rintro e w' ⟨rfl, rfl⟩; exact ⟨by rw [hf], rfl⟩)))))
        go_wp2_with fail
        go_roundw
        case rel => exact ⟨k + 1, by omega, by go_num, prefAll_succ HA.out HS.out (by rw [newI, hf]; rfl), by (repeat (first | with_reducible assumption | with_reducible exact Below.refl _ _ | with_reducible refine Below.setCell ?_ ?_ _ | with_reducible refine Below.alloc ?_ ?_ _ | with_reducible refine Below.drew ?_ | with_reducible refine below_drewN ?_ _ | with_reducible refine Below.step (by with_reducible assumption) ?_ ?_ | omega | (simp <;> omega) | (simp; done)))⟩
        case measure => simp [intOf]; omega
    · have HL := Lib.hid (prefOk_of HA.out hk hlt)
      have hsn := slotsAt_len ps cal
      go_wp2_with fail
      refine (l21Slots_any _ ps lo2 hi2 _ cal lo3 hi3 _ (h2.below hbel (by omega)) (by omega) hm2 (h3.below hbel (by omega)) (by omega) hm3 hix0.out).mono ?_
      rintro e w5 ⟨v5, rfl, hr5, b5⟩
      have z5 := b5.size
      have hbk := Below.step b5 z0 hbel
      go_wp2_with fail
      refine (l19Plan_any _ xs lo hi _ (slotsAt ps cal) _ _ _ (h.below hbk (by omega)) (by omega) hm5 hms0.out hr5.rd (Nat.le_refl _) hb0.out (fun s hs => hsl0.out s (slotsAt_mem hs))).mono ?_
      rintro e w6 ⟨rfl, b6⟩
      have z6 := b6.size
      replace hbk := Below.step b6 (by omega) hbk
      go_wp2_with fail
      go_ret
      exact ⟨ret_bool (by rw [calB, HL.out]; rfl), by (repeat (first | with_reducible assumption | with_reducible exact Below.refl _ _ | with_reducible refine Below.setCell ?_ ?_ _ | with_reducible refine Below.alloc ?_ ?_ _ | with_reducible refine Below.drew ?_ | with_reducible refine below_drewN ?_ _ | with_reducible refine Below.step (by with_reducible assumption) ?_ ?_ | omega | (simp <;> omega) | (simp; done)))⟩
set_option maxRecDepth 100000 in
set_option maxHeartbeats 4000000 in
theorem impIsCalendar_any (v : Value) (xs : List Hearing) (lo hi : Nat) (v2 : Value) (ps : List Slot) (lo2 hi2 : Nat) (v3 : Value) (cal : List Int) (lo3 hi3 : Nat) (w : World) (h : RdHearing w lo hi v xs) (hh : hi ≤ w.heap.size) (hm : xs.length ≤ 1048576) (hms : ∀ x ∈ xs, Hearing.small x) (h2 : RdF Slot.enc 3 w lo2 hi2 v2 ps) (hh2 : hi2 ≤ w.heap.size) (hm2 : ps.length ≤ 1048576) (h3 : RdF encInt 1 w lo3 hi3 v3 cal) (hh3 : hi3 ≤ w.heap.size) (hm3 : cal.length ≤ 1048576) :
    Calls Tryz.prog 17 #[v, v2, v3] w fun e w' => e = .returned (.tuple #[.bool (isCal xs ps cal).1, .int .i64 (isCal xs ps cal).2]) ∧ Below w.heap.size w w' := by
  go_enter Tryz.func17, Tryz.ntmps17
  go_wp2_with fail
  refine (calendarCode_any _ xs lo hi _ ps lo2 hi2 _ cal lo3 hi3 _ h hh hm hms h2 hh2 hm2 h3 hh3 hm3).mono ?_
  rintro e w1 ⟨rfl, b1⟩
  have z1 := b1.size
  replace h := h.below b1 (by omega)
  replace h2 := h2.below b1 (by omega)
  replace h3 := h3.below b1 (by omega)
  by_cases hz : calCode xs ps cal = 0
  · have hz2 := calCode_zero hz
    have hlen := hearingsOk_len (bothOk_hx hz2.1)
    have HF := Lib.hid (show isCal xs ps cal = (calB xs ps cal, 0) by unfold isCal; rw [if_pos hz])
    rw [hz]
    clear hz
    go_wp2_with fail
    refine (isCalendar_any _ xs lo hi _ ps lo2 hi2 _ cal lo3 hi3 _ h (by omega) hm hms h2 (by omega) hm2 h3 (by omega) hm3 (by omega) (hearingsOk_all (bothOk_hx hz2.1)) (slotsOk_all (bothOk_sx hz2.1)) hz2.2.2).mono ?_
    rintro e w2 ⟨rfl, b2⟩
    have hbk := Below.step b2 z1 b1
    go_wp2_with fail
    go_ret2
    exact ⟨ret_bc HF.out.symm, hbk⟩
  · have HF := Lib.hid (show isCal xs ps cal = (false, calCode xs ps cal) by unfold isCal; rw [if_neg hz])
    have hne : (calCode xs ps cal != 0) = true := by simpa using hz
    generalize calCode xs ps cal = cd at *
    go_wp2_with fail
    go_ret2
    exact ⟨ret_bc HF.out.symm, b1⟩
set_option maxRecDepth 100000 in
set_option maxHeartbeats 4000000 in
theorem sIsCalendar_any (v : Value) (xs : List Hearing) (lo hi : Nat) (v2 : Value) (ps : List Slot) (lo2 hi2 : Nat) (v3 : Value) (cal : List Int) (lo3 hi3 : Nat) (w : World) (h : RdHearing w lo hi v xs) (hh : hi ≤ w.heap.size) (hm : xs.length ≤ 1048576) (hms : ∀ x ∈ xs, Hearing.small x) (h2 : RdF Slot.enc 3 w lo2 hi2 v2 ps) (hh2 : hi2 ≤ w.heap.size) (hm2 : ps.length ≤ 1048576) (h3 : RdF encInt 1 w lo3 hi3 v3 cal) (hh3 : hi3 ≤ w.heap.size) (hm3 : cal.length ≤ 1048576) :
    Calls Tryz.prog 18 #[v, v2, v3] w fun e w' => e = .returned (.tuple #[.bool (isCal xs ps cal).1, .int .i64 (isCal xs ps cal).2]) ∧ Below w.heap.size w w' := by
  go_enter Tryz.func18, Tryz.ntmps18
  go_wp2_with fail
  refine (l21List_any _ xs lo hi _ ps lo2 hi2 _ cal lo3 hi3 _ h hh hm hms h2 hh2 hm2 h3 hh3 hm3).mono ?_
  rintro e w1 ⟨rfl, b1⟩
  have z1 := b1.size
  replace h := h.below b1 (by omega)
  replace h2 := h2.below b1 (by omega)
  replace h3 := h3.below b1 (by omega)
  by_cases hz : calCode xs ps cal = 0
  · have hz2 := calCode_zero hz
    have hlen := hearingsOk_len (bothOk_hx hz2.1)
    have HF := Lib.hid (show isCal xs ps cal = (calB xs ps cal, 0) by unfold isCal; rw [if_pos hz])
    rw [hz]
    clear hz
    go_wp2_with fail
    refine (l21Is_any _ xs lo hi _ ps lo2 hi2 _ cal lo3 hi3 _ h (by omega) hm hms h2 (by omega) hm2 h3 (by omega) hm3 (by omega) (hearingsOk_all (bothOk_hx hz2.1)) (slotsOk_all (bothOk_sx hz2.1)) hz2.2.2).mono ?_
    rintro e w2 ⟨rfl, b2⟩
    have hbk := Below.step b2 z1 b1
    go_wp2_with fail
    go_ret2
    exact ⟨ret_bc HF.out.symm, hbk⟩
  · have HF := Lib.hid (show isCal xs ps cal = (false, calCode xs ps cal) by unfold isCal; rw [if_neg hz])
    have hne : (calCode xs ps cal != 0) = true := by simpa using hz
    generalize calCode xs ps cal = cd at *
    go_wp2_with fail
    go_ret2
    exact ⟨ret_bc HF.out.symm, b1⟩
end Go.Proofs.YtmgdkblleljdaaaGreat
