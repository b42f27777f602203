/- Walks: CostOf. Written by a program (gen_cost.py). -/
import Derived.Test.YtmgdkblleljdaaaGreatCalX
namespace Go.Proofs.YtmgdkblleljdaaaGreat
open Go.RowKit
set_option linter.unusedVariables false

theorem costL_take_bounds {ps : List Slot} (hs : ∀ s ∈ ps, s.ok = true) : ∀ (cal : List Int), 0 ≤ costL ps cal ∧ costL ps cal ≤ 20000 * (cal.length : Int) := by
  intro cal
  unfold costL
  have h : ∀ (ys : List Slot), (∀ s ∈ ys, s.ok = true) → 0 ≤ (ys.map Slot.day).sum ∧ (ys.map Slot.day).sum ≤ 20000 * (ys.length : Int) := by
    intro ys
    induction ys with
    | nil => intro _; simp
    | cons y ys ih =>
      intro hy
      have h1 := ih (fun s h => hy s (List.mem_cons_of_mem _ h))
      have h2 := Slot.ok_bounds (hy y List.mem_cons_self)
      simp only [List.map_cons, List.sum_cons, List.length_cons]
      constructor <;> omega
  have h1 := h (slotsAt ps cal) (fun s h => hs s (slotsAt_mem h))
  have h2 := slotsAt_len ps cal
  constructor <;> omega
theorem costL_step {ps : List Slot} {cal : List Int} {k : Nat} {i : Int} {s : Slot} (h1 : cal[k]? = some i) (h2 : ps[i.toNat]? = some s) : costL ps (cal.take (k + 1)) = costL ps (cal.take k) + s.day := by
  unfold costL
  rw [slotsAt_step h1 h2, List.map_append, List.sum_append]
  simp
def sumDay (ys : List Slot) : Int := (ys.map Slot.day).sum
theorem sumDay_step {ys : List Slot} {k : Nat} {s : Slot} (h : ys[k]? = some s) : sumDay (ys.take (k + 1)) = sumDay (ys.take k) + s.day := by
  unfold sumDay
  rw [List.take_add_one, h, List.map_append, List.sum_append]
  simp

theorem sumDay_bd : ∀ (ys : List Slot), (∀ s ∈ ys, s.ok = true) → 0 ≤ sumDay ys ∧ sumDay ys ≤ 20000 * (ys.length : Int) := by
  intro ys
  unfold sumDay
  induction ys with
  | nil => intro _; simp
  | cons y ys ih =>
    intro hy
    have h1 := ih (fun s h => hy s (List.mem_cons_of_mem _ h))
    have h2 := Slot.ok_bounds (hy y List.mem_cons_self)
    simp only [List.map_cons, List.sum_cons, List.length_cons]
    constructor <;> omega

set_option maxRecDepth 100000 in
set_option maxHeartbeats 4000000 in
theorem cost_any (v : Value) (ps : List Slot) (lo hi : Nat) (v2 : Value) (cal : List Int) (lo2 hi2 : Nat) (w : World) (h : RdF Slot.enc 3 w lo hi v ps) (hh : hi ≤ w.heap.size) (hm : ps.length ≤ 1048576) (h2 : RdF encInt 1 w lo2 hi2 v2 cal) (hh2 : hi2 ≤ w.heap.size) (hm2 : cal.length ≤ 1048576) (hsl : ∀ s ∈ ps, s.ok = true) (hix : cal.all (idxOk ps.length) = true) :
    Calls Tryz.prog 27 #[v, v2] w fun e w' => e = .returned (.int .i64 (costL ps cal)) ∧ Below w.heap.size w w' := by
  go_enter Tryz.func27, Tryz.ntmps27
  go_wp2_with fail
  refine (slotsOf_any _ ps lo hi _ cal lo2 hi2 _ h hh hm h2 hh2 hm2 hix).mono ?_
  rintro e w1 ⟨v1, rfl, hr1, b1⟩
  have z1 := b1.size
  have hlen := slotsAt_len ps cal
  have HS0 := Lib.hid (fun s (hs : s ∈ slotsAt ps cal) => hsl s (slotsAt_mem hs))
  have HE := Lib.hid (show costL ps cal = sumDay (slotsAt ps cal) from rfl)
  generalize slotsAt ps cal = ys at *
  obtain ⟨A, c, rfl, hcap⟩ := RdF.form hr1.rd
  clear h h2
  go_wp2_with fail
  go_loopw [5, 7, 12] (fun u _ j wr => ∃ k : Nat, k ≤ ys.length ∧ j = .int .i64 k ∧ u = .int .i64 (sumDay (ys.take k)) ∧ Below w1.heap.size w1 wr) (fun _ _ j _ => ys.length - (intOf j).toNat)
  case atStart => exact ⟨0, Nat.zero_le _, rfl, rfl, Below.refl _ _⟩
  case round =>
    obtain ⟨k, hk, rfl, rfl, hbel⟩ := hrel
    have z0 := hbel.size
    by_cases hlt : k < ys.length
    · have hki : (k : Int) < (ys.length : Int) := by omega
      obtain ⟨s0, d0, of0, HT0, rfl, -, hdw0, c0_0, c0_1, c0_2⟩ := Slot.at hr1.rd hbel (Nat.le_refl _) hlt
      have ht0 := s0.ok_bounds (HS0.out s0 (List.mem_of_getElem? HT0.out))
      have hbd := sumDay_bd (ys.take k) (fun s hs => HS0.out s (List.mem_of_mem_take hs))
      rw [List.length_take] at hbd
      have HN := Lib.hid (sumDay_step HT0.out)
      have hbd2 : sumDay (ys.take k) ≤ 20000 * 1048576 := by omega
      have hbd1 := hbd.1
      clear hbd
      generalize sumDay (ys.take k) = tot at *
      go_wp2
      go_roundw
      case rel => exact ⟨k + 1, by omega, by go_num, by rw [HN.out], by (repeat (first | with_reducible assumption | with_reducible exact Below.refl _ _ | with_reducible refine Below.setCell ?_ ?_ _ | with_reducible refine Below.alloc ?_ ?_ _ | with_reducible refine Below.drew ?_ | with_reducible refine below_drewN ?_ _ | with_reducible refine Below.step (by with_reducible assumption) ?_ ?_ | omega | (simp <;> omega) | (simp; done)))⟩
      case measure => simp [intOf]; omega
    · have hkn : k = ys.length := by omega
      rw [hkn, List.take_length]
      go_wp2_with fail
      go_ret
      exact ⟨ret_int HE.out.symm, by (repeat (first | with_reducible assumption | with_reducible exact Below.refl _ _ | with_reducible refine Below.setCell ?_ ?_ _ | with_reducible refine Below.alloc ?_ ?_ _ | with_reducible refine Below.drew ?_ | with_reducible refine below_drewN ?_ _ | with_reducible refine Below.step (by with_reducible assumption) ?_ ?_ | omega | (simp <;> omega) | (simp; done)))⟩
set_option maxRecDepth 100000 in
set_option maxHeartbeats 4000000 in
theorem l21Cost_any (v : Value) (ps : List Slot) (lo hi : Nat) (v2 : Value) (cal : List Int) (lo2 hi2 : Nat) (w : World) (h : RdF Slot.enc 3 w lo hi v ps) (hh : hi ≤ w.heap.size) (hm : ps.length ≤ 1048576) (h2 : RdF encInt 1 w lo2 hi2 v2 cal) (hh2 : hi2 ≤ w.heap.size) (hm2 : cal.length ≤ 1048576) (hsl : ∀ s ∈ ps, s.ok = true) (hix : cal.all (idxOk ps.length) = true) :
    Calls Tryz.prog 30 #[v, v2] w fun e w' => e = .returned (.int .i64 (costL ps cal)) ∧ Below w.heap.size w w' := by
  obtain ⟨A, c, rfl, hcap⟩ := h.form
  obtain ⟨A2, c2, rfl, hcap2⟩ := h2.form
  have HI := Lib.hid hix; clear hix
  have HL := Lib.hid hsl; clear hsl
  go_enter Tryz.func30, Tryz.ntmps30
  go_wp2
  go_loopw [5, 6] (fun u j wr => ∃ k : Nat, k ≤ cal.length ∧ j = .int .i64 k ∧ u = .int .i64 (costL ps (cal.take k)) ∧ Below w.heap.size w wr) (fun _ j _ => cal.length - (intOf j).toNat)
  case atStart => exact ⟨0, Nat.zero_le _, rfl, rfl, Below.refl _ _⟩
  case round =>
    obtain ⟨k, hk, rfl, rfl, hbel⟩ := hrel
    have z0 := hbel.size
    by_cases hlt : k < cal.length
    · have hki : (k : Int) < (cal.length : Int) := by omega
      obtain ⟨i, b, off, HS, hA2, hbw, c0⟩ := RdF.int h2 hbel (by omega) hlt
      subst hA2
      have hio : idxOk ps.length i = true := List.all_eq_true.1 HI.out i (List.mem_of_getElem? HS.out)
      unfold idxOk at hio
      have hio2 := of_decide_eq_true hio
      clear hio
      obtain ⟨n, rfl⟩ := Int.eq_ofNat_of_zero_le hio2.1
      have hn : n < ps.length := by omega
      have hni : (n : Int) < (ps.length : Int) := by omega
      clear hio2
      obtain ⟨s0, d0, of0, HT0, rfl, -, hdw0, c0_0, c0_1, c0_2⟩ := Slot.at h hbel hh hn
      have ht0 := s0.ok_bounds (HL.out s0 (List.mem_of_getElem? HT0.out))
      have hbd := costL_take_bounds HL.out (cal.take k)
      rw [List.length_take] at hbd
      have HN := Lib.hid (costL_step HS.out (by simpa using HT0.out))
      have hbd2 : costL ps (cal.take k) ≤ 20000 * 1048576 := by omega
      have hbd1 := hbd.1
      clear hbd
      generalize costL ps (cal.take k) = tot at *
      go_wp2
      go_roundw
      case rel => exact ⟨k + 1, by omega, by go_num, by rw [HN.out], by (repeat (first | with_reducible assumption | with_reducible exact Below.refl _ _ | with_reducible refine Below.setCell ?_ ?_ _ | with_reducible refine Below.alloc ?_ ?_ _ | with_reducible refine Below.drew ?_ | with_reducible refine below_drewN ?_ _ | with_reducible refine Below.step (by with_reducible assumption) ?_ ?_ | omega | (simp <;> omega) | (simp; done)))⟩
      case measure => simp [intOf]; omega
    · have hkn : k = cal.length := by omega
      rw [hkn, List.take_length]
      go_wp2_with fail
      go_ret
      exact ⟨rfl, by (repeat (first | with_reducible assumption | with_reducible exact Below.refl _ _ | with_reducible refine Below.setCell ?_ ?_ _ | with_reducible refine Below.alloc ?_ ?_ _ | with_reducible refine Below.drew ?_ | with_reducible refine below_drewN ?_ _ | with_reducible refine Below.step (by with_reducible assumption) ?_ ?_ | omega | (simp <;> omega) | (simp; done)))⟩
theorem ret_ii {a b c d : Int} (h : (a, c) = (b, d)) : Ending.returned (.tuple #[.int .i64 a, .int .i64 c]) = .returned (.tuple #[.int .i64 b, .int .i64 d]) := by
  injection h with h1 h2
  rw [h1, h2]
set_option maxRecDepth 100000 in
set_option maxHeartbeats 4000000 in
theorem impCostOf_any (v : Value) (xs : List Hearing) (lo hi : Nat) (v2 : Value) (ps : List Slot) (lo2 hi2 : Nat) (v3 : Value) (cal : List Int) (lo3 hi3 : Nat) (w : World) (h : RdHearing w lo hi v xs) (hh : hi ≤ w.heap.size) (hm : xs.length ≤ 1048576) (hms : ∀ x ∈ xs, Hearing.small x) (h2 : RdF Slot.enc 3 w lo2 hi2 v2 ps) (hh2 : hi2 ≤ w.heap.size) (hm2 : ps.length ≤ 1048576) (h3 : RdF encInt 1 w lo3 hi3 v3 cal) (hh3 : hi3 ≤ w.heap.size) (hm3 : cal.length ≤ 1048576) :
    Calls Tryz.prog 15 #[v, v2, v3] w fun e w' => e = .returned (.tuple #[.int .i64 (costOf xs ps cal).1, .int .i64 (costOf xs ps cal).2]) ∧ Below w.heap.size w w' := by
  go_enter Tryz.func15, Tryz.ntmps15
  go_wp2_with fail
  refine (calendarCode_any _ xs lo hi _ ps lo2 hi2 _ cal lo3 hi3 _ h hh hm hms h2 hh2 hm2 h3 hh3 hm3).mono ?_
  rintro e w1 ⟨rfl, b1⟩
  have z1 := b1.size
  replace h := h.below b1 (by omega)
  replace h2 := h2.below b1 (by omega)
  replace h3 := h3.below b1 (by omega)
  by_cases hz : calCode xs ps cal = 0
  · have hz2 := calCode_zero hz
    have hlen := hearingsOk_len (bothOk_hx hz2.1)
    have HF0 := Lib.hid (show costOf xs ps cal = (if calB xs ps cal then (costL ps cal, 0) else (0, 5)) by unfold costOf; rw [if_pos hz])
    rw [hz]
    clear hz
    go_wp2_with fail
    refine (isCalendar_any _ xs lo hi _ ps lo2 hi2 _ cal lo3 hi3 _ h (by omega) hm hms h2 (by omega) hm2 h3 (by omega) hm3 (by omega) (hearingsOk_all (bothOk_hx hz2.1)) (slotsOk_all (bothOk_sx hz2.1)) hz2.2.2).mono ?_
    rintro e w2 ⟨rfl, b2⟩
    have z2 := b2.size
    replace h2 := h2.below b2 (by omega)
    replace h3 := h3.below b2 (by omega)
    have hbk := Below.step b2 z1 b1
    cases hcb : calB xs ps cal with
    | false =>
      have HF := Lib.hid (show costOf xs ps cal = (0, 5) by rw [HF0.out, hcb]; rfl)
      go_wp2_with fail
      go_ret2
      exact ⟨ret_ii HF.out.symm, hbk⟩
    | true =>
      have HF := Lib.hid (show costOf xs ps cal = (costL ps cal, 0) by rw [HF0.out, hcb]; rfl)
      go_wp2_with fail
      refine (cost_any _ ps lo2 hi2 _ cal lo3 hi3 _ h2 (by omega) hm2 h3 (by omega) hm3 (slotsOk_all (bothOk_sx hz2.1)) hz2.2.2).mono ?_
      rintro e w3 ⟨rfl, b3⟩
      replace hbk := Below.step b3 (by omega) hbk
      go_wp2_with fail
      go_ret2
      exact ⟨ret_ii HF.out.symm, hbk⟩
  · have HF := Lib.hid (show costOf xs ps cal = (0, calCode xs ps cal) by unfold costOf; rw [if_neg hz])
    have hne : (calCode xs ps cal != 0) = true := by simpa using hz
    generalize calCode xs ps cal = cd at *
    go_wp2_with fail
    go_ret2
    exact ⟨ret_ii HF.out.symm, b1⟩
set_option maxRecDepth 100000 in
set_option maxHeartbeats 4000000 in
theorem sCostOf_any (v : Value) (xs : List Hearing) (lo hi : Nat) (v2 : Value) (ps : List Slot) (lo2 hi2 : Nat) (v3 : Value) (cal : List Int) (lo3 hi3 : Nat) (w : World) (h : RdHearing w lo hi v xs) (hh : hi ≤ w.heap.size) (hm : xs.length ≤ 1048576) (hms : ∀ x ∈ xs, Hearing.small x) (h2 : RdF Slot.enc 3 w lo2 hi2 v2 ps) (hh2 : hi2 ≤ w.heap.size) (hm2 : ps.length ≤ 1048576) (h3 : RdF encInt 1 w lo3 hi3 v3 cal) (hh3 : hi3 ≤ w.heap.size) (hm3 : cal.length ≤ 1048576) :
    Calls Tryz.prog 16 #[v, v2, v3] w fun e w' => e = .returned (.tuple #[.int .i64 (costOf xs ps cal).1, .int .i64 (costOf xs ps cal).2]) ∧ Below w.heap.size w w' := by
  go_enter Tryz.func16, Tryz.ntmps16
  go_wp2_with fail
  refine (l21List_any _ xs lo hi _ ps lo2 hi2 _ cal lo3 hi3 _ h hh hm hms h2 hh2 hm2 h3 hh3 hm3).mono ?_
  rintro e w1 ⟨rfl, b1⟩
  have z1 := b1.size
  replace h := h.below b1 (by omega)
  replace h2 := h2.below b1 (by omega)
  replace h3 := h3.below b1 (by omega)
  by_cases hz : calCode xs ps cal = 0
  · have hz2 := calCode_zero hz
    have hlen := hearingsOk_len (bothOk_hx hz2.1)
    have HF0 := Lib.hid (show costOf xs ps cal = (if calB xs ps cal then (costL ps cal, 0) else (0, 5)) by unfold costOf; rw [if_pos hz])
    rw [hz]
    clear hz
    go_wp2_with fail
    refine (l21Is_any _ xs lo hi _ ps lo2 hi2 _ cal lo3 hi3 _ h (by omega) hm hms h2 (by omega) hm2 h3 (by omega) hm3 (by omega) (hearingsOk_all (bothOk_hx hz2.1)) (slotsOk_all (bothOk_sx hz2.1)) hz2.2.2).mono ?_
    rintro e w2 ⟨rfl, b2⟩
    have z2 := b2.size
    replace h2 := h2.below b2 (by omega)
    replace h3 := h3.below b2 (by omega)
    have hbk := Below.step b2 z1 b1
    cases hcb : calB xs ps cal with
    | false =>
      have HF := Lib.hid (show costOf xs ps cal = (0, 5) by rw [HF0.out, hcb]; rfl)
      go_wp2_with fail
      go_ret2
      exact ⟨ret_ii HF.out.symm, hbk⟩
    | true =>
      have HF := Lib.hid (show costOf xs ps cal = (costL ps cal, 0) by rw [HF0.out, hcb]; rfl)
      go_wp2_with fail
      refine (l21Cost_any _ ps lo2 hi2 _ cal lo3 hi3 _ h2 (by omega) hm2 h3 (by omega) hm3 (slotsOk_all (bothOk_sx hz2.1)) hz2.2.2).mono ?_
      rintro e w3 ⟨rfl, b3⟩
      replace hbk := Below.step b3 (by omega) hbk
      go_wp2_with fail
      go_ret2
      exact ⟨ret_ii HF.out.symm, hbk⟩
  · have HF := Lib.hid (show costOf xs ps cal = (0, calCode xs ps cal) by unfold costOf; rw [if_neg hz])
    have hne : (calCode xs ps cal != 0) = true := by simpa using hz
    generalize calCode xs ps cal = cd at *
    go_wp2_with fail
    go_ret2
    exact ⟨ret_ii HF.out.symm, b1⟩
end Go.Proofs.YtmgdkblleljdaaaGreat
