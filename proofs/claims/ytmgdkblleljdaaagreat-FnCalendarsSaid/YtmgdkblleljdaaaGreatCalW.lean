/- Walks: the slots with some indices; the code of a calendar. Written by a program (gen_cal.py). -/
import Derived.Test.YtmgdkblleljdaaaGreatPlanW
import Derived.Test.YtmgdkblleljdaaaGreatBothW
import Derived.Test.YtmgdkblleljdaaaGreatIntsW
import Derived.Test.YtmgdkblleljdaaaGreatMem3
import Derived.Deep.RegionHeld3
namespace Go.Proofs.YtmgdkblleljdaaaGreat
open Go.RowKit
set_option linter.unusedVariables false

def idxOk (n : Nat) (i : Int) : Bool := decide (0 ≤ i ∧ i < n)
def slotsAt (ps : List Slot) (cal : List Int) : List Slot := cal.filterMap fun i => ps[i.toNat]?
def newI (before : List Int) (i : Int) : Bool := !hasI before i
def calB (xs : List Hearing) (ps : List Slot) (cal : List Int) : Bool := prefOk newI cal && planB xs (slotsAt ps cal)
def calCode (xs : List Hearing) (ps : List Slot) (cal : List Int) : Int := if bothOk xs ps then (if cal.length = xs.length ∧ cal.all (idxOk ps.length) = true then 0 else 2) else 1
def isCal (xs : List Hearing) (ps : List Slot) (cal : List Int) : Bool × Int := if calCode xs ps cal = 0 then (calB xs ps cal, 0) else (false, calCode xs ps cal)
def costL (ps : List Slot) (cal : List Int) : Int := ((slotsAt ps cal).map Slot.day).sum
def costOf (xs : List Hearing) (ps : List Slot) (cal : List Int) : Int × Int := if calCode xs ps cal = 0 then (if calB xs ps cal then (costL ps cal, 0) else (0, 5)) else (0, calCode xs ps cal)
theorem calCode_bad {xs : List Hearing} {ps : List Slot} {cal : List Int} (h : bothOk xs ps = false) : calCode xs ps cal = 1 := by unfold calCode; rw [h]; rfl
theorem calCode_len {xs : List Hearing} {ps : List Slot} {cal : List Int} (h : bothOk xs ps = true) (hl : ¬ cal.length = xs.length) : calCode xs ps cal = 2 := by unfold calCode; rw [if_pos h, if_neg (fun h2 => hl h2.1)]
theorem calCode_idx {xs : List Hearing} {ps : List Slot} {cal : List Int} (h : bothOk xs ps = true) (hl : cal.all (idxOk ps.length) = false) : calCode xs ps cal = 2 := by
  unfold calCode
  rw [if_pos h, if_neg (fun h2 => by rw [hl] at h2; simp at h2)]
theorem calCode_ok {xs : List Hearing} {ps : List Slot} {cal : List Int} (h : bothOk xs ps = true) (hl : cal.length = xs.length) (ha : cal.all (idxOk ps.length) = true) : calCode xs ps cal = 0 := by unfold calCode; rw [if_pos h, if_pos ⟨hl, ha⟩]
theorem calCode_zero {xs : List Hearing} {ps : List Slot} {cal : List Int} (h : calCode xs ps cal = 0) : bothOk xs ps = true ∧ cal.length = xs.length ∧ cal.all (idxOk ps.length) = true := by
  unfold calCode at h
  split at h
  · split at h
    · exact ⟨by assumption, by assumption⟩
    · simp at h
  · simp at h
theorem slotsAt_step {ps : List Slot} {cal : List Int} {k : Nat} {i : Int} {s : Slot} (h1 : cal[k]? = some i) (h2 : ps[i.toNat]? = some s) : slotsAt ps (cal.take (k + 1)) = slotsAt ps (cal.take k) ++ [s] := by
  unfold slotsAt
  rw [List.take_add_one, h1, List.filterMap_append]
  simp [h2]
theorem slotsAt_len (ps : List Slot) (cal : List Int) : (slotsAt ps cal).length ≤ cal.length := List.length_filterMap_le _ _
theorem slotsAt_mem {ps : List Slot} {cal : List Int} {s : Slot} (h : s ∈ slotsAt ps cal) : s ∈ ps := by
  unfold slotsAt at h
  rw [List.mem_filterMap] at h
  obtain ⟨i, -, hi⟩ := h
  exact List.mem_of_getElem? hi

set_option maxRecDepth 100000 in
set_option maxHeartbeats 4000000 in
theorem slotsOf_any (v : Value) (ps : List Slot) (lo hi : Nat) (v2 : Value) (cal : List Int) (lo2 hi2 : Nat) (w : World) (h : RdF Slot.enc 3 w lo hi v ps) (hh : hi ≤ w.heap.size) (hm : ps.length ≤ 1048576) (h2 : RdF encInt 1 w lo2 hi2 v2 cal) (hh2 : hi2 ≤ w.heap.size) (hm2 : cal.length ≤ 1048576) (hix : cal.all (idxOk ps.length) = true) :
    Calls Tryz.prog 49 #[v, v2] w fun e w' => RetV (fun v' w' => RdW Slot.enc 3 70 w' w.heap.size w'.heap.size v' (slotsAt ps cal)) w e w' := by
  obtain ⟨A, c, rfl, hcap⟩ := h.form
  obtain ⟨A2, c2, rfl, hcap2⟩ := h2.form
  have HI := Lib.hid hix; clear hix
  go_enter Tryz.func49, Tryz.ntmps49
  go_wp2
  go_loopw [5, 7, 11] (fun u _ j wr => ∃ k : Nat, k ≤ cal.length ∧ j = .int .i64 k ∧ OwnL Slot.enc 3 70 wr w.heap.size u (slotsAt ps (cal.take k)) ∧ Below w.heap.size w wr) (fun _ _ j _ => cal.length - (intOf j).toNat)
  case atStart => exact ⟨0, Nat.zero_le _, rfl, OwnL.emptyAt (w := w) rfl (Nat.le_refl _), by (repeat (first | with_reducible assumption | with_reducible exact Below.refl _ _ | with_reducible refine Below.setCell ?_ ?_ _ | with_reducible refine Below.alloc ?_ ?_ _ | with_reducible refine Below.drew ?_ | with_reducible refine below_drewN ?_ _ | with_reducible refine Below.step (by with_reducible assumption) ?_ ?_ | omega | (simp <;> omega) | (simp; done)))⟩
  case round =>
    obtain ⟨k, hk, rfl, hown, hbel⟩ := hrel
    have z0 := hbel.size
    have hsl := slotsAt_len ps (cal.take k)
    rw [List.length_take] at hsl
    by_cases hlt : k < cal.length
    · have hki : (k : Int) < (cal.length : Int) := by omega
      obtain ⟨i, b, off, HS, hA2, hbw, c0⟩ := RdF.int h2 hbel (by omega) hlt
      subst hA2
      have hio : idxOk ps.length i = true := List.all_eq_true.1 HI.out i (List.mem_of_getElem? HS.out)
      unfold idxOk at hio
      have hio2 := of_decide_eq_true hio
      clear hio
      obtain ⟨n, rfl⟩ := Int.eq_ofNat_of_zero_le hio2.1
      have hn : n < ps.length := by omega
      have hni : (n : Int) < (ps.length : Int) := by omega
      clear hio2
      obtain ⟨s0, d0, of0, HT0, rfl, -, hdw0, c0_0, c0_1, c0_2⟩ := Slot.at h hbel hh hn
      have HN := Lib.hid (slotsAt_step HS.out (by simpa using HT0.out))
      go_wp2_with (at_builtin; refine wpList_push (enc := Slot.enc) _ _ (by first | rfl | simp) rfl (.tmp 15) (.tmp 20) 25 rfl w.heap.size 70 _ (.agg #[.int .i64 0, .int .i64 0, .int .i64 0]) 3 24 Tryz.underlying25 (by kernel_rfl) rfl (by omega) _ (slotsAt ps (cal.take k)) s0 _ rfl rfl (Slot.one' _) rfl rfl hown (by omega) (by omega) (by (first | omega | (simp; omega) | (simp; done))) ?_; intro v9 w9 hown9 hg9 hk9)
      go_roundw
      case rel => exact ⟨k + 1, by omega, by go_num, (by rw [HN.out]; exact hown9), hk9 _ _ (Nat.le_refl _) (by (repeat (first | with_reducible assumption | with_reducible exact Below.refl _ _ | with_reducible refine Below.setCell ?_ ?_ _ | with_reducible refine Below.alloc ?_ ?_ _ | with_reducible refine Below.drew ?_ | with_reducible refine below_drewN ?_ _ | with_reducible refine Below.step (by with_reducible assumption) ?_ ?_ | omega | (simp <;> omega) | (simp; done))))⟩
      case measure => simp [intOf]; omega
    · have hkn : k = cal.length := by omega
      subst hkn
      rw [List.take_length] at hown
      have hrw := hown.rdw (fun _ => rfl)
      clear hown
      go_wp2_with fail
      go_ret
      exact ⟨_, rfl, hrw, by (repeat (first | with_reducible assumption | with_reducible exact Below.refl _ _ | with_reducible refine Below.setCell ?_ ?_ _ | with_reducible refine Below.alloc ?_ ?_ _ | with_reducible refine Below.drew ?_ | with_reducible refine below_drewN ?_ _ | with_reducible refine Below.step (by with_reducible assumption) ?_ ?_ | omega | (simp <;> omega) | (simp; done)))⟩
set_option maxRecDepth 100000 in
set_option maxHeartbeats 4000000 in
theorem l21Slots_any (v : Value) (ps : List Slot) (lo hi : Nat) (v2 : Value) (cal : List Int) (lo2 hi2 : Nat) (w : World) (h : RdF Slot.enc 3 w lo hi v ps) (hh : hi ≤ w.heap.size) (hm : ps.length ≤ 1048576) (h2 : RdF encInt 1 w lo2 hi2 v2 cal) (hh2 : hi2 ≤ w.heap.size) (hm2 : cal.length ≤ 1048576) (hix : cal.all (idxOk ps.length) = true) :
    Calls Tryz.prog 57 #[v, v2] w fun e w' => RetV (fun v' w' => RdW Slot.enc 3 70 w' w.heap.size w'.heap.size v' (slotsAt ps cal)) w e w' := by
  obtain ⟨A, c, rfl, hcap⟩ := h.form
  obtain ⟨A2, c2, rfl, hcap2⟩ := h2.form
  have HI := Lib.hid hix; clear hix
  go_enter Tryz.func57, Tryz.ntmps57
  go_wp2
  go_loopw [5, 6] (fun u j wr => ∃ k : Nat, k ≤ cal.length ∧ j = .int .i64 k ∧ OwnL Slot.enc 3 70 wr w.heap.size u (slotsAt ps (cal.take k)) ∧ Below w.heap.size w wr) (fun _ j _ => cal.length - (intOf j).toNat)
  case atStart => exact ⟨0, Nat.zero_le _, rfl, OwnL.emptyAt (w := w) rfl (Nat.le_refl _), by (repeat (first | with_reducible assumption | with_reducible exact Below.refl _ _ | with_reducible refine Below.setCell ?_ ?_ _ | with_reducible refine Below.alloc ?_ ?_ _ | with_reducible refine Below.drew ?_ | with_reducible refine below_drewN ?_ _ | with_reducible refine Below.step (by with_reducible assumption) ?_ ?_ | omega | (simp <;> omega) | (simp; done)))⟩
  case round =>
    obtain ⟨k, hk, rfl, hown, hbel⟩ := hrel
    have z0 := hbel.size
    have hsl := slotsAt_len ps (cal.take k)
    rw [List.length_take] at hsl
    by_cases hlt : k < cal.length
    · have hki : (k : Int) < (cal.length : Int) := by omega
      obtain ⟨i, b, off, HS, hA2, hbw, c0⟩ := RdF.int h2 hbel (by omega) hlt
      subst hA2
      have hio : idxOk ps.length i = true := List.all_eq_true.1 HI.out i (List.mem_of_getElem? HS.out)
      unfold idxOk at hio
      have hio2 := of_decide_eq_true hio
      clear hio
      obtain ⟨n, rfl⟩ := Int.eq_ofNat_of_zero_le hio2.1
      have hn : n < ps.length := by omega
      have hni : (n : Int) < (ps.length : Int) := by omega
      clear hio2
      obtain ⟨s0, d0, of0, HT0, rfl, -, hdw0, c0_0, c0_1, c0_2⟩ := Slot.at h hbel hh hn
      have HN := Lib.hid (slotsAt_step HS.out (by simpa using HT0.out))
      go_wp2_with (at_builtin; refine wpList_push (enc := Slot.enc) _ _ (by first | rfl | simp) rfl (.tmp 14) (.tmp 22) 25 rfl w.heap.size 70 _ (.agg #[.int .i64 0, .int .i64 0, .int .i64 0]) 3 24 Tryz.underlying25 (by kernel_rfl) rfl (by omega) _ (slotsAt ps (cal.take k)) s0 _ rfl rfl (Slot.one' _) rfl rfl hown (by omega) (by omega) (by (first | omega | (simp; omega) | (simp; done))) ?_; intro v9 w9 hown9 hg9 hk9)
      go_roundw
      case rel => exact ⟨k + 1, by omega, by go_num, (by rw [HN.out]; exact hown9), hk9 _ _ (Nat.le_refl _) (by (repeat (first | with_reducible assumption | with_reducible exact Below.refl _ _ | with_reducible refine Below.setCell ?_ ?_ _ | with_reducible refine Below.alloc ?_ ?_ _ | with_reducible refine Below.drew ?_ | with_reducible refine below_drewN ?_ _ | with_reducible refine Below.step (by with_reducible assumption) ?_ ?_ | omega | (simp <;> omega) | (simp; done))))⟩
      case measure => simp [intOf]; omega
    · have hkn : k = cal.length := by omega
      subst hkn
      rw [List.take_length] at hown
      have hrw := hown.rdw (fun _ => rfl)
      clear hown
      go_wp2_with fail
      go_ret
      exact ⟨_, rfl, hrw, by (repeat (first | with_reducible assumption | with_reducible exact Below.refl _ _ | with_reducible refine Below.setCell ?_ ?_ _ | with_reducible refine Below.alloc ?_ ?_ _ | with_reducible refine Below.drew ?_ | with_reducible refine below_drewN ?_ _ | with_reducible refine Below.step (by with_reducible assumption) ?_ ?_ | omega | (simp <;> omega) | (simp; done)))⟩
set_option maxRecDepth 100000 in
set_option maxHeartbeats 4000000 in
theorem calendarCode_any (v : Value) (xs : List Hearing) (lo hi : Nat) (v2 : Value) (ps : List Slot) (lo2 hi2 : Nat) (v3 : Value) (cal : List Int) (lo3 hi3 : Nat) (w : World) (h : RdHearing w lo hi v xs) (hh : hi ≤ w.heap.size) (hm : xs.length ≤ 1048576) (hms : ∀ x ∈ xs, Hearing.small x) (h2 : RdF Slot.enc 3 w lo2 hi2 v2 ps) (hh2 : hi2 ≤ w.heap.size) (hm2 : ps.length ≤ 1048576) (h3 : RdF encInt 1 w lo3 hi3 v3 cal) (hh3 : hi3 ≤ w.heap.size) (hm3 : cal.length ≤ 1048576) :
    Calls Tryz.prog 37 #[v, v2, v3] w fun e w' => e = .returned (.int .i64 (calCode xs ps cal)) ∧ Below w.heap.size w w' := by
  obtain ⟨A2, c2, rfl, hcap2⟩ := h2.form
  obtain ⟨A3, c3, rfl, hcap3⟩ := h3.form
  obtain ⟨A1, c1, rfl, hcap1⟩ : ∃ A c, v = .slice A xs.length c ∧ xs.length ≤ c := by
    obtain ⟨rs, rfl, hR, -⟩ := h
    obtain ⟨A, c, hv, hc⟩ := hR.form
    exact ⟨A, c, by rw [hv, List.length_map], by rw [List.length_map]; exact hc⟩
  go_enter Tryz.func37, Tryz.ntmps37
  go_wp2_with fail
  refine (bothOk_any _ xs lo hi _ ps lo2 hi2 _ h hh hm hms h2 hh2 hm2).mono ?_
  rintro e w1 ⟨rfl, b1⟩
  have z1 := b1.size
  replace h3 := h3.below b1 (by omega)
  clear h h2
  cases hc : bothOk xs ps with
  | false =>
    have HF := Lib.hid (calCode_bad (cal := cal) hc)
    go_wp2_with fail
    go_ret
    exact ⟨ret_int HF.out.symm, by (repeat (first | with_reducible assumption | with_reducible exact Below.refl _ _ | with_reducible refine Below.setCell ?_ ?_ _ | with_reducible refine Below.alloc ?_ ?_ _ | with_reducible refine Below.drew ?_ | with_reducible refine below_drewN ?_ _ | with_reducible refine Below.step (by with_reducible assumption) ?_ ?_ | omega | (simp <;> omega) | (simp; done)))⟩
  | true =>
    by_cases hl : cal.length = xs.length
    rotate_left
    · have HF := Lib.hid (calCode_len hc hl)
      have hl2 : ¬ ((cal.length : Int) = (xs.length : Int)) := by omega
      go_wp2_with fail
      go_ret
      exact ⟨ret_int HF.out.symm, by (repeat (first | with_reducible assumption | with_reducible exact Below.refl _ _ | with_reducible refine Below.setCell ?_ ?_ _ | with_reducible refine Below.alloc ?_ ?_ _ | with_reducible refine Below.drew ?_ | with_reducible refine below_drewN ?_ _ | with_reducible refine Below.step (by with_reducible assumption) ?_ ?_ | omega | (simp <;> omega) | (simp; done)))⟩
    have HC := Lib.hid hc; clear hc
    have HL := Lib.hid hl
    rw [hl]
    have HW := Lib.hid (show IntKind.i64.wrap ((ps.length : Int) - 1) = (ps.length : Int) - 1 from IntWalk.i64_in _ (by omega))
    have hlx : xs.length = cal.length := hl.symm
    clear hl
    go_wp2_with fail
    go_loopw [8, 20] (fun _ j wr => ∃ k : Nat, k ≤ xs.length ∧ j = .int .i64 k ∧ Hid ((cal.take k).all (idxOk ps.length) = true) ∧ Below w1.heap.size w1 wr) (fun _ j _ => xs.length - (intOf j).toNat)
    case atStart => exact ⟨0, Nat.zero_le _, rfl, rfl, Below.refl _ _⟩
    case round =>
      obtain ⟨k, hk, rfl, HA, hbel⟩ := hrel
      have z0 := hbel.size
      by_cases hlt : k < xs.length
      · have hki : (k : Int) < (xs.length : Int) := by omega
        obtain ⟨i, b, off, HS, hA3, hbw, c0⟩ := RdF.int h3 hbel (by omega) (show k < cal.length by omega)
        subst hA3
        by_cases h0 : 0 ≤ i
        · by_cases h1 : i < (ps.length : Int)
          · have h1' : i ≤ (ps.length : Int) - 1 := by omega
            have HN := Lib.hid (take_all_succ HA.out HS.out (show idxOk ps.length i = true from decide_eq_true ⟨h0, h1⟩))
            have hd0 := decide_eq_true h0
            have hd1 := decide_eq_true h1
            have hd2 := decide_eq_true h1'
            go_wp2
            go_roundw
            case rel => exact ⟨k + 1, by omega, by go_num, HN, by (repeat (first | with_reducible assumption | with_reducible exact Below.refl _ _ | with_reducible refine Below.setCell ?_ ?_ _ | with_reducible refine Below.alloc ?_ ?_ _ | with_reducible refine Below.drew ?_ | with_reducible refine below_drewN ?_ _ | with_reducible refine Below.step (by with_reducible assumption) ?_ ?_ | omega | (simp <;> omega) | (simp; done)))⟩
            case measure => simp [intOf]; omega
          · have h1' : ¬ i ≤ (ps.length : Int) - 1 := by omega
            have HF := Lib.hid (calCode_idx HC.out (all_false_of HS.out (show idxOk ps.length i = false from decide_eq_false (fun h => h1 h.2))))
            have hd0 := decide_eq_true h0
            have hd1 := decide_eq_false h1
            have hd2 := decide_eq_false h1'
            go_wp2
            go_ret
            exact ⟨ret_int HF.out.symm, by (repeat (first | with_reducible assumption | with_reducible exact Below.refl _ _ | with_reducible refine Below.setCell ?_ ?_ _ | with_reducible refine Below.alloc ?_ ?_ _ | with_reducible refine Below.drew ?_ | with_reducible refine below_drewN ?_ _ | with_reducible refine Below.step (by with_reducible assumption) ?_ ?_ | omega | (simp <;> omega) | (simp; done)))⟩
        · have HF := Lib.hid (calCode_idx HC.out (all_false_of HS.out (show idxOk ps.length i = false from decide_eq_false (fun h => h0 h.1))))
          have hd0 := decide_eq_false h0
          go_wp2
          go_ret
          exact ⟨ret_int HF.out.symm, by (repeat (first | with_reducible assumption | with_reducible exact Below.refl _ _ | with_reducible refine Below.setCell ?_ ?_ _ | with_reducible refine Below.alloc ?_ ?_ _ | with_reducible refine Below.drew ?_ | with_reducible refine below_drewN ?_ _ | with_reducible refine Below.step (by with_reducible assumption) ?_ ?_ | omega | (simp <;> omega) | (simp; done)))⟩
      · have HF := Lib.hid (calCode_ok HC.out HL.out (all_of_take HA.out (by omega)))
        go_wp2_with fail
        go_ret
        exact ⟨ret_int HF.out.symm, by (repeat (first | with_reducible assumption | with_reducible exact Below.refl _ _ | with_reducible refine Below.setCell ?_ ?_ _ | with_reducible refine Below.alloc ?_ ?_ _ | with_reducible refine Below.drew ?_ | with_reducible refine below_drewN ?_ _ | with_reducible refine Below.step (by with_reducible assumption) ?_ ?_ | omega | (simp <;> omega) | (simp; done)))⟩
set_option maxRecDepth 100000 in
set_option maxHeartbeats 4000000 in
theorem l21List_any (v : Value) (xs : List Hearing) (lo hi : Nat) (v2 : Value) (ps : List Slot) (lo2 hi2 : Nat) (v3 : Value) (cal : List Int) (lo3 hi3 : Nat) (w : World) (h : RdHearing w lo hi v xs) (hh : hi ≤ w.heap.size) (hm : xs.length ≤ 1048576) (hms : ∀ x ∈ xs, Hearing.small x) (h2 : RdF Slot.enc 3 w lo2 hi2 v2 ps) (hh2 : hi2 ≤ w.heap.size) (hm2 : ps.length ≤ 1048576) (h3 : RdF encInt 1 w lo3 hi3 v3 cal) (hh3 : hi3 ≤ w.heap.size) (hm3 : cal.length ≤ 1048576) :
    Calls Tryz.prog 39 #[v, v2, v3] w fun e w' => e = .returned (.int .i64 (calCode xs ps cal)) ∧ Below w.heap.size w w' := by
  obtain ⟨A2, c2, rfl, hcap2⟩ := h2.form
  obtain ⟨A3, c3, rfl, hcap3⟩ := h3.form
  obtain ⟨A1, c1, rfl, hcap1⟩ : ∃ A c, v = .slice A xs.length c ∧ xs.length ≤ c := by
    obtain ⟨rs, rfl, hR, -⟩ := h
    obtain ⟨A, c, hv, hc⟩ := hR.form
    exact ⟨A, c, by rw [hv, List.length_map], by rw [List.length_map]; exact hc⟩
  go_enter Tryz.func39, Tryz.ntmps39
  go_wp2_with fail
  refine (l21Code_any _ xs lo hi _ ps lo2 hi2 _ h hh hm hms h2 hh2 hm2).mono ?_
  rintro e w1 ⟨rfl, b1⟩
  have z1 := b1.size
  replace h3 := h3.below b1 (by omega)
  clear h h2
  cases hc : bothOk xs ps with
  | false =>
    rw [bothCode_no hc]
    have HF := Lib.hid (calCode_bad (cal := cal) hc)
    go_wp2_with fail
    go_ret
    exact ⟨ret_int HF.out.symm, by (repeat (first | with_reducible assumption | with_reducible exact Below.refl _ _ | with_reducible refine Below.setCell ?_ ?_ _ | with_reducible refine Below.alloc ?_ ?_ _ | with_reducible refine Below.drew ?_ | with_reducible refine below_drewN ?_ _ | with_reducible refine Below.step (by with_reducible assumption) ?_ ?_ | omega | (simp <;> omega) | (simp; done)))⟩
  | true =>
    rw [bothCode_yes hc]
    by_cases hl : cal.length = xs.length
    rotate_left
    · have HF := Lib.hid (calCode_len hc hl)
      have hl2 : ¬ ((cal.length : Int) = (xs.length : Int)) := by omega
      go_wp2_with fail
      go_ret
      exact ⟨ret_int HF.out.symm, by (repeat (first | with_reducible assumption | with_reducible exact Below.refl _ _ | with_reducible refine Below.setCell ?_ ?_ _ | with_reducible refine Below.alloc ?_ ?_ _ | with_reducible refine Below.drew ?_ | with_reducible refine below_drewN ?_ _ | with_reducible refine Below.step (by with_reducible assumption) ?_ ?_ | omega | (simp <;> omega) | (simp; done)))⟩
    have HC := Lib.hid hc; clear hc
    have HL := Lib.hid hl
    rw [hl]
    have HW := Lib.hid (show IntKind.i64.wrap ((ps.length : Int) - 1) = (ps.length : Int) - 1 from IntWalk.i64_in _ (by omega))
    have hlx : xs.length = cal.length := hl.symm
    clear hl
    go_wp2_with fail
    go_loopw [8] (fun j wr => ∃ k : Nat, k ≤ xs.length ∧ j = .int .i64 k ∧ Hid ((cal.take k).all (idxOk ps.length) = true) ∧ Below w1.heap.size w1 wr) (fun j _ => xs.length - (intOf j).toNat)
    case atStart => exact ⟨0, Nat.zero_le _, rfl, rfl, Below.refl _ _⟩
    case round =>
      obtain ⟨k, hk, rfl, HA, hbel⟩ := hrel
      have z0 := hbel.size
      by_cases hlt : k < xs.length
      · have hki : (k : Int) < (xs.length : Int) := by omega
        obtain ⟨i, b, off, HS, hA3, hbw, c0⟩ := RdF.int h3 hbel (by omega) (show k < cal.length by omega)
        subst hA3
        by_cases h0 : 0 ≤ i
        · by_cases h1 : i < (ps.length : Int)
          · have h1' : i ≤ (ps.length : Int) - 1 := by omega
            have HN := Lib.hid (take_all_succ HA.out HS.out (show idxOk ps.length i = true from decide_eq_true ⟨h0, h1⟩))
            have hd0 := decide_eq_true h0
            have hd1 := decide_eq_true h1
            have hd2 := decide_eq_true h1'
            go_wp2
            go_roundw
            case rel => exact ⟨k + 1, by omega, by go_num, HN, by (repeat (first | with_reducible assumption | with_reducible exact Below.refl _ _ | with_reducible refine Below.setCell ?_ ?_ _ | with_reducible refine Below.alloc ?_ ?_ _ | with_reducible refine Below.drew ?_ | with_reducible refine below_drewN ?_ _ | with_reducible refine Below.step (by with_reducible assumption) ?_ ?_ | omega | (simp <;> omega) | (simp; done)))⟩
            case measure => simp [intOf]; omega
          · have h1' : ¬ i ≤ (ps.length : Int) - 1 := by omega
            have HF := Lib.hid (calCode_idx HC.out (all_false_of HS.out (show idxOk ps.length i = false from decide_eq_false (fun h => h1 h.2))))
            have hd0 := decide_eq_true h0
            have hd1 := decide_eq_false h1
            have hd2 := decide_eq_false h1'
            go_wp2
            go_ret
            exact ⟨ret_int HF.out.symm, by (repeat (first | with_reducible assumption | with_reducible exact Below.refl _ _ | with_reducible refine Below.setCell ?_ ?_ _ | with_reducible refine Below.alloc ?_ ?_ _ | with_reducible refine Below.drew ?_ | with_reducible refine below_drewN ?_ _ | with_reducible refine Below.step (by with_reducible assumption) ?_ ?_ | omega | (simp <;> omega) | (simp; done)))⟩
        · have HF := Lib.hid (calCode_idx HC.out (all_false_of HS.out (show idxOk ps.length i = false from decide_eq_false (fun h => h0 h.1))))
          have hd0 := decide_eq_false h0
          go_wp2
          go_ret
          exact ⟨ret_int HF.out.symm, by (repeat (first | with_reducible assumption | with_reducible exact Below.refl _ _ | with_reducible refine Below.setCell ?_ ?_ _ | with_reducible refine Below.alloc ?_ ?_ _ | with_reducible refine Below.drew ?_ | with_reducible refine below_drewN ?_ _ | with_reducible refine Below.step (by with_reducible assumption) ?_ ?_ | omega | (simp <;> omega) | (simp; done)))⟩
      · have HF := Lib.hid (calCode_ok HC.out HL.out (all_of_take HA.out (by omega)))
        go_wp2_with fail
        go_ret
        exact ⟨ret_int HF.out.symm, by (repeat (first | with_reducible assumption | with_reducible exact Below.refl _ _ | with_reducible refine Below.setCell ?_ ?_ _ | with_reducible refine Below.alloc ?_ ?_ _ | with_reducible refine Below.drew ?_ | with_reducible refine below_drewN ?_ _ | with_reducible refine Below.step (by with_reducible assumption) ?_ ?_ | omega | (simp <;> omega) | (simp; done)))⟩
end Go.Proofs.YtmgdkblleljdaaaGreat
