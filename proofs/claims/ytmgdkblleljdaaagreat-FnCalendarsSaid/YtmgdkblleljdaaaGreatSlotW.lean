/- Walks of the slots' functions: tests, copies, comparison. -/
import Derived.Test.YtmgdkblleljdaaaGreatRows
import Derived.Test.YtmgdkblleljdaaaGreatBase
import Derived.Test.YtmgdkblleljdaaaGreatSlotH
namespace Go.Proofs.YtmgdkblleljdaaaGreat
open Go.RowKit

def Slot.ok (s : Slot) : Bool := roomOk s.room && (dayOk s.day && inR s.frm 0 35)

set_option maxHeartbeats 400000 in
theorem isSlot_any (s : Slot) (w : World) :
    Calls Tryz.prog 58 #[.agg #[.int .i64 s.room, .int .i64 s.day, .int .i64 s.frm]] w fun e w' => e = .returned (.bool s.ok) ∧ Below w.heap.size w w' := by
  obtain ⟨r, d, f⟩ := s
  go_enter Tryz.func58, Tryz.ntmps58
  go_wp2
  all_goals (go_ret; exact ⟨ret_bool (by rw [Bool.eq_iff_iff]; simp [Slot.ok, roomOk, dayOk, inR] <;> omega), by (repeat (first | with_reducible assumption | with_reducible exact Below.refl _ _ | with_reducible refine Below.setCell ?_ ?_ _ | with_reducible refine Below.alloc ?_ ?_ _ | with_reducible refine Below.drew ?_ | with_reducible refine below_drewN ?_ _ | with_reducible refine Below.step (by with_reducible assumption) ?_ ?_ | omega | (simp <;> omega) | (simp; done)))⟩)

set_option maxHeartbeats 400000 in
theorem l19Slot_any (s : Slot) (w : World) :
    Calls Tryz.prog 59 #[.agg #[.int .i64 s.room, .int .i64 s.day, .int .i64 s.frm]] w fun e w' => e = .returned (.bool s.ok) ∧ Below w.heap.size w w' := by
  obtain ⟨r, d, f⟩ := s
  go_enter Tryz.func59, Tryz.ntmps59
  go_wp2
  all_goals (go_ret; exact ⟨ret_bool (by rw [Bool.eq_iff_iff]; simp [Slot.ok, roomOk, dayOk, inR] <;> omega), by (repeat (first | with_reducible assumption | with_reducible exact Below.refl _ _ | with_reducible refine Below.setCell ?_ ?_ _ | with_reducible refine Below.alloc ?_ ?_ _ | with_reducible refine Below.drew ?_ | with_reducible refine below_drewN ?_ _ | with_reducible refine Below.step (by with_reducible assumption) ?_ ?_ | omega | (simp <;> omega) | (simp; done)))⟩)

def slotsOk (xs : List Slot) : Bool := xs.all Slot.ok && decide (xs.length ≤ 10)

set_option maxHeartbeats 400000 in
theorem areSlots_any (v : Value) (xs : List Slot) (lo hi : Nat) (w : World) (h : RdF Slot.enc 3 w lo hi v xs) (hh : hi ≤ w.heap.size) (hm : xs.length ≤ 1048576) :
    Calls Tryz.prog 41 #[v] w fun e w' => e = .returned (.bool (slotsOk xs)) ∧ Below w.heap.size w w' := by
  obtain ⟨A, c, rfl, hc, hA⟩ := h
  go_enter Tryz.func41, Tryz.ntmps41
  go_wp2
  go_loopw [4, 7] (fun _ i wr => ∃ k : Nat, k ≤ xs.length ∧ i = .int .i64 k ∧ (xs.take k).all Slot.ok = true ∧ Below w.heap.size w wr) (fun _ i _ => xs.length - (intOf i).toNat)
  case atStart => exact ⟨0, Nat.zero_le _, rfl, rfl, Below.refl _ _⟩
  case round =>
    obtain ⟨k, hk, rfl, hall, hb⟩ := hrel
    have HA := Lib.hid hall; clear hall
    have z0 := hb.size
    by_cases hlt : k < xs.length
    · obtain ⟨b, off, rfl, -, hbw, hcell⟩ := hA (by omega)
      have hs : xs[k]? = some xs[k] := List.getElem?_eq_getElem hlt
      have c0 : wr.cell? ⟨b, off + k * 3, none⟩ = _ := (hb.cell (p := ⟨b, off + k * 3, none⟩) (by omega : b < _)).trans (hcell k _ hs 0 _ rfl)
      have c1 := (hb.cell (p := ⟨b, off + k * 3 + 1, none⟩) (by omega : b < _)).trans (hcell k _ hs 1 _ rfl)
      have c2 := (hb.cell (p := ⟨b, off + k * 3 + 2, none⟩) (by omega : b < _)).trans (hcell k _ hs 2 _ rfl)
      clear hcell hA
      have HS := Lib.hid hs; clear hs
      generalize xs[k] = s at *
      go_wp2_with (go_at_call 58; refine (isSlot_any s _).mono ?_; rintro e w1 ⟨rfl, hb1⟩)
      · have hf : (!s.ok) = true := by assumption
        go_ret
        exact ⟨ret_bool (by rw [slotsOk, all_false_of HS.out (by simpa using hf)]; rfl), by (repeat (first | with_reducible assumption | with_reducible exact Below.refl _ _ | with_reducible refine Below.setCell ?_ ?_ _ | with_reducible refine Below.alloc ?_ ?_ _ | with_reducible refine Below.drew ?_ | with_reducible refine below_drewN ?_ _ | with_reducible refine Below.step (by with_reducible assumption) ?_ ?_ | omega | (simp <;> omega) | (simp; done)))⟩
      · have hf : (!s.ok) = false := by assumption
        go_roundw
        case rel => exact ⟨k + 1, by omega, by go_num, take_all_succ HA.out HS.out (by simpa using hf), by (repeat (first | with_reducible assumption | with_reducible exact Below.refl _ _ | with_reducible refine Below.setCell ?_ ?_ _ | with_reducible refine Below.alloc ?_ ?_ _ | with_reducible refine Below.drew ?_ | with_reducible refine below_drewN ?_ _ | with_reducible refine Below.step (by with_reducible assumption) ?_ ?_ | omega | (simp <;> omega) | (simp; done)))⟩
        case measure => simp [intOf]; omega
    · go_wp2
      go_ret
      exact ⟨ret_bool (by simp [slotsOk, all_of_take HA.out hlt] <;> omega), by (repeat (first | with_reducible assumption | with_reducible exact Below.refl _ _ | with_reducible refine Below.setCell ?_ ?_ _ | with_reducible refine Below.alloc ?_ ?_ _ | with_reducible refine Below.drew ?_ | with_reducible refine below_drewN ?_ _ | with_reducible refine Below.step (by with_reducible assumption) ?_ ?_ | omega | (simp <;> omega) | (simp; done)))⟩

set_option maxHeartbeats 400000 in
theorem sAreSlots_any (v : Value) (xs : List Slot) (lo hi : Nat) (w : World) (h : RdF Slot.enc 3 w lo hi v xs) (hh : hi ≤ w.heap.size) (hm : xs.length ≤ 1048576) :
    Calls Tryz.prog 43 #[v] w fun e w' => e = .returned (.bool (slotsOk xs)) ∧ Below w.heap.size w w' := by
  obtain ⟨A, c, rfl, hc, hA⟩ := h
  go_enter Tryz.func43, Tryz.ntmps43
  go_wp2
  go_loopw [3] (fun i wr => ∃ k : Nat, k ≤ xs.length ∧ i = .int .i64 k ∧ (xs.take k).all Slot.ok = true ∧ Below w.heap.size w wr) (fun i _ => xs.length - (intOf i).toNat)
  case atStart => exact ⟨0, Nat.zero_le _, rfl, rfl, Below.refl _ _⟩
  case round =>
    obtain ⟨k, hk, rfl, hall, hb⟩ := hrel
    have HA := Lib.hid hall; clear hall
    have z0 := hb.size
    by_cases hlt : k < xs.length
    · obtain ⟨b, off, rfl, -, hbw, hcell⟩ := hA (by omega)
      have hs : xs[k]? = some xs[k] := List.getElem?_eq_getElem hlt
      have c0 : wr.cell? ⟨b, off + k * 3, none⟩ = _ := (hb.cell (p := ⟨b, off + k * 3, none⟩) (by omega : b < _)).trans (hcell k _ hs 0 _ rfl)
      have c1 := (hb.cell (p := ⟨b, off + k * 3 + 1, none⟩) (by omega : b < _)).trans (hcell k _ hs 1 _ rfl)
      have c2 := (hb.cell (p := ⟨b, off + k * 3 + 2, none⟩) (by omega : b < _)).trans (hcell k _ hs 2 _ rfl)
      clear hcell hA
      have HS := Lib.hid hs; clear hs
      generalize xs[k] = s at *
      go_wp2_with (go_at_call 59; refine (l19Slot_any s _).mono ?_; rintro e w1 ⟨rfl, hb1⟩)
      · have hf : (!s.ok) = true := by assumption
        go_ret
        exact ⟨ret_bool (by rw [slotsOk, all_false_of HS.out (by simpa using hf)]; rfl), by (repeat (first | with_reducible assumption | with_reducible exact Below.refl _ _ | with_reducible refine Below.setCell ?_ ?_ _ | with_reducible refine Below.alloc ?_ ?_ _ | with_reducible refine Below.drew ?_ | with_reducible refine below_drewN ?_ _ | with_reducible refine Below.step (by with_reducible assumption) ?_ ?_ | omega | (simp <;> omega) | (simp; done)))⟩
      · have hf : (!s.ok) = false := by assumption
        go_roundw
        case rel => exact ⟨k + 1, by omega, by go_num, take_all_succ HA.out HS.out (by simpa using hf), by (repeat (first | with_reducible assumption | with_reducible exact Below.refl _ _ | with_reducible refine Below.setCell ?_ ?_ _ | with_reducible refine Below.alloc ?_ ?_ _ | with_reducible refine Below.drew ?_ | with_reducible refine below_drewN ?_ _ | with_reducible refine Below.step (by with_reducible assumption) ?_ ?_ | omega | (simp <;> omega) | (simp; done)))⟩
        case measure => simp [intOf]; omega
    · go_wp2
      go_ret
      exact ⟨ret_bool (by simp [slotsOk, all_of_take HA.out hlt] <;> omega), by (repeat (first | with_reducible assumption | with_reducible exact Below.refl _ _ | with_reducible refine Below.setCell ?_ ?_ _ | with_reducible refine Below.alloc ?_ ?_ _ | with_reducible refine Below.drew ?_ | with_reducible refine below_drewN ?_ _ | with_reducible refine Below.step (by with_reducible assumption) ?_ ?_ | omega | (simp <;> omega) | (simp; done)))⟩


def choicesOk (xs : List Slot) : Bool := slotsOk xs && decide (xs.length ≤ 7)

set_option maxHeartbeats 400000 in
theorem areChoices_any (v : Value) (xs : List Slot) (lo hi : Nat) (w : World) (h : RdF Slot.enc 3 w lo hi v xs) (hh : hi ≤ w.heap.size) (hm : xs.length ≤ 1048576) :
    Calls Tryz.prog 20 #[v] w fun e w' => e = .returned (.bool (choicesOk xs)) ∧ Below w.heap.size w w' := by
  have h0 := h
  obtain ⟨A, c, rfl, hc, hA⟩ := h
  clear hA
  by_cases ho : slotsOk xs = true
  · go_enter Tryz.func20, Tryz.ntmps20
    go_wp2_with fail
    refine (areSlots_any _ xs _ _ _ h0 hh hm).mono ?_
    rintro e w1 ⟨rfl, b1⟩
    go_wp2
    go_ret
    exact ⟨ret_bool (by simp [choicesOk, ho] <;> omega), by (repeat (first | with_reducible assumption | with_reducible exact Below.refl _ _ | with_reducible refine Below.setCell ?_ ?_ _ | with_reducible refine Below.alloc ?_ ?_ _ | with_reducible refine Below.drew ?_ | with_reducible refine below_drewN ?_ _ | with_reducible refine Below.step (by with_reducible assumption) ?_ ?_ | omega | (simp <;> omega) | (simp; done)))⟩
  · rw [Bool.not_eq_true] at ho
    go_enter Tryz.func20, Tryz.ntmps20
    go_wp2_with fail
    refine (areSlots_any _ xs _ _ _ h0 hh hm).mono ?_
    rintro e w1 ⟨rfl, b1⟩
    go_wp2
    go_ret
    exact ⟨ret_bool (by simp [choicesOk, ho]), by (repeat (first | with_reducible assumption | with_reducible exact Below.refl _ _ | with_reducible refine Below.setCell ?_ ?_ _ | with_reducible refine Below.alloc ?_ ?_ _ | with_reducible refine Below.drew ?_ | with_reducible refine below_drewN ?_ _ | with_reducible refine Below.step (by with_reducible assumption) ?_ ?_ | omega | (simp <;> omega) | (simp; done)))⟩
set_option maxHeartbeats 400000 in
theorem sAreChoices_any (v : Value) (xs : List Slot) (lo hi : Nat) (w : World) (h : RdF Slot.enc 3 w lo hi v xs) (hh : hi ≤ w.heap.size) (hm : xs.length ≤ 1048576) :
    Calls Tryz.prog 21 #[v] w fun e w' => e = .returned (.bool (choicesOk xs)) ∧ Below w.heap.size w w' := by
  have h0 := h
  obtain ⟨A, c, rfl, hc, hA⟩ := h
  clear hA
  by_cases ho : slotsOk xs = true
  · go_enter Tryz.func21, Tryz.ntmps21
    go_wp2_with fail
    refine (sAreSlots_any _ xs _ _ _ h0 hh hm).mono ?_
    rintro e w1 ⟨rfl, b1⟩
    go_wp2
    go_ret
    exact ⟨ret_bool (by simp [choicesOk, ho] <;> omega), by (repeat (first | with_reducible assumption | with_reducible exact Below.refl _ _ | with_reducible refine Below.setCell ?_ ?_ _ | with_reducible refine Below.alloc ?_ ?_ _ | with_reducible refine Below.drew ?_ | with_reducible refine below_drewN ?_ _ | with_reducible refine Below.step (by with_reducible assumption) ?_ ?_ | omega | (simp <;> omega) | (simp; done)))⟩
  · rw [Bool.not_eq_true] at ho
    go_enter Tryz.func21, Tryz.ntmps21
    go_wp2_with fail
    refine (sAreSlots_any _ xs _ _ _ h0 hh hm).mono ?_
    rintro e w1 ⟨rfl, b1⟩
    go_wp2
    go_ret
    exact ⟨ret_bool (by simp [choicesOk, ho]), by (repeat (first | with_reducible assumption | with_reducible exact Below.refl _ _ | with_reducible refine Below.setCell ?_ ?_ _ | with_reducible refine Below.alloc ?_ ?_ _ | with_reducible refine Below.drew ?_ | with_reducible refine below_drewN ?_ _ | with_reducible refine Below.step (by with_reducible assumption) ?_ ?_ | omega | (simp <;> omega) | (simp; done)))⟩
end Go.Proofs.YtmgdkblleljdaaaGreat
