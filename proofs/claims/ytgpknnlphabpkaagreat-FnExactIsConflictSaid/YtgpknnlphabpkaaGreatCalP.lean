/- Calendars: the slots with some indices, the code of a calendar, plain. -/
import Derived.Test.YtgpknnlphabpkaaGreatPlanW
import Derived.Test.YtgpknnlphabpkaaGreatBothW
import Derived.Test.YtgpknnlphabpkaaGreatIntsW
namespace Go.Proofs.YtgpknnlphabpkaaGreat
open Go.RowKit
set_option linter.unusedVariables false

def idxOk (n : Nat) (i : Int) : Bool := decide (0 ≤ i ∧ i < n)
def slotsAt (ps : List Slot) (cal : List Int) : List Slot := cal.filterMap fun i => ps[i.toNat]?
def newI (before : List Int) (i : Int) : Bool := !hasI before i
def calB (xs : List Hearing) (ps : List Slot) (cal : List Int) : Bool := prefOk newI cal && planB xs (slotsAt ps cal)
def calCode (xs : List Hearing) (ps : List Slot) (cal : List Int) : Int := if bothOk xs ps then (if cal.length = xs.length ∧ cal.all (idxOk ps.length) = true then 0 else 2) else 1
def isCal (xs : List Hearing) (ps : List Slot) (cal : List Int) : Bool × Int := if calCode xs ps cal = 0 then (calB xs ps cal, 0) else (false, calCode xs ps cal)
def costL (ps : List Slot) (cal : List Int) : Int := ((slotsAt ps cal).map Slot.day).sum
def costOf (xs : List Hearing) (ps : List Slot) (cal : List Int) : Int × Int := if calCode xs ps cal = 0 then (if calB xs ps cal then (costL ps cal, 0) else (0, 5)) else (0, calCode xs ps cal)
theorem calCode_bad {xs : List Hearing} {ps : List Slot} {cal : List Int} (h : bothOk xs ps = false) : calCode xs ps cal = 1 := by unfold calCode; rw [h]; rfl
theorem calCode_len {xs : List Hearing} {ps : List Slot} {cal : List Int} (h : bothOk xs ps = true) (hl : ¬ cal.length = xs.length) : calCode xs ps cal = 2 := by unfold calCode; rw [if_pos h, if_neg (fun h2 => hl h2.1)]
theorem calCode_idx {xs : List Hearing} {ps : List Slot} {cal : List Int} (h : bothOk xs ps = true) (hl : cal.all (idxOk ps.length) = false) : calCode xs ps cal = 2 := by
  unfold calCode
  rw [if_pos h, if_neg (fun h2 => by rw [hl] at h2; simp at h2)]
theorem calCode_ok {xs : List Hearing} {ps : List Slot} {cal : List Int} (h : bothOk xs ps = true) (hl : cal.length = xs.length) (ha : cal.all (idxOk ps.length) = true) : calCode xs ps cal = 0 := by unfold calCode; rw [if_pos h, if_pos ⟨hl, ha⟩]
theorem calCode_zero {xs : List Hearing} {ps : List Slot} {cal : List Int} (h : calCode xs ps cal = 0) : bothOk xs ps = true ∧ cal.length = xs.length ∧ cal.all (idxOk ps.length) = true := by
  unfold calCode at h
  split at h
  · split at h
    · exact ⟨by assumption, by assumption⟩
    · simp at h
  · simp at h
theorem slotsAt_step {ps : List Slot} {cal : List Int} {k : Nat} {i : Int} {s : Slot} (h1 : cal[k]? = some i) (h2 : ps[i.toNat]? = some s) : slotsAt ps (cal.take (k + 1)) = slotsAt ps (cal.take k) ++ [s] := by
  unfold slotsAt
  rw [List.take_add_one, h1, List.filterMap_append]
  simp [h2]
theorem slotsAt_len (ps : List Slot) (cal : List Int) : (slotsAt ps cal).length ≤ cal.length := List.length_filterMap_le _ _
theorem slotsAt_mem {ps : List Slot} {cal : List Int} {s : Slot} (h : s ∈ slotsAt ps cal) : s ∈ ps := by
  unfold slotsAt at h
  rw [List.mem_filterMap] at h
  obtain ⟨i, -, hi⟩ := h
  exact List.mem_of_getElem? hi
end Go.Proofs.YtgpknnlphabpkaaGreat
