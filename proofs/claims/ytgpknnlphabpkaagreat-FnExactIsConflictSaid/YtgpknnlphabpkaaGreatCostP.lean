/- Calendars: costs, plain. -/
import Derived.Test.YtgpknnlphabpkaaGreatCalX
namespace Go.Proofs.YtgpknnlphabpkaaGreat
open Go.RowKit
set_option linter.unusedVariables false

theorem costL_take_bounds {ps : List Slot} (hs : ∀ s ∈ ps, s.ok = true) : ∀ (cal : List Int), 0 ≤ costL ps cal ∧ costL ps cal ≤ 20000 * (cal.length : Int) := by
  intro cal
  unfold costL
  have h : ∀ (ys : List Slot), (∀ s ∈ ys, s.ok = true) → 0 ≤ (ys.map Slot.day).sum ∧ (ys.map Slot.day).sum ≤ 20000 * (ys.length : Int) := by
    intro ys
    induction ys with
    | nil => intro _; simp
    | cons y ys ih =>
      intro hy
      have h1 := ih (fun s h => hy s (List.mem_cons_of_mem _ h))
      have h2 := Slot.ok_bounds (hy y List.mem_cons_self)
      simp only [List.map_cons, List.sum_cons, List.length_cons]
      constructor <;> omega
  have h1 := h (slotsAt ps cal) (fun s h => hs s (slotsAt_mem h))
  have h2 := slotsAt_len ps cal
  constructor <;> omega
theorem costL_step {ps : List Slot} {cal : List Int} {k : Nat} {i : Int} {s : Slot} (h1 : cal[k]? = some i) (h2 : ps[i.toNat]? = some s) : costL ps (cal.take (k + 1)) = costL ps (cal.take k) + s.day := by
  unfold costL
  rw [slotsAt_step h1 h2, List.map_append, List.sum_append]
  simp
def sumDay (ys : List Slot) : Int := (ys.map Slot.day).sum
theorem sumDay_step {ys : List Slot} {k : Nat} {s : Slot} (h : ys[k]? = some s) : sumDay (ys.take (k + 1)) = sumDay (ys.take k) + s.day := by
  unfold sumDay
  rw [List.take_add_one, h, List.map_append, List.sum_append]
  simp
end Go.Proofs.YtgpknnlphabpkaaGreat
