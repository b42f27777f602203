/- Walks: whether a hearing fits into a slot. -/
import Derived.Test.YtmgdkblleljdaaaGreatHearingW
namespace Go.Proofs.YtmgdkblleljdaaaGreat
open Go.RowKit
set_option linter.unusedVariables false

set_option maxHeartbeats 800000 in
theorem fits_any (h : Hearing) (p0 : Value) (s : Slot) (w : World) (h1 : 1 ≤ h.len) (h2 : h.len ≤ 36) (h3 : 0 ≤ s.frm) (h4 : s.frm ≤ 35) :
    Calls Tryz.prog 66 #[.agg #[.string h.code, .int .i64 h.len, p0, .int .i64 h.last], .agg #[.int .i64 s.room, .int .i64 s.day, .int .i64 s.frm]] w fun e w' => e = .returned (.bool (fitB h s)) ∧ Below w.heap.size w w' := by
  go_enter Tryz.func66, Tryz.ntmps66
  go_wp2
  all_goals (go_ret; exact ⟨ret_bool (by first | (simp_all [fitB]; done) | (simp_all [fitB] <;> intros <;> omega)), by (repeat (first | with_reducible assumption | with_reducible exact Below.refl _ _ | with_reducible refine Below.setCell ?_ ?_ _ | with_reducible refine Below.alloc ?_ ?_ _ | with_reducible refine Below.drew ?_ | with_reducible refine below_drewN ?_ _ | with_reducible refine Below.step (by with_reducible assumption) ?_ ?_ | omega | (simp <;> omega) | (simp; done)))⟩)
set_option maxHeartbeats 800000 in
theorem l19Fits_any (h : Hearing) (p0 : Value) (s : Slot) (w : World) (h1 : 1 ≤ h.len) (h2 : h.len ≤ 36) (h3 : 0 ≤ s.frm) (h4 : s.frm ≤ 35) :
    Calls Tryz.prog 68 #[.agg #[.string h.code, .int .i64 h.len, p0, .int .i64 h.last], .agg #[.int .i64 s.room, .int .i64 s.day, .int .i64 s.frm]] w fun e w' => e = .returned (.bool (fitB h s)) ∧ Below w.heap.size w w' := by
  go_enter Tryz.func68, Tryz.ntmps68
  go_wp2
  all_goals (go_ret; exact ⟨ret_bool (by first | (simp_all [fitB]; done) | (simp_all [fitB] <;> intros <;> omega)), by (repeat (first | with_reducible assumption | with_reducible exact Below.refl _ _ | with_reducible refine Below.setCell ?_ ?_ _ | with_reducible refine Below.alloc ?_ ?_ _ | with_reducible refine Below.drew ?_ | with_reducible refine below_drewN ?_ _ | with_reducible refine Below.step (by with_reducible assumption) ?_ ?_ | omega | (simp <;> omega) | (simp; done)))⟩)

end Go.Proofs.YtmgdkblleljdaaaGreat
