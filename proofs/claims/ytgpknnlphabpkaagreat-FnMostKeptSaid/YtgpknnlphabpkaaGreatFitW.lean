/- Walks: whether a hearing fits into a slot. -/
import Derived.Test.YtgpknnlphabpkaaGreatHearingW
namespace Go.Proofs.YtgpknnlphabpkaaGreat
open Go.RowKit
set_option linter.unusedVariables false

set_option maxHeartbeats 800000 in
theorem fits_any (h : Hearing) (p0 : Value) (s : Slot) (w : World) (h1 : 1 ≤ h.len) (h2 : h.len ≤ 36) (h3 : 0 ≤ s.frm) (h4 : s.frm ≤ 35) :
    Calls Tryz.prog 143 #[.agg #[.string h.code, .int .i64 h.len, p0, .int .i64 h.last], .agg #[.int .i64 s.room, .int .i64 s.day, .int .i64 s.frm]] w fun e w' => e = .returned (.bool (fitB h s)) ∧ Below w.heap.size w w' := by
  go_enter Tryz.func143, Tryz.ntmps143
  go_wp2
  all_goals (go_ret; exact ⟨ret_bool (by first | (simp_all [fitB]; done) | (simp_all [fitB] <;> intros <;> omega)), by (repeat (first | with_reducible assumption | with_reducible exact Below.refl _ _ | with_reducible refine Below.setCell ?_ ?_ _ | with_reducible refine Below.alloc ?_ ?_ _ | with_reducible refine Below.drew ?_ | with_reducible refine below_drewN ?_ _ | with_reducible refine Below.step (by with_reducible assumption) ?_ ?_ | omega | (simp <;> omega) | (simp; done)))⟩)
set_option maxHeartbeats 800000 in
theorem l19Fits_any (h : Hearing) (p0 : Value) (s : Slot) (w : World) (h1 : 1 ≤ h.len) (h2 : h.len ≤ 36) (h3 : 0 ≤ s.frm) (h4 : s.frm ≤ 35) :
    Calls Tryz.prog 129 #[.agg #[.string h.code, .int .i64 h.len, p0, .int .i64 h.last], .agg #[.int .i64 s.room, .int .i64 s.day, .int .i64 s.frm]] w fun e w' => e = .returned (.bool (fitB h s)) ∧ Below w.heap.size w w' := by
  go_enter Tryz.func129, Tryz.ntmps129
  go_wp2
  all_goals (go_ret; exact ⟨ret_bool (by first | (simp_all [fitB]; done) | (simp_all [fitB] <;> intros <;> omega)), by (repeat (first | with_reducible assumption | with_reducible exact Below.refl _ _ | with_reducible refine Below.setCell ?_ ?_ _ | with_reducible refine Below.alloc ?_ ?_ _ | with_reducible refine Below.drew ?_ | with_reducible refine below_drewN ?_ _ | with_reducible refine Below.step (by with_reducible assumption) ?_ ?_ | omega | (simp <;> omega) | (simp; done)))⟩)

end Go.Proofs.YtgpknnlphabpkaaGreat
