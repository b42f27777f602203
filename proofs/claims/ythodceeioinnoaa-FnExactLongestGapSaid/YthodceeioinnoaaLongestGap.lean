/- The program's LongestGap returns what the reference's returns, for all arguments. No conditions. -/
import Derived.Test.YthodceeioinnoaaRoomsW
import Derived.Test.YthodceeioinnoaaBookingO
namespace Go.Proofs.Ythodceeioinnoaa.longestGap
open Go.ChangeShapes Go.WideShapes Go.ChangeAt Go.RowKit
open Go.ChangeMaps (open_string shut_string)
set_option linter.unusedVariables false

theorem own : ownKnob Try.prog.godebug = none := by kernel_rfl
theorem laidOut : laidOutB Try.prog = true := by kernel_rfl


set_option maxHeartbeats 4000000 in
theorem walk (v0 : Value) (xs : List Booking) (r : Int) (d : Int) (w : World) (hx0 : RdF Booking.enc 5 w 0 w.heap.size v0 xs) (hl0 : xs.length ≤ maxLen) (hq0 : ∀ x ∈ xs, Booking.wf x) (hb1 : -9223372036854775808 ≤ r ∧ r ≤ 9223372036854775807) (hb2 : -9223372036854775808 ≤ d ∧ d ≤ 9223372036854775807) :
    Calls Try.prog 6 #[v0, .int .i64 r, .int .i64 d] w fun e w' => e = .returned (.bool true) ∧ Below w.heap.size w w' := by
  unfold maxLen at *
  go_enter Try.func6, Try.ntmps6
  go_wp2_with fail
  refine (szBookingS_any v0 xs _ _ _ _ hx0 (by omega) (by omega) (fun x hx => by have := hq0 x hx; unfold Booking.wf at this; omega) (by omega) (by omega)).mono ?_
  rintro e sw0 ⟨r0, rfl, ⟨hra0, hrb0⟩, sb0⟩
  have sz0 := sb0.size
  replace hx0 := hx0.below sb0 (by omega)
  by_cases hn0 : r0 < 0
  · go_wp2_with fail
    go_ret
    exact ⟨rfl, by (repeat (first | assumption | exact Below.refl _ _ | refine Below.alloc ?_ ?_ _ | refine Below.drew ?_ | refine below_drewN ?_ _ | refine Below.setCell ?_ ?_ _ | refine Below.step (by assumption) ?_ ?_ | (simp <;> omega) | omega))⟩
  have hp0 : 0 ≤ r0 := by omega
  have hq0' := hrb0 hp0
  clear hrb0
  have hm0 : xs.length ≤ 1048576 := by omega
  have hs0 : ∀ x ∈ xs, Booking.small x := fun x hx => by have := hq0'.2 x hx; unfold Booking.small; omega
  go_wp2_with fail
  refine (toBookingS_any v0 xs _ _ _ hx0 (by omega) (by omega)).mono ?_
  rintro e w1 ⟨y1, rfl, hy1, b1⟩
  have z1 := b1.size
  replace hx0 := hx0.below b1 (by omega)
  go_wp2_with fail
  refine (sLongestGap_any y1 xs _ _ r d _ hy1.rd (by omega) (by omega) hs0).mono ?_
  rintro e w2 ⟨rfl, b2⟩
  have z2 := b2.size
  replace hx0 := hx0.below b2 (by omega)
  replace hy1 := hy1.below b2 (by omega)
  go_wp2_with fail
  refine (toBookingS_any v0 xs _ _ _ hx0 (by omega) (by omega)).mono ?_
  rintro e w3 ⟨y3, rfl, hy3, b3⟩
  have z3 := b3.size
  replace hx0 := hx0.below b3 (by omega)
  replace hy1 := hy1.below b3 (by omega)
  go_wp2_with fail
  refine (longestGap_any y3 xs _ _ r d _ hy3.rd (by omega) (by omega) hs0).mono ?_
  rintro e w4 ⟨rfl, b4⟩
  have z4 := b4.size
  replace hx0 := hx0.below b4 (by omega)
  replace hy1 := hy1.below b4 (by omega)
  replace hy3 := hy3.below b4 (by omega)
  go_wp2_with fail
  refine (toBookingS_any v0 xs _ _ _ hx0 (by omega) (by omega)).mono ?_
  rintro e w5 ⟨y5, rfl, hy5, b5⟩
  have z5 := b5.size
  replace hx0 := hx0.below b5 (by omega)
  replace hy1 := hy1.below b5 (by omega)
  replace hy3 := hy3.below b5 (by omega)
  go_wp2_with fail
  refine (eqBookingS_any y3 y5 xs xs _ _ _ _ _ hy3.rd (by omega) hy5.rd (by omega) (by omega) (by omega)).mono ?_
  rintro e w6 ⟨rfl, b6⟩
  have z6 := b6.size
  replace hx0 := hx0.below b6 (by omega)
  replace hy1 := hy1.below b6 (by omega)
  replace hy3 := hy3.below b6 (by omega)
  replace hy5 := hy5.below b6 (by omega)
  rw [show eqL Booking.beq xs xs = true from (eqL_iff (fun x y => Booking.beq_iff)).2 rfl]
  go_wp2_with fail
  go_ret
  exact ⟨rfl, by (repeat (first | assumption | exact Below.refl _ _ | refine Below.alloc ?_ ?_ _ | refine Below.drew ?_ | refine below_drewN ?_ _ | refine Below.setCell ?_ ?_ _ | refine Below.step (by assumption) ?_ ?_ | (simp <;> omega) | omega))⟩

set_option maxRecDepth 100000 in
theorem lifted (os : Os) (started : os.Started) (H : Type) (enc : TypeId × Value → H) :
    ReturnsInHanded {} Try.checked os 6 .any (Rows.fnExactLongestGapSpec.pre6 enc Try.prog Try.f6 Rows.fnExactLongestGapRow.domain false) (Rows.fnExactLongestGapSpec.post enc Try.prog Try.f6 false true false false) := by
  refine returnsInHanded_of_change (C := Try.checked) own started (by kernel_rfl) Try.func6
    (ChangeSpec.witness6 (enc := enc) (C := Try.checked) false ⟨#[], #[.slice none 0 0, .int .i64 0, .int .i64 0], []⟩ 8 (by kernel_rfl) (by kernel_rfl) (by kernel_rfl) (by kernel_rfl)) ?_
  intro W base args ds gs before hval0 hW hcnd _
  have hval : ∀ (j : Nat) t v, Try.f6.params[j]? = some t → args[j]? = some v → Value.okWide Try.prog W .any base t v := hval0
  have hW' := hW
  obtain ⟨p, q, hA0, hV, rfl, hfz, hnd⟩ := hW
  have hA : DataW.TrodAll enc Try.prog W 0 (fun _ => true) true Try.f6.params.toList args.toList ds p := hA0
  rw [Try.params6] at hA hval
  obtain ⟨v0, vs0, d0, ds0, p0, q0, hargs, rfl, rfl, h0, r0⟩ := trodAll_cons hA
  obtain ⟨v1, vs1, d1, ds1, p1, q1, rfl, rfl, rfl, h1, r1⟩ := trodAll_cons r0
  obtain ⟨v2, vs2, d2, ds2, p2, q2, rfl, rfl, rfl, h2, r2⟩ := trodAll_cons r1
  obtain ⟨rfl, rfl, rfl⟩ := trodAll_nil r2
  obtain rfl : args = #[v0, v1, v2] := by cases args; simp_all
  obtain ⟨rfl, rfl⟩ := trodVars_none hV
  have k0 := h0
  have lt0 : ∀ x ∈ p0, x.block < W.heap.size := by obtain ⟨m, hm⟩ := k0; exact DataW.trod_lt m _ _ _ hm
  obtain ⟨xs, hx0, hl0, hq0⟩ := openBookingS (hval 0 22 v0 rfl rfl) h0
  obtain ⟨r, rfl, rfl, rfl, wf1⟩ := open_int Try.underlying2 (hval 1 2 v1 rfl rfl) h1
  obtain ⟨d, rfl, rfl, rfl, wf2⟩ := open_int Try.underlying2 (hval 2 2 v2 rfl rfl) h2
  clear hA0 hval0
  refine (walk v0 xs r d W hx0 hl0 hq0 (i64_bounds wf1) (i64_bounds wf2)).mono fun e W' ⟨he, bel⟩ => ?_
  subst he
  exact ⟨_, rfl, _, _, _, [], _, [], hW', trodAll_mk1 (shut_bool Try.underlying4 _), (trodAll_cons_mk (Below.trod laidOut (by kernel_rfl) (of_decide_eq_true (by kernel_rfl)) k0 bel lt0) (trodAll_cons_mk (shut_int Try.underlying2 wf1) (trodAll_cons_mk (shut_int Try.underlying2 wf2) trodAll_mk0))), rfl, bel.frame _, fun h => by cases h⟩

theorem over : Rows.fnExactLongestGapRow.holds Try.pinned (OpenSpec.ofChange Rows.fnExactLongestGapSpec) :=
  OpenClaim.holds_of_wide 6 Try.f6 rfl rfl rfl rfl rfl rfl rfl ⟨rfl, rfl, rfl, rfl, rfl⟩ rfl rfl rfl rfl rfl (by kernel_rfl) Try.func6 (by kernel_rfl)
    (of_decide_eq_true (by kernel_rfl)) (by unfold Func.isWrapper; first | (rw [if_pos (by decide +kernel)]; kernel_rfl) | (rw [if_neg (by decide +kernel)]; exact ⟨rfl, rfl⟩))
    (fun os started H enc _ => lifted os started H enc)

theorem proved : Rows.FnExactLongestGapSaid := over
#print axioms proved
end Go.Proofs.Ythodceeioinnoaa.longestGap
