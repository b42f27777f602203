/- The program's BookingsFor returns what the reference's returns, for all arguments. No conditions. -/
import Derived.Test.YthodceeioinnoaaRoomsV
import Derived.Test.YthodceeioinnoaaBookingM
import Derived.Test.YthodceeioinnoaaBookingO
namespace Go.Proofs.Ythodceeioinnoaa.bookingsFor
open Go.ChangeShapes Go.WideShapes Go.ChangeAt Go.RowKit
open Go.ChangeMaps (open_string shut_string)
set_option linter.unusedVariables false

theorem own : ownKnob Try.prog.godebug = none := by kernel_rfl
theorem laidOut : laidOutB Try.prog = true := by kernel_rfl


set_option maxHeartbeats 4000000 in
theorem walk (v0 : Value) (xs : List Booking) (u : ByteArray) (w : World) (hx0 : RdF Booking.enc 5 w 0 w.heap.size v0 xs) (hl0 : xs.length ≤ maxLen) (hq0 : ∀ x ∈ xs, Booking.wf x) (hb1 : u.size ≤ maxLen) :
    Calls Try.prog 8 #[v0, .string u] w fun e w' => e = .returned (.bool true) ∧ Below w.heap.size w w' := by
  try unfold maxLen at *
  by_cases hlen1 : (1048576 : Int) < ((u).size : Int)
  · go_enter Try.func8, Try.ntmps8
    go_wp2_with fail
    go_ret
    exact ⟨rfl, by (repeat (first | assumption | exact Below.refl _ _ | refine Below.alloc ?_ ?_ _ | refine Below.drew ?_ | refine below_drewN ?_ _ | refine Below.setCell ?_ ?_ _ | refine Below.step (by assumption) ?_ ?_ | (simp <;> omega) | omega))⟩
  have hm1 : ((u).size : Int) ≤ 1048576 := by omega
  go_enter Try.func8, Try.ntmps8
  have BB : Below w.heap.size w w := Below.refl _ _
  go_wp2_with fail
  refine (szBookingS_any v0 xs _ _ _ _ hx0 (by omega) (by omega) (fun x hx => by have := hq0 x hx; unfold Booking.wf at this; omega) (by omega) (by omega)).mono ?_
  rintro e sw0 ⟨r0, rfl, ⟨hra0, hrb0⟩, sb0⟩
  have sz0 := sb0.size
  replace hx0 := hx0.below sb0 (by omega)
  replace BB := Below.step sb0 (by omega) BB
  clear sb0
  by_cases hn0 : r0 < 0
  · go_wp2_with fail
    go_ret
    exact ⟨rfl, by (repeat (first | assumption | exact Below.refl _ _ | refine Below.alloc ?_ ?_ _ | refine Below.drew ?_ | refine below_drewN ?_ _ | refine Below.setCell ?_ ?_ _ | refine Below.step (by assumption) ?_ ?_ | (simp <;> omega) | omega))⟩
  have hp0 : 0 ≤ r0 := by omega
  have hq0' := hrb0 hp0
  clear hrb0
  have hm0 : xs.length ≤ 1048576 := by omega
  have hs0 : ∀ x ∈ xs, Booking.small x := fun x hx => by have := hq0'.2 x hx; unfold Booking.small; omega
  go_wp2_with fail
  refine (toBookingS_any v0 xs _ _ _ hx0 (by omega) (by omega)).mono ?_
  rintro e w1 ⟨y1, rfl, hy1, b1⟩
  have z1 := b1.size
  replace hx0 := hx0.below b1 (by omega)
  replace BB := Below.step b1 (by omega) BB
  clear b1
  go_wp2_with fail
  refine (sBookingsFor_any y1 xs _ _ u _ hy1.rd (by omega) (by omega) hs0 (by omega)).mono ?_
  rintro e w2 ⟨y2, rfl, hy2, b2⟩
  have z2 := b2.size
  replace hx0 := hx0.below b2 (by omega)
  replace hy1 := hy1.below b2 (by omega)
  replace BB := Below.step b2 (by omega) BB
  clear b2
  have l2 : (bookingsFor xs u).1.length ≤ 1048576 := bookingsFor_len (xs := xs) hm0
  clear hy1
  go_wp2_with fail
  refine (toBookingS_any v0 xs _ _ _ hx0 (by omega) (by omega)).mono ?_
  rintro e w3 ⟨y3, rfl, hy3, b3⟩
  have z3 := b3.size
  replace hx0 := hx0.below b3 (by omega)
  replace hy2 := hy2.below b3 (by omega)
  replace BB := Below.step b3 (by omega) BB
  clear b3
  go_wp2_with fail
  refine (bookingsFor_any y3 xs _ _ u _ hy3.rd (by omega) (by omega) hs0 (by omega)).mono ?_
  rintro e w4 ⟨y4, rfl, hy4, b4⟩
  have z4 := b4.size
  replace hx0 := hx0.below b4 (by omega)
  replace hy2 := hy2.below b4 (by omega)
  replace hy3 := hy3.below b4 (by omega)
  replace BB := Below.step b4 (by omega) BB
  clear b4
  have l4 : (bookingsFor xs u).1.length ≤ 1048576 := bookingsFor_len (xs := xs) hm0
  go_wp2_with fail
  refine (eqInt64S_any y4 y2 (bookingsFor xs u).1 (bookingsFor xs u).1 _ _ _ _ _ hy4.rd (by omega) hy2.rd (by omega) (by omega) (by omega)).mono ?_
  rintro e w5 ⟨rfl, b5⟩
  have z5 := b5.size
  replace hx0 := hx0.below b5 (by omega)
  replace hy2 := hy2.below b5 (by omega)
  replace hy3 := hy3.below b5 (by omega)
  replace hy4 := hy4.below b5 (by omega)
  replace BB := Below.step b5 (by omega) BB
  clear b5
  rw [show eqL intEq (bookingsFor xs u).1 (bookingsFor xs u).1 = true from (eqL_iff intEq_iff).2 rfl]
  go_wp2_with fail
  refine (toBookingS_any v0 xs _ _ _ hx0 (by omega) (by omega)).mono ?_
  rintro e w6 ⟨y6, rfl, hy6, b6⟩
  have z6 := b6.size
  replace hx0 := hx0.below b6 (by omega)
  replace hy2 := hy2.below b6 (by omega)
  replace hy3 := hy3.below b6 (by omega)
  replace hy4 := hy4.below b6 (by omega)
  replace BB := Below.step b6 (by omega) BB
  clear b6
  go_wp2_with fail
  refine (eqBookingS_any y3 y6 xs xs _ _ _ _ _ hy3.rd (by omega) hy6.rd (by omega) (by omega) (by omega)).mono ?_
  rintro e w7 ⟨rfl, b7⟩
  have z7 := b7.size
  replace hx0 := hx0.below b7 (by omega)
  replace hy2 := hy2.below b7 (by omega)
  replace hy3 := hy3.below b7 (by omega)
  replace hy4 := hy4.below b7 (by omega)
  replace hy6 := hy6.below b7 (by omega)
  replace BB := Below.step b7 (by omega) BB
  clear b7
  rw [show eqL Booking.beq xs xs = true from (eqL_iff (fun x y => Booking.beq_iff)).2 rfl]
  clear hy6
  go_wp2_with fail
  refine (markBookingS_any y3 xs _ _ (1) _ hy3 (by omega) (by omega) (by omega) (by omega)).mono ?_
  rintro e w8 ⟨rfl, -, cg8⟩
  have z8 := cg8.size
  replace hx0 := hx0.chg cg8 (by omega) (by omega)
  replace hy2 := hy2.chg cg8 (by omega) (by omega)
  replace hy4 := hy4.chg cg8 (by omega) (by omega)
  replace BB := BB.trans (cg8.below (by omega) (by omega))
  clear cg8 hy3
  go_wp2_with fail
  refine (eqInt64S_any y4 y2 (bookingsFor xs u).1 (bookingsFor xs u).1 _ _ _ _ _ hy4.rd (by omega) hy2.rd (by omega) (by omega) (by omega)).mono ?_
  rintro e w9 ⟨rfl, b9⟩
  have z9 := b9.size
  replace hx0 := hx0.below b9 (by omega)
  replace hy2 := hy2.below b9 (by omega)
  replace hy4 := hy4.below b9 (by omega)
  replace BB := Below.step b9 (by omega) BB
  clear b9
  rw [show eqL intEq (bookingsFor xs u).1 (bookingsFor xs u).1 = true from (eqL_iff intEq_iff).2 rfl]
  go_wp2_with fail
  refine (markInt64S_any y4 (bookingsFor xs u).1 _ _ (1) _ hy4 (by omega) (by omega) (by omega) (by omega)).mono ?_
  rintro e w10 ⟨rfl, hg10, cg10⟩
  have z10 := cg10.size
  replace hx0 := hx0.chg cg10 (by omega) (by omega)
  replace hy2 := hy2.chg cg10 (by omega) (by omega)
  replace BB := BB.trans (cg10.below (by omega) (by omega))
  clear cg10 hy4
  go_wp2_with fail
  refine (heldInt64S_any y4 (bookingsFor xs u).1.length _ _ (1) _ hg10.rd (by omega) (by omega) (by omega) (by omega)).mono ?_
  rintro e w11 ⟨rfl, b11⟩
  have z11 := b11.size
  replace hx0 := hx0.below b11 (by omega)
  replace hy2 := hy2.below b11 (by omega)
  replace hg10 := hg10.below b11 (by omega)
  replace BB := Below.step b11 (by omega) BB
  clear b11
  go_wp2_with fail
  refine (toBookingS_any v0 xs _ _ _ hx0 (by omega) (by omega)).mono ?_
  rintro e w12 ⟨y12, rfl, hy12, b12⟩
  have z12 := b12.size
  replace hx0 := hx0.below b12 (by omega)
  replace hy2 := hy2.below b12 (by omega)
  replace hg10 := hg10.below b12 (by omega)
  replace BB := Below.step b12 (by omega) BB
  clear b12
  go_wp2_with fail
  refine (bookingsFor_any y12 xs _ _ u _ hy12.rd (by omega) (by omega) hs0 (by omega)).mono ?_
  rintro e w13 ⟨y13, rfl, hy13, b13⟩
  have z13 := b13.size
  replace hx0 := hx0.below b13 (by omega)
  replace hy2 := hy2.below b13 (by omega)
  replace hg10 := hg10.below b13 (by omega)
  replace hy12 := hy12.below b13 (by omega)
  replace BB := Below.step b13 (by omega) BB
  clear b13
  have l13 : (bookingsFor xs u).1.length ≤ 1048576 := bookingsFor_len (xs := xs) hm0
  clear hy12
  clear hx0
  go_wp2_with fail
  refine (eqInt64S_any y13 y2 (bookingsFor xs u).1 (bookingsFor xs u).1 _ _ _ _ _ hy13.rd (by omega) hy2.rd (by omega) (by omega) (by omega)).mono ?_
  rintro e w14 ⟨rfl, b14⟩
  have z14 := b14.size
  replace hy2 := hy2.below b14 (by omega)
  replace hg10 := hg10.below b14 (by omega)
  replace hy13 := hy13.below b14 (by omega)
  replace BB := Below.step b14 (by omega) BB
  clear b14
  rw [show eqL intEq (bookingsFor xs u).1 (bookingsFor xs u).1 = true from (eqL_iff intEq_iff).2 rfl]
  clear hy13 hy2
  go_wp2_with fail
  refine (heldInt64S_any y4 (bookingsFor xs u).1.length _ _ (1) _ hg10.rd (by omega) (by omega) (by omega) (by omega)).mono ?_
  rintro e w15 ⟨rfl, b15⟩
  have z15 := b15.size
  replace hg10 := hg10.below b15 (by omega)
  replace BB := Below.step b15 (by omega) BB
  clear b15
  go_wp2_with fail
  go_ret
  exact ⟨rfl, BB⟩

set_option maxRecDepth 100000 in
theorem lifted (os : Os) (started : os.Started) (H : Type) (enc : TypeId × Value → H) :
    ReturnsInHanded {} Try.checked os 8 .any (Rows.fnExactBookingsForSpec.pre6 enc Try.prog Try.f8 Rows.fnExactBookingsForRow.domain false) (Rows.fnExactBookingsForSpec.post enc Try.prog Try.f8 false true false false) := by
  refine returnsInHanded_of_change (C := Try.checked) own started (by kernel_rfl) Try.func8
    (ChangeSpec.witness6 (enc := enc) (C := Try.checked) false ⟨#[], #[.slice none 0 0, .string ByteArray.empty], []⟩ 8 (by kernel_rfl) (by kernel_rfl) (by kernel_rfl) (by kernel_rfl)) ?_
  intro W base args ds gs before hval0 hW hcnd _
  have hval : ∀ (j : Nat) t v, Try.f8.params[j]? = some t → args[j]? = some v → Value.okWide Try.prog W .any base t v := hval0
  have hW' := hW
  obtain ⟨p, q, hA0, hV, rfl, hfz, hnd⟩ := hW
  have hA : DataW.TrodAll enc Try.prog W 0 (fun _ => true) true Try.f8.params.toList args.toList ds p := hA0
  rw [Try.params8] at hA hval
  obtain ⟨v0, vs0, d0, ds0, p0, q0, hargs, rfl, rfl, h0, r0⟩ := trodAll_cons hA
  obtain ⟨v1, vs1, d1, ds1, p1, q1, rfl, rfl, rfl, h1, r1⟩ := trodAll_cons r0
  obtain ⟨rfl, rfl, rfl⟩ := trodAll_nil r1
  obtain rfl : args = #[v0, v1] := by cases args; simp_all
  obtain ⟨rfl, rfl⟩ := trodVars_none hV
  have k0 := h0
  have lt0 : ∀ x ∈ p0, x.block < W.heap.size := by obtain ⟨m, hm⟩ := k0; exact DataW.trod_lt m _ _ _ hm
  obtain ⟨xs, hx0, hl0, hq0⟩ := openBookingS (hval 0 22 v0 rfl rfl) h0
  obtain ⟨u, rfl, rfl, rfl, wf1⟩ := open_string Try.underlying9 (hval 1 9 v1 rfl rfl) h1
  clear hA0 hval0
  refine (walk v0 xs u W hx0 hl0 hq0 wf1).mono fun e W' ⟨he, bel⟩ => ?_
  subst he
  exact ⟨_, rfl, _, _, _, [], _, [], hW', trodAll_mk1 (shut_bool Try.underlying4 _), (trodAll_cons_mk (Below.trod laidOut (by kernel_rfl) (of_decide_eq_true (by kernel_rfl)) k0 bel lt0) (trodAll_cons_mk (shut_string Try.underlying9 wf1) trodAll_mk0)), rfl, bel.frame _, fun h => by cases h⟩

theorem over : Rows.fnExactBookingsForRow.holds Try.pinned (OpenSpec.ofChange Rows.fnExactBookingsForSpec) :=
  OpenClaim.holds_of_wide 8 Try.f8 rfl rfl rfl rfl rfl rfl rfl ⟨rfl, rfl, rfl, rfl, rfl⟩ rfl rfl rfl rfl rfl (by kernel_rfl) Try.func8 (by kernel_rfl)
    (of_decide_eq_true (by kernel_rfl)) (by unfold Func.isWrapper; first | (rw [if_pos (by decide +kernel)]; kernel_rfl) | (rw [if_neg (by decide +kernel)]; exact ⟨rfl, rfl⟩))
    (fun os started H enc _ => lifted os started H enc)

theorem proved : Rows.FnExactBookingsForSaid := over
#print axioms proved
end Go.Proofs.Ythodceeioinnoaa.bookingsFor
