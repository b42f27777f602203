/- The program's AddBooking returns what the reference's returns, for all arguments. No conditions. -/
import Derived.Test.YthodceeioinnoaaRoomsA
import Derived.Test.YthodceeioinnoaaBookingM
import Derived.Test.YthodceeioinnoaaBookingO
namespace Go.Proofs.Ythodceeioinnoaa.addBooking
open Go.ChangeShapes Go.WideShapes Go.ChangeAt Go.RowKit
open Go.ChangeMaps (open_string shut_string)
set_option linter.unusedVariables false

theorem own : ownKnob Try.prog.godebug = none := by kernel_rfl
theorem laidOut : laidOutB Try.prog = true := by kernel_rfl


set_option maxRecDepth 100000 in
set_option maxHeartbeats 4000000 in
theorem walk (v0 : Value) (xs : List Booking) (b : Booking) (w : World) (hx0 : RdF Booking.enc 5 w 0 w.heap.size v0 xs) (hl0 : xs.length ≤ maxLen) (hq0 : ∀ x ∈ xs, Booking.wf x) (hq1 : Booking.wf b) :
    Calls Try.prog 7 #[v0, .agg #[.int .i64 b.room, .int .i64 b.day, .int .i64 b.frm, .int .i64 b.to_, .string b.use]] w fun e w' => e = .returned (.bool true) ∧ Below w.heap.size w w' := by
  try unfold maxLen at *
  go_enter Try.func7, Try.ntmps7
  have BB : Below w.heap.size w w := Below.refl _ _
  go_wp2_with fail
  have ab1 : Below w.heap.size w (w.alloc (.cells #[.int .i64 b.room, .int .i64 b.day, .int .i64 b.frm, .int .i64 b.to_, .string b.use] 37)) := ((Below.refl _ _).alloc (by first | exact Nat.le_refl _ | (simp; omega) | (simp; done)) _)
  have az1 : (w.alloc (.cells #[.int .i64 b.room, .int .i64 b.day, .int .i64 b.frm, .int .i64 b.to_, .string b.use] 37)).heap.size = w.heap.size + 1 := by simp
  replace hx0 := hx0.below ab1 (by omega)
  replace BB := Below.step ab1 (by omega) BB
  clear ab1
  have bx3 : Blk (w.alloc (.cells #[.int .i64 b.room, .int .i64 b.day, .int .i64 b.frm, .int .i64 b.to_, .string b.use] 37)) (w.heap.size) 37 #[.int .i64 b.room, .int .i64 b.day, .int .i64 b.frm, .int .i64 b.to_, .string b.use] := Blk.newAt (w := w) (n := w.heap.size) (t := 37) (cs := #[.int .i64 b.room, .int .i64 b.day, .int .i64 b.frm, .int .i64 b.to_, .string b.use]) (by simp)
  generalize (w.alloc (.cells #[.int .i64 b.room, .int .i64 b.day, .int .i64 b.frm, .int .i64 b.to_, .string b.use] 37)) = wb1 at *
  try go_wp2_with fail
  refine (szBookingS_any v0 xs _ _ _ _ hx0 (by omega) (by omega) (fun x hx => by have := hq0 x hx; unfold Booking.wf at this; omega) (by omega) (by omega)).mono ?_
  rintro e w2 ⟨r0, rfl, ⟨hra0, hrb0⟩, b2⟩
  have zb2 := b2.size
  replace hx0 := hx0.below b2 (by omega)
  replace bx3 := bx3.below b2 (by omega)
  replace BB := Below.step b2 (by omega) BB
  clear b2
  by_cases hn0 : r0 < 0
  · go_wp2_with fail
    go_ret
    exact ⟨rfl, by (repeat (first | assumption | exact Below.refl _ _ | refine Below.alloc ?_ ?_ _ | refine Below.drew ?_ | refine below_drewN ?_ _ | refine Below.setCell ?_ ?_ _ | refine Below.step (by assumption) ?_ ?_ | (simp <;> omega) | omega))⟩
  have hp0 : 0 ≤ r0 := by omega
  have hq0' := hrb0 hp0
  clear hrb0
  have hm0 : xs.length ≤ 1048576 := by omega
  have hs0 : ∀ x ∈ xs, Booking.small x := fun x hx => by have := hq0'.2 x hx; unfold Booking.small; omega
  obtain ⟨qbx3_0, qbx3_1, qbx3_2, qbx3_3, qbx3_4⟩ := bx3.c5
  go_wp2_with fail
  refine (szBooking_any b _ _ (by have := hq1; unfold Booking.wf at this; omega) (by omega) (by omega)).mono ?_
  rintro e w3 ⟨r1, rfl, ⟨hra1, hrb1⟩, b3⟩
  clear qbx3_0 qbx3_1 qbx3_2 qbx3_3 qbx3_4
  have zb3 := b3.size
  replace hx0 := hx0.below b3 (by omega)
  replace bx3 := bx3.below b3 (by omega)
  replace BB := Below.step b3 (by omega) BB
  clear b3
  by_cases hn1 : r1 < 0
  · go_wp2_with fail
    go_ret
    exact ⟨rfl, by (repeat (first | assumption | exact Below.refl _ _ | refine Below.alloc ?_ ?_ _ | refine Below.drew ?_ | refine below_drewN ?_ _ | refine Below.setCell ?_ ?_ _ | refine Below.step (by assumption) ?_ ?_ | (simp <;> omega) | omega))⟩
  have hp1 : 0 ≤ r1 := by omega
  have hq1' := hrb1 hp1
  clear hrb1
  have hs1 : Booking.small b := by unfold Booking.small; omega
  obtain ⟨qbx3_0, qbx3_1, qbx3_2, qbx3_3, qbx3_4⟩ := bx3.c5
  go_wp2_with fail
  go_region_held3 (fun w' => w'.cell? ⟨w.heap.size, 0, none⟩ = some (.int .i64 b.room) ∧ w'.cell? ⟨w.heap.size, 1, none⟩ = some (.int .i64 b.day) ∧ w'.cell? ⟨w.heap.size, 2, none⟩ = some (.int .i64 b.frm) ∧ w'.cell? ⟨w.heap.size, 3, none⟩ = some (.int .i64 b.to_) ∧ w'.cell? ⟨w.heap.size, 4, none⟩ = some (.string b.use)) (go_keep)
    (first
      | (go_at_call 17; refine (toBookingS_any v0 xs _ _ _ (hx0.below (B := w3.heap.size) (Below.refl _ w3).drew (by omega)) (by show _ ≤ w3.heap.size; omega) (by omega)).mono ?_; rintro e w4 ⟨y4, rfl, hy4, b4⟩; replace b4 : Below w3.heap.size w3 w4 := Below.undrew b4; have zb4 := b4.size; replace hx0 := hx0.below b4 (by omega); replace bx3 := bx3.below b4 (by omega); replace BB := Below.step b4 (by omega) BB; clear b4; obtain ⟨q4bx3_0, q4bx3_1, q4bx3_2, q4bx3_3, q4bx3_4⟩ := bx3.c5)
      | (go_at_call 28; refine (toBooking_any b _).mono ?_; rintro e w5 ⟨rfl, b5⟩; have zb5 := b5.size; replace hx0 := hx0.below b5 (by omega); replace bx3 := bx3.below b5 (by omega); replace hy4 := hy4.below b5 (by omega); replace BB := Below.step b5 (by omega) BB; clear b5; obtain ⟨q5bx3_0, q5bx3_1, q5bx3_2, q5bx3_3, q5bx3_4⟩ := bx3.c5)
      | (go_at_call 27; refine (sAddBooking_any y4 xs _ _ b _ hy4.rd (by omega) (by omega) hs0 hs1).mono ?_; rintro e w6 ⟨y6_0, rfl, hy6_0, b6⟩; have zb6 := b6.size; replace hx0 := hx0.below b6 (by omega); replace bx3 := bx3.below b6 (by omega); replace hy4 := hy4.below b6 (by omega); replace BB := Below.step b6 (by omega) BB; clear b6; obtain ⟨q6bx3_0, q6bx3_1, q6bx3_2, q6bx3_3, q6bx3_4⟩ := bx3.c5; have l6_0 : ((addBooking xs b).1).length ≤ 1048576 := addBooking_len xs b))
  clear qbx3_0 qbx3_1 qbx3_2 qbx3_3 qbx3_4 q4bx3_0 q4bx3_1 q4bx3_2 q4bx3_3 q4bx3_4 q5bx3_0 q5bx3_1 q5bx3_2 q5bx3_3 q5bx3_4 q6bx3_0 q6bx3_1 q6bx3_2 q6bx3_3 q6bx3_4
  clear hy4
  go_wp2_with fail
  refine (toBookingS_any v0 xs _ _ _ hx0 (by omega) (by omega)).mono ?_
  rintro e w7 ⟨y7, rfl, hy7, b7⟩
  have zb7 := b7.size
  replace hx0 := hx0.below b7 (by omega)
  replace bx3 := bx3.below b7 (by omega)
  replace hy6_0 := hy6_0.below b7 (by omega)
  replace BB := Below.step b7 (by omega) BB
  clear b7
  obtain ⟨qbx3_0, qbx3_1, qbx3_2, qbx3_3, qbx3_4⟩ := bx3.c5
  go_wp2_with fail
  refine (toBooking_any b _).mono ?_
  rintro e w8 ⟨rfl, b8⟩
  clear qbx3_0 qbx3_1 qbx3_2 qbx3_3 qbx3_4
  have zb8 := b8.size
  replace hx0 := hx0.below b8 (by omega)
  replace bx3 := bx3.below b8 (by omega)
  replace hy6_0 := hy6_0.below b8 (by omega)
  replace hy7 := hy7.below b8 (by omega)
  replace BB := Below.step b8 (by omega) BB
  clear b8
  obtain ⟨qbx3_0, qbx3_1, qbx3_2, qbx3_3, qbx3_4⟩ := bx3.c5
  go_wp2_with fail
  refine (addBooking_any y7 xs _ _ b _ hy7.rd (by omega) (by omega) hs0 hs1).mono ?_
  rintro e w9 ⟨y9_0, rfl, hy9_0, b9⟩
  clear qbx3_0 qbx3_1 qbx3_2 qbx3_3 qbx3_4
  have zb9 := b9.size
  replace hx0 := hx0.below b9 (by omega)
  replace bx3 := bx3.below b9 (by omega)
  replace hy6_0 := hy6_0.below b9 (by omega)
  replace hy7 := hy7.below b9 (by omega)
  replace BB := Below.step b9 (by omega) BB
  clear b9
  have l9_0 : ((addBooking xs b).1).length ≤ 1048576 := addBooking_len xs b
  go_wp2_with fail
  refine (eqBookingS_any y9_0 y6_0 (addBooking xs b).1 (addBooking xs b).1 _ _ _ _ _ hy9_0.rd (by omega) hy6_0.rd (by omega) (by omega) (by omega)).mono ?_
  rintro e w10 ⟨rfl, b10⟩
  have zb10 := b10.size
  replace hx0 := hx0.below b10 (by omega)
  replace bx3 := bx3.below b10 (by omega)
  replace hy6_0 := hy6_0.below b10 (by omega)
  replace hy7 := hy7.below b10 (by omega)
  replace hy9_0 := hy9_0.below b10 (by omega)
  replace BB := Below.step b10 (by omega) BB
  clear b10
  rw [show eqL Booking.beq (addBooking xs b).1 (addBooking xs b).1 = true from (eqL_iff (fun x y => Booking.beq_iff)).2 rfl]
  go_wp2_with fail
  refine (toBookingS_any v0 xs _ _ _ hx0 (by omega) (by omega)).mono ?_
  rintro e w11 ⟨y11, rfl, hy11, b11⟩
  have zb11 := b11.size
  replace hx0 := hx0.below b11 (by omega)
  replace bx3 := bx3.below b11 (by omega)
  replace hy6_0 := hy6_0.below b11 (by omega)
  replace hy7 := hy7.below b11 (by omega)
  replace hy9_0 := hy9_0.below b11 (by omega)
  replace BB := Below.step b11 (by omega) BB
  clear b11
  go_wp2_with fail
  refine (eqBookingS_any y7 y11 xs xs _ _ _ _ _ hy7.rd (by omega) hy11.rd (by omega) (by omega) (by omega)).mono ?_
  rintro e w12 ⟨rfl, b12⟩
  have zb12 := b12.size
  replace hx0 := hx0.below b12 (by omega)
  replace bx3 := bx3.below b12 (by omega)
  replace hy6_0 := hy6_0.below b12 (by omega)
  replace hy7 := hy7.below b12 (by omega)
  replace hy9_0 := hy9_0.below b12 (by omega)
  replace hy11 := hy11.below b12 (by omega)
  replace BB := Below.step b12 (by omega) BB
  clear b12
  rw [show eqL Booking.beq xs xs = true from (eqL_iff (fun x y => Booking.beq_iff)).2 rfl]
  clear hy11
  go_wp2_with fail
  refine (markBookingS_any y7 (xs) _ _ (1) _ hy7 (by omega) (by omega) (by omega) (by omega)).mono ?_
  rintro e w13 ⟨rfl, hg13, cg13⟩
  have zcg13 := cg13.size
  clear hy7
  replace hx0 := hx0.chg cg13 (by omega) (by omega)
  replace bx3 := bx3.chg cg13 (by omega) (by omega)
  replace hy6_0 := hy6_0.chg cg13 (by omega) (by omega)
  replace hy9_0 := hy9_0.chg cg13 (by omega) (by omega)
  replace BB := BB.trans (cg13.below (by omega) (by omega))
  clear cg13
  clear hg13
  go_wp2_with fail
  refine (eqBookingS_any y9_0 y6_0 (addBooking xs b).1 (addBooking xs b).1 _ _ _ _ _ hy9_0.rd (by omega) hy6_0.rd (by omega) (by omega) (by omega)).mono ?_
  rintro e w14 ⟨rfl, b14⟩
  have zb14 := b14.size
  replace hx0 := hx0.below b14 (by omega)
  replace bx3 := bx3.below b14 (by omega)
  replace hy6_0 := hy6_0.below b14 (by omega)
  replace hy9_0 := hy9_0.below b14 (by omega)
  replace BB := Below.step b14 (by omega) BB
  clear b14
  rw [show eqL Booking.beq (addBooking xs b).1 (addBooking xs b).1 = true from (eqL_iff (fun x y => Booking.beq_iff)).2 rfl]
  go_wp2_with fail
  refine (markBookingS_any y9_0 ((addBooking xs b).1) _ _ (1) _ hy9_0 (by omega) (by omega) (by omega) (by omega)).mono ?_
  rintro e w15 ⟨rfl, hg15, cg15⟩
  have zcg15 := cg15.size
  clear hy9_0
  replace hx0 := hx0.chg cg15 (by omega) (by omega)
  replace bx3 := bx3.chg cg15 (by omega) (by omega)
  replace hy6_0 := hy6_0.chg cg15 (by omega) (by omega)
  replace BB := BB.trans (cg15.below (by omega) (by omega))
  clear cg15
  go_wp2_with fail
  refine (heldBookingS_any y9_0 ((addBooking xs b).1).length _ _ (1) _ hg15.rd (by omega) (by omega) (by omega) (by omega)).mono ?_
  rintro e w16 ⟨rfl, b16⟩
  have zb16 := b16.size
  replace hx0 := hx0.below b16 (by omega)
  replace bx3 := bx3.below b16 (by omega)
  replace hy6_0 := hy6_0.below b16 (by omega)
  replace hg15 := hg15.below b16 (by omega)
  replace BB := Below.step b16 (by omega) BB
  clear b16
  obtain ⟨qbx3_0, qbx3_1, qbx3_2, qbx3_3, qbx3_4⟩ := bx3.c5
  go_wp2_with fail
  go_region_held3 (fun w' => w'.cell? ⟨w.heap.size, 0, none⟩ = some (.int .i64 b.room) ∧ w'.cell? ⟨w.heap.size, 1, none⟩ = some (.int .i64 b.day) ∧ w'.cell? ⟨w.heap.size, 2, none⟩ = some (.int .i64 b.frm) ∧ w'.cell? ⟨w.heap.size, 3, none⟩ = some (.int .i64 b.to_) ∧ w'.cell? ⟨w.heap.size, 4, none⟩ = some (.string b.use)) (go_keep)
    (first
      | (go_at_call 17; refine (toBookingS_any v0 xs _ _ _ (hx0.below (B := w16.heap.size) (Below.refl _ w16).drew (by omega)) (by show _ ≤ w16.heap.size; omega) (by omega)).mono ?_; rintro e w17 ⟨y17, rfl, hy17, b17⟩; replace b17 : Below w16.heap.size w16 w17 := Below.undrew b17; have zb17 := b17.size; replace hx0 := hx0.below b17 (by omega); replace bx3 := bx3.below b17 (by omega); replace hy6_0 := hy6_0.below b17 (by omega); replace hg15 := hg15.below b17 (by omega); replace BB := Below.step b17 (by omega) BB; clear b17; obtain ⟨q17bx3_0, q17bx3_1, q17bx3_2, q17bx3_3, q17bx3_4⟩ := bx3.c5)
      | (go_at_call 28; refine (toBooking_any b _).mono ?_; rintro e w18 ⟨rfl, b18⟩; have zb18 := b18.size; replace hx0 := hx0.below b18 (by omega); replace bx3 := bx3.below b18 (by omega); replace hy6_0 := hy6_0.below b18 (by omega); replace hg15 := hg15.below b18 (by omega); replace hy17 := hy17.below b18 (by omega); replace BB := Below.step b18 (by omega) BB; clear b18; obtain ⟨q18bx3_0, q18bx3_1, q18bx3_2, q18bx3_3, q18bx3_4⟩ := bx3.c5)
      | (go_at_call 29; refine (addBooking_any y17 xs _ _ b _ hy17.rd (by omega) (by omega) hs0 hs1).mono ?_; rintro e w19 ⟨y19_0, rfl, hy19_0, b19⟩; have zb19 := b19.size; replace hx0 := hx0.below b19 (by omega); replace bx3 := bx3.below b19 (by omega); replace hy6_0 := hy6_0.below b19 (by omega); replace hg15 := hg15.below b19 (by omega); replace hy17 := hy17.below b19 (by omega); replace BB := Below.step b19 (by omega) BB; clear b19; obtain ⟨q19bx3_0, q19bx3_1, q19bx3_2, q19bx3_3, q19bx3_4⟩ := bx3.c5; have l19_0 : ((addBooking xs b).1).length ≤ 1048576 := addBooking_len xs b))
  clear qbx3_0 qbx3_1 qbx3_2 qbx3_3 qbx3_4 q17bx3_0 q17bx3_1 q17bx3_2 q17bx3_3 q17bx3_4 q18bx3_0 q18bx3_1 q18bx3_2 q18bx3_3 q18bx3_4 q19bx3_0 q19bx3_1 q19bx3_2 q19bx3_3 q19bx3_4
  clear bx3
  clear hx0 hy17
  go_wp2_with fail
  refine (eqBookingS_any y19_0 y6_0 (addBooking xs b).1 (addBooking xs b).1 _ _ _ _ _ hy19_0.rd (by omega) hy6_0.rd (by omega) (by omega) (by omega)).mono ?_
  rintro e w20 ⟨rfl, b20⟩
  have zb20 := b20.size
  replace hy6_0 := hy6_0.below b20 (by omega)
  replace hg15 := hg15.below b20 (by omega)
  replace hy19_0 := hy19_0.below b20 (by omega)
  replace BB := Below.step b20 (by omega) BB
  clear b20
  rw [show eqL Booking.beq (addBooking xs b).1 (addBooking xs b).1 = true from (eqL_iff (fun x y => Booking.beq_iff)).2 rfl]
  clear hy6_0 hy19_0
  go_wp2_with fail
  refine (heldBookingS_any y9_0 ((addBooking xs b).1).length _ _ (1) _ hg15.rd (by omega) (by omega) (by omega) (by omega)).mono ?_
  rintro e w21 ⟨rfl, b21⟩
  have zb21 := b21.size
  replace hg15 := hg15.below b21 (by omega)
  replace BB := Below.step b21 (by omega) BB
  clear b21
  clear hg15
  go_wp2_with fail
  go_ret
  exact ⟨rfl, BB⟩

set_option maxRecDepth 100000 in
theorem lifted (os : Os) (started : os.Started) (H : Type) (enc : TypeId × Value → H) :
    ReturnsInHanded {} Try.checked os 7 .any (Rows.fnExactAddBookingSpec.pre6 enc Try.prog Try.f7 Rows.fnExactAddBookingRow.domain false) (Rows.fnExactAddBookingSpec.post enc Try.prog Try.f7 false true false false) := by
  refine returnsInHanded_of_change (C := Try.checked) own started (by kernel_rfl) Try.func7
    (ChangeSpec.witness6 (enc := enc) (C := Try.checked) false ⟨#[], #[.slice none 0 0, .agg #[.int .i64 0, .int .i64 0, .int .i64 0, .int .i64 0, .string ByteArray.empty]], []⟩ 8 (by kernel_rfl) (by kernel_rfl) (by kernel_rfl) (by kernel_rfl)) ?_
  intro W base args ds gs before hval0 hW hcnd _
  have hval : ∀ (j : Nat) t v, Try.f7.params[j]? = some t → args[j]? = some v → Value.okWide Try.prog W .any base t v := hval0
  have hW' := hW
  obtain ⟨p, q, hA0, hV, rfl, hfz, hnd⟩ := hW
  have hA : DataW.TrodAll enc Try.prog W 0 (fun _ => true) true Try.f7.params.toList args.toList ds p := hA0
  rw [Try.params7] at hA hval
  obtain ⟨v0, vs0, d0, ds0, p0, q0, hargs, rfl, rfl, h0, r0⟩ := trodAll_cons hA
  obtain ⟨v1, vs1, d1, ds1, p1, q1, rfl, rfl, rfl, h1, r1⟩ := trodAll_cons r0
  obtain ⟨rfl, rfl, rfl⟩ := trodAll_nil r1
  obtain rfl : args = #[v0, v1] := by cases args; simp_all
  obtain ⟨rfl, rfl⟩ := trodVars_none hV
  have k0 := h0
  have lt0 : ∀ x ∈ p0, x.block < W.heap.size := by obtain ⟨m, hm⟩ := k0; exact DataW.trod_lt m _ _ _ hm
  have k1 := h1
  have lt1 : ∀ x ∈ p1, x.block < W.heap.size := by obtain ⟨m, hm⟩ := k1; exact DataW.trod_lt m _ _ _ hm
  obtain ⟨xs, hx0, hl0, hq0⟩ := openBookingS (hval 0 22 v0 rfl rfl) h0
  obtain ⟨b, rfl, hq1⟩ := openBooking (hval 1 37 v1 rfl rfl) h1
  clear hA0 hval0
  refine (walk v0 xs b W hx0 hl0 hq0 hq1).mono fun e W' ⟨he, bel⟩ => ?_
  subst he
  exact ⟨_, rfl, _, _, _, [], _, [], hW', trodAll_mk1 (shut_bool Try.underlying4 _), (trodAll_cons_mk (Below.trod laidOut (by kernel_rfl) (of_decide_eq_true (by kernel_rfl)) k0 bel lt0) (trodAll_cons_mk (Below.trod laidOut (by kernel_rfl) (of_decide_eq_true (by kernel_rfl)) k1 bel lt1) trodAll_mk0)), rfl, bel.frame _, fun h => by cases h⟩

theorem over : Rows.fnExactAddBookingRow.holds Try.pinned (OpenSpec.ofChange Rows.fnExactAddBookingSpec) :=
  OpenClaim.holds_of_wide 7 Try.f7 rfl rfl rfl rfl rfl rfl rfl ⟨rfl, rfl, rfl, rfl, rfl⟩ rfl rfl rfl rfl rfl (by kernel_rfl) Try.func7 (by kernel_rfl)
    (of_decide_eq_true (by kernel_rfl)) (by unfold Func.isWrapper; first | (rw [if_pos (by decide +kernel)]; kernel_rfl) | (rw [if_neg (by decide +kernel)]; exact ⟨rfl, rfl⟩))
    (fun os started H enc _ => lifted os started H enc)

theorem proved : Rows.FnExactAddBookingSaid := over
#print axioms proved
end Go.Proofs.Ythodceeioinnoaa.addBooking
