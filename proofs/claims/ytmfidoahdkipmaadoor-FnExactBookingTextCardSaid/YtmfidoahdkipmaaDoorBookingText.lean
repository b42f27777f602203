/- The program's BookingText returns what the reference's returns: returns true for all arguments; the tables of the library as their text lays them. -/
import Derived.Test.YtmfidoahdkipmaaDoorTextL
import Derived.Test.YtmfidoahdkipmaaDoorBookingO
namespace Go.Proofs.YtmfidoahdkipmaaDoor.bookingText
open Go.ChangeShapes Go.WideShapes Go.ChangeAt Go.RowKit
open Go.ChangeMaps (open_string shut_string)
set_option linter.unusedVariables false

theorem own : ownKnob Tryd.prog.godebug = none := by kernel_rfl
theorem laidOut : laidOutB Tryd.prog = true := by kernel_rfl


set_option maxRecDepth 100000 in
set_option maxHeartbeats 4000000 in
theorem walk (b : Booking) (w : World) (hT : Tens w) (hq0 : Booking.wf b) :
    Calls Tryd.prog 3 #[.agg #[.int .i64 b.room, .int .i64 b.day, .int .i64 b.frm, .int .i64 b.to_, .string b.use]] w fun e w' => e = .returned (.bool true) ∧ Below w.heap.size w w' := by
  have hu0 : b.use.size ≤ 9223372036854775807 := by have := hq0; unfold Booking.wf at this; omega
  have kX := Blk.newAt (w := w) (n := w.heap.size) (t := 23) (cs := #[.int .i64 b.room, .int .i64 b.day, .int .i64 b.frm, .int .i64 b.to_, .string b.use]) rfl
  have hbkX : Below w.heap.size w (w.alloc (.cells #[.int .i64 b.room, .int .i64 b.day, .int .i64 b.frm, .int .i64 b.to_, .string b.use] 23)) := (Below.refl _ _).alloc (Nat.le_refl _) _
  have hzkX : (w.alloc (.cells #[.int .i64 b.room, .int .i64 b.day, .int .i64 b.frm, .int .i64 b.to_, .string b.use] 23)).heap.size = w.heap.size + 1 := by simp
  go_enter Tryd.func3, Tryd.ntmps3
  go_wp2_with fail
  generalize (w.alloc (.cells #[.int .i64 b.room, .int .i64 b.day, .int .i64 b.frm, .int .i64 b.to_, .string b.use] 23)) = W0 at *
  refine (szBooking_any b _ _ hu0 (by omega) (by omega)).mono ?_
  rintro e w1 ⟨r, rfl, ⟨hra, hrb⟩, b1⟩
  have zl := kX.lt
  have z1 := b1.size
  replace kX := kX.below b1 (by omega)
  have BB : Below w.heap.size w w1 := Below.step b1 (by omega) hbkX
  clear b1 hbkX
  by_cases hn : r < 0
  · go_wp2_with fail
    go_ret
    exact ⟨rfl, BB⟩
  have hu : b.use.size ≤ 1048576 := by have := hrb (by omega); omega
  clear hrb
  obtain ⟨q0, q1, q2, q3, q4⟩ := kX.c5
  go_wp2_with fail
  refine (toBooking_any b _).mono ?_
  rintro e w2 ⟨rfl, b2⟩
  have z2 := b2.size
  replace kX := kX.below b2 (by omega)
  replace BB := Below.step b2 (by omega) BB
  clear b2 q0 q1 q2 q3 q4
  go_wp2_with fail
  refine (sBookingText_any b _ hu).mono ?_
  rintro e w3 ⟨rfl, b3⟩
  have z3 := b3.size
  replace kX := kX.below b3 (by omega)
  replace BB := Below.step b3 (by omega) BB
  clear b3
  obtain ⟨q0, q1, q2, q3, q4⟩ := kX.c5
  go_wp2_with fail
  refine (toBooking_any b _).mono ?_
  rintro e w4 ⟨rfl, b4⟩
  have z4 := b4.size
  replace BB := Below.step b4 (by omega) BB
  clear b4 q0 q1 q2 q3 q4 kX
  go_wp2_with fail
  refine (bookingText_any b _ (hT.below BB) hu).mono ?_
  rintro e w5 ⟨rfl, b5⟩
  replace BB := Below.step b5 (by omega) BB
  generalize (bookText b).1 = tx at *
  generalize (bookText b).2 = cd at *
  go_wp2_with fail
  go_ret
  exact ⟨rfl, BB⟩

set_option maxRecDepth 100000 in
theorem lifted (os : Os) (started : os.Started) (H : Type) (enc : TypeId × Value → H) :
    ReturnsInHanded {} Tryd.checked os 3 .any (fun w args => (Rows.fnExactBookingTextSpec.pre enc Tryd.prog Tryd.f3 Rows.fnExactBookingTextRow.domain false w args ∧ laidMetH Tryd.prog Rows.fnExactBookingTextRow.laid w) ∧ sizedMet enc Tryd.prog Tryd.f3 (OpenSpec.ofChange Rows.fnExactBookingTextSpec) false w args) (Rows.fnExactBookingTextSpec.post enc Tryd.prog Tryd.f3 false true false false) := by
  refine handed_both (C := Tryd.checked) (X := fun w _ => laidMetH Tryd.prog Rows.fnExactBookingTextRow.laid w) (fun _ _ _ hh h => h.of_heap hh) own started (by kernel_rfl) Tryd.func3
    (ChangeSpec.witness_shaped (enc := enc) (C := Tryd.checked) (os := os) (X := fun w _ => laidMetH Tryd.prog Rows.fnExactBookingTextRow.laid w) false (World.laidAll Tryd.prog os Rows.fnExactBookingTextRow.laid) #[.agg #[.int .i64 0, .int .i64 0, .int .i64 0, .int .i64 0, .string ByteArray.empty]] 8 (World.laidAll_os _ _ _)
      (World.shaped_of_ZipB (by kernel_rfl) (by kernel_rfl)) (by kernel_rfl) (by kernel_rfl) (by kernel_rfl)
      (by rw [MakeChecks.laidMetH_plain _ _ _ (by kernel_rfl)]; exact laidMet_laidAll _ (by kernel_rfl) (by kernel_rfl))) ?_
  intro W base args ds gs before hval0 hW hL hsh
  have hval : ∀ (j : Nat) t v, Tryd.f3.params[j]? = some t → args[j]? = some v → Value.okWide Tryd.prog W .any base t v := hval0
  have hW' := hW
  obtain ⟨p, q, hA0, hV, rfl, hfz, hnd⟩ := hW
  have hA : DataW.TrodAll enc Tryd.prog W 0 (fun _ => true) true Tryd.f3.params.toList args.toList ds p := hA0
  rw [Tryd.params3] at hA hval
  obtain ⟨v0, vs0, d0, ds0, p0, q0, hargs, rfl, rfl, h0, r0⟩ := trodAll_cons hA
  obtain ⟨rfl, rfl, rfl⟩ := trodAll_nil r0
  obtain rfl : args = #[v0] := by cases args; simp_all
  obtain ⟨rfl, rfl⟩ := trodVars_none hV
  have k0 := h0
  have lt0 : ∀ x ∈ p0, x.block < W.heap.size := by obtain ⟨m, hm⟩ := k0; exact DataW.trod_lt m _ _ _ hm
  obtain ⟨b, rfl, hq0⟩ := openBooking (hval 0 23 v0 rfl rfl) h0
  clear hA0 hval0
  refine (walk b W (tens_row hL) hq0).mono fun e W' ⟨he, bel⟩ => ?_
  subst he
  exact ⟨_, rfl, _, _, _, [], _, [], hW', trodAll_mk1 (shut_bool Tryd.underlying4 _), (trodAll_cons_mk (Below.trod laidOut (by kernel_rfl) (of_decide_eq_true (by kernel_rfl)) k0 bel lt0) trodAll_mk0), rfl, bel.frame _, fun h => by cases h⟩

theorem over : Rows.FnExactBookingTextSaid :=
  OpenClaim.holds_of_wide 3 Tryd.f3 rfl rfl rfl rfl rfl rfl rfl ⟨rfl, rfl, rfl, rfl, rfl⟩ rfl rfl rfl rfl rfl (by kernel_rfl) Tryd.func3 (by kernel_rfl)
    (of_decide_eq_true (by kernel_rfl)) (by unfold Func.isWrapper; first | (rw [if_pos (by decide +kernel)]; kernel_rfl) | (rw [if_neg (by decide +kernel)]; exact ⟨rfl, rfl⟩))
    (fun os started H enc _ => lifted os started H enc)

theorem proved : Rows.FnExactBookingTextCardSaid :=
  Claim7.holds_tied_plain_at .later [] [.data, .data, .data] true (true, "02a43458191d755385095ed6c1e0580d2b5a68af1567321df85616689516f830") true over (fun _ h => by cases h) (by kernel_rfl) (fun _ h => by cases h) fnExactBookingText_row_tie rfl ⟨rfl, rfl⟩ (by kernel_rfl) rfl
    (fun f fn hf hfn => by
      obtain rfl : f = 3 := Option.some.inj ((show Tryd.prog.funcNamed "loop.example/g01027/laws.FnExactBookingText" = some 3 by kernel_rfl).symm.trans hf) |>.symm
      obtain rfl : fn = Tryd.f3 := (Option.some.inj (Tryd.func3.symm.trans hfn)).symm
      exact ⟨by kernel_rfl, fun j t ht => by
        rw [Tryd.params3] at ht
        have hm : t ∈ [23] := by simpa using Array.mem_of_getElem? ht
        have hall : ([23].all fun u => !Tryd.prog.wantsStandIn u) = true := by kernel_rfl
        exact (show Tryd.prog.wantsStandIn t = false by simpa using List.all_eq_true.1 hall t hm)⟩)
    (by kernel_rfl)
#print axioms proved
end Go.Proofs.YtmfidoahdkipmaaDoor.bookingText
