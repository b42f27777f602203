/- The program's DoesFit returns what the reference's returns, for all arguments. No conditions. -/
import Derived.Test.YtdcfenkkgnnbbaaFitW
import Derived.Test.YtdcfenkkgnnbbaaHearingO
import Derived.Test.YtdcfenkkgnnbbaaSlotO
namespace Go.Proofs.Ytdcfenkkgnnbbaa.doesFit
open Go.ChangeShapes Go.WideShapes Go.ChangeAt Go.RowKit
open Go.ChangeMaps (open_string shut_string)
set_option linter.unusedVariables false

theorem own : ownKnob Try.prog.godebug = none := by kernel_rfl
theorem laidOut : laidOutB Try.prog = true := by kernel_rfl


set_option maxRecDepth 100000 in
set_option maxHeartbeats 4000000 in
theorem walk (h : Hearing) (p0_0 : Value) (s : Slot) (w : World) (hx0_0 : RdF encStr 1 w 0 w.heap.size p0_0 h.people) (hq0 : Hearing.wf h) (hq1 : Slot.wf s) :
    Calls Try.prog 3 #[.agg #[.string h.code, .int .i64 h.len, p0_0, .int .i64 h.last], .agg #[.int .i64 s.room, .int .i64 s.day, .int .i64 s.frm]] w fun e w' => e = .returned (.bool true) ∧ Below w.heap.size w w' := by
  try unfold maxLen at *
  go_enter Try.func3, Try.ntmps3
  have BB : Below w.heap.size w w := Below.refl _ _
  go_wp2_with fail
  have ab1 : Below w.heap.size w ((w.alloc (.cells #[.string h.code, .int .i64 h.len, p0_0, .int .i64 h.last] 24)).alloc (.cells #[.int .i64 s.room, .int .i64 s.day, .int .i64 s.frm] 26)) := (((Below.refl _ _).alloc (by first | exact Nat.le_refl _ | (simp; omega) | (simp; done)) _).alloc (by first | exact Nat.le_refl _ | (simp; omega) | (simp; done)) _)
  have az1 : ((w.alloc (.cells #[.string h.code, .int .i64 h.len, p0_0, .int .i64 h.last] 24)).alloc (.cells #[.int .i64 s.room, .int .i64 s.day, .int .i64 s.frm] 26)).heap.size = w.heap.size + 2 := by simp
  replace hx0_0 := hx0_0.below ab1 (by omega)
  replace BB := Below.step ab1 (by omega) BB
  clear ab1
  have bx2 : Blk ((w.alloc (.cells #[.string h.code, .int .i64 h.len, p0_0, .int .i64 h.last] 24)).alloc (.cells #[.int .i64 s.room, .int .i64 s.day, .int .i64 s.frm] 26)) (w.heap.size) 24 #[.string h.code, .int .i64 h.len, p0_0, .int .i64 h.last] := (Blk.newAt (w := w) (n := w.heap.size) (t := 24) (cs := #[.string h.code, .int .i64 h.len, p0_0, .int .i64 h.last]) (by simp)).alloc _
  have bx3 : Blk ((w.alloc (.cells #[.string h.code, .int .i64 h.len, p0_0, .int .i64 h.last] 24)).alloc (.cells #[.int .i64 s.room, .int .i64 s.day, .int .i64 s.frm] 26)) (w.heap.size + 1) 26 #[.int .i64 s.room, .int .i64 s.day, .int .i64 s.frm] := Blk.newAt (w := (w.alloc (.cells #[.string h.code, .int .i64 h.len, p0_0, .int .i64 h.last] 24))) (n := w.heap.size + 1) (t := 26) (cs := #[.int .i64 s.room, .int .i64 s.day, .int .i64 s.frm]) (by simp)
  generalize ((w.alloc (.cells #[.string h.code, .int .i64 h.len, p0_0, .int .i64 h.last] 24)).alloc (.cells #[.int .i64 s.room, .int .i64 s.day, .int .i64 s.frm] 26)) = wb1 at *
  obtain ⟨qbx2_0, qbx2_1, qbx2_2, qbx2_3⟩ := bx2.c4
  try go_wp2_with fail
  refine (szHearing_any h p0_0 _ _ _ _ hx0_0 (by omega) (Hearing.big_of hq0) (by omega) (by omega)).mono ?_
  rintro e w2 ⟨r0, rfl, ⟨hra0, hrb0⟩, b2⟩
  clear qbx2_0 qbx2_1 qbx2_2 qbx2_3
  have zb2 := b2.size
  replace hx0_0 := hx0_0.below b2 (by omega)
  replace bx2 := bx2.below b2 (by omega)
  replace bx3 := bx3.below b2 (by omega)
  replace BB := Below.step b2 (by omega) BB
  clear b2
  by_cases hn0 : r0 < 0
  · go_wp2_with fail
    go_ret
    exact ⟨rfl, by (repeat (first | with_reducible assumption | with_reducible exact Below.refl _ _ | with_reducible refine Below.setCell ?_ ?_ _ | with_reducible refine Below.alloc ?_ ?_ _ | with_reducible refine Below.drew ?_ | with_reducible refine below_drewN ?_ _ | with_reducible refine Below.step (by with_reducible assumption) ?_ ?_ | omega | (simp <;> omega) | (simp; done)))⟩
  have hp0 : 0 ≤ r0 := by omega
  have hq0' := hrb0 hp0
  clear hrb0
  have hs0 : Hearing.small h := Hearing.small_of hq0' (by omega)
  have hm0_0 : h.people.length ≤ 1048576 := hs0.len0
  obtain ⟨qbx2_0, qbx2_1, qbx2_2, qbx2_3⟩ := bx2.c4
  obtain ⟨qbx3_0, qbx3_1, qbx3_2⟩ := bx3.c3
  go_wp2_with fail
  go_region_held3 (fun w' => w'.cell? ⟨w.heap.size, 0, none⟩ = some (.string h.code) ∧ w'.cell? ⟨w.heap.size, 1, none⟩ = some (.int .i64 h.len) ∧ w'.cell? ⟨w.heap.size, 2, none⟩ = some (p0_0) ∧ w'.cell? ⟨w.heap.size, 3, none⟩ = some (.int .i64 h.last) ∧ w'.cell? ⟨w.heap.size + 1, 0, none⟩ = some (.int .i64 s.room) ∧ w'.cell? ⟨w.heap.size + 1, 1, none⟩ = some (.int .i64 s.day) ∧ w'.cell? ⟨w.heap.size + 1, 2, none⟩ = some (.int .i64 s.frm)) (go_keep)
    (first
      | (go_at_call 15; refine (toHearing_any h p0_0 _ _ _ (hx0_0.below (B := w2.heap.size) (Below.refl _ w2).drew (by omega)) (by show _ ≤ w2.heap.size; omega) hs0).mono ?_; rintro e w3 ⟨y3_0, rfl, hy3_0, b3⟩; replace b3 : Below w2.heap.size w2 w3 := Below.undrew b3; have zb3 := b3.size; replace hx0_0 := hx0_0.below b3 (by omega); replace bx2 := bx2.below b3 (by omega); replace bx3 := bx3.below b3 (by omega); replace BB := Below.step b3 (by omega) BB; clear b3; obtain ⟨q3bx2_0, q3bx2_1, q3bx2_2, q3bx2_3⟩ := bx2.c4; obtain ⟨q3bx3_0, q3bx3_1, q3bx3_2⟩ := bx3.c3; obtain ⟨Yy3_0, Zy3_0, rfl, hzy3_0⟩ := hy3_0.form)
      | (go_at_call 16; refine (toSlot_any s _).mono ?_; rintro e w4 ⟨rfl, b4⟩; have zb4 := b4.size; replace hx0_0 := hx0_0.below b4 (by omega); replace bx2 := bx2.below b4 (by omega); replace bx3 := bx3.below b4 (by omega); replace hy3_0 := hy3_0.below b4 (by omega); replace BB := Below.step b4 (by omega) BB; clear b4; obtain ⟨q4bx2_0, q4bx2_1, q4bx2_2, q4bx2_3⟩ := bx2.c4; obtain ⟨q4bx3_0, q4bx3_1, q4bx3_2⟩ := bx3.c3)
      | (go_at_call 14; refine (sDoesFit_any h (.slice Yy3_0 (h.people).length Zy3_0) _ _ s _ hy3_0.rd (by omega) hs0).mono ?_; rintro e w5 ⟨rfl, b5⟩; have zb5 := b5.size; replace hx0_0 := hx0_0.below b5 (by omega); replace bx2 := bx2.below b5 (by omega); replace bx3 := bx3.below b5 (by omega); replace hy3_0 := hy3_0.below b5 (by omega); replace BB := Below.step b5 (by omega) BB; clear b5; obtain ⟨q5bx2_0, q5bx2_1, q5bx2_2, q5bx2_3⟩ := bx2.c4; obtain ⟨q5bx3_0, q5bx3_1, q5bx3_2⟩ := bx3.c3))
  clear qbx2_0 qbx2_1 qbx2_2 qbx2_3 qbx3_0 qbx3_1 qbx3_2 q3bx2_0 q3bx2_1 q3bx2_2 q3bx2_3 q3bx3_0 q3bx3_1 q3bx3_2 q4bx2_0 q4bx2_1 q4bx2_2 q4bx2_3 q4bx3_0 q4bx3_1 q4bx3_2 q5bx2_0 q5bx2_1 q5bx2_2 q5bx2_3 q5bx3_0 q5bx3_1 q5bx3_2
  clear hy3_0
  obtain ⟨qbx2_0, qbx2_1, qbx2_2, qbx2_3⟩ := bx2.c4
  go_wp2_with fail
  refine (toHearing_any h p0_0 _ _ _ hx0_0 (by omega) hs0).mono ?_
  rintro e w6 ⟨y6_0, rfl, hy6_0, b6⟩
  clear qbx2_0 qbx2_1 qbx2_2 qbx2_3
  have zb6 := b6.size
  replace hx0_0 := hx0_0.below b6 (by omega)
  replace bx2 := bx2.below b6 (by omega)
  replace bx3 := bx3.below b6 (by omega)
  replace BB := Below.step b6 (by omega) BB
  clear b6
  obtain ⟨Yy6_0, Zy6_0, rfl, hzy6_0⟩ := hy6_0.form
  go_wp2_with fail
  have ab7 : Below w6.heap.size w6 (w6.alloc (.cells #[.string h.code, .int .i64 h.len, (.slice Yy6_0 (h.people).length Zy6_0), .int .i64 h.last] 30)) := ((Below.refl _ _).alloc (by first | exact Nat.le_refl _ | (simp; omega) | (simp; done)) _)
  have az7 : (w6.alloc (.cells #[.string h.code, .int .i64 h.len, (.slice Yy6_0 (h.people).length Zy6_0), .int .i64 h.last] 30)).heap.size = w6.heap.size + 1 := by simp
  replace hx0_0 := hx0_0.below ab7 (by omega)
  replace bx2 := bx2.below ab7 (by omega)
  replace bx3 := bx3.below ab7 (by omega)
  replace hy6_0 := hy6_0.below ab7 (by omega)
  replace BB := Below.step ab7 (by omega) BB
  clear ab7
  have bx8 : Blk (w6.alloc (.cells #[.string h.code, .int .i64 h.len, (.slice Yy6_0 (h.people).length Zy6_0), .int .i64 h.last] 30)) (w6.heap.size) 30 #[.string h.code, .int .i64 h.len, (.slice Yy6_0 (h.people).length Zy6_0), .int .i64 h.last] := Blk.newAt (w := w6) (n := w6.heap.size) (t := 30) (cs := #[.string h.code, .int .i64 h.len, (.slice Yy6_0 (h.people).length Zy6_0), .int .i64 h.last]) (by simp)
  generalize (w6.alloc (.cells #[.string h.code, .int .i64 h.len, (.slice Yy6_0 (h.people).length Zy6_0), .int .i64 h.last] 30)) = wb7 at *
  obtain ⟨qbx3_0, qbx3_1, qbx3_2⟩ := bx3.c3
  obtain ⟨qbx8_0, qbx8_1, qbx8_2, qbx8_3⟩ := bx8.c4
  try go_wp2_with fail
  go_region_held3 (fun w' => w'.cell? ⟨w.heap.size + 1, 0, none⟩ = some (.int .i64 s.room) ∧ w'.cell? ⟨w.heap.size + 1, 1, none⟩ = some (.int .i64 s.day) ∧ w'.cell? ⟨w.heap.size + 1, 2, none⟩ = some (.int .i64 s.frm) ∧ w'.cell? ⟨w6.heap.size, 0, none⟩ = some (.string h.code) ∧ w'.cell? ⟨w6.heap.size, 1, none⟩ = some (.int .i64 h.len) ∧ w'.cell? ⟨w6.heap.size, 2, none⟩ = some ((.slice Yy6_0 (h.people).length Zy6_0)) ∧ w'.cell? ⟨w6.heap.size, 3, none⟩ = some (.int .i64 h.last)) (go_keep)
    (first
      | (go_at_call 16; refine (toSlot_any s _).mono ?_; rintro e w8 ⟨rfl, b8⟩; replace b8 : Below wb7.heap.size wb7 w8 := Below.undrew b8; have zb8 := b8.size; replace hx0_0 := hx0_0.below b8 (by omega); replace bx2 := bx2.below b8 (by omega); replace bx3 := bx3.below b8 (by omega); replace hy6_0 := hy6_0.below b8 (by omega); replace bx8 := bx8.below b8 (by omega); replace BB := Below.step b8 (by omega) BB; clear b8; obtain ⟨q8bx3_0, q8bx3_1, q8bx3_2⟩ := bx3.c3; obtain ⟨q8bx8_0, q8bx8_1, q8bx8_2, q8bx8_3⟩ := bx8.c4)
      | (go_at_call 17; refine (doesFit_any h (.slice Yy6_0 (h.people).length Zy6_0) _ _ s _ hy6_0.rd (by omega) hs0).mono ?_; rintro e w9 ⟨rfl, b9⟩; have zb9 := b9.size; replace hx0_0 := hx0_0.below b9 (by omega); replace bx2 := bx2.below b9 (by omega); replace bx3 := bx3.below b9 (by omega); replace hy6_0 := hy6_0.below b9 (by omega); replace bx8 := bx8.below b9 (by omega); replace BB := Below.step b9 (by omega) BB; clear b9; obtain ⟨q9bx3_0, q9bx3_1, q9bx3_2⟩ := bx3.c3; obtain ⟨q9bx8_0, q9bx8_1, q9bx8_2, q9bx8_3⟩ := bx8.c4))
  clear qbx3_0 qbx3_1 qbx3_2 qbx8_0 qbx8_1 qbx8_2 qbx8_3 q8bx3_0 q8bx3_1 q8bx3_2 q8bx8_0 q8bx8_1 q8bx8_2 q8bx8_3 q9bx3_0 q9bx3_1 q9bx3_2 q9bx8_0 q9bx8_1 q9bx8_2 q9bx8_3
  clear bx3
  obtain ⟨qbx2_0, qbx2_1, qbx2_2, qbx2_3⟩ := bx2.c4
  obtain ⟨qbx8_0, qbx8_1, qbx8_2, qbx8_3⟩ := bx8.c4
  go_wp2_with fail
  go_region_held3 (fun w' => w'.cell? ⟨w.heap.size, 0, none⟩ = some (.string h.code) ∧ w'.cell? ⟨w.heap.size, 1, none⟩ = some (.int .i64 h.len) ∧ w'.cell? ⟨w.heap.size, 2, none⟩ = some (p0_0) ∧ w'.cell? ⟨w.heap.size, 3, none⟩ = some (.int .i64 h.last) ∧ w'.cell? ⟨w6.heap.size, 0, none⟩ = some (.string h.code) ∧ w'.cell? ⟨w6.heap.size, 1, none⟩ = some (.int .i64 h.len) ∧ w'.cell? ⟨w6.heap.size, 2, none⟩ = some ((.slice Yy6_0 (h.people).length Zy6_0)) ∧ w'.cell? ⟨w6.heap.size, 3, none⟩ = some (.int .i64 h.last)) (go_keep)
    (first
      | (go_at_call 15; refine (toHearing_any h p0_0 _ _ _ (hx0_0.below (B := w9.heap.size) (Below.refl _ w9).drew (by omega)) (by show _ ≤ w9.heap.size; omega) hs0).mono ?_; rintro e w10 ⟨y10_0, rfl, hy10_0, b10⟩; replace b10 : Below w9.heap.size w9 w10 := Below.undrew b10; have zb10 := b10.size; replace hx0_0 := hx0_0.below b10 (by omega); replace bx2 := bx2.below b10 (by omega); replace hy6_0 := hy6_0.below b10 (by omega); replace bx8 := bx8.below b10 (by omega); replace BB := Below.step b10 (by omega) BB; clear b10; obtain ⟨q10bx2_0, q10bx2_1, q10bx2_2, q10bx2_3⟩ := bx2.c4; obtain ⟨q10bx8_0, q10bx8_1, q10bx8_2, q10bx8_3⟩ := bx8.c4; obtain ⟨Yy10_0, Zy10_0, rfl, hzy10_0⟩ := hy10_0.form)
      | (go_at_call 18; refine (eqHearing_any h h (.slice Yy6_0 (h.people).length Zy6_0) (.slice Yy10_0 (h.people).length Zy10_0) _ _ _ _ _ hy6_0.rd (by omega) hy10_0.rd (by omega) hs0 hs0).mono ?_; rintro e w11 ⟨rfl, b11⟩; have zb11 := b11.size; replace hx0_0 := hx0_0.below b11 (by omega); replace bx2 := bx2.below b11 (by omega); replace hy6_0 := hy6_0.below b11 (by omega); replace bx8 := bx8.below b11 (by omega); replace hy10_0 := hy10_0.below b11 (by omega); replace BB := Below.step b11 (by omega) BB; clear b11; obtain ⟨q11bx2_0, q11bx2_1, q11bx2_2, q11bx2_3⟩ := bx2.c4; obtain ⟨q11bx8_0, q11bx8_1, q11bx8_2, q11bx8_3⟩ := bx8.c4; rw [show Hearing.beq h h = true from Hearing.beq_refl _]))
  clear qbx2_0 qbx2_1 qbx2_2 qbx2_3 qbx8_0 qbx8_1 qbx8_2 qbx8_3 q10bx2_0 q10bx2_1 q10bx2_2 q10bx2_3 q10bx8_0 q10bx8_1 q10bx8_2 q10bx8_3 q11bx2_0 q11bx2_1 q11bx2_2 q11bx2_3 q11bx8_0 q11bx8_1 q11bx8_2 q11bx8_3
  clear bx2
  clear bx8
  clear hx0_0 hy6_0 hy10_0
  go_wp2_with fail
  go_ret
  exact ⟨rfl, BB⟩

set_option maxRecDepth 100000 in
theorem lifted (os : Os) (started : os.Started) (H : Type) (enc : TypeId × Value → H) :
    ReturnsInHanded {} Try.checked os 3 .any (Rows.fnExactDoesFitSpec.pre6 enc Try.prog Try.f3 Rows.fnExactDoesFitRow.domain false) (Rows.fnExactDoesFitSpec.post enc Try.prog Try.f3 false true false false) := by
  refine returnsInHanded_of_change (C := Try.checked) own started (by kernel_rfl) Try.func3
    (ChangeSpec.witness6 (enc := enc) (C := Try.checked) false ⟨#[], #[.agg #[.string ByteArray.empty, .int .i64 0, .slice none 0 0, .int .i64 0], .agg #[.int .i64 0, .int .i64 0, .int .i64 0]], []⟩ 8 (by kernel_rfl) (by kernel_rfl) (by kernel_rfl) (by kernel_rfl)) ?_
  intro W base args ds gs before hval0 hW hcnd _
  have hval : ∀ (j : Nat) t v, Try.f3.params[j]? = some t → args[j]? = some v → Value.okWide Try.prog W .any base t v := hval0
  have hW' := hW
  obtain ⟨p, q, hA0, hV, rfl, hfz, hnd⟩ := hW
  have hA : DataW.TrodAll enc Try.prog W 0 (fun _ => true) true Try.f3.params.toList args.toList ds p := hA0
  rw [Try.params3] at hA hval
  obtain ⟨v0, vs0, d0, ds0, p0, q0, hargs, rfl, rfl, h0, r0⟩ := trodAll_cons hA
  obtain ⟨v1, vs1, d1, ds1, p1, q1, rfl, rfl, rfl, h1, r1⟩ := trodAll_cons r0
  obtain ⟨rfl, rfl, rfl⟩ := trodAll_nil r1
  obtain rfl : args = #[v0, v1] := by cases args; simp_all
  obtain ⟨rfl, rfl⟩ := trodVars_none hV
  have k0 := h0
  have lt0 : ∀ x ∈ p0, x.block < W.heap.size := by obtain ⟨m, hm⟩ := k0; exact DataW.trod_lt m _ _ _ hm
  have k1 := h1
  have lt1 : ∀ x ∈ p1, x.block < W.heap.size := by obtain ⟨m, hm⟩ := k1; exact DataW.trod_lt m _ _ _ hm
  obtain ⟨h, p0_0, rfl, hx0_0, hq0⟩ := openHearing (hval 0 24 v0 rfl rfl) h0
  obtain ⟨s, rfl, hq1⟩ := openSlot (hval 1 26 v1 rfl rfl) h1
  clear hA0 hval0
  refine (walk h p0_0 s W hx0_0 hq0 hq1).mono fun e W' ⟨he, bel⟩ => ?_
  subst he
  exact ⟨_, rfl, _, _, _, [], _, [], hW', trodAll_mk1 (shut_bool Try.underlying4 _), (trodAll_cons_mk (Below.trod laidOut (by kernel_rfl) (of_decide_eq_true (by kernel_rfl)) k0 bel lt0) (trodAll_cons_mk (Below.trod laidOut (by kernel_rfl) (of_decide_eq_true (by kernel_rfl)) k1 bel lt1) trodAll_mk0)), rfl, bel.frame _, fun h => by cases h⟩

theorem over : Rows.fnExactDoesFitRow.holds Try.pinned (OpenSpec.ofChange Rows.fnExactDoesFitSpec) :=
  OpenClaim.holds_of_wide 3 Try.f3 rfl rfl rfl rfl rfl rfl rfl ⟨rfl, rfl, rfl, rfl, rfl⟩ rfl rfl rfl rfl rfl (by kernel_rfl) Try.func3 (by kernel_rfl)
    (of_decide_eq_true (by kernel_rfl)) (by unfold Func.isWrapper; first | (rw [if_pos (by decide +kernel)]; kernel_rfl) | (rw [if_neg (by decide +kernel)]; exact ⟨rfl, rfl⟩))
    (fun os started H enc _ => lifted os started H enc)

theorem proved : Rows.FnExactDoesFitSaid := over
#print axioms proved
end Go.Proofs.Ytdcfenkkgnnbbaa.doesFit
