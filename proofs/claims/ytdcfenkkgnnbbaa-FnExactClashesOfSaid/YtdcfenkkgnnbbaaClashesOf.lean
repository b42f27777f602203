/- The program's ClashesOf returns what the reference's returns, for all arguments. No conditions. -/
import Derived.Test.YtdcfenkkgnnbbaaClRows
import Derived.Test.YtdcfenkkgnnbbaaHearingM
import Derived.Test.YtdcfenkkgnnbbaaHearingO
import Derived.Test.YtdcfenkkgnnbbaaSlotM
import Derived.Test.YtdcfenkkgnnbbaaSlotO
import Derived.Test.YtdcfenkkgnnbbaaMark
namespace Go.Proofs.Ytdcfenkkgnnbbaa.clashesOf
open Go.ChangeShapes Go.WideShapes Go.ChangeAt Go.RowKit
open Go.ChangeMaps (open_string shut_string)
set_option linter.unusedVariables false

theorem own : ownKnob Try.prog.godebug = none := by kernel_rfl
theorem laidOut : laidOutB Try.prog = true := by kernel_rfl


set_option maxRecDepth 100000 in
set_option maxHeartbeats 4000000 in
theorem walk (v0 : Value) (xs : List Hearing) (v1 : Value) (ps : List Slot) (w : World) (hx0 : RdHearing w 0 w.heap.size v0 xs) (hl0 : xs.length ≤ maxLen) (hq0 : ∀ x ∈ xs, Hearing.wf x) (hx1 : RdF Slot.enc 3 w 0 w.heap.size v1 ps) (hl1 : ps.length ≤ maxLen) (hq1 : ∀ x ∈ ps, Slot.wf x) :
    Calls Try.prog 8 #[v0, v1] w fun e w' => e = .returned (.bool true) ∧ Below w.heap.size w w' := by
  try unfold maxLen at *
  go_enter Try.func8, Try.ntmps8
  have BB : Below w.heap.size w w := Below.refl _ _
  go_wp2_with fail
  refine (szHearingS_any v0 xs _ _ _ _ hx0 (by omega) (by omega) (fun x hx => Hearing.big_of (hq0 x hx)) (by omega) (by omega)).mono ?_
  rintro e w1 ⟨r0, rfl, ⟨hra0, hrb0⟩, b1⟩
  have zb1 := b1.size
  replace hx0 := hx0.below b1 (by omega)
  replace hx1 := hx1.below b1 (by omega)
  replace BB := Below.step b1 (by omega) BB
  clear b1
  by_cases hn0 : r0 < 0
  · go_wp2_with fail
    go_ret
    exact ⟨rfl, by (repeat (first | with_reducible assumption | with_reducible exact Below.refl _ _ | with_reducible refine Below.setCell ?_ ?_ _ | with_reducible refine Below.alloc ?_ ?_ _ | with_reducible refine Below.drew ?_ | with_reducible refine below_drewN ?_ _ | with_reducible refine Below.step (by with_reducible assumption) ?_ ?_ | omega | (simp <;> omega) | (simp; done)))⟩
  have hp0 : 0 ≤ r0 := by omega
  have hq0' := hrb0 hp0
  clear hrb0
  have hm0 : xs.length ≤ 1048576 := by omega
  have hs0 : ∀ x ∈ xs, Hearing.small x := fun x hx => Hearing.small_of (hq0'.2.1 x hx) (by omega)
  have hw0 : Hearing.wts xs ≤ 1048576 := by have := hq0'.2.2; omega
  go_wp2_with fail
  refine (szSlotS_any v1 ps _ _ _ _ hx1 (by omega) (by omega) (by omega) (by omega)).mono ?_
  rintro e w2 ⟨r1, rfl, ⟨hra1, hrb1⟩, b2⟩
  have zb2 := b2.size
  replace hx0 := hx0.below b2 (by omega)
  replace hx1 := hx1.below b2 (by omega)
  replace BB := Below.step b2 (by omega) BB
  clear b2
  by_cases hn1 : r1 < 0
  · go_wp2_with fail
    go_ret
    exact ⟨rfl, by (repeat (first | with_reducible assumption | with_reducible exact Below.refl _ _ | with_reducible refine Below.setCell ?_ ?_ _ | with_reducible refine Below.alloc ?_ ?_ _ | with_reducible refine Below.drew ?_ | with_reducible refine below_drewN ?_ _ | with_reducible refine Below.step (by with_reducible assumption) ?_ ?_ | omega | (simp <;> omega) | (simp; done)))⟩
  have hp1 : 0 ≤ r1 := by omega
  have hq1' := hrb1 hp1
  clear hrb1
  have hm1 : ps.length ≤ 1048576 := by omega
  go_wp2_with fail
  refine (toHearingS_any v0 xs _ _ _ hx0 (by omega) (by omega) hs0).mono ?_
  rintro e w3 ⟨y3, rfl, hy3, b3⟩
  have zb3 := b3.size
  replace hx0 := hx0.below b3 (by omega)
  replace hx1 := hx1.below b3 (by omega)
  replace BB := Below.step b3 (by omega) BB
  clear b3
  go_wp2_with fail
  refine (toSlotS_any v1 ps _ _ _ hx1 (by omega) (by omega)).mono ?_
  rintro e w4 ⟨y4, rfl, hy4, b4⟩
  have zb4 := b4.size
  replace hx0 := hx0.below b4 (by omega)
  replace hx1 := hx1.below b4 (by omega)
  replace hy3 := hy3.below b4 (by omega)
  replace BB := Below.step b4 (by omega) BB
  clear b4
  go_wp2_with fail
  refine (sClashesOf_any y3 xs _ _ y4 ps _ _ _ hy3.rd (by omega) (by omega) hs0 hy4.rd (by omega) (by omega)).mono ?_
  rintro e w5 ⟨y5_0, rfl, hy5_0, b5⟩
  have zb5 := b5.size
  replace hx0 := hx0.below b5 (by omega)
  replace hx1 := hx1.below b5 (by omega)
  replace hy3 := hy3.below b5 (by omega)
  replace hy4 := hy4.below b5 (by omega)
  replace BB := Below.step b5 (by omega) BB
  clear b5
  have l5_0 : ((clashesOf xs ps).1).length ≤ 1048576 := clashesOf_small.1
  have m5_0 : totL ((clashesOf xs ps).1) ≤ 524288 := clashesOf_small.2
  clear hy3 hy4
  go_wp2_with fail
  refine (toHearingS_any v0 xs _ _ _ hx0 (by omega) (by omega) hs0).mono ?_
  rintro e w6 ⟨y6, rfl, hy6, b6⟩
  have zb6 := b6.size
  replace hx0 := hx0.below b6 (by omega)
  replace hx1 := hx1.below b6 (by omega)
  replace hy5_0 := hy5_0.below b6 (by omega)
  replace BB := Below.step b6 (by omega) BB
  clear b6
  go_wp2_with fail
  refine (toSlotS_any v1 ps _ _ _ hx1 (by omega) (by omega)).mono ?_
  rintro e w7 ⟨y7, rfl, hy7, b7⟩
  have zb7 := b7.size
  replace hx0 := hx0.below b7 (by omega)
  replace hx1 := hx1.below b7 (by omega)
  replace hy5_0 := hy5_0.below b7 (by omega)
  replace hy6 := hy6.below b7 (by omega)
  replace BB := Below.step b7 (by omega) BB
  clear b7
  go_wp2_with fail
  refine (clashesOf_any y6 xs _ _ y7 ps _ _ _ hy6.rd (by omega) (by omega) hs0 hy7.rd (by omega) (by omega)).mono ?_
  rintro e w8 ⟨y8_0, rfl, hy8_0, b8⟩
  have zb8 := b8.size
  replace hx0 := hx0.below b8 (by omega)
  replace hx1 := hx1.below b8 (by omega)
  replace hy5_0 := hy5_0.below b8 (by omega)
  replace hy6 := hy6.below b8 (by omega)
  replace hy7 := hy7.below b8 (by omega)
  replace BB := Below.step b8 (by omega) BB
  clear b8
  have l8_0 : ((clashesOf xs ps).1).length ≤ 1048576 := clashesOf_small.1
  have m8_0 : totL ((clashesOf xs ps).1) ≤ 524288 := clashesOf_small.2
  go_wp2_with fail
  refine (eqInt64SS_any y8_0 y5_0 ((clashesOf xs ps).1) _ _ _ _ _ hy8_0.rd (by omega) hy5_0.rd (by omega) (by omega) (by omega)).mono ?_
  rintro e w9 ⟨rfl, b9⟩
  have zb9 := b9.size
  replace hx0 := hx0.below b9 (by omega)
  replace hx1 := hx1.below b9 (by omega)
  replace hy5_0 := hy5_0.below b9 (by omega)
  replace hy6 := hy6.below b9 (by omega)
  replace hy7 := hy7.below b9 (by omega)
  replace hy8_0 := hy8_0.below b9 (by omega)
  replace BB := Below.step b9 (by omega) BB
  clear b9
  go_wp2_with fail
  refine (toHearingS_any v0 xs _ _ _ hx0 (by omega) (by omega) hs0).mono ?_
  rintro e w10 ⟨y10, rfl, hy10, b10⟩
  have zb10 := b10.size
  replace hx0 := hx0.below b10 (by omega)
  replace hx1 := hx1.below b10 (by omega)
  replace hy5_0 := hy5_0.below b10 (by omega)
  replace hy6 := hy6.below b10 (by omega)
  replace hy7 := hy7.below b10 (by omega)
  replace hy8_0 := hy8_0.below b10 (by omega)
  replace BB := Below.step b10 (by omega) BB
  clear b10
  go_wp2_with fail
  refine (eqHearingS_any y6 y10 xs xs _ _ _ _ _ hy6.rd (by omega) hy10.rd (by omega) (by omega) (by omega) hs0 hs0).mono ?_
  rintro e w11 ⟨rfl, b11⟩
  have zb11 := b11.size
  replace hx0 := hx0.below b11 (by omega)
  replace hx1 := hx1.below b11 (by omega)
  replace hy5_0 := hy5_0.below b11 (by omega)
  replace hy6 := hy6.below b11 (by omega)
  replace hy7 := hy7.below b11 (by omega)
  replace hy8_0 := hy8_0.below b11 (by omega)
  replace hy10 := hy10.below b11 (by omega)
  replace BB := Below.step b11 (by omega) BB
  clear b11
  rw [show eqL Hearing.beq xs xs = true from Hearing.eqL_refl _]
  clear hy10
  go_wp2_with fail
  refine (toSlotS_any v1 ps _ _ _ hx1 (by omega) (by omega)).mono ?_
  rintro e w12 ⟨y12, rfl, hy12, b12⟩
  have zb12 := b12.size
  replace hx0 := hx0.below b12 (by omega)
  replace hx1 := hx1.below b12 (by omega)
  replace hy5_0 := hy5_0.below b12 (by omega)
  replace hy6 := hy6.below b12 (by omega)
  replace hy7 := hy7.below b12 (by omega)
  replace hy8_0 := hy8_0.below b12 (by omega)
  replace BB := Below.step b12 (by omega) BB
  clear b12
  go_wp2_with fail
  refine (eqSlotS_any y7 y12 ps ps _ _ _ _ _ hy7.rd (by omega) hy12.rd (by omega) (by omega) (by omega)).mono ?_
  rintro e w13 ⟨rfl, b13⟩
  have zb13 := b13.size
  replace hx0 := hx0.below b13 (by omega)
  replace hx1 := hx1.below b13 (by omega)
  replace hy5_0 := hy5_0.below b13 (by omega)
  replace hy6 := hy6.below b13 (by omega)
  replace hy7 := hy7.below b13 (by omega)
  replace hy8_0 := hy8_0.below b13 (by omega)
  replace hy12 := hy12.below b13 (by omega)
  replace BB := Below.step b13 (by omega) BB
  clear b13
  rw [show eqL Slot.beq ps ps = true from (eqL_iff (fun x y => Slot.beq_iff)).2 rfl]
  clear hy12
  go_wp2_with fail
  refine (markHearingS_any y6 xs _ _ (1) _ hy6 (by omega) (by omega) hw0 (by omega) (by omega)).mono ?_
  rintro e w14 ⟨rfl, cg14⟩
  have zcg14 := cg14.size
  clear hy6
  replace hx0 := hx0.chg cg14 (by omega) (by omega)
  replace hx1 := hx1.chg cg14 (by omega) (by omega)
  replace hy5_0 := hy5_0.chg cg14 (by omega) (by omega)
  replace hy7 := hy7.chg cg14 (by omega) (by omega)
  replace hy8_0 := hy8_0.chg cg14 (by omega) (by omega)
  replace BB := BB.trans (cg14.below (by omega) (by omega))
  clear cg14
  go_wp2_with fail
  refine (markSlotS_any y7 (ps) _ _ (1 + ((xs).length : Int) * 3 + (Hearing.wts xs : Int)) _ hy7 (by omega) (by omega) (by omega) (by omega)).mono ?_
  rintro e w15 ⟨rfl, hg15, cg15⟩
  have zcg15 := cg15.size
  clear hy7
  replace hx0 := hx0.chg cg15 (by omega) (by omega)
  replace hx1 := hx1.chg cg15 (by omega) (by omega)
  replace hy5_0 := hy5_0.chg cg15 (by omega) (by omega)
  replace hy8_0 := hy8_0.chg cg15 (by omega) (by omega)
  replace BB := BB.trans (cg15.below (by omega) (by omega))
  clear cg15
  clear hg15
  go_wp2_with fail
  refine (eqInt64SS_any y8_0 y5_0 ((clashesOf xs ps).1) _ _ _ _ _ hy8_0.rd (by omega) hy5_0.rd (by omega) (by omega) (by omega)).mono ?_
  rintro e w16 ⟨rfl, b16⟩
  have zb16 := b16.size
  replace hx0 := hx0.below b16 (by omega)
  replace hx1 := hx1.below b16 (by omega)
  replace hy5_0 := hy5_0.below b16 (by omega)
  replace hy8_0 := hy8_0.below b16 (by omega)
  replace BB := Below.step b16 (by omega) BB
  clear b16
  go_wp2_with fail
  refine (markInt64SS_any y8_0 ((clashesOf xs ps).1) _ _ (1) _ hy8_0 (by omega) (by omega) (by omega) (by omega) (by omega)).mono ?_
  rintro e w17 ⟨rfl, hg17, cg17⟩
  have zcg17 := cg17.size
  clear hy8_0
  replace hx0 := hx0.chg cg17 (by omega) (by omega)
  replace hx1 := hx1.chg cg17 (by omega) (by omega)
  replace hy5_0 := hy5_0.chg cg17 (by omega) (by omega)
  replace BB := BB.trans (cg17.below (by omega) (by omega))
  clear cg17
  go_wp2_with fail
  refine (heldInt64SS_any y8_0 ((clashesOf xs ps).1) _ _ (1) _ hg17 (by omega) (by omega) (by omega) (by omega) (by omega)).mono ?_
  rintro e w18 ⟨rfl, b18⟩
  have zb18 := b18.size
  replace hx0 := hx0.below b18 (by omega)
  replace hx1 := hx1.below b18 (by omega)
  replace hy5_0 := hy5_0.below b18 (by omega)
  replace hg17 := hg17.below b18 (by omega)
  replace BB := Below.step b18 (by omega) BB
  clear b18
  go_wp2_with fail
  refine (toHearingS_any v0 xs _ _ _ hx0 (by omega) (by omega) hs0).mono ?_
  rintro e w19 ⟨y19, rfl, hy19, b19⟩
  have zb19 := b19.size
  replace hx0 := hx0.below b19 (by omega)
  replace hx1 := hx1.below b19 (by omega)
  replace hy5_0 := hy5_0.below b19 (by omega)
  replace hg17 := hg17.below b19 (by omega)
  replace BB := Below.step b19 (by omega) BB
  clear b19
  go_wp2_with fail
  refine (toSlotS_any v1 ps _ _ _ hx1 (by omega) (by omega)).mono ?_
  rintro e w20 ⟨y20, rfl, hy20, b20⟩
  have zb20 := b20.size
  replace hx0 := hx0.below b20 (by omega)
  replace hx1 := hx1.below b20 (by omega)
  replace hy5_0 := hy5_0.below b20 (by omega)
  replace hg17 := hg17.below b20 (by omega)
  replace hy19 := hy19.below b20 (by omega)
  replace BB := Below.step b20 (by omega) BB
  clear b20
  go_wp2_with fail
  refine (clashesOf_any y19 xs _ _ y20 ps _ _ _ hy19.rd (by omega) (by omega) hs0 hy20.rd (by omega) (by omega)).mono ?_
  rintro e w21 ⟨y21_0, rfl, hy21_0, b21⟩
  have zb21 := b21.size
  replace hx0 := hx0.below b21 (by omega)
  replace hx1 := hx1.below b21 (by omega)
  replace hy5_0 := hy5_0.below b21 (by omega)
  replace hg17 := hg17.below b21 (by omega)
  replace hy19 := hy19.below b21 (by omega)
  replace hy20 := hy20.below b21 (by omega)
  replace BB := Below.step b21 (by omega) BB
  clear b21
  have l21_0 : ((clashesOf xs ps).1).length ≤ 1048576 := clashesOf_small.1
  have m21_0 : totL ((clashesOf xs ps).1) ≤ 524288 := clashesOf_small.2
  clear hx0 hx1 hy19 hy20
  go_wp2_with fail
  refine (eqInt64SS_any y21_0 y5_0 ((clashesOf xs ps).1) _ _ _ _ _ hy21_0.rd (by omega) hy5_0.rd (by omega) (by omega) (by omega)).mono ?_
  rintro e w22 ⟨rfl, b22⟩
  have zb22 := b22.size
  replace hy5_0 := hy5_0.below b22 (by omega)
  replace hg17 := hg17.below b22 (by omega)
  replace hy21_0 := hy21_0.below b22 (by omega)
  replace BB := Below.step b22 (by omega) BB
  clear b22
  clear hy5_0 hy21_0
  go_wp2_with fail
  refine (heldInt64SS_any y8_0 ((clashesOf xs ps).1) _ _ (1) _ hg17 (by omega) (by omega) (by omega) (by omega) (by omega)).mono ?_
  rintro e w23 ⟨rfl, b23⟩
  have zb23 := b23.size
  replace hg17 := hg17.below b23 (by omega)
  replace BB := Below.step b23 (by omega) BB
  clear b23
  clear hg17
  go_wp2_with fail
  go_ret
  exact ⟨rfl, BB⟩

set_option maxRecDepth 100000 in
theorem lifted (os : Os) (started : os.Started) (H : Type) (enc : TypeId × Value → H) :
    ReturnsInHanded {} Try.checked os 8 .any (Rows.fnExactClashesOfSpec.pre6 enc Try.prog Try.f8 Rows.fnExactClashesOfRow.domain false) (Rows.fnExactClashesOfSpec.post enc Try.prog Try.f8 false true false false) := by
  refine returnsInHanded_of_change (C := Try.checked) own started (by kernel_rfl) Try.func8
    (ChangeSpec.witness6 (enc := enc) (C := Try.checked) false ⟨#[], #[.slice none 0 0, .slice none 0 0], []⟩ 8 (by kernel_rfl) (by kernel_rfl) (by kernel_rfl) (by kernel_rfl)) ?_
  intro W base args ds gs before hval0 hW hcnd _
  have hval : ∀ (j : Nat) t v, Try.f8.params[j]? = some t → args[j]? = some v → Value.okWide Try.prog W .any base t v := hval0
  have hW' := hW
  obtain ⟨p, q, hA0, hV, rfl, hfz, hnd⟩ := hW
  have hA : DataW.TrodAll enc Try.prog W 0 (fun _ => true) true Try.f8.params.toList args.toList ds p := hA0
  rw [Try.params8] at hA hval
  obtain ⟨v0, vs0, d0, ds0, p0, q0, hargs, rfl, rfl, h0, r0⟩ := trodAll_cons hA
  obtain ⟨v1, vs1, d1, ds1, p1, q1, rfl, rfl, rfl, h1, r1⟩ := trodAll_cons r0
  obtain ⟨rfl, rfl, rfl⟩ := trodAll_nil r1
  obtain rfl : args = #[v0, v1] := by cases args; simp_all
  obtain ⟨rfl, rfl⟩ := trodVars_none hV
  have k0 := h0
  have lt0 : ∀ x ∈ p0, x.block < W.heap.size := by obtain ⟨m, hm⟩ := k0; exact DataW.trod_lt m _ _ _ hm
  have k1 := h1
  have lt1 : ∀ x ∈ p1, x.block < W.heap.size := by obtain ⟨m, hm⟩ := k1; exact DataW.trod_lt m _ _ _ hm
  obtain ⟨xs, hx0, hl0, hq0⟩ := openHearingS (hval 0 36 v0 rfl rfl) h0
  obtain ⟨ps, hx1, hl1, hq1⟩ := openSlotS (hval 1 51 v1 rfl rfl) h1
  clear hA0 hval0
  refine (walk v0 xs v1 ps W hx0 hl0 hq0 hx1 hl1 hq1).mono fun e W' ⟨he, bel⟩ => ?_
  subst he
  exact ⟨_, rfl, _, _, _, [], _, [], hW', trodAll_mk1 (shut_bool Try.underlying4 _), (trodAll_cons_mk (Below.trod laidOut (by kernel_rfl) (of_decide_eq_true (by kernel_rfl)) k0 bel lt0) (trodAll_cons_mk (Below.trod laidOut (by kernel_rfl) (of_decide_eq_true (by kernel_rfl)) k1 bel lt1) trodAll_mk0)), rfl, bel.frame _, fun h => by cases h⟩

theorem over : Rows.fnExactClashesOfRow.holds Try.pinned (OpenSpec.ofChange Rows.fnExactClashesOfSpec) :=
  OpenClaim.holds_of_wide 8 Try.f8 rfl rfl rfl rfl rfl rfl rfl ⟨rfl, rfl, rfl, rfl, rfl⟩ rfl rfl rfl rfl rfl (by kernel_rfl) Try.func8 (by kernel_rfl)
    (of_decide_eq_true (by kernel_rfl)) (by unfold Func.isWrapper; first | (rw [if_pos (by decide +kernel)]; kernel_rfl) | (rw [if_neg (by decide +kernel)]; exact ⟨rfl, rfl⟩))
    (fun os started H enc _ => lifted os started H enc)

theorem proved : Rows.FnExactClashesOfSaid := over
#print axioms proved
end Go.Proofs.Ytdcfenkkgnnbbaa.clashesOf
