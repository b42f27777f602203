/- The program's IsConflict returns what the reference's returns, for all arguments. No conditions. -/
import Derived.Test.YtgpknnlphabpkaaGreatConfX
import Derived.Test.YtgpknnlphabpkaaGreatHearingO
import Derived.Test.YtgpknnlphabpkaaGreatSlotO
import Derived.Test.YtgpknnlphabpkaaGreatDemandO
import Derived.Test.YtgpknnlphabpkaaGreatInts2H
namespace Go.Proofs.YtgpknnlphabpkaaGreat.isConflict
open Go.ChangeShapes Go.WideShapes Go.ChangeAt Go.RowKit
open Go.ChangeMaps (open_string shut_string)
set_option linter.unusedVariables false

theorem own : ownKnob Tryz.prog.godebug = none := by kernel_rfl
theorem laidOut : laidOutB Tryz.prog = true := by kernel_rfl


set_option maxRecDepth 100000 in
set_option maxHeartbeats 4000000 in
theorem walk (v0 : Value) (xs : List Hearing) (v1 : Value) (ps : List Slot) (v2 : Value) (ds : List Demand) (v3 : Value) (s : List Int) (w : World) (hx0 : RdHearing w 0 w.heap.size v0 xs) (hl0 : xs.length ≤ maxLen) (hq0 : ∀ x ∈ xs, Hearing.wf x) (hx1 : RdF Slot.enc 3 w 0 w.heap.size v1 ps) (hl1 : ps.length ≤ maxLen) (hq1 : ∀ x ∈ ps, Slot.wf x) (hx2 : RdF Demand.enc 3 w 0 w.heap.size v2 ds) (hl2 : ds.length ≤ maxLen) (hq2 : ∀ x ∈ ds, Demand.wf x) (hx3 : RdF encInt 1 w 0 w.heap.size v3 s) (hl3 : s.length ≤ maxLen) (hq3 : ∀ x ∈ s, -9223372036854775808 ≤ x ∧ x ≤ 9223372036854775807) :
    Calls Tryz.prog 8 #[v0, v1, v2, v3] w fun e w' => e = .returned (.bool true) ∧ Below w.heap.size w w' := by
  try unfold maxLen at *
  obtain ⟨AX3, CX3, rfl, hCX3⟩ := hx3.form
  by_cases hlen3 : (1048576 : Int) < ((s).length : Int)
  · go_enter Tryz.func8, Tryz.ntmps8
    go_wp2_with fail
    go_ret
    exact ⟨rfl, by (repeat (first | with_reducible assumption | with_reducible exact Below.refl _ _ | with_reducible refine Below.setCell ?_ ?_ _ | with_reducible refine Below.alloc ?_ ?_ _ | with_reducible refine Below.drew ?_ | with_reducible refine below_drewN ?_ _ | with_reducible refine Below.step (by with_reducible assumption) ?_ ?_ | omega | (simp <;> omega) | (simp; done)))⟩
  have hm3 : ((s).length : Int) ≤ 1048576 := by omega
  go_enter Tryz.func8, Tryz.ntmps8
  have BB : Below w.heap.size w w := Below.refl _ _
  go_wp2_with fail
  refine (szHearingS_any v0 xs _ _ _ _ hx0 (by omega) (by omega) (fun x hx => Hearing.big_of (hq0 x hx)) (by omega) (by omega)).mono ?_
  rintro e w1 ⟨r0, rfl, ⟨hra0, hrb0⟩, b1⟩
  have zb1 := b1.size
  replace hx0 := hx0.below b1 (by omega)
  replace hx1 := hx1.below b1 (by omega)
  replace hx2 := hx2.below b1 (by omega)
  replace hx3 := hx3.below b1 (by omega)
  replace BB := Below.step b1 (by omega) BB
  clear b1
  by_cases hn0 : r0 < 0
  · go_wp2_with fail
    go_ret
    exact ⟨rfl, by (repeat (first | with_reducible assumption | with_reducible exact Below.refl _ _ | with_reducible refine Below.setCell ?_ ?_ _ | with_reducible refine Below.alloc ?_ ?_ _ | with_reducible refine Below.drew ?_ | with_reducible refine below_drewN ?_ _ | with_reducible refine Below.step (by with_reducible assumption) ?_ ?_ | omega | (simp <;> omega) | (simp; done)))⟩
  have hp0 : 0 ≤ r0 := by omega
  have hq0' := hrb0 hp0
  clear hrb0
  have hm0 : xs.length ≤ 1048576 := by omega
  have hs0 : ∀ x ∈ xs, Hearing.small x := fun x hx => Hearing.small_of (hq0'.2.1 x hx) (by omega)
  have hw0 : Hearing.wts xs ≤ 1048576 := by have := hq0'.2.2; omega
  go_wp2_with fail
  refine (szSlotS_any v1 ps _ _ _ _ hx1 (by omega) (by omega) (by omega) (by omega)).mono ?_
  rintro e w2 ⟨r1, rfl, ⟨hra1, hrb1⟩, b2⟩
  have zb2 := b2.size
  replace hx0 := hx0.below b2 (by omega)
  replace hx1 := hx1.below b2 (by omega)
  replace hx2 := hx2.below b2 (by omega)
  replace hx3 := hx3.below b2 (by omega)
  replace BB := Below.step b2 (by omega) BB
  clear b2
  by_cases hn1 : r1 < 0
  · go_wp2_with fail
    go_ret
    exact ⟨rfl, by (repeat (first | with_reducible assumption | with_reducible exact Below.refl _ _ | with_reducible refine Below.setCell ?_ ?_ _ | with_reducible refine Below.alloc ?_ ?_ _ | with_reducible refine Below.drew ?_ | with_reducible refine below_drewN ?_ _ | with_reducible refine Below.step (by with_reducible assumption) ?_ ?_ | omega | (simp <;> omega) | (simp; done)))⟩
  have hp1 : 0 ≤ r1 := by omega
  have hq1' := hrb1 hp1
  clear hrb1
  have hm1 : ps.length ≤ 1048576 := by omega
  go_wp2_with fail
  refine (szDemandS_any v2 ds _ _ _ _ hx2 (by omega) (by omega) (by omega) (by omega)).mono ?_
  rintro e w3 ⟨r2, rfl, ⟨hra2, hrb2⟩, b3⟩
  have zb3 := b3.size
  replace hx0 := hx0.below b3 (by omega)
  replace hx1 := hx1.below b3 (by omega)
  replace hx2 := hx2.below b3 (by omega)
  replace hx3 := hx3.below b3 (by omega)
  replace BB := Below.step b3 (by omega) BB
  clear b3
  by_cases hn2 : r2 < 0
  · go_wp2_with fail
    go_ret
    exact ⟨rfl, by (repeat (first | with_reducible assumption | with_reducible exact Below.refl _ _ | with_reducible refine Below.setCell ?_ ?_ _ | with_reducible refine Below.alloc ?_ ?_ _ | with_reducible refine Below.drew ?_ | with_reducible refine below_drewN ?_ _ | with_reducible refine Below.step (by with_reducible assumption) ?_ ?_ | omega | (simp <;> omega) | (simp; done)))⟩
  have hp2 : 0 ≤ r2 := by omega
  have hq2' := hrb2 hp2
  clear hrb2
  have hm2 : ds.length ≤ 1048576 := by omega
  go_wp2_with fail
  refine (toHearingS_any v0 xs _ _ _ hx0 (by omega) (by omega) hs0).mono ?_
  rintro e w4 ⟨y4, rfl, hy4, b4⟩
  have zb4 := b4.size
  replace hx0 := hx0.below b4 (by omega)
  replace hx1 := hx1.below b4 (by omega)
  replace hx2 := hx2.below b4 (by omega)
  replace hx3 := hx3.below b4 (by omega)
  replace BB := Below.step b4 (by omega) BB
  clear b4
  go_wp2_with fail
  refine (toSlotS_any v1 ps _ _ _ hx1 (by omega) (by omega)).mono ?_
  rintro e w5 ⟨y5, rfl, hy5, b5⟩
  have zb5 := b5.size
  replace hx0 := hx0.below b5 (by omega)
  replace hx1 := hx1.below b5 (by omega)
  replace hx2 := hx2.below b5 (by omega)
  replace hx3 := hx3.below b5 (by omega)
  replace hy4 := hy4.below b5 (by omega)
  replace BB := Below.step b5 (by omega) BB
  clear b5
  go_wp2_with fail
  refine (toDemandS_any v2 ds _ _ _ hx2 (by omega) (by omega)).mono ?_
  rintro e w6 ⟨y6, rfl, hy6, b6⟩
  have zb6 := b6.size
  replace hx0 := hx0.below b6 (by omega)
  replace hx1 := hx1.below b6 (by omega)
  replace hx2 := hx2.below b6 (by omega)
  replace hx3 := hx3.below b6 (by omega)
  replace hy4 := hy4.below b6 (by omega)
  replace hy5 := hy5.below b6 (by omega)
  replace BB := Below.step b6 (by omega) BB
  clear b6
  go_wp2_with fail
  refine (toInt64S_any (.slice AX3 s.length CX3) s _ _ _ hx3 (by omega) (by omega)).mono ?_
  rintro e w7 ⟨y7, rfl, hy7, b7⟩
  have zb7 := b7.size
  replace hx0 := hx0.below b7 (by omega)
  replace hx1 := hx1.below b7 (by omega)
  replace hx2 := hx2.below b7 (by omega)
  replace hx3 := hx3.below b7 (by omega)
  replace hy4 := hy4.below b7 (by omega)
  replace hy5 := hy5.below b7 (by omega)
  replace hy6 := hy6.below b7 (by omega)
  replace BB := Below.step b7 (by omega) BB
  clear b7
  go_wp2_with fail
  refine (sIsConflict_any y4 xs _ _ y5 ps _ _ y6 ds _ _ y7 s _ _ _ hy4.rd (by omega) (by omega) hs0 hy5.rd (by omega) (by omega) hy6.rd (by omega) (by omega) hy7.rd (by omega) (by omega)).mono ?_
  rintro e w8 ⟨rfl, b8⟩
  have zb8 := b8.size
  replace hx0 := hx0.below b8 (by omega)
  replace hx1 := hx1.below b8 (by omega)
  replace hx2 := hx2.below b8 (by omega)
  replace hx3 := hx3.below b8 (by omega)
  replace hy4 := hy4.below b8 (by omega)
  replace hy5 := hy5.below b8 (by omega)
  replace hy6 := hy6.below b8 (by omega)
  replace hy7 := hy7.below b8 (by omega)
  replace BB := Below.step b8 (by omega) BB
  clear b8
  clear hy4 hy5 hy6 hy7
  go_wp2_with fail
  refine (toHearingS_any v0 xs _ _ _ hx0 (by omega) (by omega) hs0).mono ?_
  rintro e w9 ⟨y9, rfl, hy9, b9⟩
  have zb9 := b9.size
  replace hx0 := hx0.below b9 (by omega)
  replace hx1 := hx1.below b9 (by omega)
  replace hx2 := hx2.below b9 (by omega)
  replace hx3 := hx3.below b9 (by omega)
  replace BB := Below.step b9 (by omega) BB
  clear b9
  go_wp2_with fail
  refine (toSlotS_any v1 ps _ _ _ hx1 (by omega) (by omega)).mono ?_
  rintro e w10 ⟨y10, rfl, hy10, b10⟩
  have zb10 := b10.size
  replace hx0 := hx0.below b10 (by omega)
  replace hx1 := hx1.below b10 (by omega)
  replace hx2 := hx2.below b10 (by omega)
  replace hx3 := hx3.below b10 (by omega)
  replace hy9 := hy9.below b10 (by omega)
  replace BB := Below.step b10 (by omega) BB
  clear b10
  go_wp2_with fail
  refine (toDemandS_any v2 ds _ _ _ hx2 (by omega) (by omega)).mono ?_
  rintro e w11 ⟨y11, rfl, hy11, b11⟩
  have zb11 := b11.size
  replace hx0 := hx0.below b11 (by omega)
  replace hx1 := hx1.below b11 (by omega)
  replace hx2 := hx2.below b11 (by omega)
  replace hx3 := hx3.below b11 (by omega)
  replace hy9 := hy9.below b11 (by omega)
  replace hy10 := hy10.below b11 (by omega)
  replace BB := Below.step b11 (by omega) BB
  clear b11
  go_wp2_with fail
  refine (toInt64S_any (.slice AX3 s.length CX3) s _ _ _ hx3 (by omega) (by omega)).mono ?_
  rintro e w12 ⟨y12, rfl, hy12, b12⟩
  have zb12 := b12.size
  replace hx0 := hx0.below b12 (by omega)
  replace hx1 := hx1.below b12 (by omega)
  replace hx2 := hx2.below b12 (by omega)
  replace hx3 := hx3.below b12 (by omega)
  replace hy9 := hy9.below b12 (by omega)
  replace hy10 := hy10.below b12 (by omega)
  replace hy11 := hy11.below b12 (by omega)
  replace BB := Below.step b12 (by omega) BB
  clear b12
  go_wp2_with fail
  refine (impIsConflict_any y9 xs _ _ y10 ps _ _ y11 ds _ _ y12 s _ _ _ hy9.rd (by omega) (by omega) hs0 hy10.rd (by omega) (by omega) hy11.rd (by omega) (by omega) hy12.rd (by omega) (by omega)).mono ?_
  rintro e w13 ⟨rfl, b13⟩
  have zb13 := b13.size
  replace hx0 := hx0.below b13 (by omega)
  replace hx1 := hx1.below b13 (by omega)
  replace hx2 := hx2.below b13 (by omega)
  replace hx3 := hx3.below b13 (by omega)
  replace hy9 := hy9.below b13 (by omega)
  replace hy10 := hy10.below b13 (by omega)
  replace hy11 := hy11.below b13 (by omega)
  replace hy12 := hy12.below b13 (by omega)
  replace BB := Below.step b13 (by omega) BB
  clear b13
  go_wp2_with fail
  refine (toHearingS_any v0 xs _ _ _ hx0 (by omega) (by omega) hs0).mono ?_
  rintro e w14 ⟨y14, rfl, hy14, b14⟩
  have zb14 := b14.size
  replace hx0 := hx0.below b14 (by omega)
  replace hx1 := hx1.below b14 (by omega)
  replace hx2 := hx2.below b14 (by omega)
  replace hx3 := hx3.below b14 (by omega)
  replace hy9 := hy9.below b14 (by omega)
  replace hy10 := hy10.below b14 (by omega)
  replace hy11 := hy11.below b14 (by omega)
  replace hy12 := hy12.below b14 (by omega)
  replace BB := Below.step b14 (by omega) BB
  clear b14
  go_wp2_with fail
  refine (eqHearingS_any y9 y14 xs xs _ _ _ _ _ hy9.rd (by omega) hy14.rd (by omega) (by omega) (by omega) hs0 hs0).mono ?_
  rintro e w15 ⟨rfl, b15⟩
  have zb15 := b15.size
  replace hx0 := hx0.below b15 (by omega)
  replace hx1 := hx1.below b15 (by omega)
  replace hx2 := hx2.below b15 (by omega)
  replace hx3 := hx3.below b15 (by omega)
  replace hy9 := hy9.below b15 (by omega)
  replace hy10 := hy10.below b15 (by omega)
  replace hy11 := hy11.below b15 (by omega)
  replace hy12 := hy12.below b15 (by omega)
  replace hy14 := hy14.below b15 (by omega)
  replace BB := Below.step b15 (by omega) BB
  clear b15
  rw [show eqL Hearing.beq xs xs = true from Hearing.eqL_refl _]
  clear hx0 hy9 hy14
  go_wp2_with fail
  refine (toSlotS_any v1 ps _ _ _ hx1 (by omega) (by omega)).mono ?_
  rintro e w16 ⟨y16, rfl, hy16, b16⟩
  have zb16 := b16.size
  replace hx1 := hx1.below b16 (by omega)
  replace hx2 := hx2.below b16 (by omega)
  replace hx3 := hx3.below b16 (by omega)
  replace hy10 := hy10.below b16 (by omega)
  replace hy11 := hy11.below b16 (by omega)
  replace hy12 := hy12.below b16 (by omega)
  replace BB := Below.step b16 (by omega) BB
  clear b16
  go_wp2_with fail
  refine (eqSlotS_any y10 y16 ps ps _ _ _ _ _ hy10.rd (by omega) hy16.rd (by omega) (by omega) (by omega)).mono ?_
  rintro e w17 ⟨rfl, b17⟩
  have zb17 := b17.size
  replace hx1 := hx1.below b17 (by omega)
  replace hx2 := hx2.below b17 (by omega)
  replace hx3 := hx3.below b17 (by omega)
  replace hy10 := hy10.below b17 (by omega)
  replace hy11 := hy11.below b17 (by omega)
  replace hy12 := hy12.below b17 (by omega)
  replace hy16 := hy16.below b17 (by omega)
  replace BB := Below.step b17 (by omega) BB
  clear b17
  rw [show eqL Slot.beq ps ps = true from (eqL_iff (fun x y => Slot.beq_iff)).2 rfl]
  clear hx1 hy10 hy16
  go_wp2_with fail
  refine (toDemandS_any v2 ds _ _ _ hx2 (by omega) (by omega)).mono ?_
  rintro e w18 ⟨y18, rfl, hy18, b18⟩
  have zb18 := b18.size
  replace hx2 := hx2.below b18 (by omega)
  replace hx3 := hx3.below b18 (by omega)
  replace hy11 := hy11.below b18 (by omega)
  replace hy12 := hy12.below b18 (by omega)
  replace BB := Below.step b18 (by omega) BB
  clear b18
  go_wp2_with fail
  refine (eqDemandS_any y11 y18 ds ds _ _ _ _ _ hy11.rd (by omega) hy18.rd (by omega) (by omega) (by omega)).mono ?_
  rintro e w19 ⟨rfl, b19⟩
  have zb19 := b19.size
  replace hx2 := hx2.below b19 (by omega)
  replace hx3 := hx3.below b19 (by omega)
  replace hy11 := hy11.below b19 (by omega)
  replace hy12 := hy12.below b19 (by omega)
  replace hy18 := hy18.below b19 (by omega)
  replace BB := Below.step b19 (by omega) BB
  clear b19
  rw [show eqL Demand.beq ds ds = true from (eqL_iff (fun x y => Demand.beq_iff)).2 rfl]
  clear hx2 hy11 hy18
  go_wp2_with fail
  refine (toInt64S_any (.slice AX3 s.length CX3) s _ _ _ hx3 (by omega) (by omega)).mono ?_
  rintro e w20 ⟨y20, rfl, hy20, b20⟩
  have zb20 := b20.size
  replace hx3 := hx3.below b20 (by omega)
  replace hy12 := hy12.below b20 (by omega)
  replace BB := Below.step b20 (by omega) BB
  clear b20
  go_wp2_with fail
  refine (eqInt64S_any y12 y20 s s _ _ _ _ _ hy12.rd (by omega) hy20.rd (by omega) (by omega) (by omega)).mono ?_
  rintro e w21 ⟨rfl, b21⟩
  have zb21 := b21.size
  replace hx3 := hx3.below b21 (by omega)
  replace hy12 := hy12.below b21 (by omega)
  replace hy20 := hy20.below b21 (by omega)
  replace BB := Below.step b21 (by omega) BB
  clear b21
  rw [show eqL intEq s s = true from (eqL_iff (fun x y => intEq_iff x y)).2 rfl]
  clear hx3 hy12 hy20
  go_wp2_with fail
  go_ret
  exact ⟨rfl, BB⟩

set_option maxRecDepth 100000 in
theorem lifted (os : Os) (started : os.Started) (H : Type) (enc : TypeId × Value → H) :
    ReturnsInHanded {} Tryz.checked os 8 .any (Rows.fnExactIsConflictSpec.pre6 enc Tryz.prog Tryz.f8 Rows.fnExactIsConflictRow.domain false) (Rows.fnExactIsConflictSpec.post enc Tryz.prog Tryz.f8 false true false false) := by
  refine returnsInHanded_of_change (C := Tryz.checked) own started (by kernel_rfl) Tryz.func8
    (ChangeSpec.witness6 (enc := enc) (C := Tryz.checked) false ⟨#[], #[.slice none 0 0, .slice none 0 0, .slice none 0 0, .slice none 0 0], []⟩ 8 (by kernel_rfl) (by kernel_rfl) (by kernel_rfl) (by kernel_rfl)) ?_
  intro W base args ds gs before hval0 hW hcnd _
  have hval : ∀ (j : Nat) t v, Tryz.f8.params[j]? = some t → args[j]? = some v → Value.okWide Tryz.prog W .any base t v := hval0
  have hW' := hW
  obtain ⟨p, q, hA0, hV, rfl, hfz, hnd⟩ := hW
  have hA : DataW.TrodAll enc Tryz.prog W 0 (fun _ => true) true Tryz.f8.params.toList args.toList ds p := hA0
  rw [Tryz.params8] at hA hval
  obtain ⟨v0, vs0, d0, ds0, p0, q0, hargs, rfl, rfl, h0, r0⟩ := trodAll_cons hA
  obtain ⟨v1, vs1, d1, ds1, p1, q1, rfl, rfl, rfl, h1, r1⟩ := trodAll_cons r0
  obtain ⟨v2, vs2, d2, ds2, p2, q2, rfl, rfl, rfl, h2, r2⟩ := trodAll_cons r1
  obtain ⟨v3, vs3, d3, ds3, p3, q3, rfl, rfl, rfl, h3, r3⟩ := trodAll_cons r2
  obtain ⟨rfl, rfl, rfl⟩ := trodAll_nil r3
  obtain rfl : args = #[v0, v1, v2, v3] := by cases args; simp_all
  obtain ⟨rfl, rfl⟩ := trodVars_none hV
  have k0 := h0
  have lt0 : ∀ x ∈ p0, x.block < W.heap.size := by obtain ⟨m, hm⟩ := k0; exact DataW.trod_lt m _ _ _ hm
  have k1 := h1
  have lt1 : ∀ x ∈ p1, x.block < W.heap.size := by obtain ⟨m, hm⟩ := k1; exact DataW.trod_lt m _ _ _ hm
  have k2 := h2
  have lt2 : ∀ x ∈ p2, x.block < W.heap.size := by obtain ⟨m, hm⟩ := k2; exact DataW.trod_lt m _ _ _ hm
  have k3 := h3
  have lt3 : ∀ x ∈ p3, x.block < W.heap.size := by obtain ⟨m, hm⟩ := k3; exact DataW.trod_lt m _ _ _ hm
  obtain ⟨xs, hx0, hl0, hq0⟩ := openHearingS (hval 0 39 v0 rfl rfl) h0
  obtain ⟨ps, hx1, hl1, hq1⟩ := openSlotS (hval 1 40 v1 rfl rfl) h1
  obtain ⟨ds, hx2, hl2, hq2⟩ := openDemandS (hval 2 41 v2 rfl rfl) h2
  obtain ⟨s, hx3, hl3, hq3⟩ := open_ints Tryz.underlying29 Tryz.underlying2 (by kernel_rfl) (hval 3 29 v3 rfl rfl) h3
  clear hA0 hval0
  refine (walk v0 xs v1 ps v2 ds v3 s W hx0 hl0 hq0 hx1 hl1 hq1 hx2 hl2 hq2 hx3 hl3 hq3).mono fun e W' ⟨he, bel⟩ => ?_
  subst he
  exact ⟨_, rfl, _, _, _, [], _, [], hW', trodAll_mk1 (shut_bool Tryz.underlying4 _), (trodAll_cons_mk (Below.trod laidOut (by kernel_rfl) (of_decide_eq_true (by kernel_rfl)) k0 bel lt0) (trodAll_cons_mk (Below.trod laidOut (by kernel_rfl) (of_decide_eq_true (by kernel_rfl)) k1 bel lt1) (trodAll_cons_mk (Below.trod laidOut (by kernel_rfl) (of_decide_eq_true (by kernel_rfl)) k2 bel lt2) (trodAll_cons_mk (Below.trod laidOut (by kernel_rfl) (of_decide_eq_true (by kernel_rfl)) k3 bel lt3) trodAll_mk0)))), rfl, bel.frame _, fun h => by cases h⟩

theorem over : Rows.fnExactIsConflictRow.holds Tryz.pinned (OpenSpec.ofChange Rows.fnExactIsConflictSpec) :=
  OpenClaim.holds_of_wide 8 Tryz.f8 rfl rfl rfl rfl rfl rfl rfl ⟨rfl, rfl, rfl, rfl, rfl⟩ rfl rfl rfl rfl rfl (by kernel_rfl) Tryz.func8 (by kernel_rfl)
    (of_decide_eq_true (by kernel_rfl)) (by unfold Func.isWrapper; first | (rw [if_pos (by decide +kernel)]; kernel_rfl) | (rw [if_neg (by decide +kernel)]; exact ⟨rfl, rfl⟩))
    (fun os started H enc _ => lifted os started H enc)

theorem proved : Rows.FnExactIsConflictSaid := over
#print axioms proved
end Go.Proofs.YtgpknnlphabpkaaGreat.isConflict
