/- The program's BestKeeping returns what the reference's returns, for all arguments. No conditions. -/
import Derived.Test.YtgpknnlphabpkaaGreatKeepW
import Derived.Test.YtgpknnlphabpkaaGreatHearingM
import Derived.Test.YtgpknnlphabpkaaGreatHearingO
import Derived.Test.YtgpknnlphabpkaaGreatSlotM
import Derived.Test.YtgpknnlphabpkaaGreatSlotO
import Derived.Test.YtgpknnlphabpkaaGreatDemandM
import Derived.Test.YtgpknnlphabpkaaGreatDemandO
import Derived.Test.YtgpknnlphabpkaaGreatInts2H
import Derived.Test.YtgpknnlphabpkaaGreatMark
namespace Go.Proofs.YtgpknnlphabpkaaGreat.bestKeeping
open Go.ChangeShapes Go.WideShapes Go.ChangeAt Go.RowKit
open Go.ChangeMaps (open_string shut_string)
set_option linter.unusedVariables false

theorem own : ownKnob Tryz.prog.godebug = none := by kernel_rfl
theorem laidOut : laidOutB Tryz.prog = true := by kernel_rfl


set_option maxRecDepth 100000 in
set_option maxHeartbeats 4000000 in
theorem walk (v0 : Value) (xs : List Hearing) (v1 : Value) (ps : List Slot) (v2 : Value) (ds : List Demand) (w : World) (hx0 : RdHearing w 0 w.heap.size v0 xs) (hl0 : xs.length ≤ maxLen) (hq0 : ∀ x ∈ xs, Hearing.wf x) (hx1 : RdF Slot.enc 3 w 0 w.heap.size v1 ps) (hl1 : ps.length ≤ maxLen) (hq1 : ∀ x ∈ ps, Slot.wf x) (hx2 : RdF Demand.enc 3 w 0 w.heap.size v2 ds) (hl2 : ds.length ≤ maxLen) (hq2 : ∀ x ∈ ds, Demand.wf x) :
    Calls Tryz.prog 7 #[v0, v1, v2] w fun e w' => e = .returned (.bool true) ∧ Below w.heap.size w w' := by
  try unfold maxLen at *
  go_enter Tryz.func7, Tryz.ntmps7
  have BB : Below w.heap.size w w := Below.refl _ _
  go_wp2_with fail
  refine (szHearingS_any v0 xs _ _ _ _ hx0 (by omega) (by omega) (fun x hx => Hearing.big_of (hq0 x hx)) (by omega) (by omega)).mono ?_
  rintro e w1 ⟨r0, rfl, ⟨hra0, hrb0⟩, b1⟩
  have zb1 := b1.size
  replace hx0 := hx0.below b1 (by omega)
  replace hx1 := hx1.below b1 (by omega)
  replace hx2 := hx2.below b1 (by omega)
  replace BB := Below.step b1 (by omega) BB
  clear b1
  by_cases hn0 : r0 < 0
  · go_wp2_with fail
    go_ret
    exact ⟨rfl, by (repeat (first | with_reducible assumption | with_reducible exact Below.refl _ _ | with_reducible refine Below.setCell ?_ ?_ _ | with_reducible refine Below.alloc ?_ ?_ _ | with_reducible refine Below.drew ?_ | with_reducible refine below_drewN ?_ _ | with_reducible refine Below.step (by with_reducible assumption) ?_ ?_ | omega | (simp <;> omega) | (simp; done)))⟩
  have hp0 : 0 ≤ r0 := by omega
  have hq0' := hrb0 hp0
  clear hrb0
  have hm0 : xs.length ≤ 1048576 := by omega
  have hs0 : ∀ x ∈ xs, Hearing.small x := fun x hx => Hearing.small_of (hq0'.2.1 x hx) (by omega)
  have hw0 : Hearing.wts xs ≤ 1048576 := by have := hq0'.2.2; omega
  go_wp2_with fail
  refine (szSlotS_any v1 ps _ _ _ _ hx1 (by omega) (by omega) (by omega) (by omega)).mono ?_
  rintro e w2 ⟨r1, rfl, ⟨hra1, hrb1⟩, b2⟩
  have zb2 := b2.size
  replace hx0 := hx0.below b2 (by omega)
  replace hx1 := hx1.below b2 (by omega)
  replace hx2 := hx2.below b2 (by omega)
  replace BB := Below.step b2 (by omega) BB
  clear b2
  by_cases hn1 : r1 < 0
  · go_wp2_with fail
    go_ret
    exact ⟨rfl, by (repeat (first | with_reducible assumption | with_reducible exact Below.refl _ _ | with_reducible refine Below.setCell ?_ ?_ _ | with_reducible refine Below.alloc ?_ ?_ _ | with_reducible refine Below.drew ?_ | with_reducible refine below_drewN ?_ _ | with_reducible refine Below.step (by with_reducible assumption) ?_ ?_ | omega | (simp <;> omega) | (simp; done)))⟩
  have hp1 : 0 ≤ r1 := by omega
  have hq1' := hrb1 hp1
  clear hrb1
  have hm1 : ps.length ≤ 1048576 := by omega
  go_wp2_with fail
  refine (szDemandS_any v2 ds _ _ _ _ hx2 (by omega) (by omega) (by omega) (by omega)).mono ?_
  rintro e w3 ⟨r2, rfl, ⟨hra2, hrb2⟩, b3⟩
  have zb3 := b3.size
  replace hx0 := hx0.below b3 (by omega)
  replace hx1 := hx1.below b3 (by omega)
  replace hx2 := hx2.below b3 (by omega)
  replace BB := Below.step b3 (by omega) BB
  clear b3
  by_cases hn2 : r2 < 0
  · go_wp2_with fail
    go_ret
    exact ⟨rfl, by (repeat (first | with_reducible assumption | with_reducible exact Below.refl _ _ | with_reducible refine Below.setCell ?_ ?_ _ | with_reducible refine Below.alloc ?_ ?_ _ | with_reducible refine Below.drew ?_ | with_reducible refine below_drewN ?_ _ | with_reducible refine Below.step (by with_reducible assumption) ?_ ?_ | omega | (simp <;> omega) | (simp; done)))⟩
  have hp2 : 0 ≤ r2 := by omega
  have hq2' := hrb2 hp2
  clear hrb2
  have hm2 : ds.length ≤ 1048576 := by omega
  go_wp2_with fail
  refine (toHearingS_any v0 xs _ _ _ hx0 (by omega) (by omega) hs0).mono ?_
  rintro e w4 ⟨y4, rfl, hy4, b4⟩
  have zb4 := b4.size
  replace hx0 := hx0.below b4 (by omega)
  replace hx1 := hx1.below b4 (by omega)
  replace hx2 := hx2.below b4 (by omega)
  replace BB := Below.step b4 (by omega) BB
  clear b4
  go_wp2_with fail
  refine (toSlotS_any v1 ps _ _ _ hx1 (by omega) (by omega)).mono ?_
  rintro e w5 ⟨y5, rfl, hy5, b5⟩
  have zb5 := b5.size
  replace hx0 := hx0.below b5 (by omega)
  replace hx1 := hx1.below b5 (by omega)
  replace hx2 := hx2.below b5 (by omega)
  replace hy4 := hy4.below b5 (by omega)
  replace BB := Below.step b5 (by omega) BB
  clear b5
  go_wp2_with fail
  refine (toDemandS_any v2 ds _ _ _ hx2 (by omega) (by omega)).mono ?_
  rintro e w6 ⟨y6, rfl, hy6, b6⟩
  have zb6 := b6.size
  replace hx0 := hx0.below b6 (by omega)
  replace hx1 := hx1.below b6 (by omega)
  replace hx2 := hx2.below b6 (by omega)
  replace hy4 := hy4.below b6 (by omega)
  replace hy5 := hy5.below b6 (by omega)
  replace BB := Below.step b6 (by omega) BB
  clear b6
  go_wp2_with fail
  refine (sBestKeeping_any y4 xs _ _ y5 ps _ _ y6 ds _ _ _ hy4.rd (by omega) (by omega) hs0 hy5.rd (by omega) (by omega) hy6.rd (by omega) (by omega)).mono ?_
  rintro e w7 ⟨y7_0, rfl, hy7_0, b7⟩
  have zb7 := b7.size
  replace hx0 := hx0.below b7 (by omega)
  replace hx1 := hx1.below b7 (by omega)
  replace hx2 := hx2.below b7 (by omega)
  replace hy4 := hy4.below b7 (by omega)
  replace hy5 := hy5.below b7 (by omega)
  replace hy6 := hy6.below b7 (by omega)
  replace BB := Below.step b7 (by omega) BB
  clear b7
  have l7_0 : ((bestKeep xs ps ds).1).length ≤ 1048576 := bestKeep_len
  clear hy4 hy5 hy6
  go_wp2_with fail
  refine (toHearingS_any v0 xs _ _ _ hx0 (by omega) (by omega) hs0).mono ?_
  rintro e w8 ⟨y8, rfl, hy8, b8⟩
  have zb8 := b8.size
  replace hx0 := hx0.below b8 (by omega)
  replace hx1 := hx1.below b8 (by omega)
  replace hx2 := hx2.below b8 (by omega)
  replace hy7_0 := hy7_0.below b8 (by omega)
  replace BB := Below.step b8 (by omega) BB
  clear b8
  go_wp2_with fail
  refine (toSlotS_any v1 ps _ _ _ hx1 (by omega) (by omega)).mono ?_
  rintro e w9 ⟨y9, rfl, hy9, b9⟩
  have zb9 := b9.size
  replace hx0 := hx0.below b9 (by omega)
  replace hx1 := hx1.below b9 (by omega)
  replace hx2 := hx2.below b9 (by omega)
  replace hy7_0 := hy7_0.below b9 (by omega)
  replace hy8 := hy8.below b9 (by omega)
  replace BB := Below.step b9 (by omega) BB
  clear b9
  go_wp2_with fail
  refine (toDemandS_any v2 ds _ _ _ hx2 (by omega) (by omega)).mono ?_
  rintro e w10 ⟨y10, rfl, hy10, b10⟩
  have zb10 := b10.size
  replace hx0 := hx0.below b10 (by omega)
  replace hx1 := hx1.below b10 (by omega)
  replace hx2 := hx2.below b10 (by omega)
  replace hy7_0 := hy7_0.below b10 (by omega)
  replace hy8 := hy8.below b10 (by omega)
  replace hy9 := hy9.below b10 (by omega)
  replace BB := Below.step b10 (by omega) BB
  clear b10
  go_wp2_with fail
  refine (impBestKeeping_any y8 xs _ _ y9 ps _ _ y10 ds _ _ _ hy8.rd (by omega) (by omega) hs0 hy9.rd (by omega) (by omega) hy10.rd (by omega) (by omega)).mono ?_
  rintro e w11 ⟨y11_0, rfl, hy11_0, b11⟩
  have zb11 := b11.size
  replace hx0 := hx0.below b11 (by omega)
  replace hx1 := hx1.below b11 (by omega)
  replace hx2 := hx2.below b11 (by omega)
  replace hy7_0 := hy7_0.below b11 (by omega)
  replace hy8 := hy8.below b11 (by omega)
  replace hy9 := hy9.below b11 (by omega)
  replace hy10 := hy10.below b11 (by omega)
  replace BB := Below.step b11 (by omega) BB
  clear b11
  have l11_0 : ((bestKeep xs ps ds).1).length ≤ 1048576 := bestKeep_len
  go_wp2_with fail
  refine (eqInt64S_any y11_0 y7_0 (bestKeep xs ps ds).1 (bestKeep xs ps ds).1 _ _ _ _ _ hy11_0.rd (by omega) hy7_0.rd (by omega) (by omega) (by omega)).mono ?_
  rintro e w12 ⟨rfl, b12⟩
  have zb12 := b12.size
  replace hx0 := hx0.below b12 (by omega)
  replace hx1 := hx1.below b12 (by omega)
  replace hx2 := hx2.below b12 (by omega)
  replace hy7_0 := hy7_0.below b12 (by omega)
  replace hy8 := hy8.below b12 (by omega)
  replace hy9 := hy9.below b12 (by omega)
  replace hy10 := hy10.below b12 (by omega)
  replace hy11_0 := hy11_0.below b12 (by omega)
  replace BB := Below.step b12 (by omega) BB
  clear b12
  rw [show eqL intEq (bestKeep xs ps ds).1 (bestKeep xs ps ds).1 = true from (eqL_iff (fun x y => intEq_iff x y)).2 rfl]
  go_wp2_with fail
  refine (toHearingS_any v0 xs _ _ _ hx0 (by omega) (by omega) hs0).mono ?_
  rintro e w13 ⟨y13, rfl, hy13, b13⟩
  have zb13 := b13.size
  replace hx0 := hx0.below b13 (by omega)
  replace hx1 := hx1.below b13 (by omega)
  replace hx2 := hx2.below b13 (by omega)
  replace hy7_0 := hy7_0.below b13 (by omega)
  replace hy8 := hy8.below b13 (by omega)
  replace hy9 := hy9.below b13 (by omega)
  replace hy10 := hy10.below b13 (by omega)
  replace hy11_0 := hy11_0.below b13 (by omega)
  replace BB := Below.step b13 (by omega) BB
  clear b13
  go_wp2_with fail
  refine (eqHearingS_any y8 y13 xs xs _ _ _ _ _ hy8.rd (by omega) hy13.rd (by omega) (by omega) (by omega) hs0 hs0).mono ?_
  rintro e w14 ⟨rfl, b14⟩
  have zb14 := b14.size
  replace hx0 := hx0.below b14 (by omega)
  replace hx1 := hx1.below b14 (by omega)
  replace hx2 := hx2.below b14 (by omega)
  replace hy7_0 := hy7_0.below b14 (by omega)
  replace hy8 := hy8.below b14 (by omega)
  replace hy9 := hy9.below b14 (by omega)
  replace hy10 := hy10.below b14 (by omega)
  replace hy11_0 := hy11_0.below b14 (by omega)
  replace hy13 := hy13.below b14 (by omega)
  replace BB := Below.step b14 (by omega) BB
  clear b14
  rw [show eqL Hearing.beq xs xs = true from Hearing.eqL_refl _]
  clear hy13
  go_wp2_with fail
  refine (toSlotS_any v1 ps _ _ _ hx1 (by omega) (by omega)).mono ?_
  rintro e w15 ⟨y15, rfl, hy15, b15⟩
  have zb15 := b15.size
  replace hx0 := hx0.below b15 (by omega)
  replace hx1 := hx1.below b15 (by omega)
  replace hx2 := hx2.below b15 (by omega)
  replace hy7_0 := hy7_0.below b15 (by omega)
  replace hy8 := hy8.below b15 (by omega)
  replace hy9 := hy9.below b15 (by omega)
  replace hy10 := hy10.below b15 (by omega)
  replace hy11_0 := hy11_0.below b15 (by omega)
  replace BB := Below.step b15 (by omega) BB
  clear b15
  go_wp2_with fail
  refine (eqSlotS_any y9 y15 ps ps _ _ _ _ _ hy9.rd (by omega) hy15.rd (by omega) (by omega) (by omega)).mono ?_
  rintro e w16 ⟨rfl, b16⟩
  have zb16 := b16.size
  replace hx0 := hx0.below b16 (by omega)
  replace hx1 := hx1.below b16 (by omega)
  replace hx2 := hx2.below b16 (by omega)
  replace hy7_0 := hy7_0.below b16 (by omega)
  replace hy8 := hy8.below b16 (by omega)
  replace hy9 := hy9.below b16 (by omega)
  replace hy10 := hy10.below b16 (by omega)
  replace hy11_0 := hy11_0.below b16 (by omega)
  replace hy15 := hy15.below b16 (by omega)
  replace BB := Below.step b16 (by omega) BB
  clear b16
  rw [show eqL Slot.beq ps ps = true from (eqL_iff (fun x y => Slot.beq_iff)).2 rfl]
  clear hy15
  go_wp2_with fail
  refine (toDemandS_any v2 ds _ _ _ hx2 (by omega) (by omega)).mono ?_
  rintro e w17 ⟨y17, rfl, hy17, b17⟩
  have zb17 := b17.size
  replace hx0 := hx0.below b17 (by omega)
  replace hx1 := hx1.below b17 (by omega)
  replace hx2 := hx2.below b17 (by omega)
  replace hy7_0 := hy7_0.below b17 (by omega)
  replace hy8 := hy8.below b17 (by omega)
  replace hy9 := hy9.below b17 (by omega)
  replace hy10 := hy10.below b17 (by omega)
  replace hy11_0 := hy11_0.below b17 (by omega)
  replace BB := Below.step b17 (by omega) BB
  clear b17
  go_wp2_with fail
  refine (eqDemandS_any y10 y17 ds ds _ _ _ _ _ hy10.rd (by omega) hy17.rd (by omega) (by omega) (by omega)).mono ?_
  rintro e w18 ⟨rfl, b18⟩
  have zb18 := b18.size
  replace hx0 := hx0.below b18 (by omega)
  replace hx1 := hx1.below b18 (by omega)
  replace hx2 := hx2.below b18 (by omega)
  replace hy7_0 := hy7_0.below b18 (by omega)
  replace hy8 := hy8.below b18 (by omega)
  replace hy9 := hy9.below b18 (by omega)
  replace hy10 := hy10.below b18 (by omega)
  replace hy11_0 := hy11_0.below b18 (by omega)
  replace hy17 := hy17.below b18 (by omega)
  replace BB := Below.step b18 (by omega) BB
  clear b18
  rw [show eqL Demand.beq ds ds = true from (eqL_iff (fun x y => Demand.beq_iff)).2 rfl]
  clear hy17
  go_wp2_with fail
  refine (markHearingS_any y8 xs _ _ (1) _ hy8 (by omega) (by omega) hw0 (by omega) (by omega)).mono ?_
  rintro e w19 ⟨rfl, cg19⟩
  have zcg19 := cg19.size
  clear hy8
  replace hx0 := hx0.chg cg19 (by omega) (by omega)
  replace hx1 := hx1.chg cg19 (by omega) (by omega)
  replace hx2 := hx2.chg cg19 (by omega) (by omega)
  replace hy7_0 := hy7_0.chg cg19 (by omega) (by omega)
  replace hy9 := hy9.chg cg19 (by omega) (by omega)
  replace hy10 := hy10.chg cg19 (by omega) (by omega)
  replace hy11_0 := hy11_0.chg cg19 (by omega) (by omega)
  replace BB := BB.trans (cg19.below (by omega) (by omega))
  clear cg19
  go_wp2_with fail
  refine (markSlotS_any y9 (ps) _ _ (1 + ((xs).length : Int) * 3 + (Hearing.wts xs : Int)) _ hy9 (by omega) (by omega) (by omega) (by omega)).mono ?_
  rintro e w20 ⟨rfl, hg20, cg20⟩
  have zcg20 := cg20.size
  clear hy9
  replace hx0 := hx0.chg cg20 (by omega) (by omega)
  replace hx1 := hx1.chg cg20 (by omega) (by omega)
  replace hx2 := hx2.chg cg20 (by omega) (by omega)
  replace hy7_0 := hy7_0.chg cg20 (by omega) (by omega)
  replace hy10 := hy10.chg cg20 (by omega) (by omega)
  replace hy11_0 := hy11_0.chg cg20 (by omega) (by omega)
  replace BB := BB.trans (cg20.below (by omega) (by omega))
  clear cg20
  clear hg20
  go_wp2_with fail
  refine (markDemandS_any y10 (ds) _ _ (1 + ((xs).length : Int) * 3 + (Hearing.wts xs : Int) + ((ps).length : Int) * 3) _ hy10 (by omega) (by omega) (by omega) (by omega)).mono ?_
  rintro e w21 ⟨rfl, hg21, cg21⟩
  have zcg21 := cg21.size
  clear hy10
  replace hx0 := hx0.chg cg21 (by omega) (by omega)
  replace hx1 := hx1.chg cg21 (by omega) (by omega)
  replace hx2 := hx2.chg cg21 (by omega) (by omega)
  replace hy7_0 := hy7_0.chg cg21 (by omega) (by omega)
  replace hy11_0 := hy11_0.chg cg21 (by omega) (by omega)
  replace BB := BB.trans (cg21.below (by omega) (by omega))
  clear cg21
  clear hg21
  go_wp2_with fail
  refine (eqInt64S_any y11_0 y7_0 (bestKeep xs ps ds).1 (bestKeep xs ps ds).1 _ _ _ _ _ hy11_0.rd (by omega) hy7_0.rd (by omega) (by omega) (by omega)).mono ?_
  rintro e w22 ⟨rfl, b22⟩
  have zb22 := b22.size
  replace hx0 := hx0.below b22 (by omega)
  replace hx1 := hx1.below b22 (by omega)
  replace hx2 := hx2.below b22 (by omega)
  replace hy7_0 := hy7_0.below b22 (by omega)
  replace hy11_0 := hy11_0.below b22 (by omega)
  replace BB := Below.step b22 (by omega) BB
  clear b22
  rw [show eqL intEq (bestKeep xs ps ds).1 (bestKeep xs ps ds).1 = true from (eqL_iff (fun x y => intEq_iff x y)).2 rfl]
  go_wp2_with fail
  refine (markInt64S_any y11_0 ((bestKeep xs ps ds).1) _ _ (1) _ hy11_0 (by omega) (by omega) (by omega) (by omega)).mono ?_
  rintro e w23 ⟨rfl, hg23, cg23⟩
  have zcg23 := cg23.size
  clear hy11_0
  replace hx0 := hx0.chg cg23 (by omega) (by omega)
  replace hx1 := hx1.chg cg23 (by omega) (by omega)
  replace hx2 := hx2.chg cg23 (by omega) (by omega)
  replace hy7_0 := hy7_0.chg cg23 (by omega) (by omega)
  replace BB := BB.trans (cg23.below (by omega) (by omega))
  clear cg23
  go_wp2_with fail
  refine (heldInt64S_any y11_0 ((bestKeep xs ps ds).1).length _ _ (1) _ hg23.rd (by omega) (by omega) (by omega) (by omega)).mono ?_
  rintro e w24 ⟨rfl, b24⟩
  have zb24 := b24.size
  replace hx0 := hx0.below b24 (by omega)
  replace hx1 := hx1.below b24 (by omega)
  replace hx2 := hx2.below b24 (by omega)
  replace hy7_0 := hy7_0.below b24 (by omega)
  replace hg23 := hg23.below b24 (by omega)
  replace BB := Below.step b24 (by omega) BB
  clear b24
  go_wp2_with fail
  refine (toHearingS_any v0 xs _ _ _ hx0 (by omega) (by omega) hs0).mono ?_
  rintro e w25 ⟨y25, rfl, hy25, b25⟩
  have zb25 := b25.size
  replace hx0 := hx0.below b25 (by omega)
  replace hx1 := hx1.below b25 (by omega)
  replace hx2 := hx2.below b25 (by omega)
  replace hy7_0 := hy7_0.below b25 (by omega)
  replace hg23 := hg23.below b25 (by omega)
  replace BB := Below.step b25 (by omega) BB
  clear b25
  go_wp2_with fail
  refine (toSlotS_any v1 ps _ _ _ hx1 (by omega) (by omega)).mono ?_
  rintro e w26 ⟨y26, rfl, hy26, b26⟩
  have zb26 := b26.size
  replace hx0 := hx0.below b26 (by omega)
  replace hx1 := hx1.below b26 (by omega)
  replace hx2 := hx2.below b26 (by omega)
  replace hy7_0 := hy7_0.below b26 (by omega)
  replace hg23 := hg23.below b26 (by omega)
  replace hy25 := hy25.below b26 (by omega)
  replace BB := Below.step b26 (by omega) BB
  clear b26
  go_wp2_with fail
  refine (toDemandS_any v2 ds _ _ _ hx2 (by omega) (by omega)).mono ?_
  rintro e w27 ⟨y27, rfl, hy27, b27⟩
  have zb27 := b27.size
  replace hx0 := hx0.below b27 (by omega)
  replace hx1 := hx1.below b27 (by omega)
  replace hx2 := hx2.below b27 (by omega)
  replace hy7_0 := hy7_0.below b27 (by omega)
  replace hg23 := hg23.below b27 (by omega)
  replace hy25 := hy25.below b27 (by omega)
  replace hy26 := hy26.below b27 (by omega)
  replace BB := Below.step b27 (by omega) BB
  clear b27
  go_wp2_with fail
  refine (impBestKeeping_any y25 xs _ _ y26 ps _ _ y27 ds _ _ _ hy25.rd (by omega) (by omega) hs0 hy26.rd (by omega) (by omega) hy27.rd (by omega) (by omega)).mono ?_
  rintro e w28 ⟨y28_0, rfl, hy28_0, b28⟩
  have zb28 := b28.size
  replace hx0 := hx0.below b28 (by omega)
  replace hx1 := hx1.below b28 (by omega)
  replace hx2 := hx2.below b28 (by omega)
  replace hy7_0 := hy7_0.below b28 (by omega)
  replace hg23 := hg23.below b28 (by omega)
  replace hy25 := hy25.below b28 (by omega)
  replace hy26 := hy26.below b28 (by omega)
  replace hy27 := hy27.below b28 (by omega)
  replace BB := Below.step b28 (by omega) BB
  clear b28
  have l28_0 : ((bestKeep xs ps ds).1).length ≤ 1048576 := bestKeep_len
  clear hx0 hx1 hx2 hy25 hy26 hy27
  go_wp2_with fail
  refine (eqInt64S_any y28_0 y7_0 (bestKeep xs ps ds).1 (bestKeep xs ps ds).1 _ _ _ _ _ hy28_0.rd (by omega) hy7_0.rd (by omega) (by omega) (by omega)).mono ?_
  rintro e w29 ⟨rfl, b29⟩
  have zb29 := b29.size
  replace hy7_0 := hy7_0.below b29 (by omega)
  replace hg23 := hg23.below b29 (by omega)
  replace hy28_0 := hy28_0.below b29 (by omega)
  replace BB := Below.step b29 (by omega) BB
  clear b29
  rw [show eqL intEq (bestKeep xs ps ds).1 (bestKeep xs ps ds).1 = true from (eqL_iff (fun x y => intEq_iff x y)).2 rfl]
  clear hy7_0 hy28_0
  go_wp2_with fail
  refine (heldInt64S_any y11_0 ((bestKeep xs ps ds).1).length _ _ (1) _ hg23.rd (by omega) (by omega) (by omega) (by omega)).mono ?_
  rintro e w30 ⟨rfl, b30⟩
  have zb30 := b30.size
  replace hg23 := hg23.below b30 (by omega)
  replace BB := Below.step b30 (by omega) BB
  clear b30
  clear hg23
  go_wp2_with fail
  go_ret
  exact ⟨rfl, BB⟩

set_option maxRecDepth 100000 in
theorem lifted (os : Os) (started : os.Started) (H : Type) (enc : TypeId × Value → H) :
    ReturnsInHanded {} Tryz.checked os 7 .any (Rows.fnExactBestKeepingSpec.pre6 enc Tryz.prog Tryz.f7 Rows.fnExactBestKeepingRow.domain false) (Rows.fnExactBestKeepingSpec.post enc Tryz.prog Tryz.f7 false true false false) := by
  refine returnsInHanded_of_change (C := Tryz.checked) own started (by kernel_rfl) Tryz.func7
    (ChangeSpec.witness6 (enc := enc) (C := Tryz.checked) false ⟨#[], #[.slice none 0 0, .slice none 0 0, .slice none 0 0], []⟩ 8 (by kernel_rfl) (by kernel_rfl) (by kernel_rfl) (by kernel_rfl)) ?_
  intro W base args ds gs before hval0 hW hcnd _
  have hval : ∀ (j : Nat) t v, Tryz.f7.params[j]? = some t → args[j]? = some v → Value.okWide Tryz.prog W .any base t v := hval0
  have hW' := hW
  obtain ⟨p, q, hA0, hV, rfl, hfz, hnd⟩ := hW
  have hA : DataW.TrodAll enc Tryz.prog W 0 (fun _ => true) true Tryz.f7.params.toList args.toList ds p := hA0
  rw [Tryz.params7] at hA hval
  obtain ⟨v0, vs0, d0, ds0, p0, q0, hargs, rfl, rfl, h0, r0⟩ := trodAll_cons hA
  obtain ⟨v1, vs1, d1, ds1, p1, q1, rfl, rfl, rfl, h1, r1⟩ := trodAll_cons r0
  obtain ⟨v2, vs2, d2, ds2, p2, q2, rfl, rfl, rfl, h2, r2⟩ := trodAll_cons r1
  obtain ⟨rfl, rfl, rfl⟩ := trodAll_nil r2
  obtain rfl : args = #[v0, v1, v2] := by cases args; simp_all
  obtain ⟨rfl, rfl⟩ := trodVars_none hV
  have k0 := h0
  have lt0 : ∀ x ∈ p0, x.block < W.heap.size := by obtain ⟨m, hm⟩ := k0; exact DataW.trod_lt m _ _ _ hm
  have k1 := h1
  have lt1 : ∀ x ∈ p1, x.block < W.heap.size := by obtain ⟨m, hm⟩ := k1; exact DataW.trod_lt m _ _ _ hm
  have k2 := h2
  have lt2 : ∀ x ∈ p2, x.block < W.heap.size := by obtain ⟨m, hm⟩ := k2; exact DataW.trod_lt m _ _ _ hm
  obtain ⟨xs, hx0, hl0, hq0⟩ := openHearingS (hval 0 39 v0 rfl rfl) h0
  obtain ⟨ps, hx1, hl1, hq1⟩ := openSlotS (hval 1 40 v1 rfl rfl) h1
  obtain ⟨ds, hx2, hl2, hq2⟩ := openDemandS (hval 2 41 v2 rfl rfl) h2
  clear hA0 hval0
  refine (walk v0 xs v1 ps v2 ds W hx0 hl0 hq0 hx1 hl1 hq1 hx2 hl2 hq2).mono fun e W' ⟨he, bel⟩ => ?_
  subst he
  exact ⟨_, rfl, _, _, _, [], _, [], hW', trodAll_mk1 (shut_bool Tryz.underlying4 _), (trodAll_cons_mk (Below.trod laidOut (by kernel_rfl) (of_decide_eq_true (by kernel_rfl)) k0 bel lt0) (trodAll_cons_mk (Below.trod laidOut (by kernel_rfl) (of_decide_eq_true (by kernel_rfl)) k1 bel lt1) (trodAll_cons_mk (Below.trod laidOut (by kernel_rfl) (of_decide_eq_true (by kernel_rfl)) k2 bel lt2) trodAll_mk0))), rfl, bel.frame _, fun h => by cases h⟩

theorem over : Rows.fnExactBestKeepingRow.holds Tryz.pinned (OpenSpec.ofChange Rows.fnExactBestKeepingSpec) :=
  OpenClaim.holds_of_wide 7 Tryz.f7 rfl rfl rfl rfl rfl rfl rfl ⟨rfl, rfl, rfl, rfl, rfl⟩ rfl rfl rfl rfl rfl (by kernel_rfl) Tryz.func7 (by kernel_rfl)
    (of_decide_eq_true (by kernel_rfl)) (by unfold Func.isWrapper; first | (rw [if_pos (by decide +kernel)]; kernel_rfl) | (rw [if_neg (by decide +kernel)]; exact ⟨rfl, rfl⟩))
    (fun os started H enc _ => lifted os started H enc)

theorem proved : Rows.FnExactBestKeepingSaid := over
#print axioms proved
end Go.Proofs.YtgpknnlphabpkaaGreat.bestKeeping
