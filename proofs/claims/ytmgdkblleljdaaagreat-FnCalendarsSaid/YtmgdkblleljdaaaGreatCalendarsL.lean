/- The best calendar is one, and no calendar costs less: returns true for all arguments. No conditions. -/
import Derived.Test.YtmgdkblleljdaaaGreatCalL
import Derived.Test.YtmgdkblleljdaaaGreatDrawCo
import Derived.Test.YtmgdkblleljdaaaGreatLike
import Derived.Test.YtmgdkblleljdaaaGreatOpenB
import Derived.Test.YtmgdkblleljdaaaGreatCalX
namespace Go.Proofs.YtmgdkblleljdaaaGreat.calendarsL
open Go.ChangeShapes Go.WideShapes Go.ChangeAt Go.RowKit
open Go.ChangeMaps (open_string shut_string)
set_option linter.unusedVariables false

theorem own : ownKnob Tryz.prog.godebug = none := by kernel_rfl
theorem laidOut : laidOutB Tryz.prog = true := by kernel_rfl


set_option maxRecDepth 100000 in
set_option maxHeartbeats 40000000 in
theorem walk (v0 : Value) (code : List Int) (w : World) (hx0 : RdF encByte 1 w 0 w.heap.size v0 code) (hl0 : code.length ≤ maxLen) (hq0 : ∀ x ∈ code, 0 ≤ x ∧ x ≤ 255) :
    Calls Tryz.prog 3 #[v0] w fun e w' => e = .returned (.bool true) ∧ Below w.heap.size w w' := by
  try unfold maxLen at *
  obtain ⟨A0, C0, rfl, hc0⟩ := hx0.form
  by_cases hbig : (4096 : Int) < (code.length : Int)
  · go_enter Tryz.func3, Tryz.ntmps3
    go_wp2_with fail
    refine (big_any A0 C0 code.length _).mono ?_
    rintro e w1 ⟨rfl, b1⟩
    rw [decide_eq_true hbig]
    go_wp2_with fail
    go_ret
    exact ⟨rfl, b1⟩
  go_enter Tryz.func3, Tryz.ntmps3
  have BB : Below w.heap.size w w := Below.refl _ _
  go_wp2_with fail
  refine (big_any A0 C0 code.length _).mono ?_
  rintro e w1 ⟨rfl, b1⟩
  have zb1 := b1.size
  replace hx0 := hx0.below b1 (by omega)
  replace BB := Below.step b1 (by omega) BB
  clear b1
  rw [decide_eq_false (show ¬ (4096 : Int) < (code.length : Int) by omega)]
  go_wp2_with fail
  refine (drawBest_any _ code _ _ _ hx0 (by omega) (by omega) hq0).mono ?_
  rintro e w2 ⟨v1, xs, v2, ps, rfl, hx6, hxb, hp9, h1, h2, b2⟩
  have zb2 := b2.size
  replace hx0 := hx0.below b2 (by omega)
  replace BB := Below.step b2 (by omega) BB
  clear b2
  have hsm : ∀ x ∈ xs, Hearing.small x := fun x hx => Hearing.small_of (hxb x hx) (by omega)
  clear hxb
  obtain ⟨A1, c1, rfl, hcap1⟩ : ∃ A c, v1 = .slice A xs.length c ∧ xs.length ≤ c := by
    obtain ⟨rs, rfl, hR, -⟩ := h1
    obtain ⟨A, c, hv, hc⟩ := hR.form
    exact ⟨A, c, by rw [hv, List.length_map], by rw [List.length_map]; exact hc⟩
  obtain ⟨A2, c2, rfl, hcap2⟩ := h2.form
  go_wp2_with fail
  refine (bestCalendar_any _ xs _ _ _ ps _ _ _ h1 (by omega) (by omega) hsm h2 (by omega) (by omega)).mono ?_
  rintro e w3 ⟨yb0, rfl, hb0, b3⟩
  have zb3 := b3.size
  replace hx0 := hx0.below b3 (by omega)
  replace h1 := h1.below b3 (by omega)
  replace h2 := h2.below b3 (by omega)
  replace BB := Below.step b3 (by omega) BB
  clear b3
  go_wp2_with fail
  refine (sBestCalendar_any _ xs _ _ _ ps _ _ _ h1 (by omega) (by omega) hsm h2 (by omega) (by omega)).mono ?_
  rintro e w4 ⟨yb1, rfl, hb1, b4⟩
  have zb4 := b4.size
  replace hx0 := hx0.below b4 (by omega)
  replace h1 := h1.below b4 (by omega)
  replace h2 := h2.below b4 (by omega)
  replace hb0 := hb0.below b4 (by omega)
  replace BB := Below.step b4 (by omega) BB
  clear b4
  go_wp2_with fail
  refine (countCalendars_any _ xs _ _ _ ps _ _ _ h1 (by omega) (by omega) hsm h2 (by omega) (by omega)).mono ?_
  rintro e w5 ⟨rfl, b5⟩
  have zb5 := b5.size
  replace hx0 := hx0.below b5 (by omega)
  replace h1 := h1.below b5 (by omega)
  replace h2 := h2.below b5 (by omega)
  replace hb0 := hb0.below b5 (by omega)
  replace hb1 := hb1.below b5 (by omega)
  replace BB := Below.step b5 (by omega) BB
  clear b5
  go_wp2_with fail
  refine (sCountCalendars_any _ xs _ _ _ ps _ _ _ h1 (by omega) (by omega) hsm h2 (by omega) (by omega)).mono ?_
  rintro e w6 ⟨rfl, b6⟩
  have zb6 := b6.size
  replace hx0 := hx0.below b6 (by omega)
  replace h1 := h1.below b6 (by omega)
  replace h2 := h2.below b6 (by omega)
  replace hb0 := hb0.below b6 (by omega)
  replace hb1 := hb1.below b6 (by omega)
  replace BB := Below.step b6 (by omega) BB
  clear b6
  go_wp2_with fail
  refine (forcedChoices_any _ xs _ _ _ ps _ _ _ h1 (by omega) (by omega) hsm h2 (by omega) (by omega)).mono ?_
  rintro e w7 ⟨yf0, rfl, hf0, b7⟩
  have zb7 := b7.size
  replace hx0 := hx0.below b7 (by omega)
  replace h1 := h1.below b7 (by omega)
  replace h2 := h2.below b7 (by omega)
  replace hb0 := hb0.below b7 (by omega)
  replace hb1 := hb1.below b7 (by omega)
  replace BB := Below.step b7 (by omega) BB
  clear b7
  go_wp2_with fail
  refine (sForcedChoices_any _ xs _ _ _ ps _ _ _ h1 (by omega) (by omega) hsm h2 (by omega) (by omega)).mono ?_
  rintro e w8 ⟨yf1, rfl, hf1, b8⟩
  have zb8 := b8.size
  replace hx0 := hx0.below b8 (by omega)
  replace h1 := h1.below b8 (by omega)
  replace h2 := h2.below b8 (by omega)
  replace hb0 := hb0.below b8 (by omega)
  replace hb1 := hb1.below b8 (by omega)
  replace hf0 := hf0.below b8 (by omega)
  replace BB := Below.step b8 (by omega) BB
  clear b8
  go_wp2_with fail
  refine (mostHeld_any _ xs _ _ _ ps _ _ _ h1 (by omega) (by omega) hsm h2 (by omega) (by omega)).mono ?_
  rintro e w9 ⟨ym0, rfl, hm0, b9⟩
  have zb9 := b9.size
  replace hx0 := hx0.below b9 (by omega)
  replace h1 := h1.below b9 (by omega)
  replace h2 := h2.below b9 (by omega)
  replace hb0 := hb0.below b9 (by omega)
  replace hb1 := hb1.below b9 (by omega)
  replace hf0 := hf0.below b9 (by omega)
  replace hf1 := hf1.below b9 (by omega)
  replace BB := Below.step b9 (by omega) BB
  clear b9
  go_wp2_with fail
  refine (sMostHeld_any _ xs _ _ _ ps _ _ _ h1 (by omega) (by omega) hsm h2 (by omega) (by omega)).mono ?_
  rintro e w10 ⟨ym1, rfl, hm1, b10⟩
  have zb10 := b10.size
  replace hx0 := hx0.below b10 (by omega)
  replace h1 := h1.below b10 (by omega)
  replace h2 := h2.below b10 (by omega)
  replace hb0 := hb0.below b10 (by omega)
  replace hb1 := hb1.below b10 (by omega)
  replace hf0 := hf0.below b10 (by omega)
  replace hf1 := hf1.below b10 (by omega)
  replace hm0 := hm0.below b10 (by omega)
  replace BB := Below.step b10 (by omega) BB
  clear b10
  have hbl : (bestCal xs ps).1.length ≤ 1048576 := bestCal_len
  have hfl : (forcedCal xs ps).1.length ≤ 1048576 := forcedCal_len
  have hml : (mostHeld xs ps).1.length ≤ 1048576 := mostHeld_len
  obtain ⟨Ab, Cb, rfl, hcb⟩ := hb0.rd.form
  obtain ⟨Af, Cf, rfl, hcf⟩ := hf0.rd.form
  obtain ⟨Am, Cm, rfl, hcm⟩ := hm0.rd.form
  go_wp2_with fail
  refine (drawCostOf_any _ code _ _ _ hx0 (by omega) (by omega) hq0).mono ?_
  rintro e w11 ⟨v4, xs', v5, ps', v6, cal, rfl, hx'6, hxb', hp'9, hcl, h4, h5, h6, b11⟩
  have zb11 := b11.size
  replace hx0 := hx0.below b11 (by omega)
  replace h1 := h1.below b11 (by omega)
  replace h2 := h2.below b11 (by omega)
  replace hb0 := hb0.below b11 (by omega)
  replace hb1 := hb1.below b11 (by omega)
  replace hf0 := hf0.below b11 (by omega)
  replace hf1 := hf1.below b11 (by omega)
  replace hm0 := hm0.below b11 (by omega)
  replace hm1 := hm1.below b11 (by omega)
  replace BB := Below.step b11 (by omega) BB
  clear b11
  have hsm' : ∀ x ∈ xs', Hearing.small x := fun x hx => Hearing.small_of (hxb' x hx) (by omega)
  clear hxb'
  clear hx0
  go_wp2_with fail
  refine (impCostOf_any _ xs' _ _ _ ps' _ _ _ cal _ _ _ h4 (by omega) (by omega) hsm' h5 (by omega) (by omega) h6 (by omega) (by omega)).mono ?_
  rintro e w12 ⟨rfl, b12⟩
  have zb12 := b12.size
  replace h1 := h1.below b12 (by omega)
  replace h2 := h2.below b12 (by omega)
  replace hb0 := hb0.below b12 (by omega)
  replace hb1 := hb1.below b12 (by omega)
  replace hf0 := hf0.below b12 (by omega)
  replace hf1 := hf1.below b12 (by omega)
  replace hm0 := hm0.below b12 (by omega)
  replace hm1 := hm1.below b12 (by omega)
  replace h4 := h4.below b12 (by omega)
  replace h5 := h5.below b12 (by omega)
  replace h6 := h6.below b12 (by omega)
  replace BB := Below.step b12 (by omega) BB
  clear b12
  go_wp2_with fail
  refine (sCostOf_any _ xs' _ _ _ ps' _ _ _ cal _ _ _ h4 (by omega) (by omega) hsm' h5 (by omega) (by omega) h6 (by omega) (by omega)).mono ?_
  rintro e w13 ⟨rfl, b13⟩
  have zb13 := b13.size
  replace h1 := h1.below b13 (by omega)
  replace h2 := h2.below b13 (by omega)
  replace hb0 := hb0.below b13 (by omega)
  replace hb1 := hb1.below b13 (by omega)
  replace hf0 := hf0.below b13 (by omega)
  replace hf1 := hf1.below b13 (by omega)
  replace hm0 := hm0.below b13 (by omega)
  replace hm1 := hm1.below b13 (by omega)
  replace h4 := h4.below b13 (by omega)
  replace h5 := h5.below b13 (by omega)
  replace h6 := h6.below b13 (by omega)
  replace BB := Below.step b13 (by omega) BB
  clear b13
  go_wp2_with fail
  refine (impIsCalendar_any _ xs' _ _ _ ps' _ _ _ cal _ _ _ h4 (by omega) (by omega) hsm' h5 (by omega) (by omega) h6 (by omega) (by omega)).mono ?_
  rintro e w14 ⟨rfl, b14⟩
  have zb14 := b14.size
  replace h1 := h1.below b14 (by omega)
  replace h2 := h2.below b14 (by omega)
  replace hb0 := hb0.below b14 (by omega)
  replace hb1 := hb1.below b14 (by omega)
  replace hf0 := hf0.below b14 (by omega)
  replace hf1 := hf1.below b14 (by omega)
  replace hm0 := hm0.below b14 (by omega)
  replace hm1 := hm1.below b14 (by omega)
  replace h4 := h4.below b14 (by omega)
  replace h5 := h5.below b14 (by omega)
  replace h6 := h6.below b14 (by omega)
  replace BB := Below.step b14 (by omega) BB
  clear b14
  go_wp2_with fail
  refine (sIsCalendar_any _ xs' _ _ _ ps' _ _ _ cal _ _ _ h4 (by omega) (by omega) hsm' h5 (by omega) (by omega) h6 (by omega) (by omega)).mono ?_
  rintro e w15 ⟨rfl, b15⟩
  have zb15 := b15.size
  replace h1 := h1.below b15 (by omega)
  replace h2 := h2.below b15 (by omega)
  replace hb0 := hb0.below b15 (by omega)
  replace hb1 := hb1.below b15 (by omega)
  replace hf0 := hf0.below b15 (by omega)
  replace hf1 := hf1.below b15 (by omega)
  replace hm0 := hm0.below b15 (by omega)
  replace hm1 := hm1.below b15 (by omega)
  replace h4 := h4.below b15 (by omega)
  replace h5 := h5.below b15 (by omega)
  replace h6 := h6.below b15 (by omega)
  replace BB := Below.step b15 (by omega) BB
  clear b15
  clear h6
  go_wp2_with fail
  refine (likeInts_any _ _ (bestCal xs ps).1 _ _ _ _ _ hb0.rd (by omega) hb1.rd (by omega) hbl).mono ?_
  rintro e w16 ⟨rfl, b16⟩
  have zb16 := b16.size
  replace h1 := h1.below b16 (by omega)
  replace h2 := h2.below b16 (by omega)
  replace hb0 := hb0.below b16 (by omega)
  replace hb1 := hb1.below b16 (by omega)
  replace hf0 := hf0.below b16 (by omega)
  replace hf1 := hf1.below b16 (by omega)
  replace hm0 := hm0.below b16 (by omega)
  replace hm1 := hm1.below b16 (by omega)
  replace h4 := h4.below b16 (by omega)
  replace h5 := h5.below b16 (by omega)
  replace BB := Below.step b16 (by omega) BB
  clear b16
  go_wp2_with fail
  refine (likeInts_any _ _ (forcedCal xs ps).1 _ _ _ _ _ hf0.rd (by omega) hf1.rd (by omega) hfl).mono ?_
  rintro e w17 ⟨rfl, b17⟩
  have zb17 := b17.size
  replace h1 := h1.below b17 (by omega)
  replace h2 := h2.below b17 (by omega)
  replace hb0 := hb0.below b17 (by omega)
  replace hb1 := hb1.below b17 (by omega)
  replace hf0 := hf0.below b17 (by omega)
  replace hf1 := hf1.below b17 (by omega)
  replace hm0 := hm0.below b17 (by omega)
  replace hm1 := hm1.below b17 (by omega)
  replace h4 := h4.below b17 (by omega)
  replace h5 := h5.below b17 (by omega)
  replace BB := Below.step b17 (by omega) BB
  clear b17
  go_wp2_with fail
  refine (likeInts_any _ _ (mostHeld xs ps).1 _ _ _ _ _ hm0.rd (by omega) hm1.rd (by omega) hml).mono ?_
  rintro e w18 ⟨rfl, b18⟩
  have zb18 := b18.size
  replace h1 := h1.below b18 (by omega)
  replace h2 := h2.below b18 (by omega)
  replace hb0 := hb0.below b18 (by omega)
  replace hb1 := hb1.below b18 (by omega)
  replace hf0 := hf0.below b18 (by omega)
  replace hf1 := hf1.below b18 (by omega)
  replace hm0 := hm0.below b18 (by omega)
  replace hm1 := hm1.below b18 (by omega)
  replace h4 := h4.below b18 (by omega)
  replace h5 := h5.below b18 (by omega)
  replace BB := Below.step b18 (by omega) BB
  clear b18
  clear hb1 hf1 hm0 hm1
  go_wp2_with fail
  refine (areChoices_any _ ps _ _ _ h2 (by omega) (by omega)).mono ?_
  rintro e w19 ⟨rfl, b19⟩
  have zb19 := b19.size
  replace h1 := h1.below b19 (by omega)
  replace h2 := h2.below b19 (by omega)
  replace hb0 := hb0.below b19 (by omega)
  replace hf0 := hf0.below b19 (by omega)
  replace h4 := h4.below b19 (by omega)
  replace h5 := h5.below b19 (by omega)
  replace BB := Below.step b19 (by omega) BB
  clear b19
  go_wp2_with fail
  refine (sAreChoices_any _ ps _ _ _ h2 (by omega) (by omega)).mono ?_
  rintro e w20 ⟨rfl, b20⟩
  have zb20 := b20.size
  replace h1 := h1.below b20 (by omega)
  replace h2 := h2.below b20 (by omega)
  replace hb0 := hb0.below b20 (by omega)
  replace hf0 := hf0.below b20 (by omega)
  replace h4 := h4.below b20 (by omega)
  replace h5 := h5.below b20 (by omega)
  replace BB := Below.step b20 (by omega) BB
  clear b20
  generalize choicesOk ps = ch at *
  have HCL := Lib.hid (@count_law xs ps)
  have HCB := Lib.hid (@cost_best xs' ps' cal)
  have HIC := Lib.hid (@isCal_cost xs' ps' cal)
  have HBI := Lib.hid (@best_is xs ps)
  have HFB := Lib.hid (@forced_best xs ps)
  by_cases h7z : (costOf xs' ps' cal).2 = 0
  · obtain ⟨b1, b2⟩ := HCB.out h7z
    have hb2 : ((costOf xs' ps' cal).1 < (bestCal xs' ps').2.1) = False := by simp; omega
    have hb3 : ¬ (costOf xs' ps' cal).1 < (bestCal xs' ps').2.1 := by omega
    by_cases h9z : (isCal xs' ps' cal).2 = 0
    · have h91 := HIC.out h9z
      rw [decide_eq_true h7z] at h91
      rw [h91, h9z, h7z]
      go_wp2_with fail
      refine (bestCalendar_any _ xs' _ _ _ ps' _ _ _ h4 (by omega) (by omega) hsm' h5 (by omega) (by omega)).mono ?_
      rintro e w21 ⟨yx, rfl, hyx, b21⟩
      have zb21 := b21.size
      replace h1 := h1.below b21 (by omega)
      replace h2 := h2.below b21 (by omega)
      replace hb0 := hb0.below b21 (by omega)
      replace hf0 := hf0.below b21 (by omega)
      replace h4 := h4.below b21 (by omega)
      replace h5 := h5.below b21 (by omega)
      replace BB := Below.step b21 (by omega) BB
      clear b21
      rw [b1]
      clear h4 h5
      generalize (costOf xs' ps' cal).1 = c1' at *
      generalize (bestCal xs' ps').2.1 = c2' at *
      clear hyx
      by_cases h1z : (countCal xs ps).2 = 0
      · obtain ⟨q1, q2⟩ := HCL.out h1z
        rw [h1z]
        by_cases hz1 : (bestCal xs ps).2.2 = 0
        · have hk0 : (countCal xs ps).1 > 0 := of_decide_eq_true (q1.trans (decide_eq_true hz1))
          have hm0 : ((((mostHeld xs ps).1.length : Nat) : Int) == (xs.length : Int)) = true := by
            have h := of_decide_eq_true (q2.symm.trans (decide_eq_true hk0))
            rw [h]; simp
          clear q1 q2
          obtain ⟨-, -, hic⟩ := HBI.out hz1
          obtain ⟨hlen, hget⟩ := HFB.out hz1
          have HG := Lib.hid hget
          have HL := Lib.hid hlen
          have hln : ((((forcedCal xs ps).1.length : Nat) : Int) != (((bestCal xs ps).1.length : Nat) : Int)) = false := by simp; omega
          rw [hz1]
          clear hz1 hget hlen
          go_wp2_with fail
          refine (impIsCalendar_any _ xs _ _ _ ps _ _ _ (bestCal xs ps).1 _ _ _ h1 (by omega) (by omega) hsm h2 (by omega) (by omega) hb0.rd (by omega) hbl).mono ?_
          rintro e w22 ⟨rfl, b22⟩
          have zb22 := b22.size
          replace h1 := h1.below b22 (by omega)
          replace h2 := h2.below b22 (by omega)
          replace hb0 := hb0.below b22 (by omega)
          replace hf0 := hf0.below b22 (by omega)
          replace BB := Below.step b22 (by omega) BB
          clear b22
          rw [hic]
          clear h1 h2
          go_wp2_with fail
          go_loopw [39] (fun i wr => ∃ k : Nat, k ≤ (forcedCal xs ps).1.length ∧ i = .int .i64 k ∧ Below w22.heap.size w22 wr) (fun i _ => (forcedCal xs ps).1.length - (intOf i).toNat)
          case atStart => exact ⟨0, Nat.zero_le _, rfl, Below.refl _ _⟩
          case round =>
            obtain ⟨k, hk, rfl, hbel⟩ := hrel
            have z9 := hbel.size
            by_cases hlt : k < (forcedCal xs ps).1.length
            · have hki : (k : Int) < ((forcedCal xs ps).1.length : Int) := by omega
              have hkb : k < (bestCal xs ps).1.length := by rw [← HL.out]; exact hlt
              have hkbi : (k : Int) < ((bestCal xs ps).1.length : Int) := by omega
              obtain ⟨x, b0, off0, HS, rfl, -, hbw, hcell⟩ := RdF.get hf0.rd hbel (by omega) hlt
              have x1 : wr.cell? ⟨b0, off0 + k, none⟩ = some (.int .i64 x) := by simpa [encInt] using hcell 0 _ rfl
              obtain ⟨y, b1, off1, HS1, rfl, -, hbw1, hcell1⟩ := RdF.get hb0.rd hbel (by omega) hkb
              have y1 : wr.cell? ⟨b1, off1 + k, none⟩ = some (.int .i64 y) := by simpa [encInt] using hcell1 0 _ rfl
              clear hcell hcell1
              by_cases hx : 0 ≤ x
              · obtain rfl : y = x := by
                  have h := HG.out k x HS.out hx
                  rw [HS1.out] at h
                  injection h
                go_wp2_with fail
                go_quiet (fail)
                go_wp2_with fail
                go_roundw
                case rel => exact ⟨k + 1, by omega, by go_num, by (repeat (first | with_reducible assumption | with_reducible exact Below.refl _ _ | with_reducible refine Below.setCell ?_ ?_ _ | with_reducible refine Below.alloc ?_ ?_ _ | with_reducible refine Below.drew ?_ | with_reducible refine below_drewN ?_ _ | with_reducible refine Below.step (by with_reducible assumption) ?_ ?_ | omega | (simp <;> omega) | (simp; done)))⟩
                case measure => simp [intOf]; omega
              · have hx0 : decide (0 ≤ x) = false := decide_eq_false hx
                have hx1 : ¬ x ≥ 0 := hx
                go_wp2_with fail
                go_quiet (fail)
                go_wp2_with fail
                go_roundw
                case rel => exact ⟨k + 1, by omega, by go_num, by (repeat (first | with_reducible assumption | with_reducible exact Below.refl _ _ | with_reducible refine Below.setCell ?_ ?_ _ | with_reducible refine Below.alloc ?_ ?_ _ | with_reducible refine Below.drew ?_ | with_reducible refine below_drewN ?_ _ | with_reducible refine Below.step (by with_reducible assumption) ?_ ?_ | omega | (simp <;> omega) | (simp; done)))⟩
                case measure => simp [intOf]; omega
            · go_wp2_with fail
              go_ret
              exact ⟨rfl, by (repeat (first | with_reducible assumption | with_reducible exact Below.refl _ _ | with_reducible refine Below.setCell ?_ ?_ _ | with_reducible refine Below.alloc ?_ ?_ _ | with_reducible refine Below.drew ?_ | with_reducible refine below_drewN ?_ _ | with_reducible refine Below.step (by with_reducible assumption) ?_ ?_ | omega | (simp <;> omega) | (simp; done)))⟩
        · have hk0 : ¬ (countCal xs ps).1 > 0 := of_decide_eq_false (q1.trans (decide_eq_false hz1))
          have hm0 : ((((mostHeld xs ps).1.length : Nat) : Int) == (xs.length : Int)) = false := by
            have h := of_decide_eq_false (q2.symm.trans (decide_eq_false hk0))
            simpa using h
          have hz : ¬ (bestCal xs ps).2.2 = 0 := hz1
          have hz9 : ((bestCal xs ps).2.2 == 0) = false := by simpa using hz
          clear q1 q2 hz1
          generalize (bestCal xs ps).2.2 = bd at *
          have hz' : (bd != 0) = true := by simpa using hz
          go_wp2_with fail
          go_ret
          exact ⟨rfl, by (repeat (first | with_reducible assumption | with_reducible exact Below.refl _ _ | with_reducible refine Below.setCell ?_ ?_ _ | with_reducible refine Below.alloc ?_ ?_ _ | with_reducible refine Below.drew ?_ | with_reducible refine below_drewN ?_ _ | with_reducible refine Below.step (by with_reducible assumption) ?_ ?_ | omega | (simp <;> omega) | (simp; done)))⟩
      · have h10 : ((countCal xs ps).2 == 0) = false := by simpa using h1z
        generalize (countCal xs ps).2 = one at *
        by_cases hz1 : (bestCal xs ps).2.2 = 0
        · obtain ⟨-, -, hic⟩ := HBI.out hz1
          obtain ⟨hlen, hget⟩ := HFB.out hz1
          have HG := Lib.hid hget
          have HL := Lib.hid hlen
          have hln : ((((forcedCal xs ps).1.length : Nat) : Int) != (((bestCal xs ps).1.length : Nat) : Int)) = false := by simp; omega
          rw [hz1]
          clear hz1 hget hlen
          go_wp2_with fail
          refine (impIsCalendar_any _ xs _ _ _ ps _ _ _ (bestCal xs ps).1 _ _ _ h1 (by omega) (by omega) hsm h2 (by omega) (by omega) hb0.rd (by omega) hbl).mono ?_
          rintro e w22 ⟨rfl, b22⟩
          have zb22 := b22.size
          replace h1 := h1.below b22 (by omega)
          replace h2 := h2.below b22 (by omega)
          replace hb0 := hb0.below b22 (by omega)
          replace hf0 := hf0.below b22 (by omega)
          replace BB := Below.step b22 (by omega) BB
          clear b22
          rw [hic]
          clear h1 h2
          go_wp2_with fail
          go_loopw [39] (fun i wr => ∃ k : Nat, k ≤ (forcedCal xs ps).1.length ∧ i = .int .i64 k ∧ Below w22.heap.size w22 wr) (fun i _ => (forcedCal xs ps).1.length - (intOf i).toNat)
          case atStart => exact ⟨0, Nat.zero_le _, rfl, Below.refl _ _⟩
          case round =>
            obtain ⟨k, hk, rfl, hbel⟩ := hrel
            have z9 := hbel.size
            by_cases hlt : k < (forcedCal xs ps).1.length
            · have hki : (k : Int) < ((forcedCal xs ps).1.length : Int) := by omega
              have hkb : k < (bestCal xs ps).1.length := by rw [← HL.out]; exact hlt
              have hkbi : (k : Int) < ((bestCal xs ps).1.length : Int) := by omega
              obtain ⟨x, b0, off0, HS, rfl, -, hbw, hcell⟩ := RdF.get hf0.rd hbel (by omega) hlt
              have x1 : wr.cell? ⟨b0, off0 + k, none⟩ = some (.int .i64 x) := by simpa [encInt] using hcell 0 _ rfl
              obtain ⟨y, b1, off1, HS1, rfl, -, hbw1, hcell1⟩ := RdF.get hb0.rd hbel (by omega) hkb
              have y1 : wr.cell? ⟨b1, off1 + k, none⟩ = some (.int .i64 y) := by simpa [encInt] using hcell1 0 _ rfl
              clear hcell hcell1
              by_cases hx : 0 ≤ x
              · obtain rfl : y = x := by
                  have h := HG.out k x HS.out hx
                  rw [HS1.out] at h
                  injection h
                go_wp2_with fail
                go_quiet (fail)
                go_wp2_with fail
                go_roundw
                case rel => exact ⟨k + 1, by omega, by go_num, by (repeat (first | with_reducible assumption | with_reducible exact Below.refl _ _ | with_reducible refine Below.setCell ?_ ?_ _ | with_reducible refine Below.alloc ?_ ?_ _ | with_reducible refine Below.drew ?_ | with_reducible refine below_drewN ?_ _ | with_reducible refine Below.step (by with_reducible assumption) ?_ ?_ | omega | (simp <;> omega) | (simp; done)))⟩
                case measure => simp [intOf]; omega
              · have hx0 : decide (0 ≤ x) = false := decide_eq_false hx
                have hx1 : ¬ x ≥ 0 := hx
                go_wp2_with fail
                go_quiet (fail)
                go_wp2_with fail
                go_roundw
                case rel => exact ⟨k + 1, by omega, by go_num, by (repeat (first | with_reducible assumption | with_reducible exact Below.refl _ _ | with_reducible refine Below.setCell ?_ ?_ _ | with_reducible refine Below.alloc ?_ ?_ _ | with_reducible refine Below.drew ?_ | with_reducible refine below_drewN ?_ _ | with_reducible refine Below.step (by with_reducible assumption) ?_ ?_ | omega | (simp <;> omega) | (simp; done)))⟩
                case measure => simp [intOf]; omega
            · go_wp2_with fail
              go_ret
              exact ⟨rfl, by (repeat (first | with_reducible assumption | with_reducible exact Below.refl _ _ | with_reducible refine Below.setCell ?_ ?_ _ | with_reducible refine Below.alloc ?_ ?_ _ | with_reducible refine Below.drew ?_ | with_reducible refine below_drewN ?_ _ | with_reducible refine Below.step (by with_reducible assumption) ?_ ?_ | omega | (simp <;> omega) | (simp; done)))⟩
        · have hz : ¬ (bestCal xs ps).2.2 = 0 := hz1
          clear hz1
          generalize (bestCal xs ps).2.2 = bd at *
          have hz' : (bd != 0) = true := by simpa using hz
          go_wp2_with fail
          go_ret
          exact ⟨rfl, by (repeat (first | with_reducible assumption | with_reducible exact Below.refl _ _ | with_reducible refine Below.setCell ?_ ?_ _ | with_reducible refine Below.alloc ?_ ?_ _ | with_reducible refine Below.drew ?_ | with_reducible refine below_drewN ?_ _ | with_reducible refine Below.step (by with_reducible assumption) ?_ ?_ | omega | (simp <;> omega) | (simp; done)))⟩
    · have h90 : ((isCal xs' ps' cal).2 == 0) = false := by simpa using h9z
      generalize (isCal xs' ps' cal).2 = nine at *
      generalize (isCal xs' ps' cal).1 = is1 at *
      rw [h7z]
      go_wp2_with fail
      refine (bestCalendar_any _ xs' _ _ _ ps' _ _ _ h4 (by omega) (by omega) hsm' h5 (by omega) (by omega)).mono ?_
      rintro e w21 ⟨yx, rfl, hyx, b21⟩
      have zb21 := b21.size
      replace h1 := h1.below b21 (by omega)
      replace h2 := h2.below b21 (by omega)
      replace hb0 := hb0.below b21 (by omega)
      replace hf0 := hf0.below b21 (by omega)
      replace h4 := h4.below b21 (by omega)
      replace h5 := h5.below b21 (by omega)
      replace BB := Below.step b21 (by omega) BB
      clear b21
      rw [b1]
      clear h4 h5
      generalize (costOf xs' ps' cal).1 = c1' at *
      generalize (bestCal xs' ps').2.1 = c2' at *
      clear hyx
      by_cases h1z : (countCal xs ps).2 = 0
      · obtain ⟨q1, q2⟩ := HCL.out h1z
        rw [h1z]
        by_cases hz1 : (bestCal xs ps).2.2 = 0
        · have hk0 : (countCal xs ps).1 > 0 := of_decide_eq_true (q1.trans (decide_eq_true hz1))
          have hm0 : ((((mostHeld xs ps).1.length : Nat) : Int) == (xs.length : Int)) = true := by
            have h := of_decide_eq_true (q2.symm.trans (decide_eq_true hk0))
            rw [h]; simp
          clear q1 q2
          obtain ⟨-, -, hic⟩ := HBI.out hz1
          obtain ⟨hlen, hget⟩ := HFB.out hz1
          have HG := Lib.hid hget
          have HL := Lib.hid hlen
          have hln : ((((forcedCal xs ps).1.length : Nat) : Int) != (((bestCal xs ps).1.length : Nat) : Int)) = false := by simp; omega
          rw [hz1]
          clear hz1 hget hlen
          go_wp2_with fail
          refine (impIsCalendar_any _ xs _ _ _ ps _ _ _ (bestCal xs ps).1 _ _ _ h1 (by omega) (by omega) hsm h2 (by omega) (by omega) hb0.rd (by omega) hbl).mono ?_
          rintro e w22 ⟨rfl, b22⟩
          have zb22 := b22.size
          replace h1 := h1.below b22 (by omega)
          replace h2 := h2.below b22 (by omega)
          replace hb0 := hb0.below b22 (by omega)
          replace hf0 := hf0.below b22 (by omega)
          replace BB := Below.step b22 (by omega) BB
          clear b22
          rw [hic]
          clear h1 h2
          go_wp2_with fail
          go_loopw [39] (fun i wr => ∃ k : Nat, k ≤ (forcedCal xs ps).1.length ∧ i = .int .i64 k ∧ Below w22.heap.size w22 wr) (fun i _ => (forcedCal xs ps).1.length - (intOf i).toNat)
          case atStart => exact ⟨0, Nat.zero_le _, rfl, Below.refl _ _⟩
          case round =>
            obtain ⟨k, hk, rfl, hbel⟩ := hrel
            have z9 := hbel.size
            by_cases hlt : k < (forcedCal xs ps).1.length
            · have hki : (k : Int) < ((forcedCal xs ps).1.length : Int) := by omega
              have hkb : k < (bestCal xs ps).1.length := by rw [← HL.out]; exact hlt
              have hkbi : (k : Int) < ((bestCal xs ps).1.length : Int) := by omega
              obtain ⟨x, b0, off0, HS, rfl, -, hbw, hcell⟩ := RdF.get hf0.rd hbel (by omega) hlt
              have x1 : wr.cell? ⟨b0, off0 + k, none⟩ = some (.int .i64 x) := by simpa [encInt] using hcell 0 _ rfl
              obtain ⟨y, b1, off1, HS1, rfl, -, hbw1, hcell1⟩ := RdF.get hb0.rd hbel (by omega) hkb
              have y1 : wr.cell? ⟨b1, off1 + k, none⟩ = some (.int .i64 y) := by simpa [encInt] using hcell1 0 _ rfl
              clear hcell hcell1
              by_cases hx : 0 ≤ x
              · obtain rfl : y = x := by
                  have h := HG.out k x HS.out hx
                  rw [HS1.out] at h
                  injection h
                go_wp2_with fail
                go_quiet (fail)
                go_wp2_with fail
                go_roundw
                case rel => exact ⟨k + 1, by omega, by go_num, by (repeat (first | with_reducible assumption | with_reducible exact Below.refl _ _ | with_reducible refine Below.setCell ?_ ?_ _ | with_reducible refine Below.alloc ?_ ?_ _ | with_reducible refine Below.drew ?_ | with_reducible refine below_drewN ?_ _ | with_reducible refine Below.step (by with_reducible assumption) ?_ ?_ | omega | (simp <;> omega) | (simp; done)))⟩
                case measure => simp [intOf]; omega
              · have hx0 : decide (0 ≤ x) = false := decide_eq_false hx
                have hx1 : ¬ x ≥ 0 := hx
                go_wp2_with fail
                go_quiet (fail)
                go_wp2_with fail
                go_roundw
                case rel => exact ⟨k + 1, by omega, by go_num, by (repeat (first | with_reducible assumption | with_reducible exact Below.refl _ _ | with_reducible refine Below.setCell ?_ ?_ _ | with_reducible refine Below.alloc ?_ ?_ _ | with_reducible refine Below.drew ?_ | with_reducible refine below_drewN ?_ _ | with_reducible refine Below.step (by with_reducible assumption) ?_ ?_ | omega | (simp <;> omega) | (simp; done)))⟩
                case measure => simp [intOf]; omega
            · go_wp2_with fail
              go_ret
              exact ⟨rfl, by (repeat (first | with_reducible assumption | with_reducible exact Below.refl _ _ | with_reducible refine Below.setCell ?_ ?_ _ | with_reducible refine Below.alloc ?_ ?_ _ | with_reducible refine Below.drew ?_ | with_reducible refine below_drewN ?_ _ | with_reducible refine Below.step (by with_reducible assumption) ?_ ?_ | omega | (simp <;> omega) | (simp; done)))⟩
        · have hk0 : ¬ (countCal xs ps).1 > 0 := of_decide_eq_false (q1.trans (decide_eq_false hz1))
          have hm0 : ((((mostHeld xs ps).1.length : Nat) : Int) == (xs.length : Int)) = false := by
            have h := of_decide_eq_false (q2.symm.trans (decide_eq_false hk0))
            simpa using h
          have hz : ¬ (bestCal xs ps).2.2 = 0 := hz1
          have hz9 : ((bestCal xs ps).2.2 == 0) = false := by simpa using hz
          clear q1 q2 hz1
          generalize (bestCal xs ps).2.2 = bd at *
          have hz' : (bd != 0) = true := by simpa using hz
          go_wp2_with fail
          go_ret
          exact ⟨rfl, by (repeat (first | with_reducible assumption | with_reducible exact Below.refl _ _ | with_reducible refine Below.setCell ?_ ?_ _ | with_reducible refine Below.alloc ?_ ?_ _ | with_reducible refine Below.drew ?_ | with_reducible refine below_drewN ?_ _ | with_reducible refine Below.step (by with_reducible assumption) ?_ ?_ | omega | (simp <;> omega) | (simp; done)))⟩
      · have h10 : ((countCal xs ps).2 == 0) = false := by simpa using h1z
        generalize (countCal xs ps).2 = one at *
        by_cases hz1 : (bestCal xs ps).2.2 = 0
        · obtain ⟨-, -, hic⟩ := HBI.out hz1
          obtain ⟨hlen, hget⟩ := HFB.out hz1
          have HG := Lib.hid hget
          have HL := Lib.hid hlen
          have hln : ((((forcedCal xs ps).1.length : Nat) : Int) != (((bestCal xs ps).1.length : Nat) : Int)) = false := by simp; omega
          rw [hz1]
          clear hz1 hget hlen
          go_wp2_with fail
          refine (impIsCalendar_any _ xs _ _ _ ps _ _ _ (bestCal xs ps).1 _ _ _ h1 (by omega) (by omega) hsm h2 (by omega) (by omega) hb0.rd (by omega) hbl).mono ?_
          rintro e w22 ⟨rfl, b22⟩
          have zb22 := b22.size
          replace h1 := h1.below b22 (by omega)
          replace h2 := h2.below b22 (by omega)
          replace hb0 := hb0.below b22 (by omega)
          replace hf0 := hf0.below b22 (by omega)
          replace BB := Below.step b22 (by omega) BB
          clear b22
          rw [hic]
          clear h1 h2
          go_wp2_with fail
          go_loopw [39] (fun i wr => ∃ k : Nat, k ≤ (forcedCal xs ps).1.length ∧ i = .int .i64 k ∧ Below w22.heap.size w22 wr) (fun i _ => (forcedCal xs ps).1.length - (intOf i).toNat)
          case atStart => exact ⟨0, Nat.zero_le _, rfl, Below.refl _ _⟩
          case round =>
            obtain ⟨k, hk, rfl, hbel⟩ := hrel
            have z9 := hbel.size
            by_cases hlt : k < (forcedCal xs ps).1.length
            · have hki : (k : Int) < ((forcedCal xs ps).1.length : Int) := by omega
              have hkb : k < (bestCal xs ps).1.length := by rw [← HL.out]; exact hlt
              have hkbi : (k : Int) < ((bestCal xs ps).1.length : Int) := by omega
              obtain ⟨x, b0, off0, HS, rfl, -, hbw, hcell⟩ := RdF.get hf0.rd hbel (by omega) hlt
              have x1 : wr.cell? ⟨b0, off0 + k, none⟩ = some (.int .i64 x) := by simpa [encInt] using hcell 0 _ rfl
              obtain ⟨y, b1, off1, HS1, rfl, -, hbw1, hcell1⟩ := RdF.get hb0.rd hbel (by omega) hkb
              have y1 : wr.cell? ⟨b1, off1 + k, none⟩ = some (.int .i64 y) := by simpa [encInt] using hcell1 0 _ rfl
              clear hcell hcell1
              by_cases hx : 0 ≤ x
              · obtain rfl : y = x := by
                  have h := HG.out k x HS.out hx
                  rw [HS1.out] at h
                  injection h
                go_wp2_with fail
                go_quiet (fail)
                go_wp2_with fail
                go_roundw
                case rel => exact ⟨k + 1, by omega, by go_num, by (repeat (first | with_reducible assumption | with_reducible exact Below.refl _ _ | with_reducible refine Below.setCell ?_ ?_ _ | with_reducible refine Below.alloc ?_ ?_ _ | with_reducible refine Below.drew ?_ | with_reducible refine below_drewN ?_ _ | with_reducible refine Below.step (by with_reducible assumption) ?_ ?_ | omega | (simp <;> omega) | (simp; done)))⟩
                case measure => simp [intOf]; omega
              · have hx0 : decide (0 ≤ x) = false := decide_eq_false hx
                have hx1 : ¬ x ≥ 0 := hx
                go_wp2_with fail
                go_quiet (fail)
                go_wp2_with fail
                go_roundw
                case rel => exact ⟨k + 1, by omega, by go_num, by (repeat (first | with_reducible assumption | with_reducible exact Below.refl _ _ | with_reducible refine Below.setCell ?_ ?_ _ | with_reducible refine Below.alloc ?_ ?_ _ | with_reducible refine Below.drew ?_ | with_reducible refine below_drewN ?_ _ | with_reducible refine Below.step (by with_reducible assumption) ?_ ?_ | omega | (simp <;> omega) | (simp; done)))⟩
                case measure => simp [intOf]; omega
            · go_wp2_with fail
              go_ret
              exact ⟨rfl, by (repeat (first | with_reducible assumption | with_reducible exact Below.refl _ _ | with_reducible refine Below.setCell ?_ ?_ _ | with_reducible refine Below.alloc ?_ ?_ _ | with_reducible refine Below.drew ?_ | with_reducible refine below_drewN ?_ _ | with_reducible refine Below.step (by with_reducible assumption) ?_ ?_ | omega | (simp <;> omega) | (simp; done)))⟩
        · have hz : ¬ (bestCal xs ps).2.2 = 0 := hz1
          clear hz1
          generalize (bestCal xs ps).2.2 = bd at *
          have hz' : (bd != 0) = true := by simpa using hz
          go_wp2_with fail
          go_ret
          exact ⟨rfl, by (repeat (first | with_reducible assumption | with_reducible exact Below.refl _ _ | with_reducible refine Below.setCell ?_ ?_ _ | with_reducible refine Below.alloc ?_ ?_ _ | with_reducible refine Below.drew ?_ | with_reducible refine below_drewN ?_ _ | with_reducible refine Below.step (by with_reducible assumption) ?_ ?_ | omega | (simp <;> omega) | (simp; done)))⟩
  · have h70 : ((costOf xs' ps' cal).2 == 0) = false := by simpa using h7z
    by_cases h9z : (isCal xs' ps' cal).2 = 0
    · have h91 := HIC.out h9z
      rw [decide_eq_false h7z] at h91
      rw [h91, h9z]
      generalize (costOf xs' ps' cal).2 = sev at *
      generalize (costOf xs' ps' cal).1 = c1' at *
      clear h4 h5
      by_cases h1z : (countCal xs ps).2 = 0
      · obtain ⟨q1, q2⟩ := HCL.out h1z
        rw [h1z]
        by_cases hz1 : (bestCal xs ps).2.2 = 0
        · have hk0 : (countCal xs ps).1 > 0 := of_decide_eq_true (q1.trans (decide_eq_true hz1))
          have hm0 : ((((mostHeld xs ps).1.length : Nat) : Int) == (xs.length : Int)) = true := by
            have h := of_decide_eq_true (q2.symm.trans (decide_eq_true hk0))
            rw [h]; simp
          clear q1 q2
          obtain ⟨-, -, hic⟩ := HBI.out hz1
          obtain ⟨hlen, hget⟩ := HFB.out hz1
          have HG := Lib.hid hget
          have HL := Lib.hid hlen
          have hln : ((((forcedCal xs ps).1.length : Nat) : Int) != (((bestCal xs ps).1.length : Nat) : Int)) = false := by simp; omega
          rw [hz1]
          clear hz1 hget hlen
          go_wp2_with fail
          refine (impIsCalendar_any _ xs _ _ _ ps _ _ _ (bestCal xs ps).1 _ _ _ h1 (by omega) (by omega) hsm h2 (by omega) (by omega) hb0.rd (by omega) hbl).mono ?_
          rintro e w21 ⟨rfl, b21⟩
          have zb21 := b21.size
          replace h1 := h1.below b21 (by omega)
          replace h2 := h2.below b21 (by omega)
          replace hb0 := hb0.below b21 (by omega)
          replace hf0 := hf0.below b21 (by omega)
          replace BB := Below.step b21 (by omega) BB
          clear b21
          rw [hic]
          clear h1 h2
          go_wp2_with fail
          go_loopw [39] (fun i wr => ∃ k : Nat, k ≤ (forcedCal xs ps).1.length ∧ i = .int .i64 k ∧ Below w21.heap.size w21 wr) (fun i _ => (forcedCal xs ps).1.length - (intOf i).toNat)
          case atStart => exact ⟨0, Nat.zero_le _, rfl, Below.refl _ _⟩
          case round =>
            obtain ⟨k, hk, rfl, hbel⟩ := hrel
            have z9 := hbel.size
            by_cases hlt : k < (forcedCal xs ps).1.length
            · have hki : (k : Int) < ((forcedCal xs ps).1.length : Int) := by omega
              have hkb : k < (bestCal xs ps).1.length := by rw [← HL.out]; exact hlt
              have hkbi : (k : Int) < ((bestCal xs ps).1.length : Int) := by omega
              obtain ⟨x, b0, off0, HS, rfl, -, hbw, hcell⟩ := RdF.get hf0.rd hbel (by omega) hlt
              have x1 : wr.cell? ⟨b0, off0 + k, none⟩ = some (.int .i64 x) := by simpa [encInt] using hcell 0 _ rfl
              obtain ⟨y, b1, off1, HS1, rfl, -, hbw1, hcell1⟩ := RdF.get hb0.rd hbel (by omega) hkb
              have y1 : wr.cell? ⟨b1, off1 + k, none⟩ = some (.int .i64 y) := by simpa [encInt] using hcell1 0 _ rfl
              clear hcell hcell1
              by_cases hx : 0 ≤ x
              · obtain rfl : y = x := by
                  have h := HG.out k x HS.out hx
                  rw [HS1.out] at h
                  injection h
                go_wp2_with fail
                go_quiet (fail)
                go_wp2_with fail
                go_roundw
                case rel => exact ⟨k + 1, by omega, by go_num, by (repeat (first | with_reducible assumption | with_reducible exact Below.refl _ _ | with_reducible refine Below.setCell ?_ ?_ _ | with_reducible refine Below.alloc ?_ ?_ _ | with_reducible refine Below.drew ?_ | with_reducible refine below_drewN ?_ _ | with_reducible refine Below.step (by with_reducible assumption) ?_ ?_ | omega | (simp <;> omega) | (simp; done)))⟩
                case measure => simp [intOf]; omega
              · have hx0 : decide (0 ≤ x) = false := decide_eq_false hx
                have hx1 : ¬ x ≥ 0 := hx
                go_wp2_with fail
                go_quiet (fail)
                go_wp2_with fail
                go_roundw
                case rel => exact ⟨k + 1, by omega, by go_num, by (repeat (first | with_reducible assumption | with_reducible exact Below.refl _ _ | with_reducible refine Below.setCell ?_ ?_ _ | with_reducible refine Below.alloc ?_ ?_ _ | with_reducible refine Below.drew ?_ | with_reducible refine below_drewN ?_ _ | with_reducible refine Below.step (by with_reducible assumption) ?_ ?_ | omega | (simp <;> omega) | (simp; done)))⟩
                case measure => simp [intOf]; omega
            · go_wp2_with fail
              go_ret
              exact ⟨rfl, by (repeat (first | with_reducible assumption | with_reducible exact Below.refl _ _ | with_reducible refine Below.setCell ?_ ?_ _ | with_reducible refine Below.alloc ?_ ?_ _ | with_reducible refine Below.drew ?_ | with_reducible refine below_drewN ?_ _ | with_reducible refine Below.step (by with_reducible assumption) ?_ ?_ | omega | (simp <;> omega) | (simp; done)))⟩
        · have hk0 : ¬ (countCal xs ps).1 > 0 := of_decide_eq_false (q1.trans (decide_eq_false hz1))
          have hm0 : ((((mostHeld xs ps).1.length : Nat) : Int) == (xs.length : Int)) = false := by
            have h := of_decide_eq_false (q2.symm.trans (decide_eq_false hk0))
            simpa using h
          have hz : ¬ (bestCal xs ps).2.2 = 0 := hz1
          have hz9 : ((bestCal xs ps).2.2 == 0) = false := by simpa using hz
          clear q1 q2 hz1
          generalize (bestCal xs ps).2.2 = bd at *
          have hz' : (bd != 0) = true := by simpa using hz
          go_wp2_with fail
          go_ret
          exact ⟨rfl, by (repeat (first | with_reducible assumption | with_reducible exact Below.refl _ _ | with_reducible refine Below.setCell ?_ ?_ _ | with_reducible refine Below.alloc ?_ ?_ _ | with_reducible refine Below.drew ?_ | with_reducible refine below_drewN ?_ _ | with_reducible refine Below.step (by with_reducible assumption) ?_ ?_ | omega | (simp <;> omega) | (simp; done)))⟩
      · have h10 : ((countCal xs ps).2 == 0) = false := by simpa using h1z
        generalize (countCal xs ps).2 = one at *
        by_cases hz1 : (bestCal xs ps).2.2 = 0
        · obtain ⟨-, -, hic⟩ := HBI.out hz1
          obtain ⟨hlen, hget⟩ := HFB.out hz1
          have HG := Lib.hid hget
          have HL := Lib.hid hlen
          have hln : ((((forcedCal xs ps).1.length : Nat) : Int) != (((bestCal xs ps).1.length : Nat) : Int)) = false := by simp; omega
          rw [hz1]
          clear hz1 hget hlen
          go_wp2_with fail
          refine (impIsCalendar_any _ xs _ _ _ ps _ _ _ (bestCal xs ps).1 _ _ _ h1 (by omega) (by omega) hsm h2 (by omega) (by omega) hb0.rd (by omega) hbl).mono ?_
          rintro e w21 ⟨rfl, b21⟩
          have zb21 := b21.size
          replace h1 := h1.below b21 (by omega)
          replace h2 := h2.below b21 (by omega)
          replace hb0 := hb0.below b21 (by omega)
          replace hf0 := hf0.below b21 (by omega)
          replace BB := Below.step b21 (by omega) BB
          clear b21
          rw [hic]
          clear h1 h2
          go_wp2_with fail
          go_loopw [39] (fun i wr => ∃ k : Nat, k ≤ (forcedCal xs ps).1.length ∧ i = .int .i64 k ∧ Below w21.heap.size w21 wr) (fun i _ => (forcedCal xs ps).1.length - (intOf i).toNat)
          case atStart => exact ⟨0, Nat.zero_le _, rfl, Below.refl _ _⟩
          case round =>
            obtain ⟨k, hk, rfl, hbel⟩ := hrel
            have z9 := hbel.size
            by_cases hlt : k < (forcedCal xs ps).1.length
            · have hki : (k : Int) < ((forcedCal xs ps).1.length : Int) := by omega
              have hkb : k < (bestCal xs ps).1.length := by rw [← HL.out]; exact hlt
              have hkbi : (k : Int) < ((bestCal xs ps).1.length : Int) := by omega
              obtain ⟨x, b0, off0, HS, rfl, -, hbw, hcell⟩ := RdF.get hf0.rd hbel (by omega) hlt
              have x1 : wr.cell? ⟨b0, off0 + k, none⟩ = some (.int .i64 x) := by simpa [encInt] using hcell 0 _ rfl
              obtain ⟨y, b1, off1, HS1, rfl, -, hbw1, hcell1⟩ := RdF.get hb0.rd hbel (by omega) hkb
              have y1 : wr.cell? ⟨b1, off1 + k, none⟩ = some (.int .i64 y) := by simpa [encInt] using hcell1 0 _ rfl
              clear hcell hcell1
              by_cases hx : 0 ≤ x
              · obtain rfl : y = x := by
                  have h := HG.out k x HS.out hx
                  rw [HS1.out] at h
                  injection h
                go_wp2_with fail
                go_quiet (fail)
                go_wp2_with fail
                go_roundw
                case rel => exact ⟨k + 1, by omega, by go_num, by (repeat (first | with_reducible assumption | with_reducible exact Below.refl _ _ | with_reducible refine Below.setCell ?_ ?_ _ | with_reducible refine Below.alloc ?_ ?_ _ | with_reducible refine Below.drew ?_ | with_reducible refine below_drewN ?_ _ | with_reducible refine Below.step (by with_reducible assumption) ?_ ?_ | omega | (simp <;> omega) | (simp; done)))⟩
                case measure => simp [intOf]; omega
              · have hx0 : decide (0 ≤ x) = false := decide_eq_false hx
                have hx1 : ¬ x ≥ 0 := hx
                go_wp2_with fail
                go_quiet (fail)
                go_wp2_with fail
                go_roundw
                case rel => exact ⟨k + 1, by omega, by go_num, by (repeat (first | with_reducible assumption | with_reducible exact Below.refl _ _ | with_reducible refine Below.setCell ?_ ?_ _ | with_reducible refine Below.alloc ?_ ?_ _ | with_reducible refine Below.drew ?_ | with_reducible refine below_drewN ?_ _ | with_reducible refine Below.step (by with_reducible assumption) ?_ ?_ | omega | (simp <;> omega) | (simp; done)))⟩
                case measure => simp [intOf]; omega
            · go_wp2_with fail
              go_ret
              exact ⟨rfl, by (repeat (first | with_reducible assumption | with_reducible exact Below.refl _ _ | with_reducible refine Below.setCell ?_ ?_ _ | with_reducible refine Below.alloc ?_ ?_ _ | with_reducible refine Below.drew ?_ | with_reducible refine below_drewN ?_ _ | with_reducible refine Below.step (by with_reducible assumption) ?_ ?_ | omega | (simp <;> omega) | (simp; done)))⟩
        · have hz : ¬ (bestCal xs ps).2.2 = 0 := hz1
          clear hz1
          generalize (bestCal xs ps).2.2 = bd at *
          have hz' : (bd != 0) = true := by simpa using hz
          go_wp2_with fail
          go_ret
          exact ⟨rfl, by (repeat (first | with_reducible assumption | with_reducible exact Below.refl _ _ | with_reducible refine Below.setCell ?_ ?_ _ | with_reducible refine Below.alloc ?_ ?_ _ | with_reducible refine Below.drew ?_ | with_reducible refine below_drewN ?_ _ | with_reducible refine Below.step (by with_reducible assumption) ?_ ?_ | omega | (simp <;> omega) | (simp; done)))⟩
    · have h90 : ((isCal xs' ps' cal).2 == 0) = false := by simpa using h9z
      generalize (isCal xs' ps' cal).2 = nine at *
      generalize (isCal xs' ps' cal).1 = is1 at *
      generalize (costOf xs' ps' cal).2 = sev at *
      generalize (costOf xs' ps' cal).1 = c1' at *
      clear h4 h5
      by_cases h1z : (countCal xs ps).2 = 0
      · obtain ⟨q1, q2⟩ := HCL.out h1z
        rw [h1z]
        by_cases hz1 : (bestCal xs ps).2.2 = 0
        · have hk0 : (countCal xs ps).1 > 0 := of_decide_eq_true (q1.trans (decide_eq_true hz1))
          have hm0 : ((((mostHeld xs ps).1.length : Nat) : Int) == (xs.length : Int)) = true := by
            have h := of_decide_eq_true (q2.symm.trans (decide_eq_true hk0))
            rw [h]; simp
          clear q1 q2
          obtain ⟨-, -, hic⟩ := HBI.out hz1
          obtain ⟨hlen, hget⟩ := HFB.out hz1
          have HG := Lib.hid hget
          have HL := Lib.hid hlen
          have hln : ((((forcedCal xs ps).1.length : Nat) : Int) != (((bestCal xs ps).1.length : Nat) : Int)) = false := by simp; omega
          rw [hz1]
          clear hz1 hget hlen
          go_wp2_with fail
          refine (impIsCalendar_any _ xs _ _ _ ps _ _ _ (bestCal xs ps).1 _ _ _ h1 (by omega) (by omega) hsm h2 (by omega) (by omega) hb0.rd (by omega) hbl).mono ?_
          rintro e w21 ⟨rfl, b21⟩
          have zb21 := b21.size
          replace h1 := h1.below b21 (by omega)
          replace h2 := h2.below b21 (by omega)
          replace hb0 := hb0.below b21 (by omega)
          replace hf0 := hf0.below b21 (by omega)
          replace BB := Below.step b21 (by omega) BB
          clear b21
          rw [hic]
          clear h1 h2
          go_wp2_with fail
          go_loopw [39] (fun i wr => ∃ k : Nat, k ≤ (forcedCal xs ps).1.length ∧ i = .int .i64 k ∧ Below w21.heap.size w21 wr) (fun i _ => (forcedCal xs ps).1.length - (intOf i).toNat)
          case atStart => exact ⟨0, Nat.zero_le _, rfl, Below.refl _ _⟩
          case round =>
            obtain ⟨k, hk, rfl, hbel⟩ := hrel
            have z9 := hbel.size
            by_cases hlt : k < (forcedCal xs ps).1.length
            · have hki : (k : Int) < ((forcedCal xs ps).1.length : Int) := by omega
              have hkb : k < (bestCal xs ps).1.length := by rw [← HL.out]; exact hlt
              have hkbi : (k : Int) < ((bestCal xs ps).1.length : Int) := by omega
              obtain ⟨x, b0, off0, HS, rfl, -, hbw, hcell⟩ := RdF.get hf0.rd hbel (by omega) hlt
              have x1 : wr.cell? ⟨b0, off0 + k, none⟩ = some (.int .i64 x) := by simpa [encInt] using hcell 0 _ rfl
              obtain ⟨y, b1, off1, HS1, rfl, -, hbw1, hcell1⟩ := RdF.get hb0.rd hbel (by omega) hkb
              have y1 : wr.cell? ⟨b1, off1 + k, none⟩ = some (.int .i64 y) := by simpa [encInt] using hcell1 0 _ rfl
              clear hcell hcell1
              by_cases hx : 0 ≤ x
              · obtain rfl : y = x := by
                  have h := HG.out k x HS.out hx
                  rw [HS1.out] at h
                  injection h
                go_wp2_with fail
                go_quiet (fail)
                go_wp2_with fail
                go_roundw
                case rel => exact ⟨k + 1, by omega, by go_num, by (repeat (first | with_reducible assumption | with_reducible exact Below.refl _ _ | with_reducible refine Below.setCell ?_ ?_ _ | with_reducible refine Below.alloc ?_ ?_ _ | with_reducible refine Below.drew ?_ | with_reducible refine below_drewN ?_ _ | with_reducible refine Below.step (by with_reducible assumption) ?_ ?_ | omega | (simp <;> omega) | (simp; done)))⟩
                case measure => simp [intOf]; omega
              · have hx0 : decide (0 ≤ x) = false := decide_eq_false hx
                have hx1 : ¬ x ≥ 0 := hx
                go_wp2_with fail
                go_quiet (fail)
                go_wp2_with fail
                go_roundw
                case rel => exact ⟨k + 1, by omega, by go_num, by (repeat (first | with_reducible assumption | with_reducible exact Below.refl _ _ | with_reducible refine Below.setCell ?_ ?_ _ | with_reducible refine Below.alloc ?_ ?_ _ | with_reducible refine Below.drew ?_ | with_reducible refine below_drewN ?_ _ | with_reducible refine Below.step (by with_reducible assumption) ?_ ?_ | omega | (simp <;> omega) | (simp; done)))⟩
                case measure => simp [intOf]; omega
            · go_wp2_with fail
              go_ret
              exact ⟨rfl, by (repeat (first | with_reducible assumption | with_reducible exact Below.refl _ _ | with_reducible refine Below.setCell ?_ ?_ _ | with_reducible refine Below.alloc ?_ ?_ _ | with_reducible refine Below.drew ?_ | with_reducible refine below_drewN ?_ _ | with_reducible refine Below.step (by with_reducible assumption) ?_ ?_ | omega | (simp <;> omega) | (simp; done)))⟩
        · have hk0 : ¬ (countCal xs ps).1 > 0 := of_decide_eq_false (q1.trans (decide_eq_false hz1))
          have hm0 : ((((mostHeld xs ps).1.length : Nat) : Int) == (xs.length : Int)) = false := by
            have h := of_decide_eq_false (q2.symm.trans (decide_eq_false hk0))
            simpa using h
          have hz : ¬ (bestCal xs ps).2.2 = 0 := hz1
          have hz9 : ((bestCal xs ps).2.2 == 0) = false := by simpa using hz
          clear q1 q2 hz1
          generalize (bestCal xs ps).2.2 = bd at *
          have hz' : (bd != 0) = true := by simpa using hz
          go_wp2_with fail
          go_ret
          exact ⟨rfl, by (repeat (first | with_reducible assumption | with_reducible exact Below.refl _ _ | with_reducible refine Below.setCell ?_ ?_ _ | with_reducible refine Below.alloc ?_ ?_ _ | with_reducible refine Below.drew ?_ | with_reducible refine below_drewN ?_ _ | with_reducible refine Below.step (by with_reducible assumption) ?_ ?_ | omega | (simp <;> omega) | (simp; done)))⟩
      · have h10 : ((countCal xs ps).2 == 0) = false := by simpa using h1z
        generalize (countCal xs ps).2 = one at *
        by_cases hz1 : (bestCal xs ps).2.2 = 0
        · obtain ⟨-, -, hic⟩ := HBI.out hz1
          obtain ⟨hlen, hget⟩ := HFB.out hz1
          have HG := Lib.hid hget
          have HL := Lib.hid hlen
          have hln : ((((forcedCal xs ps).1.length : Nat) : Int) != (((bestCal xs ps).1.length : Nat) : Int)) = false := by simp; omega
          rw [hz1]
          clear hz1 hget hlen
          go_wp2_with fail
          refine (impIsCalendar_any _ xs _ _ _ ps _ _ _ (bestCal xs ps).1 _ _ _ h1 (by omega) (by omega) hsm h2 (by omega) (by omega) hb0.rd (by omega) hbl).mono ?_
          rintro e w21 ⟨rfl, b21⟩
          have zb21 := b21.size
          replace h1 := h1.below b21 (by omega)
          replace h2 := h2.below b21 (by omega)
          replace hb0 := hb0.below b21 (by omega)
          replace hf0 := hf0.below b21 (by omega)
          replace BB := Below.step b21 (by omega) BB
          clear b21
          rw [hic]
          clear h1 h2
          go_wp2_with fail
          go_loopw [39] (fun i wr => ∃ k : Nat, k ≤ (forcedCal xs ps).1.length ∧ i = .int .i64 k ∧ Below w21.heap.size w21 wr) (fun i _ => (forcedCal xs ps).1.length - (intOf i).toNat)
          case atStart => exact ⟨0, Nat.zero_le _, rfl, Below.refl _ _⟩
          case round =>
            obtain ⟨k, hk, rfl, hbel⟩ := hrel
            have z9 := hbel.size
            by_cases hlt : k < (forcedCal xs ps).1.length
            · have hki : (k : Int) < ((forcedCal xs ps).1.length : Int) := by omega
              have hkb : k < (bestCal xs ps).1.length := by rw [← HL.out]; exact hlt
              have hkbi : (k : Int) < ((bestCal xs ps).1.length : Int) := by omega
              obtain ⟨x, b0, off0, HS, rfl, -, hbw, hcell⟩ := RdF.get hf0.rd hbel (by omega) hlt
              have x1 : wr.cell? ⟨b0, off0 + k, none⟩ = some (.int .i64 x) := by simpa [encInt] using hcell 0 _ rfl
              obtain ⟨y, b1, off1, HS1, rfl, -, hbw1, hcell1⟩ := RdF.get hb0.rd hbel (by omega) hkb
              have y1 : wr.cell? ⟨b1, off1 + k, none⟩ = some (.int .i64 y) := by simpa [encInt] using hcell1 0 _ rfl
              clear hcell hcell1
              by_cases hx : 0 ≤ x
              · obtain rfl : y = x := by
                  have h := HG.out k x HS.out hx
                  rw [HS1.out] at h
                  injection h
                go_wp2_with fail
                go_quiet (fail)
                go_wp2_with fail
                go_roundw
                case rel => exact ⟨k + 1, by omega, by go_num, by (repeat (first | with_reducible assumption | with_reducible exact Below.refl _ _ | with_reducible refine Below.setCell ?_ ?_ _ | with_reducible refine Below.alloc ?_ ?_ _ | with_reducible refine Below.drew ?_ | with_reducible refine below_drewN ?_ _ | with_reducible refine Below.step (by with_reducible assumption) ?_ ?_ | omega | (simp <;> omega) | (simp; done)))⟩
                case measure => simp [intOf]; omega
              · have hx0 : decide (0 ≤ x) = false := decide_eq_false hx
                have hx1 : ¬ x ≥ 0 := hx
                go_wp2_with fail
                go_quiet (fail)
                go_wp2_with fail
                go_roundw
                case rel => exact ⟨k + 1, by omega, by go_num, by (repeat (first | with_reducible assumption | with_reducible exact Below.refl _ _ | with_reducible refine Below.setCell ?_ ?_ _ | with_reducible refine Below.alloc ?_ ?_ _ | with_reducible refine Below.drew ?_ | with_reducible refine below_drewN ?_ _ | with_reducible refine Below.step (by with_reducible assumption) ?_ ?_ | omega | (simp <;> omega) | (simp; done)))⟩
                case measure => simp [intOf]; omega
            · go_wp2_with fail
              go_ret
              exact ⟨rfl, by (repeat (first | with_reducible assumption | with_reducible exact Below.refl _ _ | with_reducible refine Below.setCell ?_ ?_ _ | with_reducible refine Below.alloc ?_ ?_ _ | with_reducible refine Below.drew ?_ | with_reducible refine below_drewN ?_ _ | with_reducible refine Below.step (by with_reducible assumption) ?_ ?_ | omega | (simp <;> omega) | (simp; done)))⟩
        · have hz : ¬ (bestCal xs ps).2.2 = 0 := hz1
          clear hz1
          generalize (bestCal xs ps).2.2 = bd at *
          have hz' : (bd != 0) = true := by simpa using hz
          go_wp2_with fail
          go_ret
          exact ⟨rfl, by (repeat (first | with_reducible assumption | with_reducible exact Below.refl _ _ | with_reducible refine Below.setCell ?_ ?_ _ | with_reducible refine Below.alloc ?_ ?_ _ | with_reducible refine Below.drew ?_ | with_reducible refine below_drewN ?_ _ | with_reducible refine Below.step (by with_reducible assumption) ?_ ?_ | omega | (simp <;> omega) | (simp; done)))⟩

set_option maxRecDepth 100000 in
theorem lifted (os : Os) (started : os.Started) (H : Type) (enc : TypeId × Value → H) :
    ReturnsInHanded {} Tryz.checked os 3 .any (Rows.fnCalendarsSpec.pre6 enc Tryz.prog Tryz.f3 Rows.fnCalendarsRow.domain false) (Rows.fnCalendarsSpec.post enc Tryz.prog Tryz.f3 false true false false) := by
  refine returnsInHanded_of_change (C := Tryz.checked) own started (by kernel_rfl) Tryz.func3
    (ChangeSpec.witness6 (enc := enc) (C := Tryz.checked) false ⟨#[], #[.slice none 0 0], []⟩ 8 (by kernel_rfl) (by kernel_rfl) (by kernel_rfl) (by kernel_rfl)) ?_
  intro W base args ds gs before hval0 hW hcnd _
  have hval : ∀ (j : Nat) t v, Tryz.f3.params[j]? = some t → args[j]? = some v → Value.okWide Tryz.prog W .any base t v := hval0
  have hW' := hW
  obtain ⟨p, q, hA0, hV, rfl, hfz, hnd⟩ := hW
  have hA : DataW.TrodAll enc Tryz.prog W 0 (fun _ => true) true Tryz.f3.params.toList args.toList ds p := hA0
  rw [Tryz.params3] at hA hval
  obtain ⟨v0, vs0, d0, ds0, p0, q0, hargs, rfl, rfl, h0, r0⟩ := trodAll_cons hA
  obtain ⟨rfl, rfl, rfl⟩ := trodAll_nil r0
  obtain rfl : args = #[v0] := by cases args; simp_all
  obtain ⟨rfl, rfl⟩ := trodVars_none hV
  have k0 := h0
  have lt0 : ∀ x ∈ p0, x.block < W.heap.size := by obtain ⟨m, hm⟩ := k0; exact DataW.trod_lt m _ _ _ hm
  obtain ⟨code, hx0, hl0, hq0⟩ := open_bytes Tryz.underlying22 Tryz.underlying5 (by kernel_rfl) (hval 0 22 v0 rfl rfl) h0
  clear hA0 hval0
  refine (walk v0 code W hx0 hl0 hq0).mono fun e W' ⟨he, bel⟩ => ?_
  subst he
  exact ⟨_, rfl, _, _, _, [], _, [], hW', trodAll_mk1 (shut_bool Tryz.underlying4 _), (trodAll_cons_mk (Below.trod laidOut (by kernel_rfl) (of_decide_eq_true (by kernel_rfl)) k0 bel lt0) trodAll_mk0), rfl, bel.frame _, fun h => by cases h⟩

theorem over : Rows.fnCalendarsRow.holds Tryz.pinned (OpenSpec.ofChange Rows.fnCalendarsSpec) :=
  OpenClaim.holds_of_wide 3 Tryz.f3 rfl rfl rfl rfl rfl rfl rfl ⟨rfl, rfl, rfl, rfl, rfl⟩ rfl rfl rfl rfl rfl (by kernel_rfl) Tryz.func3 (by kernel_rfl)
    (of_decide_eq_true (by kernel_rfl)) (by unfold Func.isWrapper; first | (rw [if_pos (by decide +kernel)]; kernel_rfl) | (rw [if_neg (by decide +kernel)]; exact ⟨rfl, rfl⟩))
    (fun os started H enc _ => lifted os started H enc)

theorem proved : Rows.FnCalendarsSaid := over
#print axioms proved
end Go.Proofs.YtmgdkblleljdaaaGreat.calendarsL
