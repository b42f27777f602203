/- A custody that goes on lawfully stays lawful, and extending gives no less time: returns true for all arguments. No conditions. -/
import Derived.Test.YtfafcicbfgdmcaaCustL
import Derived.Test.YtfafcicbfgdmcaaDrawCv
import Derived.Test.YtfafcicbfgdmcaaLike
import Derived.Test.YtfafcicbfgdmcaaLikeC
import Derived.Test.YtfafcicbfgdmcaaOpenB
import Derived.Test.YtfafcicbfgdmcaaReachX
import Derived.Test.YtfafcicbfgdmcaaLawfulW
import Derived.Test.YtfafcicbfgdmcaaCustodyX
namespace Go.Proofs.Ytfafcicbfgdmcaa.custodyL
open Go.ChangeShapes Go.WideShapes Go.ChangeAt Go.RowKit
open Go.ChangeMaps (open_string shut_string)
set_option linter.unusedVariables false

theorem own : ownKnob Try.prog.godebug = none := by kernel_rfl
theorem laidOut : laidOutB Try.prog = true := by kernel_rfl


set_option maxRecDepth 100000 in
set_option maxHeartbeats 40000000 in
theorem walk (v0 : Value) (code : List Int) (w : World) (hx0 : RdF encByte 1 w 0 w.heap.size v0 code) (hl0 : code.length ≤ maxLen) (hq0 : ∀ x ∈ code, 0 ≤ x ∧ x ≤ 255) :
    Calls Try.prog 4 #[v0] w fun e w' => e = .returned (.bool true) ∧ Below w.heap.size w w' := by
  try unfold maxLen at *
  obtain ⟨A0, C0, rfl, hc0⟩ := hx0.form
  by_cases hbig : (4096 : Int) < (code.length : Int)
  · go_enter Try.func4, Try.ntmps4
    go_wp2_with fail
    refine (big_any A0 C0 code.length _).mono ?_
    rintro e w1 ⟨rfl, b1⟩
    rw [decide_eq_true hbig]
    go_wp2_with fail
    go_ret
    exact ⟨rfl, b1⟩
  go_enter Try.func4, Try.ntmps4
  have BB : Below w.heap.size w w := Below.refl _ _
  go_wp2_with fail
  refine (big_any A0 C0 code.length _).mono ?_
  rintro e w1 ⟨rfl, b1⟩
  have zb1 := b1.size
  replace hx0 := hx0.below b1 (by omega)
  replace BB := Below.step b1 (by omega) BB
  clear b1
  rw [decide_eq_false (show ¬ (4096 : Int) < (code.length : Int) by omega)]
  go_wp2_with fail
  refine (drawReach_any _ code _ _ _ hx0 (by omega) (by omega) hq0).mono ?_
  rintro e w2 ⟨v1, rules, v2, hol, c, p0, p1, day, rfl, hn3, hrb, hh60, hcd, hce, hst, hst', h1, h2, h3, h4, b2⟩
  have zb2 := b2.size
  replace hx0 := hx0.below b2 (by omega)
  replace BB := Below.step b2 (by omega) BB
  clear b2
  obtain ⟨A1, C1, rfl, hC1⟩ := h1.form
  obtain ⟨A2, C2, rfl, hC2⟩ := h2.form
  obtain ⟨A3, C3, rfl, hC3⟩ := h3.form
  obtain ⟨A4, C4, rfl, hC4⟩ := h4.form
  have hsr : ∀ x ∈ rules, Stage.small x := fun x hx => by
    have := hrb x hx
    unfold Stage.small
    omega
  clear hrb
  have hsc : Custody.small c := ⟨by omega, by omega⟩
  clear hx0
  go_wp2_with fail
  have bA : Below w2.heap.size w2 (w2.alloc (.cells #[.int .i64 c.start, .slice A3 c.done.length C3, .slice A4 c.ext.length C4] 28)) := (Below.refl _ _).alloc (Nat.le_refl _) _
  have zzA : (w2.alloc (.cells #[.int .i64 c.start, .slice A3 c.done.length C3, .slice A4 c.ext.length C4] 28)).heap.size = w2.heap.size + 1 := by simp
  have kc : Blk (w2.alloc (.cells #[.int .i64 c.start, .slice A3 c.done.length C3, .slice A4 c.ext.length C4] 28)) (w2.heap.size) 28 #[.int .i64 c.start, .slice A3 c.done.length C3, .slice A4 c.ext.length C4] := Blk.newAt rfl
  have zbA := bA.size
  replace h1 := h1.below bA (by omega)
  replace h2 := h2.below bA (by omega)
  replace h3 := h3.below bA (by omega)
  replace h4 := h4.below bA (by omega)
  replace BB := Below.step bA (by omega) BB
  clear bA
  generalize (w2.alloc (.cells #[.int .i64 c.start, .slice A3 c.done.length C3, .slice A4 c.ext.length C4] 28)) = wA at *
  refine (impReachStage_any _ rules _ _ _ hol _ _ c (.slice A3 c.done.length C3) (.slice A4 c.ext.length C4) _ _ day _ h1 (by omega) (by omega) hsr h2 (by omega) (by omega) h3 h4 (by omega) hsc).mono ?_
  rintro e w3 ⟨r0_0, r0_1, rfl, hr0_0, hr0_1, b3⟩
  have zb3 := b3.size
  replace h1 := h1.below b3 (by omega)
  replace h2 := h2.below b3 (by omega)
  replace h3 := h3.below b3 (by omega)
  replace h4 := h4.below b3 (by omega)
  replace kc := kc.below b3 (by omega)
  replace BB := Below.step b3 (by omega) BB
  clear b3
  obtain ⟨Y0_0, Z0_0, rfl, hz0_0⟩ := hr0_0.form
  obtain ⟨Y0_1, Z0_1, rfl, hz0_1⟩ := hr0_1.form
  obtain ⟨q0, q1, q2⟩ := (kc.alloc (.cells #[.int .i64 (reachStage rules hol c day).1.start, .slice Y0_0 (reachStage rules hol c day).1.done.length Z0_0, .slice Y0_1 (reachStage rules hol c day).1.ext.length Z0_1] 28)).c3
  go_wp2_with fail
  have bB0 : Below w3.heap.size w3 (w3.alloc (.cells #[.int .i64 (reachStage rules hol c day).1.start, .slice Y0_0 (reachStage rules hol c day).1.done.length Z0_0, .slice Y0_1 (reachStage rules hol c day).1.ext.length Z0_1] 28)) := (Below.refl _ _).alloc (Nat.le_refl _) _
  have zzB0 : (w3.alloc (.cells #[.int .i64 (reachStage rules hol c day).1.start, .slice Y0_0 (reachStage rules hol c day).1.done.length Z0_0, .slice Y0_1 (reachStage rules hol c day).1.ext.length Z0_1] 28)).heap.size = w3.heap.size + 1 := by simp
  have kr0 : Blk (w3.alloc (.cells #[.int .i64 (reachStage rules hol c day).1.start, .slice Y0_0 (reachStage rules hol c day).1.done.length Z0_0, .slice Y0_1 (reachStage rules hol c day).1.ext.length Z0_1] 28)) (w3.heap.size) 28 #[.int .i64 (reachStage rules hol c day).1.start, .slice Y0_0 (reachStage rules hol c day).1.done.length Z0_0, .slice Y0_1 (reachStage rules hol c day).1.ext.length Z0_1] := Blk.newAt rfl
  clear q0 q1 q2
  have zbB0 := bB0.size
  replace h1 := h1.below bB0 (by omega)
  replace h2 := h2.below bB0 (by omega)
  replace h3 := h3.below bB0 (by omega)
  replace h4 := h4.below bB0 (by omega)
  replace kc := kc.below bB0 (by omega)
  replace hr0_0 := hr0_0.below bB0 (by omega)
  replace hr0_1 := hr0_1.below bB0 (by omega)
  replace BB := Below.step bB0 (by omega) BB
  clear bB0
  generalize (w3.alloc (.cells #[.int .i64 (reachStage rules hol c day).1.start, .slice Y0_0 (reachStage rules hol c day).1.done.length Z0_0, .slice Y0_1 (reachStage rules hol c day).1.ext.length Z0_1] 28)) = wB0 at *
  refine (sReachStage_any _ rules _ _ _ hol _ _ c (.slice A3 c.done.length C3) (.slice A4 c.ext.length C4) _ _ day _ h1 (by omega) (by omega) hsr h2 (by omega) (by omega) h3 h4 (by omega) hsc).mono ?_
  rintro e w4 ⟨r1_0, r1_1, rfl, hr1_0, hr1_1, b4⟩
  have zb4 := b4.size
  replace h1 := h1.below b4 (by omega)
  replace h2 := h2.below b4 (by omega)
  replace h3 := h3.below b4 (by omega)
  replace h4 := h4.below b4 (by omega)
  replace kc := kc.below b4 (by omega)
  replace hr0_0 := hr0_0.below b4 (by omega)
  replace hr0_1 := hr0_1.below b4 (by omega)
  replace kr0 := kr0.below b4 (by omega)
  replace BB := Below.step b4 (by omega) BB
  clear b4
  obtain ⟨Y1_0, Z1_0, rfl, hz1_0⟩ := hr1_0.form
  obtain ⟨Y1_1, Z1_1, rfl, hz1_1⟩ := hr1_1.form
  obtain ⟨q0, q1, q2⟩ := (kc.alloc (.cells #[.int .i64 (reachStage rules hol c day).1.start, .slice Y1_0 (reachStage rules hol c day).1.done.length Z1_0, .slice Y1_1 (reachStage rules hol c day).1.ext.length Z1_1] 28)).c3
  go_wp2_with fail
  have bB1 : Below w4.heap.size w4 (w4.alloc (.cells #[.int .i64 (reachStage rules hol c day).1.start, .slice Y1_0 (reachStage rules hol c day).1.done.length Z1_0, .slice Y1_1 (reachStage rules hol c day).1.ext.length Z1_1] 28)) := (Below.refl _ _).alloc (Nat.le_refl _) _
  have zzB1 : (w4.alloc (.cells #[.int .i64 (reachStage rules hol c day).1.start, .slice Y1_0 (reachStage rules hol c day).1.done.length Z1_0, .slice Y1_1 (reachStage rules hol c day).1.ext.length Z1_1] 28)).heap.size = w4.heap.size + 1 := by simp
  have kr1 : Blk (w4.alloc (.cells #[.int .i64 (reachStage rules hol c day).1.start, .slice Y1_0 (reachStage rules hol c day).1.done.length Z1_0, .slice Y1_1 (reachStage rules hol c day).1.ext.length Z1_1] 28)) (w4.heap.size) 28 #[.int .i64 (reachStage rules hol c day).1.start, .slice Y1_0 (reachStage rules hol c day).1.done.length Z1_0, .slice Y1_1 (reachStage rules hol c day).1.ext.length Z1_1] := Blk.newAt rfl
  clear q0 q1 q2
  have zbB1 := bB1.size
  replace h1 := h1.below bB1 (by omega)
  replace h2 := h2.below bB1 (by omega)
  replace h3 := h3.below bB1 (by omega)
  replace h4 := h4.below bB1 (by omega)
  replace kc := kc.below bB1 (by omega)
  replace hr0_0 := hr0_0.below bB1 (by omega)
  replace hr0_1 := hr0_1.below bB1 (by omega)
  replace kr0 := kr0.below bB1 (by omega)
  replace hr1_0 := hr1_0.below bB1 (by omega)
  replace hr1_1 := hr1_1.below bB1 (by omega)
  replace BB := Below.step bB1 (by omega) BB
  clear bB1
  generalize (w4.alloc (.cells #[.int .i64 (reachStage rules hol c day).1.start, .slice Y1_0 (reachStage rules hol c day).1.done.length Z1_0, .slice Y1_1 (reachStage rules hol c day).1.ext.length Z1_1] 28)) = wB1 at *
  refine (impExtendStage_any _ rules _ _ _ hol _ _ c (.slice A3 c.done.length C3) (.slice A4 c.ext.length C4) _ _ day _ h1 (by omega) (by omega) hsr h2 (by omega) (by omega) h3 h4 (by omega) hsc).mono ?_
  rintro e w5 ⟨r2_0, r2_1, rfl, hr2_0, hr2_1, b5⟩
  have zb5 := b5.size
  replace h1 := h1.below b5 (by omega)
  replace h2 := h2.below b5 (by omega)
  replace h3 := h3.below b5 (by omega)
  replace h4 := h4.below b5 (by omega)
  replace kc := kc.below b5 (by omega)
  replace hr0_0 := hr0_0.below b5 (by omega)
  replace hr0_1 := hr0_1.below b5 (by omega)
  replace kr0 := kr0.below b5 (by omega)
  replace hr1_0 := hr1_0.below b5 (by omega)
  replace hr1_1 := hr1_1.below b5 (by omega)
  replace kr1 := kr1.below b5 (by omega)
  replace BB := Below.step b5 (by omega) BB
  clear b5
  obtain ⟨Y2_0, Z2_0, rfl, hz2_0⟩ := hr2_0.form
  obtain ⟨Y2_1, Z2_1, rfl, hz2_1⟩ := hr2_1.form
  obtain ⟨q0, q1, q2⟩ := (kc.alloc (.cells #[.int .i64 (extendStage rules hol c day).1.start, .slice Y2_0 (extendStage rules hol c day).1.done.length Z2_0, .slice Y2_1 (extendStage rules hol c day).1.ext.length Z2_1] 28)).c3
  go_wp2_with fail
  have bB2 : Below w5.heap.size w5 (w5.alloc (.cells #[.int .i64 (extendStage rules hol c day).1.start, .slice Y2_0 (extendStage rules hol c day).1.done.length Z2_0, .slice Y2_1 (extendStage rules hol c day).1.ext.length Z2_1] 28)) := (Below.refl _ _).alloc (Nat.le_refl _) _
  have zzB2 : (w5.alloc (.cells #[.int .i64 (extendStage rules hol c day).1.start, .slice Y2_0 (extendStage rules hol c day).1.done.length Z2_0, .slice Y2_1 (extendStage rules hol c day).1.ext.length Z2_1] 28)).heap.size = w5.heap.size + 1 := by simp
  have kr2 : Blk (w5.alloc (.cells #[.int .i64 (extendStage rules hol c day).1.start, .slice Y2_0 (extendStage rules hol c day).1.done.length Z2_0, .slice Y2_1 (extendStage rules hol c day).1.ext.length Z2_1] 28)) (w5.heap.size) 28 #[.int .i64 (extendStage rules hol c day).1.start, .slice Y2_0 (extendStage rules hol c day).1.done.length Z2_0, .slice Y2_1 (extendStage rules hol c day).1.ext.length Z2_1] := Blk.newAt rfl
  clear q0 q1 q2
  have zbB2 := bB2.size
  replace h1 := h1.below bB2 (by omega)
  replace h2 := h2.below bB2 (by omega)
  replace h3 := h3.below bB2 (by omega)
  replace h4 := h4.below bB2 (by omega)
  replace kc := kc.below bB2 (by omega)
  replace hr0_0 := hr0_0.below bB2 (by omega)
  replace hr0_1 := hr0_1.below bB2 (by omega)
  replace kr0 := kr0.below bB2 (by omega)
  replace hr1_0 := hr1_0.below bB2 (by omega)
  replace hr1_1 := hr1_1.below bB2 (by omega)
  replace kr1 := kr1.below bB2 (by omega)
  replace hr2_0 := hr2_0.below bB2 (by omega)
  replace hr2_1 := hr2_1.below bB2 (by omega)
  replace BB := Below.step bB2 (by omega) BB
  clear bB2
  generalize (w5.alloc (.cells #[.int .i64 (extendStage rules hol c day).1.start, .slice Y2_0 (extendStage rules hol c day).1.done.length Z2_0, .slice Y2_1 (extendStage rules hol c day).1.ext.length Z2_1] 28)) = wB2 at *
  refine (sExtendStage_any _ rules _ _ _ hol _ _ c (.slice A3 c.done.length C3) (.slice A4 c.ext.length C4) _ _ day _ h1 (by omega) (by omega) hsr h2 (by omega) (by omega) h3 h4 (by omega) hsc).mono ?_
  rintro e w6 ⟨r3_0, r3_1, rfl, hr3_0, hr3_1, b6⟩
  have zb6 := b6.size
  replace h1 := h1.below b6 (by omega)
  replace h2 := h2.below b6 (by omega)
  replace h3 := h3.below b6 (by omega)
  replace h4 := h4.below b6 (by omega)
  replace kc := kc.below b6 (by omega)
  replace hr0_0 := hr0_0.below b6 (by omega)
  replace hr0_1 := hr0_1.below b6 (by omega)
  replace kr0 := kr0.below b6 (by omega)
  replace hr1_0 := hr1_0.below b6 (by omega)
  replace hr1_1 := hr1_1.below b6 (by omega)
  replace kr1 := kr1.below b6 (by omega)
  replace hr2_0 := hr2_0.below b6 (by omega)
  replace hr2_1 := hr2_1.below b6 (by omega)
  replace kr2 := kr2.below b6 (by omega)
  replace BB := Below.step b6 (by omega) BB
  clear b6
  obtain ⟨Y3_0, Z3_0, rfl, hz3_0⟩ := hr3_0.form
  obtain ⟨Y3_1, Z3_1, rfl, hz3_1⟩ := hr3_1.form
  obtain ⟨q0, q1, q2⟩ := (kc.alloc (.cells #[.int .i64 (extendStage rules hol c day).1.start, .slice Y3_0 (extendStage rules hol c day).1.done.length Z3_0, .slice Y3_1 (extendStage rules hol c day).1.ext.length Z3_1] 28)).c3
  go_wp2_with fail
  have bB3 : Below w6.heap.size w6 (w6.alloc (.cells #[.int .i64 (extendStage rules hol c day).1.start, .slice Y3_0 (extendStage rules hol c day).1.done.length Z3_0, .slice Y3_1 (extendStage rules hol c day).1.ext.length Z3_1] 28)) := (Below.refl _ _).alloc (Nat.le_refl _) _
  have zzB3 : (w6.alloc (.cells #[.int .i64 (extendStage rules hol c day).1.start, .slice Y3_0 (extendStage rules hol c day).1.done.length Z3_0, .slice Y3_1 (extendStage rules hol c day).1.ext.length Z3_1] 28)).heap.size = w6.heap.size + 1 := by simp
  have kr3 : Blk (w6.alloc (.cells #[.int .i64 (extendStage rules hol c day).1.start, .slice Y3_0 (extendStage rules hol c day).1.done.length Z3_0, .slice Y3_1 (extendStage rules hol c day).1.ext.length Z3_1] 28)) (w6.heap.size) 28 #[.int .i64 (extendStage rules hol c day).1.start, .slice Y3_0 (extendStage rules hol c day).1.done.length Z3_0, .slice Y3_1 (extendStage rules hol c day).1.ext.length Z3_1] := Blk.newAt rfl
  clear q0 q1 q2
  have zbB3 := bB3.size
  replace h1 := h1.below bB3 (by omega)
  replace h2 := h2.below bB3 (by omega)
  replace h3 := h3.below bB3 (by omega)
  replace h4 := h4.below bB3 (by omega)
  replace kc := kc.below bB3 (by omega)
  replace hr0_0 := hr0_0.below bB3 (by omega)
  replace hr0_1 := hr0_1.below bB3 (by omega)
  replace kr0 := kr0.below bB3 (by omega)
  replace hr1_0 := hr1_0.below bB3 (by omega)
  replace hr1_1 := hr1_1.below bB3 (by omega)
  replace kr1 := kr1.below bB3 (by omega)
  replace hr2_0 := hr2_0.below bB3 (by omega)
  replace hr2_1 := hr2_1.below bB3 (by omega)
  replace kr2 := kr2.below bB3 (by omega)
  replace hr3_0 := hr3_0.below bB3 (by omega)
  replace hr3_1 := hr3_1.below bB3 (by omega)
  replace BB := Below.step bB3 (by omega) BB
  clear bB3
  generalize (w6.alloc (.cells #[.int .i64 (extendStage rules hol c day).1.start, .slice Y3_0 (extendStage rules hol c day).1.done.length Z3_0, .slice Y3_1 (extendStage rules hol c day).1.ext.length Z3_1] 28)) = wB3 at *
  refine (limitOf_any _ rules _ _ _ hol _ _ c (.slice A3 c.done.length C3) (.slice A4 c.ext.length C4) _ _ _ h1 (by omega) (by omega) hsr h2 (by omega) (by omega) h3 h4 (by omega) hsc).mono ?_
  rintro e w7 ⟨rfl, b7⟩
  have zb7 := b7.size
  replace h1 := h1.below b7 (by omega)
  replace h2 := h2.below b7 (by omega)
  replace h3 := h3.below b7 (by omega)
  replace h4 := h4.below b7 (by omega)
  replace kc := kc.below b7 (by omega)
  replace hr0_0 := hr0_0.below b7 (by omega)
  replace hr0_1 := hr0_1.below b7 (by omega)
  replace kr0 := kr0.below b7 (by omega)
  replace hr1_0 := hr1_0.below b7 (by omega)
  replace hr1_1 := hr1_1.below b7 (by omega)
  replace kr1 := kr1.below b7 (by omega)
  replace hr2_0 := hr2_0.below b7 (by omega)
  replace hr2_1 := hr2_1.below b7 (by omega)
  replace kr2 := kr2.below b7 (by omega)
  replace hr3_0 := hr3_0.below b7 (by omega)
  replace hr3_1 := hr3_1.below b7 (by omega)
  replace kr3 := kr3.below b7 (by omega)
  replace BB := Below.step b7 (by omega) BB
  clear b7
  obtain ⟨q0, q1, q2⟩ := kc.c3
  go_wp2_with fail
  refine (sLimitOf_any _ rules _ _ _ hol _ _ c (.slice A3 c.done.length C3) (.slice A4 c.ext.length C4) _ _ _ h1 (by omega) (by omega) hsr h2 (by omega) (by omega) h3 h4 (by omega) hsc).mono ?_
  rintro e w8 ⟨rfl, b8⟩
  have zb8 := b8.size
  replace h1 := h1.below b8 (by omega)
  replace h2 := h2.below b8 (by omega)
  replace h3 := h3.below b8 (by omega)
  replace h4 := h4.below b8 (by omega)
  replace kc := kc.below b8 (by omega)
  replace hr0_0 := hr0_0.below b8 (by omega)
  replace hr0_1 := hr0_1.below b8 (by omega)
  replace kr0 := kr0.below b8 (by omega)
  replace hr1_0 := hr1_0.below b8 (by omega)
  replace hr1_1 := hr1_1.below b8 (by omega)
  replace kr1 := kr1.below b8 (by omega)
  replace hr2_0 := hr2_0.below b8 (by omega)
  replace hr2_1 := hr2_1.below b8 (by omega)
  replace kr2 := kr2.below b8 (by omega)
  replace hr3_0 := hr3_0.below b8 (by omega)
  replace hr3_1 := hr3_1.below b8 (by omega)
  replace kr3 := kr3.below b8 (by omega)
  replace BB := Below.step b8 (by omega) BB
  clear b8
  clear q0 q1 q2
  obtain ⟨q0, q1, q2⟩ := kc.c3
  go_wp2_with fail
  refine (isLawful_any _ rules _ _ _ hol _ _ c (.slice A3 c.done.length C3) (.slice A4 c.ext.length C4) _ _ _ h1 (by omega) (by omega) hsr h2 (by omega) (by omega) h3 h4 (by omega) hsc).mono ?_
  rintro e w9 ⟨rfl, b9⟩
  have zb9 := b9.size
  replace h1 := h1.below b9 (by omega)
  replace h2 := h2.below b9 (by omega)
  replace h3 := h3.below b9 (by omega)
  replace h4 := h4.below b9 (by omega)
  replace kc := kc.below b9 (by omega)
  replace hr0_0 := hr0_0.below b9 (by omega)
  replace hr0_1 := hr0_1.below b9 (by omega)
  replace kr0 := kr0.below b9 (by omega)
  replace hr1_0 := hr1_0.below b9 (by omega)
  replace hr1_1 := hr1_1.below b9 (by omega)
  replace kr1 := kr1.below b9 (by omega)
  replace hr2_0 := hr2_0.below b9 (by omega)
  replace hr2_1 := hr2_1.below b9 (by omega)
  replace kr2 := kr2.below b9 (by omega)
  replace hr3_0 := hr3_0.below b9 (by omega)
  replace hr3_1 := hr3_1.below b9 (by omega)
  replace kr3 := kr3.below b9 (by omega)
  replace BB := Below.step b9 (by omega) BB
  clear b9
  clear q0 q1 q2
  obtain ⟨q0, q1, q2⟩ := kc.c3
  go_wp2_with fail
  refine (sIsLawful_any _ rules _ _ _ hol _ _ c (.slice A3 c.done.length C3) (.slice A4 c.ext.length C4) _ _ _ h1 (by omega) (by omega) hsr h2 (by omega) (by omega) h3 h4 (by omega) hsc).mono ?_
  rintro e w10 ⟨rfl, b10⟩
  have zb10 := b10.size
  replace h1 := h1.below b10 (by omega)
  replace h2 := h2.below b10 (by omega)
  replace h3 := h3.below b10 (by omega)
  replace h4 := h4.below b10 (by omega)
  replace kc := kc.below b10 (by omega)
  replace hr0_0 := hr0_0.below b10 (by omega)
  replace hr0_1 := hr0_1.below b10 (by omega)
  replace kr0 := kr0.below b10 (by omega)
  replace hr1_0 := hr1_0.below b10 (by omega)
  replace hr1_1 := hr1_1.below b10 (by omega)
  replace kr1 := kr1.below b10 (by omega)
  replace hr2_0 := hr2_0.below b10 (by omega)
  replace hr2_1 := hr2_1.below b10 (by omega)
  replace kr2 := kr2.below b10 (by omega)
  replace hr3_0 := hr3_0.below b10 (by omega)
  replace hr3_1 := hr3_1.below b10 (by omega)
  replace kr3 := kr3.below b10 (by omega)
  replace BB := Below.step b10 (by omega) BB
  clear b10
  clear q0 q1 q2
  have hsR : Custody.small (reachStage rules hol c day).1 := reach_small hsc
  have hsE : Custody.small (extendStage rules hol c day).1 := extend_small hsc
  obtain ⟨u0_0, u0_1, u0_2⟩ := kr0.c3
  obtain ⟨u1_0, u1_1, u1_2⟩ := kr1.c3
  obtain ⟨u2_0, u2_1, u2_2⟩ := kr2.c3
  obtain ⟨u3_0, u3_1, u3_2⟩ := kr3.c3
  obtain ⟨u4_0, u4_1, u4_2⟩ := kc.c3
  go_wp2_with fail
  go_region_held3 (fun w' => w'.cell? ⟨w3.heap.size, 0, none⟩ = some (.int .i64 (reachStage rules hol c day).1.start) ∧ w'.cell? ⟨w3.heap.size, 1, none⟩ = some (.slice Y0_0 (reachStage rules hol c day).1.done.length Z0_0) ∧ w'.cell? ⟨w3.heap.size, 2, none⟩ = some (.slice Y0_1 (reachStage rules hol c day).1.ext.length Z0_1) ∧ w'.cell? ⟨w4.heap.size, 0, none⟩ = some (.int .i64 (reachStage rules hol c day).1.start) ∧ w'.cell? ⟨w4.heap.size, 1, none⟩ = some (.slice Y1_0 (reachStage rules hol c day).1.done.length Z1_0) ∧ w'.cell? ⟨w4.heap.size, 2, none⟩ = some (.slice Y1_1 (reachStage rules hol c day).1.ext.length Z1_1) ∧ w'.cell? ⟨w5.heap.size, 0, none⟩ = some (.int .i64 (extendStage rules hol c day).1.start) ∧ w'.cell? ⟨w5.heap.size, 1, none⟩ = some (.slice Y2_0 (extendStage rules hol c day).1.done.length Z2_0) ∧ w'.cell? ⟨w5.heap.size, 2, none⟩ = some (.slice Y2_1 (extendStage rules hol c day).1.ext.length Z2_1) ∧ w'.cell? ⟨w6.heap.size, 0, none⟩ = some (.int .i64 (extendStage rules hol c day).1.start) ∧ w'.cell? ⟨w6.heap.size, 1, none⟩ = some (.slice Y3_0 (extendStage rules hol c day).1.done.length Z3_0) ∧ w'.cell? ⟨w6.heap.size, 2, none⟩ = some (.slice Y3_1 (extendStage rules hol c day).1.ext.length Z3_1) ∧ w'.cell? ⟨w2.heap.size, 0, none⟩ = some (.int .i64 c.start) ∧ w'.cell? ⟨w2.heap.size, 1, none⟩ = some (.slice A3 c.done.length C3) ∧ w'.cell? ⟨w2.heap.size, 2, none⟩ = some (.slice A4 c.ext.length C4)) (go_keep)
    (first
      | (go_at_call 21; have gq := zbb0; clear gq; refine (likeCustody_any (extendStage rules hol c day).1 _ _ _ _ _ _ _ _ _ hr2_0.rd hr2_1.rd (by omega) hr3_0.rd hr3_1.rd (by omega) hsE).mono ?_; rintro e v1 ⟨rfl, bb1⟩; have zbb1 := bb1.size; replace h1 := h1.below bb1 (by omega); replace h2 := h2.below bb1 (by omega); replace h3 := h3.below bb1 (by omega); replace h4 := h4.below bb1 (by omega); replace kc := kc.below bb1 (by omega); replace hr0_0 := hr0_0.below bb1 (by omega); replace hr0_1 := hr0_1.below bb1 (by omega); replace kr0 := kr0.below bb1 (by omega); replace hr1_0 := hr1_0.below bb1 (by omega); replace hr1_1 := hr1_1.below bb1 (by omega); replace kr1 := kr1.below bb1 (by omega); replace hr2_0 := hr2_0.below bb1 (by omega); replace hr2_1 := hr2_1.below bb1 (by omega); replace kr2 := kr2.below bb1 (by omega); replace hr3_0 := hr3_0.below bb1 (by omega); replace hr3_1 := hr3_1.below bb1 (by omega); replace kr3 := kr3.below bb1 (by omega); replace BB := Below.step bb1 (by omega) BB; clear bb1; obtain ⟨u20_0, u20_1, u20_2⟩ := kr0.c3; obtain ⟨u21_0, u21_1, u21_2⟩ := kr1.c3; obtain ⟨u22_0, u22_1, u22_2⟩ := kr2.c3; obtain ⟨u23_0, u23_1, u23_2⟩ := kr3.c3; obtain ⟨u24_0, u24_1, u24_2⟩ := kc.c3)
      | (go_at_call 21; refine (likeCustody_any (reachStage rules hol c day).1 _ _ _ _ _ _ _ _ _ (hr0_0.below (B := w10.heap.size) (Below.refl _ w10).drew (by omega)).rd (hr0_1.below (B := w10.heap.size) (Below.refl _ w10).drew (by omega)).rd (by show _ ≤ w10.heap.size; omega) (hr1_0.below (B := w10.heap.size) (Below.refl _ w10).drew (by omega)).rd (hr1_1.below (B := w10.heap.size) (Below.refl _ w10).drew (by omega)).rd (by show _ ≤ w10.heap.size; omega) hsR).mono ?_; rintro e v0 ⟨rfl, bb0⟩; replace bb0 : Below w10.heap.size w10 v0 := Below.undrew bb0; have zbb0 := bb0.size; replace h1 := h1.below bb0 (by omega); replace h2 := h2.below bb0 (by omega); replace h3 := h3.below bb0 (by omega); replace h4 := h4.below bb0 (by omega); replace kc := kc.below bb0 (by omega); replace hr0_0 := hr0_0.below bb0 (by omega); replace hr0_1 := hr0_1.below bb0 (by omega); replace kr0 := kr0.below bb0 (by omega); replace hr1_0 := hr1_0.below bb0 (by omega); replace hr1_1 := hr1_1.below bb0 (by omega); replace kr1 := kr1.below bb0 (by omega); replace hr2_0 := hr2_0.below bb0 (by omega); replace hr2_1 := hr2_1.below bb0 (by omega); replace kr2 := kr2.below bb0 (by omega); replace hr3_0 := hr3_0.below bb0 (by omega); replace hr3_1 := hr3_1.below bb0 (by omega); replace kr3 := kr3.below bb0 (by omega); replace BB := Below.step bb0 (by omega) BB; clear bb0; obtain ⟨u10_0, u10_1, u10_2⟩ := kr0.c3; obtain ⟨u11_0, u11_1, u11_2⟩ := kr1.c3; obtain ⟨u12_0, u12_1, u12_2⟩ := kr2.c3; obtain ⟨u13_0, u13_1, u13_2⟩ := kr3.c3; obtain ⟨u14_0, u14_1, u14_2⟩ := kc.c3)
      | (go_at_call 22; refine (areStages_any _ rules _ _ _ h1 (by omega) (by omega) hsr).mono ?_; rintro e v2 ⟨rfl, bb2⟩; have zbb2 := bb2.size; replace h1 := h1.below bb2 (by omega); replace h2 := h2.below bb2 (by omega); replace h3 := h3.below bb2 (by omega); replace h4 := h4.below bb2 (by omega); replace kc := kc.below bb2 (by omega); replace hr0_0 := hr0_0.below bb2 (by omega); replace hr0_1 := hr0_1.below bb2 (by omega); replace kr0 := kr0.below bb2 (by omega); replace hr1_0 := hr1_0.below bb2 (by omega); replace hr1_1 := hr1_1.below bb2 (by omega); replace kr1 := kr1.below bb2 (by omega); replace hr2_0 := hr2_0.below bb2 (by omega); replace hr2_1 := hr2_1.below bb2 (by omega); replace kr2 := kr2.below bb2 (by omega); replace hr3_0 := hr3_0.below bb2 (by omega); replace hr3_1 := hr3_1.below bb2 (by omega); replace kr3 := kr3.below bb2 (by omega); replace BB := Below.step bb2 (by omega) BB; clear bb2; obtain ⟨u30_0, u30_1, u30_2⟩ := kr0.c3; obtain ⟨u31_0, u31_1, u31_2⟩ := kr1.c3; obtain ⟨u32_0, u32_1, u32_2⟩ := kr2.c3; obtain ⟨u33_0, u33_1, u33_2⟩ := kr3.c3; obtain ⟨u34_0, u34_1, u34_2⟩ := kc.c3)
      | (go_at_call 23; refine (sAreStages_any _ rules _ _ _ h1 (by omega) (by omega) hsr).mono ?_; rintro e v3 ⟨rfl, bb3⟩; have zbb3 := bb3.size; replace h1 := h1.below bb3 (by omega); replace h2 := h2.below bb3 (by omega); replace h3 := h3.below bb3 (by omega); replace h4 := h4.below bb3 (by omega); replace kc := kc.below bb3 (by omega); replace hr0_0 := hr0_0.below bb3 (by omega); replace hr0_1 := hr0_1.below bb3 (by omega); replace kr0 := kr0.below bb3 (by omega); replace hr1_0 := hr1_0.below bb3 (by omega); replace hr1_1 := hr1_1.below bb3 (by omega); replace kr1 := kr1.below bb3 (by omega); replace hr2_0 := hr2_0.below bb3 (by omega); replace hr2_1 := hr2_1.below bb3 (by omega); replace kr2 := kr2.below bb3 (by omega); replace hr3_0 := hr3_0.below bb3 (by omega); replace hr3_1 := hr3_1.below bb3 (by omega); replace kr3 := kr3.below bb3 (by omega); replace BB := Below.step bb3 (by omega) BB; clear bb3; obtain ⟨u40_0, u40_1, u40_2⟩ := kr0.c3; obtain ⟨u41_0, u41_1, u41_2⟩ := kr1.c3; obtain ⟨u42_0, u42_1, u42_2⟩ := kr2.c3; obtain ⟨u43_0, u43_1, u43_2⟩ := kr3.c3; obtain ⟨u44_0, u44_1, u44_2⟩ := kc.c3)
      | (go_at_call 24; refine (isCustody_any _ rules _ _ c (.slice A3 c.done.length C3) (.slice A4 c.ext.length C4) _ _ _ h1 (by omega) (by omega) hsr h3 h4 (by omega) hsc).mono ?_; rintro e v4 ⟨rfl, bb4⟩; have zbb4 := bb4.size; replace h1 := h1.below bb4 (by omega); replace h2 := h2.below bb4 (by omega); replace h3 := h3.below bb4 (by omega); replace h4 := h4.below bb4 (by omega); replace kc := kc.below bb4 (by omega); replace hr0_0 := hr0_0.below bb4 (by omega); replace hr0_1 := hr0_1.below bb4 (by omega); replace kr0 := kr0.below bb4 (by omega); replace hr1_0 := hr1_0.below bb4 (by omega); replace hr1_1 := hr1_1.below bb4 (by omega); replace kr1 := kr1.below bb4 (by omega); replace hr2_0 := hr2_0.below bb4 (by omega); replace hr2_1 := hr2_1.below bb4 (by omega); replace kr2 := kr2.below bb4 (by omega); replace hr3_0 := hr3_0.below bb4 (by omega); replace hr3_1 := hr3_1.below bb4 (by omega); replace kr3 := kr3.below bb4 (by omega); replace BB := Below.step bb4 (by omega) BB; clear bb4; obtain ⟨u50_0, u50_1, u50_2⟩ := kr0.c3; obtain ⟨u51_0, u51_1, u51_2⟩ := kr1.c3; obtain ⟨u52_0, u52_1, u52_2⟩ := kr2.c3; obtain ⟨u53_0, u53_1, u53_2⟩ := kr3.c3; obtain ⟨u54_0, u54_1, u54_2⟩ := kc.c3)
      | (go_at_call 25; refine (sIsCustody_any _ rules _ _ c (.slice A3 c.done.length C3) (.slice A4 c.ext.length C4) _ _ _ h1 (by omega) (by omega) hsr h3 h4 (by omega) hsc).mono ?_; rintro e v5 ⟨rfl, bb5⟩; have zbb5 := bb5.size; replace h1 := h1.below bb5 (by omega); replace h2 := h2.below bb5 (by omega); replace h3 := h3.below bb5 (by omega); replace h4 := h4.below bb5 (by omega); replace kc := kc.below bb5 (by omega); replace hr0_0 := hr0_0.below bb5 (by omega); replace hr0_1 := hr0_1.below bb5 (by omega); replace kr0 := kr0.below bb5 (by omega); replace hr1_0 := hr1_0.below bb5 (by omega); replace hr1_1 := hr1_1.below bb5 (by omega); replace kr1 := kr1.below bb5 (by omega); replace hr2_0 := hr2_0.below bb5 (by omega); replace hr2_1 := hr2_1.below bb5 (by omega); replace kr2 := kr2.below bb5 (by omega); replace hr3_0 := hr3_0.below bb5 (by omega); replace hr3_1 := hr3_1.below bb5 (by omega); replace kr3 := kr3.below bb5 (by omega); replace BB := Below.step bb5 (by omega) BB; clear bb5; obtain ⟨u60_0, u60_1, u60_2⟩ := kr0.c3; obtain ⟨u61_0, u61_1, u61_2⟩ := kr1.c3; obtain ⟨u62_0, u62_1, u62_2⟩ := kr2.c3; obtain ⟨u63_0, u63_1, u63_2⟩ := kr3.c3; obtain ⟨u64_0, u64_1, u64_2⟩ := kc.c3))
  clear u10_0 u10_1 u10_2 u11_0 u11_1 u11_2 u12_0 u12_1 u12_2 u13_0 u13_1 u13_2 u14_0 u14_1 u14_2 u20_0 u20_1 u20_2 u21_0 u21_1 u21_2 u22_0 u22_1 u22_2 u23_0 u23_1 u23_2 u24_0 u24_1 u24_2 u30_0 u30_1 u30_2 u31_0 u31_1 u31_2 u32_0 u32_1 u32_2 u33_0 u33_1 u33_2 u34_0 u34_1 u34_2 u40_0 u40_1 u40_2 u41_0 u41_1 u41_2 u42_0 u42_1 u42_2 u43_0 u43_1 u43_2 u44_0 u44_1 u44_2 u50_0 u50_1 u50_2 u51_0 u51_1 u51_2 u52_0 u52_1 u52_2 u53_0 u53_1 u53_2 u54_0 u54_1 u54_2 u60_0 u60_1 u60_2 u61_0 u61_1 u61_2 u62_0 u62_1 u62_2 u63_0 u63_1 u63_2 u64_0 u64_1 u64_2 u0_0 u0_1 u0_2 u1_0 u1_1 u1_2 u2_0 u2_1 u2_2 u3_0 u3_1 u3_2 u4_0 u4_1 u4_2
  have HEX := Lib.hid (@extend_law rules hol c day)
  have HRE := Lib.hid (@reach_law rules hol c day)
  clear kr1 kr3 hr1_0 hr1_1 hr3_0 hr3_1
  by_cases h1z : (extendStage rules hol c day).2 = 0
  · obtain ⟨e1, e2⟩ := HEX.out h1z
    rw [h1z]
    clear HEX
    obtain ⟨q0, q1, q2⟩ := kr2.c3
    go_wp2_with fail
    refine (limitOf_any _ rules _ _ _ hol _ _ (extendStage rules hol c day).1 _ _ _ _ _ h1 (by omega) (by omega) hsr h2 (by omega) (by omega) hr2_0.rd hr2_1.rd (by omega) hsE).mono ?_
    rintro e w11 ⟨rfl, b11⟩
    have zb11 := b11.size
    replace h1 := h1.below b11 (by omega)
    replace h2 := h2.below b11 (by omega)
    replace h3 := h3.below b11 (by omega)
    replace h4 := h4.below b11 (by omega)
    replace kc := kc.below b11 (by omega)
    replace hr0_0 := hr0_0.below b11 (by omega)
    replace hr0_1 := hr0_1.below b11 (by omega)
    replace kr0 := kr0.below b11 (by omega)
    replace hr2_0 := hr2_0.below b11 (by omega)
    replace hr2_1 := hr2_1.below b11 (by omega)
    replace kr2 := kr2.below b11 (by omega)
    replace BB := Below.step b11 (by omega) BB
    clear b11
    have e3 : ¬ (limitOf rules hol (extendStage rules hol c day).1).1 < (limitOf rules hol c).1 := by omega
    rw [e1]
    generalize (limitOf rules hol (extendStage rules hol c day).1).1 = lat at *
    generalize (limitOf rules hol c).1 = lim at *
    clear q0 q1 q2 e1 e2
    clear kr2 hr2_0 hr2_1
    by_cases hz : ¬ (reachStage rules hol c day).2 = 0
    · generalize (reachStage rules hol c day).2 = bad at *
      have hz' : (bad != 0) = true := by simpa using hz
      go_wp2_with fail
      go_ret
      exact ⟨rfl, by (repeat (first | with_reducible assumption | with_reducible exact Below.refl _ _ | with_reducible refine Below.setCell ?_ ?_ _ | with_reducible refine Below.alloc ?_ ?_ _ | with_reducible refine Below.drew ?_ | with_reducible refine below_drewN ?_ _ | with_reducible refine Below.step (by with_reducible assumption) ?_ ?_ | omega | (simp <;> omega) | (simp; done)))⟩
    · have hz1 : (reachStage rules hol c day).2 = 0 := by simpa using hz
      obtain ⟨e1, e2, e3⟩ := HRE.out hz1
      have hlen : ((reachStage rules hol c day).1.done.length : Int) = (c.done.length : Int) + 1 := by omega
      have E1 := Lib.hid e1
      have E2 := Lib.hid hlen
      have E3 := Lib.hid e3
      rw [hz1]
      clear hz hz1 e1 e2 e3 hlen HRE
      obtain ⟨q0, q1, q2⟩ := kr0.c3
      go_wp2_with fail
      refine (isLawful_any _ rules _ _ _ hol _ _ (reachStage rules hol c day).1 _ _ _ _ _ h1 (by omega) (by omega) hsr h2 (by omega) (by omega) hr0_0.rd hr0_1.rd (by omega) hsR).mono ?_
      rintro e w12 ⟨rfl, b12⟩
      have zb12 := b12.size
      replace h1 := h1.below b12 (by omega)
      replace h2 := h2.below b12 (by omega)
      replace h3 := h3.below b12 (by omega)
      replace h4 := h4.below b12 (by omega)
      replace kc := kc.below b12 (by omega)
      replace hr0_0 := hr0_0.below b12 (by omega)
      replace hr0_1 := hr0_1.below b12 (by omega)
      replace kr0 := kr0.below b12 (by omega)
      replace BB := Below.step b12 (by omega) BB
      clear b12
      rw [E1.out]
      clear q0 q1 q2
      obtain ⟨q0, q1, q2⟩ := kr0.c3
      obtain ⟨s0, s1, s2⟩ := kc.c3
      have hl1 := E2.out
      go_wp2_with fail
      refine (isCustody_any _ rules _ _ (reachStage rules hol c day).1 _ _ _ _ _ h1 (by omega) (by omega) hsr hr0_0.rd hr0_1.rd (by omega) hsR).mono ?_
      rintro e w13 ⟨rfl, b13⟩
      have zb13 := b13.size
      replace h1 := h1.below b13 (by omega)
      replace h2 := h2.below b13 (by omega)
      replace h3 := h3.below b13 (by omega)
      replace h4 := h4.below b13 (by omega)
      replace kc := kc.below b13 (by omega)
      replace hr0_0 := hr0_0.below b13 (by omega)
      replace hr0_1 := hr0_1.below b13 (by omega)
      replace kr0 := kr0.below b13 (by omega)
      replace BB := Below.step b13 (by omega) BB
      clear b13
      rw [E3.out]
      go_wp2_with fail
      go_ret
      exact ⟨rfl, by (repeat (first | with_reducible assumption | with_reducible exact Below.refl _ _ | with_reducible refine Below.setCell ?_ ?_ _ | with_reducible refine Below.alloc ?_ ?_ _ | with_reducible refine Below.drew ?_ | with_reducible refine below_drewN ?_ _ | with_reducible refine Below.step (by with_reducible assumption) ?_ ?_ | omega | (simp <;> omega) | (simp; done)))⟩
  · have h10 : ((extendStage rules hol c day).2 == 0) = false := by simpa using h1z
    generalize (extendStage rules hol c day).2 = one at *
    clear HEX
    clear kr2 hr2_0 hr2_1
    by_cases hz : ¬ (reachStage rules hol c day).2 = 0
    · generalize (reachStage rules hol c day).2 = bad at *
      have hz' : (bad != 0) = true := by simpa using hz
      go_wp2_with fail
      go_ret
      exact ⟨rfl, by (repeat (first | with_reducible assumption | with_reducible exact Below.refl _ _ | with_reducible refine Below.setCell ?_ ?_ _ | with_reducible refine Below.alloc ?_ ?_ _ | with_reducible refine Below.drew ?_ | with_reducible refine below_drewN ?_ _ | with_reducible refine Below.step (by with_reducible assumption) ?_ ?_ | omega | (simp <;> omega) | (simp; done)))⟩
    · have hz1 : (reachStage rules hol c day).2 = 0 := by simpa using hz
      obtain ⟨e1, e2, e3⟩ := HRE.out hz1
      have hlen : ((reachStage rules hol c day).1.done.length : Int) = (c.done.length : Int) + 1 := by omega
      have E1 := Lib.hid e1
      have E2 := Lib.hid hlen
      have E3 := Lib.hid e3
      rw [hz1]
      clear hz hz1 e1 e2 e3 hlen HRE
      obtain ⟨q0, q1, q2⟩ := kr0.c3
      go_wp2_with fail
      refine (isLawful_any _ rules _ _ _ hol _ _ (reachStage rules hol c day).1 _ _ _ _ _ h1 (by omega) (by omega) hsr h2 (by omega) (by omega) hr0_0.rd hr0_1.rd (by omega) hsR).mono ?_
      rintro e w11 ⟨rfl, b11⟩
      have zb11 := b11.size
      replace h1 := h1.below b11 (by omega)
      replace h2 := h2.below b11 (by omega)
      replace h3 := h3.below b11 (by omega)
      replace h4 := h4.below b11 (by omega)
      replace kc := kc.below b11 (by omega)
      replace hr0_0 := hr0_0.below b11 (by omega)
      replace hr0_1 := hr0_1.below b11 (by omega)
      replace kr0 := kr0.below b11 (by omega)
      replace BB := Below.step b11 (by omega) BB
      clear b11
      rw [E1.out]
      clear q0 q1 q2
      obtain ⟨q0, q1, q2⟩ := kr0.c3
      obtain ⟨s0, s1, s2⟩ := kc.c3
      have hl1 := E2.out
      go_wp2_with fail
      refine (isCustody_any _ rules _ _ (reachStage rules hol c day).1 _ _ _ _ _ h1 (by omega) (by omega) hsr hr0_0.rd hr0_1.rd (by omega) hsR).mono ?_
      rintro e w12 ⟨rfl, b12⟩
      have zb12 := b12.size
      replace h1 := h1.below b12 (by omega)
      replace h2 := h2.below b12 (by omega)
      replace h3 := h3.below b12 (by omega)
      replace h4 := h4.below b12 (by omega)
      replace kc := kc.below b12 (by omega)
      replace hr0_0 := hr0_0.below b12 (by omega)
      replace hr0_1 := hr0_1.below b12 (by omega)
      replace kr0 := kr0.below b12 (by omega)
      replace BB := Below.step b12 (by omega) BB
      clear b12
      rw [E3.out]
      go_wp2_with fail
      go_ret
      exact ⟨rfl, by (repeat (first | with_reducible assumption | with_reducible exact Below.refl _ _ | with_reducible refine Below.setCell ?_ ?_ _ | with_reducible refine Below.alloc ?_ ?_ _ | with_reducible refine Below.drew ?_ | with_reducible refine below_drewN ?_ _ | with_reducible refine Below.step (by with_reducible assumption) ?_ ?_ | omega | (simp <;> omega) | (simp; done)))⟩

set_option maxRecDepth 100000 in
theorem lifted (os : Os) (started : os.Started) (H : Type) (enc : TypeId × Value → H) :
    ReturnsInHanded {} Try.checked os 4 .any (Rows.fnCustodySpec.pre6 enc Try.prog Try.f4 Rows.fnCustodyRow.domain false) (Rows.fnCustodySpec.post enc Try.prog Try.f4 false true false false) := by
  refine returnsInHanded_of_change (C := Try.checked) own started (by kernel_rfl) Try.func4
    (ChangeSpec.witness6 (enc := enc) (C := Try.checked) false ⟨#[], #[.slice none 0 0], []⟩ 8 (by kernel_rfl) (by kernel_rfl) (by kernel_rfl) (by kernel_rfl)) ?_
  intro W base args ds gs before hval0 hW hcnd _
  have hval : ∀ (j : Nat) t v, Try.f4.params[j]? = some t → args[j]? = some v → Value.okWide Try.prog W .any base t v := hval0
  have hW' := hW
  obtain ⟨p, q, hA0, hV, rfl, hfz, hnd⟩ := hW
  have hA : DataW.TrodAll enc Try.prog W 0 (fun _ => true) true Try.f4.params.toList args.toList ds p := hA0
  rw [Try.params4] at hA hval
  obtain ⟨v0, vs0, d0, ds0, p0, q0, hargs, rfl, rfl, h0, r0⟩ := trodAll_cons hA
  obtain ⟨rfl, rfl, rfl⟩ := trodAll_nil r0
  obtain rfl : args = #[v0] := by cases args; simp_all
  obtain ⟨rfl, rfl⟩ := trodVars_none hV
  have k0 := h0
  have lt0 : ∀ x ∈ p0, x.block < W.heap.size := by obtain ⟨m, hm⟩ := k0; exact DataW.trod_lt m _ _ _ hm
  obtain ⟨code, hx0, hl0, hq0⟩ := open_bytes Try.underlying22 Try.underlying5 (by kernel_rfl) (hval 0 22 v0 rfl rfl) h0
  clear hA0 hval0
  refine (walk v0 code W hx0 hl0 hq0).mono fun e W' ⟨he, bel⟩ => ?_
  subst he
  exact ⟨_, rfl, _, _, _, [], _, [], hW', trodAll_mk1 (shut_bool Try.underlying4 _), (trodAll_cons_mk (Below.trod laidOut (by kernel_rfl) (of_decide_eq_true (by kernel_rfl)) k0 bel lt0) trodAll_mk0), rfl, bel.frame _, fun h => by cases h⟩

theorem over : Rows.fnCustodyRow.holds Try.pinned (OpenSpec.ofChange Rows.fnCustodySpec) :=
  OpenClaim.holds_of_wide 4 Try.f4 rfl rfl rfl rfl rfl rfl rfl ⟨rfl, rfl, rfl, rfl, rfl⟩ rfl rfl rfl rfl rfl (by kernel_rfl) Try.func4 (by kernel_rfl)
    (of_decide_eq_true (by kernel_rfl)) (by unfold Func.isWrapper; first | (rw [if_pos (by decide +kernel)]; kernel_rfl) | (rw [if_neg (by decide +kernel)]; exact ⟨rfl, rfl⟩))
    (fun os started H enc _ => lifted os started H enc)

theorem proved : Rows.FnCustodySaid := over
#print axioms proved
end Go.Proofs.Ytfafcicbfgdmcaa.custodyL
