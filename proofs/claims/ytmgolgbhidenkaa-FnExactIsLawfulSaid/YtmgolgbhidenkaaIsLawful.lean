/- The program's IsLawful returns what the reference's returns, for all arguments. No conditions. -/
import Derived.Test.YtmgolgbhidenkaaLawfulW
import Derived.Test.YtmgolgbhidenkaaCustodyO
import Derived.Test.YtmgolgbhidenkaaStageO
namespace Go.Proofs.Ytmgolgbhidenkaa.isLawful
open Go.ChangeShapes Go.WideShapes Go.ChangeAt Go.RowKit
open Go.ChangeMaps (open_string shut_string)
set_option linter.unusedVariables false

theorem own : ownKnob Try.prog.godebug = none := by kernel_rfl
theorem laidOut : laidOutB Try.prog = true := by kernel_rfl


set_option maxRecDepth 100000 in
set_option maxHeartbeats 4000000 in
theorem walk (v0 : Value) (rules : List Stage) (v1 : Value) (hol : List Int) (c : Custody) (p2_0 p2_1 : Value) (w : World) (hx0 : RdF Stage.enc 3 w 0 w.heap.size v0 rules) (hl0 : rules.length ≤ maxLen) (hq0 : ∀ x ∈ rules, Stage.wf x) (hx1 : RdF encInt 1 w 0 w.heap.size v1 hol) (hl1 : hol.length ≤ maxLen) (hq1 : ∀ x ∈ hol, -9223372036854775808 ≤ x ∧ x ≤ 9223372036854775807) (hx2_0 : RdF encInt 1 w 0 w.heap.size p2_0 c.done) (hx2_1 : RdF encBool 1 w 0 w.heap.size p2_1 c.ext) (hq2 : Custody.wf c) :
    Calls Try.prog 4 #[v0, v1, .agg #[.int .i64 c.start, p2_0, p2_1]] w fun e w' => e = .returned (.bool true) ∧ Below w.heap.size w w' := by
  try unfold maxLen at *
  obtain ⟨AX1, CX1, rfl, hCX1⟩ := hx1.form
  by_cases hlen1 : (1048576 : Int) < ((hol).length : Int)
  · go_enter Try.func4, Try.ntmps4
    go_wp2_with fail
    go_ret
    exact ⟨rfl, by (repeat (first | with_reducible assumption | with_reducible exact Below.refl _ _ | with_reducible refine Below.setCell ?_ ?_ _ | with_reducible refine Below.alloc ?_ ?_ _ | with_reducible refine Below.drew ?_ | with_reducible refine below_drewN ?_ _ | with_reducible refine Below.step (by with_reducible assumption) ?_ ?_ | omega | (simp <;> omega) | (simp; done)))⟩
  have hm1 : ((hol).length : Int) ≤ 1048576 := by omega
  go_enter Try.func4, Try.ntmps4
  have BB : Below w.heap.size w w := Below.refl _ _
  go_wp2_with fail
  have ab1 : Below w.heap.size w (w.alloc (.cells #[.int .i64 c.start, p2_0, p2_1] 26)) := ((Below.refl _ _).alloc (by first | exact Nat.le_refl _ | (simp; omega) | (simp; done)) _)
  have az1 : (w.alloc (.cells #[.int .i64 c.start, p2_0, p2_1] 26)).heap.size = w.heap.size + 1 := by simp
  replace hx0 := hx0.below ab1 (by omega)
  replace hx1 := hx1.below ab1 (by omega)
  replace hx2_0 := hx2_0.below ab1 (by omega)
  replace hx2_1 := hx2_1.below ab1 (by omega)
  replace BB := Below.step ab1 (by omega) BB
  clear ab1
  have bx5 : Blk (w.alloc (.cells #[.int .i64 c.start, p2_0, p2_1] 26)) (w.heap.size) 26 #[.int .i64 c.start, p2_0, p2_1] := Blk.newAt (w := w) (n := w.heap.size) (t := 26) (cs := #[.int .i64 c.start, p2_0, p2_1]) (by simp)
  generalize (w.alloc (.cells #[.int .i64 c.start, p2_0, p2_1] 26)) = wb1 at *
  try go_wp2_with fail
  refine (szStageS_any v0 rules _ _ _ _ hx0 (by omega) (by omega) (fun x hx => by have := hq0 x hx; unfold Stage.wf at this; omega) (by omega) (by omega)).mono ?_
  rintro e w2 ⟨r0, rfl, ⟨hra0, hrb0⟩, b2⟩
  have zb2 := b2.size
  replace hx0 := hx0.below b2 (by omega)
  replace hx1 := hx1.below b2 (by omega)
  replace hx2_0 := hx2_0.below b2 (by omega)
  replace hx2_1 := hx2_1.below b2 (by omega)
  replace bx5 := bx5.below b2 (by omega)
  replace BB := Below.step b2 (by omega) BB
  clear b2
  by_cases hn0 : r0 < 0
  · go_wp2_with fail
    go_ret
    exact ⟨rfl, by (repeat (first | with_reducible assumption | with_reducible exact Below.refl _ _ | with_reducible refine Below.setCell ?_ ?_ _ | with_reducible refine Below.alloc ?_ ?_ _ | with_reducible refine Below.drew ?_ | with_reducible refine below_drewN ?_ _ | with_reducible refine Below.step (by with_reducible assumption) ?_ ?_ | omega | (simp <;> omega) | (simp; done)))⟩
  have hp0 : 0 ≤ r0 := by omega
  have hq0' := hrb0 hp0
  clear hrb0
  have hm0 : rules.length ≤ 1048576 := by omega
  have hs0 : ∀ x ∈ rules, Stage.small x := fun x hx => by have := hq0'.2 x hx; unfold Stage.small; omega
  obtain ⟨qbx5_0, qbx5_1, qbx5_2⟩ := bx5.c3
  go_wp2_with fail
  refine (szCustody_any c p2_0 p2_1 _ _ _ _ hx2_0 hx2_1 (by omega) (Custody.big_of hq2) (by omega) (by omega)).mono ?_
  rintro e w3 ⟨r2, rfl, ⟨hra2, hrb2⟩, b3⟩
  clear qbx5_0 qbx5_1 qbx5_2
  have zb3 := b3.size
  replace hx0 := hx0.below b3 (by omega)
  replace hx1 := hx1.below b3 (by omega)
  replace hx2_0 := hx2_0.below b3 (by omega)
  replace hx2_1 := hx2_1.below b3 (by omega)
  replace bx5 := bx5.below b3 (by omega)
  replace BB := Below.step b3 (by omega) BB
  clear b3
  by_cases hn2 : r2 < 0
  · go_wp2_with fail
    go_ret
    exact ⟨rfl, by (repeat (first | with_reducible assumption | with_reducible exact Below.refl _ _ | with_reducible refine Below.setCell ?_ ?_ _ | with_reducible refine Below.alloc ?_ ?_ _ | with_reducible refine Below.drew ?_ | with_reducible refine below_drewN ?_ _ | with_reducible refine Below.step (by with_reducible assumption) ?_ ?_ | omega | (simp <;> omega) | (simp; done)))⟩
  have hp2 : 0 ≤ r2 := by omega
  have hq2' := hrb2 hp2
  clear hrb2
  have hs2 : Custody.small c := Custody.small_of hq2' (by omega)
  have hm2_0 : c.done.length ≤ 1048576 := hs2.len0
  have hm2_1 : c.ext.length ≤ 1048576 := hs2.len1
  obtain ⟨qbx5_0, qbx5_1, qbx5_2⟩ := bx5.c3
  go_wp2_with fail
  go_region_held3 (fun w' => w'.cell? ⟨w.heap.size, 0, none⟩ = some (.int .i64 c.start) ∧ w'.cell? ⟨w.heap.size, 1, none⟩ = some (p2_0) ∧ w'.cell? ⟨w.heap.size, 2, none⟩ = some (p2_1)) (go_keep)
    (first
      | (go_at_call 15; refine (toStageS_any v0 rules _ _ _ (hx0.below (B := w3.heap.size) (Below.refl _ w3).drew (by omega)) (by show _ ≤ w3.heap.size; omega) (by omega)).mono ?_; rintro e w4 ⟨y4, rfl, hy4, b4⟩; replace b4 : Below w3.heap.size w3 w4 := Below.undrew b4; have zb4 := b4.size; replace hx0 := hx0.below b4 (by omega); replace hx1 := hx1.below b4 (by omega); replace hx2_0 := hx2_0.below b4 (by omega); replace hx2_1 := hx2_1.below b4 (by omega); replace bx5 := bx5.below b4 (by omega); replace BB := Below.step b4 (by omega) BB; clear b4; obtain ⟨q4bx5_0, q4bx5_1, q4bx5_2⟩ := bx5.c3)
      | (go_at_call 21; refine (toInt64S_any (.slice AX1 hol.length CX1) hol _ _ _ hx1 (by omega) (by omega)).mono ?_; rintro e w5 ⟨y5, rfl, hy5, b5⟩; have zb5 := b5.size; replace hx0 := hx0.below b5 (by omega); replace hx1 := hx1.below b5 (by omega); replace hx2_0 := hx2_0.below b5 (by omega); replace hx2_1 := hx2_1.below b5 (by omega); replace bx5 := bx5.below b5 (by omega); replace hy4 := hy4.below b5 (by omega); replace BB := Below.step b5 (by omega) BB; clear b5; obtain ⟨q5bx5_0, q5bx5_1, q5bx5_2⟩ := bx5.c3)
      | (go_at_call 16; refine (toCustody_any c p2_0 p2_1 _ _ _ hx2_0 hx2_1 (by omega) hs2).mono ?_; rintro e w6 ⟨y6_0, y6_1, rfl, hy6_0, hy6_1, b6⟩; have zb6 := b6.size; replace hx0 := hx0.below b6 (by omega); replace hx1 := hx1.below b6 (by omega); replace hx2_0 := hx2_0.below b6 (by omega); replace hx2_1 := hx2_1.below b6 (by omega); replace bx5 := bx5.below b6 (by omega); replace hy4 := hy4.below b6 (by omega); replace hy5 := hy5.below b6 (by omega); replace BB := Below.step b6 (by omega) BB; clear b6; obtain ⟨q6bx5_0, q6bx5_1, q6bx5_2⟩ := bx5.c3; obtain ⟨Yy6_0, Zy6_0, rfl, hzy6_0⟩ := hy6_0.form; obtain ⟨Yy6_1, Zy6_1, rfl, hzy6_1⟩ := hy6_1.form)
      | (go_at_call 20; refine (sIsLawful_any y4 rules _ _ y5 hol _ _ c (.slice Yy6_0 (c.done).length Zy6_0) (.slice Yy6_1 (c.ext).length Zy6_1) _ _ _ hy4.rd (by omega) (by omega) hs0 hy5.rd (by omega) (by omega) hy6_0.rd hy6_1.rd (by omega) hs2).mono ?_; rintro e w7 ⟨rfl, b7⟩; have zb7 := b7.size; replace hx0 := hx0.below b7 (by omega); replace hx1 := hx1.below b7 (by omega); replace hx2_0 := hx2_0.below b7 (by omega); replace hx2_1 := hx2_1.below b7 (by omega); replace bx5 := bx5.below b7 (by omega); replace hy4 := hy4.below b7 (by omega); replace hy5 := hy5.below b7 (by omega); replace hy6_0 := hy6_0.below b7 (by omega); replace hy6_1 := hy6_1.below b7 (by omega); replace BB := Below.step b7 (by omega) BB; clear b7; obtain ⟨q7bx5_0, q7bx5_1, q7bx5_2⟩ := bx5.c3))
  clear qbx5_0 qbx5_1 qbx5_2 q4bx5_0 q4bx5_1 q4bx5_2 q5bx5_0 q5bx5_1 q5bx5_2 q6bx5_0 q6bx5_1 q6bx5_2 q7bx5_0 q7bx5_1 q7bx5_2
  clear hy4 hy5 hy6_0 hy6_1
  go_wp2_with fail
  refine (toStageS_any v0 rules _ _ _ hx0 (by omega) (by omega)).mono ?_
  rintro e w8 ⟨y8, rfl, hy8, b8⟩
  have zb8 := b8.size
  replace hx0 := hx0.below b8 (by omega)
  replace hx1 := hx1.below b8 (by omega)
  replace hx2_0 := hx2_0.below b8 (by omega)
  replace hx2_1 := hx2_1.below b8 (by omega)
  replace bx5 := bx5.below b8 (by omega)
  replace BB := Below.step b8 (by omega) BB
  clear b8
  go_wp2_with fail
  refine (toInt64S_any (.slice AX1 hol.length CX1) hol _ _ _ hx1 (by omega) (by omega)).mono ?_
  rintro e w9 ⟨y9, rfl, hy9, b9⟩
  have zb9 := b9.size
  replace hx0 := hx0.below b9 (by omega)
  replace hx1 := hx1.below b9 (by omega)
  replace hx2_0 := hx2_0.below b9 (by omega)
  replace hx2_1 := hx2_1.below b9 (by omega)
  replace bx5 := bx5.below b9 (by omega)
  replace hy8 := hy8.below b9 (by omega)
  replace BB := Below.step b9 (by omega) BB
  clear b9
  obtain ⟨qbx5_0, qbx5_1, qbx5_2⟩ := bx5.c3
  go_wp2_with fail
  refine (toCustody_any c p2_0 p2_1 _ _ _ hx2_0 hx2_1 (by omega) hs2).mono ?_
  rintro e w10 ⟨y10_0, y10_1, rfl, hy10_0, hy10_1, b10⟩
  clear qbx5_0 qbx5_1 qbx5_2
  have zb10 := b10.size
  replace hx0 := hx0.below b10 (by omega)
  replace hx1 := hx1.below b10 (by omega)
  replace hx2_0 := hx2_0.below b10 (by omega)
  replace hx2_1 := hx2_1.below b10 (by omega)
  replace bx5 := bx5.below b10 (by omega)
  replace hy8 := hy8.below b10 (by omega)
  replace hy9 := hy9.below b10 (by omega)
  replace BB := Below.step b10 (by omega) BB
  clear b10
  obtain ⟨Yy10_0, Zy10_0, rfl, hzy10_0⟩ := hy10_0.form
  obtain ⟨Yy10_1, Zy10_1, rfl, hzy10_1⟩ := hy10_1.form
  go_wp2_with fail
  have ab11 : Below w10.heap.size w10 (w10.alloc (.cells #[.int .i64 c.start, (.slice Yy10_0 (c.done).length Zy10_0), (.slice Yy10_1 (c.ext).length Zy10_1)] 32)) := ((Below.refl _ _).alloc (by first | exact Nat.le_refl _ | (simp; omega) | (simp; done)) _)
  have az11 : (w10.alloc (.cells #[.int .i64 c.start, (.slice Yy10_0 (c.done).length Zy10_0), (.slice Yy10_1 (c.ext).length Zy10_1)] 32)).heap.size = w10.heap.size + 1 := by simp
  replace hx0 := hx0.below ab11 (by omega)
  replace hx1 := hx1.below ab11 (by omega)
  replace hx2_0 := hx2_0.below ab11 (by omega)
  replace hx2_1 := hx2_1.below ab11 (by omega)
  replace bx5 := bx5.below ab11 (by omega)
  replace hy8 := hy8.below ab11 (by omega)
  replace hy9 := hy9.below ab11 (by omega)
  replace hy10_0 := hy10_0.below ab11 (by omega)
  replace hy10_1 := hy10_1.below ab11 (by omega)
  replace BB := Below.step ab11 (by omega) BB
  clear ab11
  have bx12 : Blk (w10.alloc (.cells #[.int .i64 c.start, (.slice Yy10_0 (c.done).length Zy10_0), (.slice Yy10_1 (c.ext).length Zy10_1)] 32)) (w10.heap.size) 32 #[.int .i64 c.start, (.slice Yy10_0 (c.done).length Zy10_0), (.slice Yy10_1 (c.ext).length Zy10_1)] := Blk.newAt (w := w10) (n := w10.heap.size) (t := 32) (cs := #[.int .i64 c.start, (.slice Yy10_0 (c.done).length Zy10_0), (.slice Yy10_1 (c.ext).length Zy10_1)]) (by simp)
  generalize (w10.alloc (.cells #[.int .i64 c.start, (.slice Yy10_0 (c.done).length Zy10_0), (.slice Yy10_1 (c.ext).length Zy10_1)] 32)) = wb11 at *
  obtain ⟨qbx12_0, qbx12_1, qbx12_2⟩ := bx12.c3
  try go_wp2_with fail
  refine (isLawful_any y8 rules _ _ y9 hol _ _ c (.slice Yy10_0 (c.done).length Zy10_0) (.slice Yy10_1 (c.ext).length Zy10_1) _ _ _ hy8.rd (by omega) (by omega) hs0 hy9.rd (by omega) (by omega) hy10_0.rd hy10_1.rd (by omega) hs2).mono ?_
  rintro e w12 ⟨rfl, b12⟩
  clear qbx12_0 qbx12_1 qbx12_2
  have zb12 := b12.size
  replace hx0 := hx0.below b12 (by omega)
  replace hx1 := hx1.below b12 (by omega)
  replace hx2_0 := hx2_0.below b12 (by omega)
  replace hx2_1 := hx2_1.below b12 (by omega)
  replace bx5 := bx5.below b12 (by omega)
  replace hy8 := hy8.below b12 (by omega)
  replace hy9 := hy9.below b12 (by omega)
  replace hy10_0 := hy10_0.below b12 (by omega)
  replace hy10_1 := hy10_1.below b12 (by omega)
  replace bx12 := bx12.below b12 (by omega)
  replace BB := Below.step b12 (by omega) BB
  clear b12
  go_wp2_with fail
  refine (toStageS_any v0 rules _ _ _ hx0 (by omega) (by omega)).mono ?_
  rintro e w13 ⟨y13, rfl, hy13, b13⟩
  have zb13 := b13.size
  replace hx0 := hx0.below b13 (by omega)
  replace hx1 := hx1.below b13 (by omega)
  replace hx2_0 := hx2_0.below b13 (by omega)
  replace hx2_1 := hx2_1.below b13 (by omega)
  replace bx5 := bx5.below b13 (by omega)
  replace hy8 := hy8.below b13 (by omega)
  replace hy9 := hy9.below b13 (by omega)
  replace hy10_0 := hy10_0.below b13 (by omega)
  replace hy10_1 := hy10_1.below b13 (by omega)
  replace bx12 := bx12.below b13 (by omega)
  replace BB := Below.step b13 (by omega) BB
  clear b13
  go_wp2_with fail
  refine (eqStageS_any y8 y13 rules rules _ _ _ _ _ hy8.rd (by omega) hy13.rd (by omega) (by omega) (by omega)).mono ?_
  rintro e w14 ⟨rfl, b14⟩
  have zb14 := b14.size
  replace hx0 := hx0.below b14 (by omega)
  replace hx1 := hx1.below b14 (by omega)
  replace hx2_0 := hx2_0.below b14 (by omega)
  replace hx2_1 := hx2_1.below b14 (by omega)
  replace bx5 := bx5.below b14 (by omega)
  replace hy8 := hy8.below b14 (by omega)
  replace hy9 := hy9.below b14 (by omega)
  replace hy10_0 := hy10_0.below b14 (by omega)
  replace hy10_1 := hy10_1.below b14 (by omega)
  replace bx12 := bx12.below b14 (by omega)
  replace hy13 := hy13.below b14 (by omega)
  replace BB := Below.step b14 (by omega) BB
  clear b14
  rw [show eqL Stage.beq rules rules = true from (eqL_iff (fun x y => Stage.beq_iff)).2 rfl]
  clear hx0 hy8 hy13
  go_wp2_with fail
  refine (toInt64S_any (.slice AX1 hol.length CX1) hol _ _ _ hx1 (by omega) (by omega)).mono ?_
  rintro e w15 ⟨y15, rfl, hy15, b15⟩
  have zb15 := b15.size
  replace hx1 := hx1.below b15 (by omega)
  replace hx2_0 := hx2_0.below b15 (by omega)
  replace hx2_1 := hx2_1.below b15 (by omega)
  replace bx5 := bx5.below b15 (by omega)
  replace hy9 := hy9.below b15 (by omega)
  replace hy10_0 := hy10_0.below b15 (by omega)
  replace hy10_1 := hy10_1.below b15 (by omega)
  replace bx12 := bx12.below b15 (by omega)
  replace BB := Below.step b15 (by omega) BB
  clear b15
  go_wp2_with fail
  refine (eqInt64S_any y9 y15 hol hol _ _ _ _ _ hy9.rd (by omega) hy15.rd (by omega) (by omega) (by omega)).mono ?_
  rintro e w16 ⟨rfl, b16⟩
  have zb16 := b16.size
  replace hx1 := hx1.below b16 (by omega)
  replace hx2_0 := hx2_0.below b16 (by omega)
  replace hx2_1 := hx2_1.below b16 (by omega)
  replace bx5 := bx5.below b16 (by omega)
  replace hy9 := hy9.below b16 (by omega)
  replace hy10_0 := hy10_0.below b16 (by omega)
  replace hy10_1 := hy10_1.below b16 (by omega)
  replace bx12 := bx12.below b16 (by omega)
  replace hy15 := hy15.below b16 (by omega)
  replace BB := Below.step b16 (by omega) BB
  clear b16
  rw [show eqL intEq hol hol = true from (eqL_iff (fun x y => intEq_iff x y)).2 rfl]
  clear hx1 hy9 hy15
  obtain ⟨qbx5_0, qbx5_1, qbx5_2⟩ := bx5.c3
  obtain ⟨qbx12_0, qbx12_1, qbx12_2⟩ := bx12.c3
  go_wp2_with fail
  go_region_held3 (fun w' => w'.cell? ⟨w.heap.size, 0, none⟩ = some (.int .i64 c.start) ∧ w'.cell? ⟨w.heap.size, 1, none⟩ = some (p2_0) ∧ w'.cell? ⟨w.heap.size, 2, none⟩ = some (p2_1) ∧ w'.cell? ⟨w10.heap.size, 0, none⟩ = some (.int .i64 c.start) ∧ w'.cell? ⟨w10.heap.size, 1, none⟩ = some ((.slice Yy10_0 (c.done).length Zy10_0)) ∧ w'.cell? ⟨w10.heap.size, 2, none⟩ = some ((.slice Yy10_1 (c.ext).length Zy10_1))) (go_keep)
    (first
      | (go_at_call 16; refine (toCustody_any c p2_0 p2_1 _ _ _ (hx2_0.below (B := w16.heap.size) (Below.refl _ w16).drew (by omega)) (hx2_1.below (B := w16.heap.size) (Below.refl _ w16).drew (by omega)) (by show _ ≤ w16.heap.size; omega) hs2).mono ?_; rintro e w17 ⟨y17_0, y17_1, rfl, hy17_0, hy17_1, b17⟩; replace b17 : Below w16.heap.size w16 w17 := Below.undrew b17; have zb17 := b17.size; replace hx2_0 := hx2_0.below b17 (by omega); replace hx2_1 := hx2_1.below b17 (by omega); replace bx5 := bx5.below b17 (by omega); replace hy10_0 := hy10_0.below b17 (by omega); replace hy10_1 := hy10_1.below b17 (by omega); replace bx12 := bx12.below b17 (by omega); replace BB := Below.step b17 (by omega) BB; clear b17; obtain ⟨q17bx5_0, q17bx5_1, q17bx5_2⟩ := bx5.c3; obtain ⟨q17bx12_0, q17bx12_1, q17bx12_2⟩ := bx12.c3; obtain ⟨Yy17_0, Zy17_0, rfl, hzy17_0⟩ := hy17_0.form; obtain ⟨Yy17_1, Zy17_1, rfl, hzy17_1⟩ := hy17_1.form)
      | (go_at_call 19; refine (eqCustody_any c c (.slice Yy10_0 (c.done).length Zy10_0) (.slice Yy10_1 (c.ext).length Zy10_1) (.slice Yy17_0 (c.done).length Zy17_0) (.slice Yy17_1 (c.ext).length Zy17_1) _ _ _ _ _ hy10_0.rd hy10_1.rd (by omega) hy17_0.rd hy17_1.rd (by omega) hs2 hs2).mono ?_; rintro e w18 ⟨rfl, b18⟩; have zb18 := b18.size; replace hx2_0 := hx2_0.below b18 (by omega); replace hx2_1 := hx2_1.below b18 (by omega); replace bx5 := bx5.below b18 (by omega); replace hy10_0 := hy10_0.below b18 (by omega); replace hy10_1 := hy10_1.below b18 (by omega); replace bx12 := bx12.below b18 (by omega); replace hy17_0 := hy17_0.below b18 (by omega); replace hy17_1 := hy17_1.below b18 (by omega); replace BB := Below.step b18 (by omega) BB; clear b18; obtain ⟨q18bx5_0, q18bx5_1, q18bx5_2⟩ := bx5.c3; obtain ⟨q18bx12_0, q18bx12_1, q18bx12_2⟩ := bx12.c3; rw [show Custody.beq c c = true from Custody.beq_refl _]))
  clear qbx5_0 qbx5_1 qbx5_2 qbx12_0 qbx12_1 qbx12_2 q17bx5_0 q17bx5_1 q17bx5_2 q17bx12_0 q17bx12_1 q17bx12_2 q18bx5_0 q18bx5_1 q18bx5_2 q18bx12_0 q18bx12_1 q18bx12_2
  clear bx5
  clear bx12
  clear hx2_0 hx2_1 hy10_0 hy10_1 hy17_0 hy17_1
  go_wp2_with fail
  go_ret
  exact ⟨rfl, BB⟩

set_option maxRecDepth 100000 in
theorem lifted (os : Os) (started : os.Started) (H : Type) (enc : TypeId × Value → H) :
    ReturnsInHanded {} Try.checked os 4 .any (Rows.fnExactIsLawfulSpec.pre6 enc Try.prog Try.f4 Rows.fnExactIsLawfulRow.domain false) (Rows.fnExactIsLawfulSpec.post enc Try.prog Try.f4 false true false false) := by
  refine returnsInHanded_of_change (C := Try.checked) own started (by kernel_rfl) Try.func4
    (ChangeSpec.witness6 (enc := enc) (C := Try.checked) false ⟨#[], #[.slice none 0 0, .slice none 0 0, .agg #[.int .i64 0, .slice none 0 0, .slice none 0 0]], []⟩ 8 (by kernel_rfl) (by kernel_rfl) (by kernel_rfl) (by kernel_rfl)) ?_
  intro W base args ds gs before hval0 hW hcnd _
  have hval : ∀ (j : Nat) t v, Try.f4.params[j]? = some t → args[j]? = some v → Value.okWide Try.prog W .any base t v := hval0
  have hW' := hW
  obtain ⟨p, q, hA0, hV, rfl, hfz, hnd⟩ := hW
  have hA : DataW.TrodAll enc Try.prog W 0 (fun _ => true) true Try.f4.params.toList args.toList ds p := hA0
  rw [Try.params4] at hA hval
  obtain ⟨v0, vs0, d0, ds0, p0, q0, hargs, rfl, rfl, h0, r0⟩ := trodAll_cons hA
  obtain ⟨v1, vs1, d1, ds1, p1, q1, rfl, rfl, rfl, h1, r1⟩ := trodAll_cons r0
  obtain ⟨v2, vs2, d2, ds2, p2, q2, rfl, rfl, rfl, h2, r2⟩ := trodAll_cons r1
  obtain ⟨rfl, rfl, rfl⟩ := trodAll_nil r2
  obtain rfl : args = #[v0, v1, v2] := by cases args; simp_all
  obtain ⟨rfl, rfl⟩ := trodVars_none hV
  have k0 := h0
  have lt0 : ∀ x ∈ p0, x.block < W.heap.size := by obtain ⟨m, hm⟩ := k0; exact DataW.trod_lt m _ _ _ hm
  have k1 := h1
  have lt1 : ∀ x ∈ p1, x.block < W.heap.size := by obtain ⟨m, hm⟩ := k1; exact DataW.trod_lt m _ _ _ hm
  have k2 := h2
  have lt2 : ∀ x ∈ p2, x.block < W.heap.size := by obtain ⟨m, hm⟩ := k2; exact DataW.trod_lt m _ _ _ hm
  obtain ⟨rules, hx0, hl0, hq0⟩ := openStageS (hval 0 22 v0 rfl rfl) h0
  obtain ⟨hol, hx1, hl1, hq1⟩ := open_ints Try.underlying23 Try.underlying2 (by kernel_rfl) (hval 1 23 v1 rfl rfl) h1
  obtain ⟨c, p2_0, p2_1, rfl, hx2_0, hx2_1, hq2⟩ := openCustody (hval 2 26 v2 rfl rfl) h2
  clear hA0 hval0
  refine (walk v0 rules v1 hol c p2_0 p2_1 W hx0 hl0 hq0 hx1 hl1 hq1 hx2_0 hx2_1 hq2).mono fun e W' ⟨he, bel⟩ => ?_
  subst he
  exact ⟨_, rfl, _, _, _, [], _, [], hW', trodAll_mk1 (shut_bool Try.underlying4 _), (trodAll_cons_mk (Below.trod laidOut (by kernel_rfl) (of_decide_eq_true (by kernel_rfl)) k0 bel lt0) (trodAll_cons_mk (Below.trod laidOut (by kernel_rfl) (of_decide_eq_true (by kernel_rfl)) k1 bel lt1) (trodAll_cons_mk (Below.trod laidOut (by kernel_rfl) (of_decide_eq_true (by kernel_rfl)) k2 bel lt2) trodAll_mk0))), rfl, bel.frame _, fun h => by cases h⟩

theorem over : Rows.fnExactIsLawfulRow.holds Try.pinned (OpenSpec.ofChange Rows.fnExactIsLawfulSpec) :=
  OpenClaim.holds_of_wide 4 Try.f4 rfl rfl rfl rfl rfl rfl rfl ⟨rfl, rfl, rfl, rfl, rfl⟩ rfl rfl rfl rfl rfl (by kernel_rfl) Try.func4 (by kernel_rfl)
    (of_decide_eq_true (by kernel_rfl)) (by unfold Func.isWrapper; first | (rw [if_pos (by decide +kernel)]; kernel_rfl) | (rw [if_neg (by decide +kernel)]; exact ⟨rfl, rfl⟩))
    (fun os started H enc _ => lifted os started H enc)

theorem proved : Rows.FnExactIsLawfulSaid := over
#print axioms proved
end Go.Proofs.Ytmgolgbhidenkaa.isLawful
