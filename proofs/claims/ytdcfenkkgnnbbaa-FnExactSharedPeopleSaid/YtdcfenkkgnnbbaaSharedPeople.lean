/- The program's SharedPeople returns what the reference's returns, for all arguments. No conditions. -/
import Derived.Test.YtdcfenkkgnnbbaaSharedX
import Derived.Test.YtdcfenkkgnnbbaaHearingM
import Derived.Test.YtdcfenkkgnnbbaaHearingO
namespace Go.Proofs.Ytdcfenkkgnnbbaa.sharedPeople
open Go.ChangeShapes Go.WideShapes Go.ChangeAt Go.RowKit
open Go.ChangeMaps (open_string shut_string)
set_option linter.unusedVariables false

theorem own : ownKnob Try.prog.godebug = none := by kernel_rfl
theorem laidOut : laidOutB Try.prog = true := by kernel_rfl


set_option maxRecDepth 100000 in
set_option maxHeartbeats 4000000 in
theorem walk (a : Hearing) (p0_0 : Value) (b : Hearing) (p1_0 : Value) (w : World) (hx0_0 : RdF encStr 1 w 0 w.heap.size p0_0 a.people) (hq0 : Hearing.wf a) (hx1_0 : RdF encStr 1 w 0 w.heap.size p1_0 b.people) (hq1 : Hearing.wf b) :
    Calls Try.prog 6 #[.agg #[.string a.code, .int .i64 a.len, p0_0, .int .i64 a.last], .agg #[.string b.code, .int .i64 b.len, p1_0, .int .i64 b.last]] w fun e w' => e = .returned (.bool true) ∧ Below w.heap.size w w' := by
  try unfold maxLen at *
  go_enter Try.func6, Try.ntmps6
  have BB : Below w.heap.size w w := Below.refl _ _
  go_wp2_with fail
  have ab1 : Below w.heap.size w ((w.alloc (.cells #[.string a.code, .int .i64 a.len, p0_0, .int .i64 a.last] 24)).alloc (.cells #[.string b.code, .int .i64 b.len, p1_0, .int .i64 b.last] 24)) := (((Below.refl _ _).alloc (by first | exact Nat.le_refl _ | (simp; omega) | (simp; done)) _).alloc (by first | exact Nat.le_refl _ | (simp; omega) | (simp; done)) _)
  have az1 : ((w.alloc (.cells #[.string a.code, .int .i64 a.len, p0_0, .int .i64 a.last] 24)).alloc (.cells #[.string b.code, .int .i64 b.len, p1_0, .int .i64 b.last] 24)).heap.size = w.heap.size + 2 := by simp
  replace hx0_0 := hx0_0.below ab1 (by omega)
  replace hx1_0 := hx1_0.below ab1 (by omega)
  replace BB := Below.step ab1 (by omega) BB
  clear ab1
  have bx2 : Blk ((w.alloc (.cells #[.string a.code, .int .i64 a.len, p0_0, .int .i64 a.last] 24)).alloc (.cells #[.string b.code, .int .i64 b.len, p1_0, .int .i64 b.last] 24)) (w.heap.size) 24 #[.string a.code, .int .i64 a.len, p0_0, .int .i64 a.last] := (Blk.newAt (w := w) (n := w.heap.size) (t := 24) (cs := #[.string a.code, .int .i64 a.len, p0_0, .int .i64 a.last]) (by simp)).alloc _
  have bx3 : Blk ((w.alloc (.cells #[.string a.code, .int .i64 a.len, p0_0, .int .i64 a.last] 24)).alloc (.cells #[.string b.code, .int .i64 b.len, p1_0, .int .i64 b.last] 24)) (w.heap.size + 1) 24 #[.string b.code, .int .i64 b.len, p1_0, .int .i64 b.last] := Blk.newAt (w := (w.alloc (.cells #[.string a.code, .int .i64 a.len, p0_0, .int .i64 a.last] 24))) (n := w.heap.size + 1) (t := 24) (cs := #[.string b.code, .int .i64 b.len, p1_0, .int .i64 b.last]) (by simp)
  generalize ((w.alloc (.cells #[.string a.code, .int .i64 a.len, p0_0, .int .i64 a.last] 24)).alloc (.cells #[.string b.code, .int .i64 b.len, p1_0, .int .i64 b.last] 24)) = wb1 at *
  obtain ⟨qbx2_0, qbx2_1, qbx2_2, qbx2_3⟩ := bx2.c4
  try go_wp2_with fail
  refine (szHearing_any a p0_0 _ _ _ _ hx0_0 (by omega) (Hearing.big_of hq0) (by omega) (by omega)).mono ?_
  rintro e w2 ⟨r0, rfl, ⟨hra0, hrb0⟩, b2⟩
  clear qbx2_0 qbx2_1 qbx2_2 qbx2_3
  have zb2 := b2.size
  replace hx0_0 := hx0_0.below b2 (by omega)
  replace hx1_0 := hx1_0.below b2 (by omega)
  replace bx2 := bx2.below b2 (by omega)
  replace bx3 := bx3.below b2 (by omega)
  replace BB := Below.step b2 (by omega) BB
  clear b2
  by_cases hn0 : r0 < 0
  · go_wp2_with fail
    go_ret
    exact ⟨rfl, by (repeat (first | with_reducible assumption | with_reducible exact Below.refl _ _ | with_reducible refine Below.setCell ?_ ?_ _ | with_reducible refine Below.alloc ?_ ?_ _ | with_reducible refine Below.drew ?_ | with_reducible refine below_drewN ?_ _ | with_reducible refine Below.step (by with_reducible assumption) ?_ ?_ | omega | (simp <;> omega) | (simp; done)))⟩
  have hp0 : 0 ≤ r0 := by omega
  have hq0' := hrb0 hp0
  clear hrb0
  have hs0 : Hearing.small a := Hearing.small_of hq0'.1 (by omega)
  have hm0_0 : a.people.length ≤ 1048576 := hs0.len0
  obtain ⟨qbx3_0, qbx3_1, qbx3_2, qbx3_3⟩ := bx3.c4
  go_wp2_with fail
  refine (szHearing_any b p1_0 _ _ _ _ hx1_0 (by omega) (Hearing.big_of hq1) (by omega) (by omega)).mono ?_
  rintro e w3 ⟨r1, rfl, ⟨hra1, hrb1⟩, b3⟩
  clear qbx3_0 qbx3_1 qbx3_2 qbx3_3
  have zb3 := b3.size
  replace hx0_0 := hx0_0.below b3 (by omega)
  replace hx1_0 := hx1_0.below b3 (by omega)
  replace bx2 := bx2.below b3 (by omega)
  replace bx3 := bx3.below b3 (by omega)
  replace BB := Below.step b3 (by omega) BB
  clear b3
  by_cases hn1 : r1 < 0
  · go_wp2_with fail
    go_ret
    exact ⟨rfl, by (repeat (first | with_reducible assumption | with_reducible exact Below.refl _ _ | with_reducible refine Below.setCell ?_ ?_ _ | with_reducible refine Below.alloc ?_ ?_ _ | with_reducible refine Below.drew ?_ | with_reducible refine below_drewN ?_ _ | with_reducible refine Below.step (by with_reducible assumption) ?_ ?_ | omega | (simp <;> omega) | (simp; done)))⟩
  have hp1 : 0 ≤ r1 := by omega
  have hq1' := hrb1 hp1
  clear hrb1
  have hs1 : Hearing.small b := Hearing.small_of hq1'.1 (by omega)
  have hm1_0 : b.people.length ≤ 1048576 := hs1.len0
  obtain ⟨qbx2_0, qbx2_1, qbx2_2, qbx2_3⟩ := bx2.c4
  obtain ⟨qbx3_0, qbx3_1, qbx3_2, qbx3_3⟩ := bx3.c4
  go_wp2_with fail
  go_region_held3 (fun w' => w'.cell? ⟨w.heap.size, 0, none⟩ = some (.string a.code) ∧ w'.cell? ⟨w.heap.size, 1, none⟩ = some (.int .i64 a.len) ∧ w'.cell? ⟨w.heap.size, 2, none⟩ = some (p0_0) ∧ w'.cell? ⟨w.heap.size, 3, none⟩ = some (.int .i64 a.last) ∧ w'.cell? ⟨w.heap.size + 1, 0, none⟩ = some (.string b.code) ∧ w'.cell? ⟨w.heap.size + 1, 1, none⟩ = some (.int .i64 b.len) ∧ w'.cell? ⟨w.heap.size + 1, 2, none⟩ = some (p1_0) ∧ w'.cell? ⟨w.heap.size + 1, 3, none⟩ = some (.int .i64 b.last)) (go_keep)
    (first
      | (go_at_call 26; refine (sSharedPeople_any a (.slice Yy4_0 (a.people).length Zy4_0) _ _ b (.slice Yy5_0 (b.people).length Zy5_0) _ _ _ hy4_0.rd (by omega) hs0 hy5_0.rd (by omega) hs1).mono ?_; rintro e w6 ⟨y6_0, rfl, hy6_0, b6⟩; have zb6 := b6.size; replace hx0_0 := hx0_0.below b6 (by omega); replace hx1_0 := hx1_0.below b6 (by omega); replace bx2 := bx2.below b6 (by omega); replace bx3 := bx3.below b6 (by omega); replace hy4_0 := hy4_0.below b6 (by omega); replace hy5_0 := hy5_0.below b6 (by omega); replace BB := Below.step b6 (by omega) BB; clear b6; obtain ⟨q6bx2_0, q6bx2_1, q6bx2_2, q6bx2_3⟩ := bx2.c4; obtain ⟨q6bx3_0, q6bx3_1, q6bx3_2, q6bx3_3⟩ := bx3.c4; have l6_0 : ((sharedPeople a b).1).length ≤ 1048576 := sharedPeople_len (by assumption))
      | (go_at_call 15; have gq := zb4; clear gq; refine (toHearing_any b p1_0 _ _ _ hx1_0 (by omega) hs1).mono ?_; rintro e w5 ⟨y5_0, rfl, hy5_0, b5⟩; have zb5 := b5.size; replace hx0_0 := hx0_0.below b5 (by omega); replace hx1_0 := hx1_0.below b5 (by omega); replace bx2 := bx2.below b5 (by omega); replace bx3 := bx3.below b5 (by omega); replace hy4_0 := hy4_0.below b5 (by omega); replace BB := Below.step b5 (by omega) BB; clear b5; obtain ⟨q5bx2_0, q5bx2_1, q5bx2_2, q5bx2_3⟩ := bx2.c4; obtain ⟨q5bx3_0, q5bx3_1, q5bx3_2, q5bx3_3⟩ := bx3.c4; obtain ⟨Yy5_0, Zy5_0, rfl, hzy5_0⟩ := hy5_0.form)
      | (go_at_call 15; refine (toHearing_any a p0_0 _ _ _ (hx0_0.below (B := w3.heap.size) (Below.refl _ w3).drew (by omega)) (by show _ ≤ w3.heap.size; omega) hs0).mono ?_; rintro e w4 ⟨y4_0, rfl, hy4_0, b4⟩; replace b4 : Below w3.heap.size w3 w4 := Below.undrew b4; have zb4 := b4.size; replace hx0_0 := hx0_0.below b4 (by omega); replace hx1_0 := hx1_0.below b4 (by omega); replace bx2 := bx2.below b4 (by omega); replace bx3 := bx3.below b4 (by omega); replace BB := Below.step b4 (by omega) BB; clear b4; obtain ⟨q4bx2_0, q4bx2_1, q4bx2_2, q4bx2_3⟩ := bx2.c4; obtain ⟨q4bx3_0, q4bx3_1, q4bx3_2, q4bx3_3⟩ := bx3.c4; obtain ⟨Yy4_0, Zy4_0, rfl, hzy4_0⟩ := hy4_0.form))
  clear qbx2_0 qbx2_1 qbx2_2 qbx2_3 qbx3_0 qbx3_1 qbx3_2 qbx3_3 q4bx2_0 q4bx2_1 q4bx2_2 q4bx2_3 q4bx3_0 q4bx3_1 q4bx3_2 q4bx3_3 q5bx2_0 q5bx2_1 q5bx2_2 q5bx2_3 q5bx3_0 q5bx3_1 q5bx3_2 q5bx3_3 q6bx2_0 q6bx2_1 q6bx2_2 q6bx2_3 q6bx3_0 q6bx3_1 q6bx3_2 q6bx3_3
  clear hy4_0 hy5_0
  obtain ⟨qbx2_0, qbx2_1, qbx2_2, qbx2_3⟩ := bx2.c4
  go_wp2_with fail
  refine (toHearing_any a p0_0 _ _ _ hx0_0 (by omega) hs0).mono ?_
  rintro e w7 ⟨y7_0, rfl, hy7_0, b7⟩
  clear qbx2_0 qbx2_1 qbx2_2 qbx2_3
  have zb7 := b7.size
  replace hx0_0 := hx0_0.below b7 (by omega)
  replace hx1_0 := hx1_0.below b7 (by omega)
  replace bx2 := bx2.below b7 (by omega)
  replace bx3 := bx3.below b7 (by omega)
  replace hy6_0 := hy6_0.below b7 (by omega)
  replace BB := Below.step b7 (by omega) BB
  clear b7
  obtain ⟨Yy7_0, Zy7_0, rfl, hzy7_0⟩ := hy7_0.form
  obtain ⟨pbx3_0, pbx3_1, pbx3_2, pbx3_3⟩ := (Blk.below bx3 (show Below w7.heap.size w7 (w7.alloc (.cells #[.string a.code, .int .i64 a.len, (.slice Yy7_0 (a.people).length Zy7_0), .int .i64 a.last] 30)) from ((Below.refl _ _).alloc (by first | exact Nat.le_refl _ | (simp; omega) | (simp; done)) _)) (by omega)).c4
  go_wp2_with fail
  clear pbx3_0 pbx3_1 pbx3_2 pbx3_3
  have ab8 : Below w7.heap.size w7 (w7.alloc (.cells #[.string a.code, .int .i64 a.len, (.slice Yy7_0 (a.people).length Zy7_0), .int .i64 a.last] 30)) := ((Below.refl _ _).alloc (by first | exact Nat.le_refl _ | (simp; omega) | (simp; done)) _)
  have az8 : (w7.alloc (.cells #[.string a.code, .int .i64 a.len, (.slice Yy7_0 (a.people).length Zy7_0), .int .i64 a.last] 30)).heap.size = w7.heap.size + 1 := by simp
  replace hx0_0 := hx0_0.below ab8 (by omega)
  replace hx1_0 := hx1_0.below ab8 (by omega)
  replace bx2 := bx2.below ab8 (by omega)
  replace bx3 := bx3.below ab8 (by omega)
  replace hy6_0 := hy6_0.below ab8 (by omega)
  replace hy7_0 := hy7_0.below ab8 (by omega)
  replace BB := Below.step ab8 (by omega) BB
  clear ab8
  have bx8 : Blk (w7.alloc (.cells #[.string a.code, .int .i64 a.len, (.slice Yy7_0 (a.people).length Zy7_0), .int .i64 a.last] 30)) (w7.heap.size) 30 #[.string a.code, .int .i64 a.len, (.slice Yy7_0 (a.people).length Zy7_0), .int .i64 a.last] := Blk.newAt (w := w7) (n := w7.heap.size) (t := 30) (cs := #[.string a.code, .int .i64 a.len, (.slice Yy7_0 (a.people).length Zy7_0), .int .i64 a.last]) (by simp)
  generalize (w7.alloc (.cells #[.string a.code, .int .i64 a.len, (.slice Yy7_0 (a.people).length Zy7_0), .int .i64 a.last] 30)) = wb8 at *
  obtain ⟨qbx3_0, qbx3_1, qbx3_2, qbx3_3⟩ := bx3.c4
  try go_wp2_with fail
  refine (toHearing_any b p1_0 _ _ _ hx1_0 (by omega) hs1).mono ?_
  rintro e w9 ⟨y9_0, rfl, hy9_0, b9⟩
  clear qbx3_0 qbx3_1 qbx3_2 qbx3_3
  have zb9 := b9.size
  replace hx0_0 := hx0_0.below b9 (by omega)
  replace hx1_0 := hx1_0.below b9 (by omega)
  replace bx2 := bx2.below b9 (by omega)
  replace bx3 := bx3.below b9 (by omega)
  replace hy6_0 := hy6_0.below b9 (by omega)
  replace hy7_0 := hy7_0.below b9 (by omega)
  replace bx8 := bx8.below b9 (by omega)
  replace BB := Below.step b9 (by omega) BB
  clear b9
  obtain ⟨Yy9_0, Zy9_0, rfl, hzy9_0⟩ := hy9_0.form
  obtain ⟨pbx8_0, pbx8_1, pbx8_2, pbx8_3⟩ := (Blk.below bx8 (show Below w9.heap.size w9 (w9.alloc (.cells #[.string b.code, .int .i64 b.len, (.slice Yy9_0 (b.people).length Zy9_0), .int .i64 b.last] 30)) from ((Below.refl _ _).alloc (by first | exact Nat.le_refl _ | (simp; omega) | (simp; done)) _)) (by omega)).c4
  go_wp2_with fail
  clear pbx8_0 pbx8_1 pbx8_2 pbx8_3
  have ab10 : Below w9.heap.size w9 (w9.alloc (.cells #[.string b.code, .int .i64 b.len, (.slice Yy9_0 (b.people).length Zy9_0), .int .i64 b.last] 30)) := ((Below.refl _ _).alloc (by first | exact Nat.le_refl _ | (simp; omega) | (simp; done)) _)
  have az10 : (w9.alloc (.cells #[.string b.code, .int .i64 b.len, (.slice Yy9_0 (b.people).length Zy9_0), .int .i64 b.last] 30)).heap.size = w9.heap.size + 1 := by simp
  replace hx0_0 := hx0_0.below ab10 (by omega)
  replace hx1_0 := hx1_0.below ab10 (by omega)
  replace bx2 := bx2.below ab10 (by omega)
  replace bx3 := bx3.below ab10 (by omega)
  replace hy6_0 := hy6_0.below ab10 (by omega)
  replace hy7_0 := hy7_0.below ab10 (by omega)
  replace bx8 := bx8.below ab10 (by omega)
  replace hy9_0 := hy9_0.below ab10 (by omega)
  replace BB := Below.step ab10 (by omega) BB
  clear ab10
  have bx9 : Blk (w9.alloc (.cells #[.string b.code, .int .i64 b.len, (.slice Yy9_0 (b.people).length Zy9_0), .int .i64 b.last] 30)) (w9.heap.size) 30 #[.string b.code, .int .i64 b.len, (.slice Yy9_0 (b.people).length Zy9_0), .int .i64 b.last] := Blk.newAt (w := w9) (n := w9.heap.size) (t := 30) (cs := #[.string b.code, .int .i64 b.len, (.slice Yy9_0 (b.people).length Zy9_0), .int .i64 b.last]) (by simp)
  generalize (w9.alloc (.cells #[.string b.code, .int .i64 b.len, (.slice Yy9_0 (b.people).length Zy9_0), .int .i64 b.last] 30)) = wb10 at *
  obtain ⟨qbx8_0, qbx8_1, qbx8_2, qbx8_3⟩ := bx8.c4
  obtain ⟨qbx9_0, qbx9_1, qbx9_2, qbx9_3⟩ := bx9.c4
  try go_wp2_with fail
  refine (sharedPeople_any a (.slice Yy7_0 (a.people).length Zy7_0) _ _ b (.slice Yy9_0 (b.people).length Zy9_0) _ _ _ hy7_0.rd (by omega) hs0 hy9_0.rd (by omega) hs1).mono ?_
  rintro e w11 ⟨y11_0, rfl, hy11_0, b11⟩
  clear qbx8_0 qbx8_1 qbx8_2 qbx8_3 qbx9_0 qbx9_1 qbx9_2 qbx9_3
  have zb11 := b11.size
  replace hx0_0 := hx0_0.below b11 (by omega)
  replace hx1_0 := hx1_0.below b11 (by omega)
  replace bx2 := bx2.below b11 (by omega)
  replace bx3 := bx3.below b11 (by omega)
  replace hy6_0 := hy6_0.below b11 (by omega)
  replace hy7_0 := hy7_0.below b11 (by omega)
  replace bx8 := bx8.below b11 (by omega)
  replace hy9_0 := hy9_0.below b11 (by omega)
  replace bx9 := bx9.below b11 (by omega)
  replace BB := Below.step b11 (by omega) BB
  clear b11
  have l11_0 : ((sharedPeople a b).1).length ≤ 1048576 := sharedPeople_len (by assumption)
  go_wp2_with fail
  refine (eqStringS_any y11_0 y6_0 (sharedPeople a b).1 (sharedPeople a b).1 _ _ _ _ _ hy11_0.rd (by omega) hy6_0.rd (by omega) (by omega) (by omega)).mono ?_
  rintro e w12 ⟨rfl, b12⟩
  have zb12 := b12.size
  replace hx0_0 := hx0_0.below b12 (by omega)
  replace hx1_0 := hx1_0.below b12 (by omega)
  replace bx2 := bx2.below b12 (by omega)
  replace bx3 := bx3.below b12 (by omega)
  replace hy6_0 := hy6_0.below b12 (by omega)
  replace hy7_0 := hy7_0.below b12 (by omega)
  replace bx8 := bx8.below b12 (by omega)
  replace hy9_0 := hy9_0.below b12 (by omega)
  replace bx9 := bx9.below b12 (by omega)
  replace hy11_0 := hy11_0.below b12 (by omega)
  replace BB := Below.step b12 (by omega) BB
  clear b12
  rw [show eqL strEq (sharedPeople a b).1 (sharedPeople a b).1 = true from (eqL_iff (fun x y => strEq_iff x y)).2 rfl]
  obtain ⟨qbx2_0, qbx2_1, qbx2_2, qbx2_3⟩ := bx2.c4
  obtain ⟨qbx8_0, qbx8_1, qbx8_2, qbx8_3⟩ := bx8.c4
  go_wp2_with fail
  go_region_held3 (fun w' => w'.cell? ⟨w.heap.size, 0, none⟩ = some (.string a.code) ∧ w'.cell? ⟨w.heap.size, 1, none⟩ = some (.int .i64 a.len) ∧ w'.cell? ⟨w.heap.size, 2, none⟩ = some (p0_0) ∧ w'.cell? ⟨w.heap.size, 3, none⟩ = some (.int .i64 a.last) ∧ w'.cell? ⟨w7.heap.size, 0, none⟩ = some (.string a.code) ∧ w'.cell? ⟨w7.heap.size, 1, none⟩ = some (.int .i64 a.len) ∧ w'.cell? ⟨w7.heap.size, 2, none⟩ = some ((.slice Yy7_0 (a.people).length Zy7_0)) ∧ w'.cell? ⟨w7.heap.size, 3, none⟩ = some (.int .i64 a.last)) (go_keep)
    (first
      | (go_at_call 18; refine (eqHearing_any a a (.slice Yy7_0 (a.people).length Zy7_0) (.slice Yy13_0 (a.people).length Zy13_0) _ _ _ _ _ hy7_0.rd (by omega) hy13_0.rd (by omega) hs0 hs0).mono ?_; rintro e w14 ⟨rfl, b14⟩; have zb14 := b14.size; replace hx0_0 := hx0_0.below b14 (by omega); replace hx1_0 := hx1_0.below b14 (by omega); replace bx2 := bx2.below b14 (by omega); replace bx3 := bx3.below b14 (by omega); replace hy6_0 := hy6_0.below b14 (by omega); replace hy7_0 := hy7_0.below b14 (by omega); replace bx8 := bx8.below b14 (by omega); replace hy9_0 := hy9_0.below b14 (by omega); replace bx9 := bx9.below b14 (by omega); replace hy11_0 := hy11_0.below b14 (by omega); replace hy13_0 := hy13_0.below b14 (by omega); replace BB := Below.step b14 (by omega) BB; clear b14; obtain ⟨q14bx2_0, q14bx2_1, q14bx2_2, q14bx2_3⟩ := bx2.c4; obtain ⟨q14bx8_0, q14bx8_1, q14bx8_2, q14bx8_3⟩ := bx8.c4; rw [show Hearing.beq a a = true from Hearing.beq_refl _])
      | (go_at_call 15; refine (toHearing_any a p0_0 _ _ _ (hx0_0.below (B := w12.heap.size) (Below.refl _ w12).drew (by omega)) (by show _ ≤ w12.heap.size; omega) hs0).mono ?_; rintro e w13 ⟨y13_0, rfl, hy13_0, b13⟩; replace b13 : Below w12.heap.size w12 w13 := Below.undrew b13; have zb13 := b13.size; replace hx0_0 := hx0_0.below b13 (by omega); replace hx1_0 := hx1_0.below b13 (by omega); replace bx2 := bx2.below b13 (by omega); replace bx3 := bx3.below b13 (by omega); replace hy6_0 := hy6_0.below b13 (by omega); replace hy7_0 := hy7_0.below b13 (by omega); replace bx8 := bx8.below b13 (by omega); replace hy9_0 := hy9_0.below b13 (by omega); replace bx9 := bx9.below b13 (by omega); replace hy11_0 := hy11_0.below b13 (by omega); replace BB := Below.step b13 (by omega) BB; clear b13; obtain ⟨q13bx2_0, q13bx2_1, q13bx2_2, q13bx2_3⟩ := bx2.c4; obtain ⟨q13bx8_0, q13bx8_1, q13bx8_2, q13bx8_3⟩ := bx8.c4; obtain ⟨Yy13_0, Zy13_0, rfl, hzy13_0⟩ := hy13_0.form))
  clear qbx2_0 qbx2_1 qbx2_2 qbx2_3 qbx8_0 qbx8_1 qbx8_2 qbx8_3 q13bx2_0 q13bx2_1 q13bx2_2 q13bx2_3 q13bx8_0 q13bx8_1 q13bx8_2 q13bx8_3 q14bx2_0 q14bx2_1 q14bx2_2 q14bx2_3 q14bx8_0 q14bx8_1 q14bx8_2 q14bx8_3
  clear hy13_0
  obtain ⟨qbx3_0, qbx3_1, qbx3_2, qbx3_3⟩ := bx3.c4
  obtain ⟨qbx9_0, qbx9_1, qbx9_2, qbx9_3⟩ := bx9.c4
  go_wp2_with fail
  go_region_held3 (fun w' => w'.cell? ⟨w.heap.size + 1, 0, none⟩ = some (.string b.code) ∧ w'.cell? ⟨w.heap.size + 1, 1, none⟩ = some (.int .i64 b.len) ∧ w'.cell? ⟨w.heap.size + 1, 2, none⟩ = some (p1_0) ∧ w'.cell? ⟨w.heap.size + 1, 3, none⟩ = some (.int .i64 b.last) ∧ w'.cell? ⟨w9.heap.size, 0, none⟩ = some (.string b.code) ∧ w'.cell? ⟨w9.heap.size, 1, none⟩ = some (.int .i64 b.len) ∧ w'.cell? ⟨w9.heap.size, 2, none⟩ = some ((.slice Yy9_0 (b.people).length Zy9_0)) ∧ w'.cell? ⟨w9.heap.size, 3, none⟩ = some (.int .i64 b.last)) (go_keep)
    (first
      | (go_at_call 18; refine (eqHearing_any b b (.slice Yy9_0 (b.people).length Zy9_0) (.slice Yy15_0 (b.people).length Zy15_0) _ _ _ _ _ hy9_0.rd (by omega) hy15_0.rd (by omega) hs1 hs1).mono ?_; rintro e w16 ⟨rfl, b16⟩; have zb16 := b16.size; replace hx0_0 := hx0_0.below b16 (by omega); replace hx1_0 := hx1_0.below b16 (by omega); replace bx2 := bx2.below b16 (by omega); replace bx3 := bx3.below b16 (by omega); replace hy6_0 := hy6_0.below b16 (by omega); replace hy7_0 := hy7_0.below b16 (by omega); replace bx8 := bx8.below b16 (by omega); replace hy9_0 := hy9_0.below b16 (by omega); replace bx9 := bx9.below b16 (by omega); replace hy11_0 := hy11_0.below b16 (by omega); replace hy15_0 := hy15_0.below b16 (by omega); replace BB := Below.step b16 (by omega) BB; clear b16; obtain ⟨q16bx3_0, q16bx3_1, q16bx3_2, q16bx3_3⟩ := bx3.c4; obtain ⟨q16bx9_0, q16bx9_1, q16bx9_2, q16bx9_3⟩ := bx9.c4; rw [show Hearing.beq b b = true from Hearing.beq_refl _])
      | (go_at_call 15; refine (toHearing_any b p1_0 _ _ _ (hx1_0.below (B := w14.heap.size) (Below.refl _ w14).drew (by omega)) (by show _ ≤ w14.heap.size; omega) hs1).mono ?_; rintro e w15 ⟨y15_0, rfl, hy15_0, b15⟩; replace b15 : Below w14.heap.size w14 w15 := Below.undrew b15; have zb15 := b15.size; replace hx0_0 := hx0_0.below b15 (by omega); replace hx1_0 := hx1_0.below b15 (by omega); replace bx2 := bx2.below b15 (by omega); replace bx3 := bx3.below b15 (by omega); replace hy6_0 := hy6_0.below b15 (by omega); replace hy7_0 := hy7_0.below b15 (by omega); replace bx8 := bx8.below b15 (by omega); replace hy9_0 := hy9_0.below b15 (by omega); replace bx9 := bx9.below b15 (by omega); replace hy11_0 := hy11_0.below b15 (by omega); replace BB := Below.step b15 (by omega) BB; clear b15; obtain ⟨q15bx3_0, q15bx3_1, q15bx3_2, q15bx3_3⟩ := bx3.c4; obtain ⟨q15bx9_0, q15bx9_1, q15bx9_2, q15bx9_3⟩ := bx9.c4; obtain ⟨Yy15_0, Zy15_0, rfl, hzy15_0⟩ := hy15_0.form))
  clear qbx3_0 qbx3_1 qbx3_2 qbx3_3 qbx9_0 qbx9_1 qbx9_2 qbx9_3 q15bx3_0 q15bx3_1 q15bx3_2 q15bx3_3 q15bx9_0 q15bx9_1 q15bx9_2 q15bx9_3 q16bx3_0 q16bx3_1 q16bx3_2 q16bx3_3 q16bx9_0 q16bx9_1 q16bx9_2 q16bx9_3
  clear hy15_0
  obtain ⟨qbx8_0, qbx8_1, qbx8_2, qbx8_3⟩ := bx8.c4
  go_wp2_with fail
  refine (markHearing_any a (.slice Yy7_0 (a.people).length Zy7_0) _ _ (1) _ hy7_0 (by omega) hs0 (by omega) (by omega)).mono ?_
  rintro e w17 ⟨rfl, cg17⟩
  clear qbx8_0 qbx8_1 qbx8_2 qbx8_3
  have zcg17 := cg17.size
  clear hy7_0
  replace hx0_0 := hx0_0.chg cg17 (by omega) (by omega)
  replace hx1_0 := hx1_0.chg cg17 (by omega) (by omega)
  replace bx2 := bx2.chg cg17 (by omega) (by omega)
  replace bx3 := bx3.chg cg17 (by omega) (by omega)
  replace hy6_0 := hy6_0.chg cg17 (by omega) (by omega)
  replace bx8 := bx8.chg cg17 (by omega) (by omega)
  replace hy9_0 := hy9_0.chg cg17 (by omega) (by omega)
  replace bx9 := bx9.chg cg17 (by omega) (by omega)
  replace hy11_0 := hy11_0.chg cg17 (by omega) (by omega)
  replace BB := BB.trans (cg17.below (by omega) (by omega))
  clear cg17
  clear bx8
  obtain ⟨qbx9_0, qbx9_1, qbx9_2, qbx9_3⟩ := bx9.c4
  go_wp2_with fail
  refine (markHearing_any b (.slice Yy9_0 (b.people).length Zy9_0) _ _ (1 + ((a.people).length : Int)) _ hy9_0 (by omega) hs1 (by omega) (by omega)).mono ?_
  rintro e w18 ⟨rfl, cg18⟩
  clear qbx9_0 qbx9_1 qbx9_2 qbx9_3
  have zcg18 := cg18.size
  clear hy9_0
  replace hx0_0 := hx0_0.chg cg18 (by omega) (by omega)
  replace hx1_0 := hx1_0.chg cg18 (by omega) (by omega)
  replace bx2 := bx2.chg cg18 (by omega) (by omega)
  replace bx3 := bx3.chg cg18 (by omega) (by omega)
  replace hy6_0 := hy6_0.chg cg18 (by omega) (by omega)
  replace bx9 := bx9.chg cg18 (by omega) (by omega)
  replace hy11_0 := hy11_0.chg cg18 (by omega) (by omega)
  replace BB := BB.trans (cg18.below (by omega) (by omega))
  clear cg18
  clear bx9
  go_wp2_with fail
  refine (eqStringS_any y11_0 y6_0 (sharedPeople a b).1 (sharedPeople a b).1 _ _ _ _ _ hy11_0.rd (by omega) hy6_0.rd (by omega) (by omega) (by omega)).mono ?_
  rintro e w19 ⟨rfl, b19⟩
  have zb19 := b19.size
  replace hx0_0 := hx0_0.below b19 (by omega)
  replace hx1_0 := hx1_0.below b19 (by omega)
  replace bx2 := bx2.below b19 (by omega)
  replace bx3 := bx3.below b19 (by omega)
  replace hy6_0 := hy6_0.below b19 (by omega)
  replace hy11_0 := hy11_0.below b19 (by omega)
  replace BB := Below.step b19 (by omega) BB
  clear b19
  rw [show eqL strEq (sharedPeople a b).1 (sharedPeople a b).1 = true from (eqL_iff (fun x y => strEq_iff x y)).2 rfl]
  go_wp2_with fail
  refine (markStringS_any y11_0 ((sharedPeople a b).1) _ _ (1) _ hy11_0 (by omega) (by omega) (by omega) (by omega)).mono ?_
  rintro e w20 ⟨rfl, hg20, cg20⟩
  have zcg20 := cg20.size
  clear hy11_0
  replace hx0_0 := hx0_0.chg cg20 (by omega) (by omega)
  replace hx1_0 := hx1_0.chg cg20 (by omega) (by omega)
  replace bx2 := bx2.chg cg20 (by omega) (by omega)
  replace bx3 := bx3.chg cg20 (by omega) (by omega)
  replace hy6_0 := hy6_0.chg cg20 (by omega) (by omega)
  replace BB := BB.trans (cg20.below (by omega) (by omega))
  clear cg20
  go_wp2_with fail
  refine (heldStringS_any y11_0 ((sharedPeople a b).1).length _ _ (1) _ hg20.rd (by omega) (by omega) (by omega) (by omega)).mono ?_
  rintro e w21 ⟨rfl, b21⟩
  have zb21 := b21.size
  replace hx0_0 := hx0_0.below b21 (by omega)
  replace hx1_0 := hx1_0.below b21 (by omega)
  replace bx2 := bx2.below b21 (by omega)
  replace bx3 := bx3.below b21 (by omega)
  replace hy6_0 := hy6_0.below b21 (by omega)
  replace hg20 := hg20.below b21 (by omega)
  replace BB := Below.step b21 (by omega) BB
  clear b21
  obtain ⟨qbx2_0, qbx2_1, qbx2_2, qbx2_3⟩ := bx2.c4
  obtain ⟨qbx3_0, qbx3_1, qbx3_2, qbx3_3⟩ := bx3.c4
  go_wp2_with fail
  go_region_held3 (fun w' => w'.cell? ⟨w.heap.size, 0, none⟩ = some (.string a.code) ∧ w'.cell? ⟨w.heap.size, 1, none⟩ = some (.int .i64 a.len) ∧ w'.cell? ⟨w.heap.size, 2, none⟩ = some (p0_0) ∧ w'.cell? ⟨w.heap.size, 3, none⟩ = some (.int .i64 a.last) ∧ w'.cell? ⟨w.heap.size + 1, 0, none⟩ = some (.string b.code) ∧ w'.cell? ⟨w.heap.size + 1, 1, none⟩ = some (.int .i64 b.len) ∧ w'.cell? ⟨w.heap.size + 1, 2, none⟩ = some (p1_0) ∧ w'.cell? ⟨w.heap.size + 1, 3, none⟩ = some (.int .i64 b.last)) (go_keep)
    (first
      | (go_at_call 27; refine (sharedPeople_any a (.slice Yy22_0 (a.people).length Zy22_0) _ _ b (.slice Yy23_0 (b.people).length Zy23_0) _ _ _ hy22_0.rd (by omega) hs0 hy23_0.rd (by omega) hs1).mono ?_; rintro e w24 ⟨y24_0, rfl, hy24_0, b24⟩; have zb24 := b24.size; replace hx0_0 := hx0_0.below b24 (by omega); replace hx1_0 := hx1_0.below b24 (by omega); replace bx2 := bx2.below b24 (by omega); replace bx3 := bx3.below b24 (by omega); replace hy6_0 := hy6_0.below b24 (by omega); replace hg20 := hg20.below b24 (by omega); replace hy22_0 := hy22_0.below b24 (by omega); replace hy23_0 := hy23_0.below b24 (by omega); replace BB := Below.step b24 (by omega) BB; clear b24; obtain ⟨q24bx2_0, q24bx2_1, q24bx2_2, q24bx2_3⟩ := bx2.c4; obtain ⟨q24bx3_0, q24bx3_1, q24bx3_2, q24bx3_3⟩ := bx3.c4; have l24_0 : ((sharedPeople a b).1).length ≤ 1048576 := sharedPeople_len (by assumption))
      | (go_at_call 15; have gq := zb22; clear gq; refine (toHearing_any b p1_0 _ _ _ hx1_0 (by omega) hs1).mono ?_; rintro e w23 ⟨y23_0, rfl, hy23_0, b23⟩; have zb23 := b23.size; replace hx0_0 := hx0_0.below b23 (by omega); replace hx1_0 := hx1_0.below b23 (by omega); replace bx2 := bx2.below b23 (by omega); replace bx3 := bx3.below b23 (by omega); replace hy6_0 := hy6_0.below b23 (by omega); replace hg20 := hg20.below b23 (by omega); replace hy22_0 := hy22_0.below b23 (by omega); replace BB := Below.step b23 (by omega) BB; clear b23; obtain ⟨q23bx2_0, q23bx2_1, q23bx2_2, q23bx2_3⟩ := bx2.c4; obtain ⟨q23bx3_0, q23bx3_1, q23bx3_2, q23bx3_3⟩ := bx3.c4; obtain ⟨Yy23_0, Zy23_0, rfl, hzy23_0⟩ := hy23_0.form)
      | (go_at_call 15; refine (toHearing_any a p0_0 _ _ _ (hx0_0.below (B := w21.heap.size) (Below.refl _ w21).drew (by omega)) (by show _ ≤ w21.heap.size; omega) hs0).mono ?_; rintro e w22 ⟨y22_0, rfl, hy22_0, b22⟩; replace b22 : Below w21.heap.size w21 w22 := Below.undrew b22; have zb22 := b22.size; replace hx0_0 := hx0_0.below b22 (by omega); replace hx1_0 := hx1_0.below b22 (by omega); replace bx2 := bx2.below b22 (by omega); replace bx3 := bx3.below b22 (by omega); replace hy6_0 := hy6_0.below b22 (by omega); replace hg20 := hg20.below b22 (by omega); replace BB := Below.step b22 (by omega) BB; clear b22; obtain ⟨q22bx2_0, q22bx2_1, q22bx2_2, q22bx2_3⟩ := bx2.c4; obtain ⟨q22bx3_0, q22bx3_1, q22bx3_2, q22bx3_3⟩ := bx3.c4; obtain ⟨Yy22_0, Zy22_0, rfl, hzy22_0⟩ := hy22_0.form))
  clear qbx2_0 qbx2_1 qbx2_2 qbx2_3 qbx3_0 qbx3_1 qbx3_2 qbx3_3 q22bx2_0 q22bx2_1 q22bx2_2 q22bx2_3 q22bx3_0 q22bx3_1 q22bx3_2 q22bx3_3 q23bx2_0 q23bx2_1 q23bx2_2 q23bx2_3 q23bx3_0 q23bx3_1 q23bx3_2 q23bx3_3 q24bx2_0 q24bx2_1 q24bx2_2 q24bx2_3 q24bx3_0 q24bx3_1 q24bx3_2 q24bx3_3
  clear bx2
  clear bx3
  clear hx0_0 hx1_0 hy22_0 hy23_0
  go_wp2_with fail
  refine (eqStringS_any y24_0 y6_0 (sharedPeople a b).1 (sharedPeople a b).1 _ _ _ _ _ hy24_0.rd (by omega) hy6_0.rd (by omega) (by omega) (by omega)).mono ?_
  rintro e w25 ⟨rfl, b25⟩
  have zb25 := b25.size
  replace hy6_0 := hy6_0.below b25 (by omega)
  replace hg20 := hg20.below b25 (by omega)
  replace hy24_0 := hy24_0.below b25 (by omega)
  replace BB := Below.step b25 (by omega) BB
  clear b25
  rw [show eqL strEq (sharedPeople a b).1 (sharedPeople a b).1 = true from (eqL_iff (fun x y => strEq_iff x y)).2 rfl]
  clear hy6_0 hy24_0
  go_wp2_with fail
  refine (heldStringS_any y11_0 ((sharedPeople a b).1).length _ _ (1) _ hg20.rd (by omega) (by omega) (by omega) (by omega)).mono ?_
  rintro e w26 ⟨rfl, b26⟩
  have zb26 := b26.size
  replace hg20 := hg20.below b26 (by omega)
  replace BB := Below.step b26 (by omega) BB
  clear b26
  clear hg20
  go_wp2_with fail
  go_ret
  exact ⟨rfl, BB⟩

set_option maxRecDepth 100000 in
theorem lifted (os : Os) (started : os.Started) (H : Type) (enc : TypeId × Value → H) :
    ReturnsInHanded {} Try.checked os 6 .any (Rows.fnExactSharedPeopleSpec.pre6 enc Try.prog Try.f6 Rows.fnExactSharedPeopleRow.domain false) (Rows.fnExactSharedPeopleSpec.post enc Try.prog Try.f6 false true false false) := by
  refine returnsInHanded_of_change (C := Try.checked) own started (by kernel_rfl) Try.func6
    (ChangeSpec.witness6 (enc := enc) (C := Try.checked) false ⟨#[], #[.agg #[.string ByteArray.empty, .int .i64 0, .slice none 0 0, .int .i64 0], .agg #[.string ByteArray.empty, .int .i64 0, .slice none 0 0, .int .i64 0]], []⟩ 8 (by kernel_rfl) (by kernel_rfl) (by kernel_rfl) (by kernel_rfl)) ?_
  intro W base args ds gs before hval0 hW hcnd _
  have hval : ∀ (j : Nat) t v, Try.f6.params[j]? = some t → args[j]? = some v → Value.okWide Try.prog W .any base t v := hval0
  have hW' := hW
  obtain ⟨p, q, hA0, hV, rfl, hfz, hnd⟩ := hW
  have hA : DataW.TrodAll enc Try.prog W 0 (fun _ => true) true Try.f6.params.toList args.toList ds p := hA0
  rw [Try.params6] at hA hval
  obtain ⟨v0, vs0, d0, ds0, p0, q0, hargs, rfl, rfl, h0, r0⟩ := trodAll_cons hA
  obtain ⟨v1, vs1, d1, ds1, p1, q1, rfl, rfl, rfl, h1, r1⟩ := trodAll_cons r0
  obtain ⟨rfl, rfl, rfl⟩ := trodAll_nil r1
  obtain rfl : args = #[v0, v1] := by cases args; simp_all
  obtain ⟨rfl, rfl⟩ := trodVars_none hV
  have k0 := h0
  have lt0 : ∀ x ∈ p0, x.block < W.heap.size := by obtain ⟨m, hm⟩ := k0; exact DataW.trod_lt m _ _ _ hm
  have k1 := h1
  have lt1 : ∀ x ∈ p1, x.block < W.heap.size := by obtain ⟨m, hm⟩ := k1; exact DataW.trod_lt m _ _ _ hm
  obtain ⟨a, p0_0, rfl, hx0_0, hq0⟩ := openHearing (hval 0 24 v0 rfl rfl) h0
  obtain ⟨b, p1_0, rfl, hx1_0, hq1⟩ := openHearing (hval 1 24 v1 rfl rfl) h1
  clear hA0 hval0
  refine (walk a p0_0 b p1_0 W hx0_0 hq0 hx1_0 hq1).mono fun e W' ⟨he, bel⟩ => ?_
  subst he
  exact ⟨_, rfl, _, _, _, [], _, [], hW', trodAll_mk1 (shut_bool Try.underlying4 _), (trodAll_cons_mk (Below.trod laidOut (by kernel_rfl) (of_decide_eq_true (by kernel_rfl)) k0 bel lt0) (trodAll_cons_mk (Below.trod laidOut (by kernel_rfl) (of_decide_eq_true (by kernel_rfl)) k1 bel lt1) trodAll_mk0)), rfl, bel.frame _, fun h => by cases h⟩

theorem over : Rows.fnExactSharedPeopleRow.holds Try.pinned (OpenSpec.ofChange Rows.fnExactSharedPeopleSpec) :=
  OpenClaim.holds_of_wide 6 Try.f6 rfl rfl rfl rfl rfl rfl rfl ⟨rfl, rfl, rfl, rfl, rfl⟩ rfl rfl rfl rfl rfl (by kernel_rfl) Try.func6 (by kernel_rfl)
    (of_decide_eq_true (by kernel_rfl)) (by unfold Func.isWrapper; first | (rw [if_pos (by decide +kernel)]; kernel_rfl) | (rw [if_neg (by decide +kernel)]; exact ⟨rfl, rfl⟩))
    (fun os started H enc _ => lifted os started H enc)

theorem proved : Rows.FnExactSharedPeopleSaid := over
#print axioms proved
end Go.Proofs.Ytdcfenkkgnnbbaa.sharedPeople
