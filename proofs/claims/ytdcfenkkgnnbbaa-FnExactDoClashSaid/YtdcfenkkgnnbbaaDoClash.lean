/- The program's DoClash returns what the reference's returns, for all arguments. No conditions. -/
import Derived.Test.YtdcfenkkgnnbbaaSharedX
import Derived.Test.YtdcfenkkgnnbbaaHearingO
import Derived.Test.YtdcfenkkgnnbbaaSlotO
namespace Go.Proofs.Ytdcfenkkgnnbbaa.doClash
open Go.ChangeShapes Go.WideShapes Go.ChangeAt Go.RowKit
open Go.ChangeMaps (open_string shut_string)
set_option linter.unusedVariables false

theorem own : ownKnob Try.prog.godebug = none := by kernel_rfl
theorem laidOut : laidOutB Try.prog = true := by kernel_rfl


set_option maxRecDepth 100000 in
set_option maxHeartbeats 4000000 in
theorem walk (a : Hearing) (p0_0 : Value) (s : Slot) (b : Hearing) (p2_0 : Value) (t : Slot) (w : World) (hx0_0 : RdF encStr 1 w 0 w.heap.size p0_0 a.people) (hq0 : Hearing.wf a) (hq1 : Slot.wf s) (hx2_0 : RdF encStr 1 w 0 w.heap.size p2_0 b.people) (hq2 : Hearing.wf b) (hq3 : Slot.wf t) :
    Calls Try.prog 5 #[.agg #[.string a.code, .int .i64 a.len, p0_0, .int .i64 a.last], .agg #[.int .i64 s.room, .int .i64 s.day, .int .i64 s.frm], .agg #[.string b.code, .int .i64 b.len, p2_0, .int .i64 b.last], .agg #[.int .i64 t.room, .int .i64 t.day, .int .i64 t.frm]] w fun e w' => e = .returned (.bool true) ∧ Below w.heap.size w w' := by
  try unfold maxLen at *
  go_enter Try.func5, Try.ntmps5
  have BB : Below w.heap.size w w := Below.refl _ _
  go_wp2_with fail
  have ab1 : Below w.heap.size w ((((w.alloc (.cells #[.string a.code, .int .i64 a.len, p0_0, .int .i64 a.last] 24)).alloc (.cells #[.int .i64 s.room, .int .i64 s.day, .int .i64 s.frm] 26)).alloc (.cells #[.string b.code, .int .i64 b.len, p2_0, .int .i64 b.last] 24)).alloc (.cells #[.int .i64 t.room, .int .i64 t.day, .int .i64 t.frm] 26)) := (((((Below.refl _ _).alloc (by first | exact Nat.le_refl _ | (simp; omega) | (simp; done)) _).alloc (by first | exact Nat.le_refl _ | (simp; omega) | (simp; done)) _).alloc (by first | exact Nat.le_refl _ | (simp; omega) | (simp; done)) _).alloc (by first | exact Nat.le_refl _ | (simp; omega) | (simp; done)) _)
  have az1 : ((((w.alloc (.cells #[.string a.code, .int .i64 a.len, p0_0, .int .i64 a.last] 24)).alloc (.cells #[.int .i64 s.room, .int .i64 s.day, .int .i64 s.frm] 26)).alloc (.cells #[.string b.code, .int .i64 b.len, p2_0, .int .i64 b.last] 24)).alloc (.cells #[.int .i64 t.room, .int .i64 t.day, .int .i64 t.frm] 26)).heap.size = w.heap.size + 4 := by simp
  replace hx0_0 := hx0_0.below ab1 (by omega)
  replace hx2_0 := hx2_0.below ab1 (by omega)
  replace BB := Below.step ab1 (by omega) BB
  clear ab1
  have bx4 : Blk ((((w.alloc (.cells #[.string a.code, .int .i64 a.len, p0_0, .int .i64 a.last] 24)).alloc (.cells #[.int .i64 s.room, .int .i64 s.day, .int .i64 s.frm] 26)).alloc (.cells #[.string b.code, .int .i64 b.len, p2_0, .int .i64 b.last] 24)).alloc (.cells #[.int .i64 t.room, .int .i64 t.day, .int .i64 t.frm] 26)) (w.heap.size) 24 #[.string a.code, .int .i64 a.len, p0_0, .int .i64 a.last] := (((Blk.newAt (w := w) (n := w.heap.size) (t := 24) (cs := #[.string a.code, .int .i64 a.len, p0_0, .int .i64 a.last]) (by simp)).alloc _).alloc _).alloc _
  have bx5 : Blk ((((w.alloc (.cells #[.string a.code, .int .i64 a.len, p0_0, .int .i64 a.last] 24)).alloc (.cells #[.int .i64 s.room, .int .i64 s.day, .int .i64 s.frm] 26)).alloc (.cells #[.string b.code, .int .i64 b.len, p2_0, .int .i64 b.last] 24)).alloc (.cells #[.int .i64 t.room, .int .i64 t.day, .int .i64 t.frm] 26)) (w.heap.size + 1) 26 #[.int .i64 s.room, .int .i64 s.day, .int .i64 s.frm] := ((Blk.newAt (w := (w.alloc (.cells #[.string a.code, .int .i64 a.len, p0_0, .int .i64 a.last] 24))) (n := w.heap.size + 1) (t := 26) (cs := #[.int .i64 s.room, .int .i64 s.day, .int .i64 s.frm]) (by simp)).alloc _).alloc _
  have bx6 : Blk ((((w.alloc (.cells #[.string a.code, .int .i64 a.len, p0_0, .int .i64 a.last] 24)).alloc (.cells #[.int .i64 s.room, .int .i64 s.day, .int .i64 s.frm] 26)).alloc (.cells #[.string b.code, .int .i64 b.len, p2_0, .int .i64 b.last] 24)).alloc (.cells #[.int .i64 t.room, .int .i64 t.day, .int .i64 t.frm] 26)) (w.heap.size + 2) 24 #[.string b.code, .int .i64 b.len, p2_0, .int .i64 b.last] := (Blk.newAt (w := ((w.alloc (.cells #[.string a.code, .int .i64 a.len, p0_0, .int .i64 a.last] 24)).alloc (.cells #[.int .i64 s.room, .int .i64 s.day, .int .i64 s.frm] 26))) (n := w.heap.size + 2) (t := 24) (cs := #[.string b.code, .int .i64 b.len, p2_0, .int .i64 b.last]) (by simp)).alloc _
  have bx7 : Blk ((((w.alloc (.cells #[.string a.code, .int .i64 a.len, p0_0, .int .i64 a.last] 24)).alloc (.cells #[.int .i64 s.room, .int .i64 s.day, .int .i64 s.frm] 26)).alloc (.cells #[.string b.code, .int .i64 b.len, p2_0, .int .i64 b.last] 24)).alloc (.cells #[.int .i64 t.room, .int .i64 t.day, .int .i64 t.frm] 26)) (w.heap.size + 3) 26 #[.int .i64 t.room, .int .i64 t.day, .int .i64 t.frm] := Blk.newAt (w := (((w.alloc (.cells #[.string a.code, .int .i64 a.len, p0_0, .int .i64 a.last] 24)).alloc (.cells #[.int .i64 s.room, .int .i64 s.day, .int .i64 s.frm] 26)).alloc (.cells #[.string b.code, .int .i64 b.len, p2_0, .int .i64 b.last] 24))) (n := w.heap.size + 3) (t := 26) (cs := #[.int .i64 t.room, .int .i64 t.day, .int .i64 t.frm]) (by simp)
  generalize ((((w.alloc (.cells #[.string a.code, .int .i64 a.len, p0_0, .int .i64 a.last] 24)).alloc (.cells #[.int .i64 s.room, .int .i64 s.day, .int .i64 s.frm] 26)).alloc (.cells #[.string b.code, .int .i64 b.len, p2_0, .int .i64 b.last] 24)).alloc (.cells #[.int .i64 t.room, .int .i64 t.day, .int .i64 t.frm] 26)) = wb1 at *
  obtain ⟨qbx4_0, qbx4_1, qbx4_2, qbx4_3⟩ := bx4.c4
  try go_wp2_with fail
  refine (szHearing_any a p0_0 _ _ _ _ hx0_0 (by omega) (Hearing.big_of hq0) (by omega) (by omega)).mono ?_
  rintro e w2 ⟨r0, rfl, ⟨hra0, hrb0⟩, b2⟩
  clear qbx4_0 qbx4_1 qbx4_2 qbx4_3
  have zb2 := b2.size
  replace hx0_0 := hx0_0.below b2 (by omega)
  replace hx2_0 := hx2_0.below b2 (by omega)
  replace bx4 := bx4.below b2 (by omega)
  replace bx5 := bx5.below b2 (by omega)
  replace bx6 := bx6.below b2 (by omega)
  replace bx7 := bx7.below b2 (by omega)
  replace BB := Below.step b2 (by omega) BB
  clear b2
  by_cases hn0 : r0 < 0
  · go_wp2_with fail
    go_ret
    exact ⟨rfl, by (repeat (first | with_reducible assumption | with_reducible exact Below.refl _ _ | with_reducible refine Below.setCell ?_ ?_ _ | with_reducible refine Below.alloc ?_ ?_ _ | with_reducible refine Below.drew ?_ | with_reducible refine below_drewN ?_ _ | with_reducible refine Below.step (by with_reducible assumption) ?_ ?_ | omega | (simp <;> omega) | (simp; done)))⟩
  have hp0 : 0 ≤ r0 := by omega
  have hq0' := hrb0 hp0
  clear hrb0
  have hs0 : Hearing.small a := Hearing.small_of hq0'.1 (by omega)
  have hm0_0 : a.people.length ≤ 1048576 := hs0.len0
  obtain ⟨qbx6_0, qbx6_1, qbx6_2, qbx6_3⟩ := bx6.c4
  go_wp2_with fail
  refine (szHearing_any b p2_0 _ _ _ _ hx2_0 (by omega) (Hearing.big_of hq2) (by omega) (by omega)).mono ?_
  rintro e w3 ⟨r2, rfl, ⟨hra2, hrb2⟩, b3⟩
  clear qbx6_0 qbx6_1 qbx6_2 qbx6_3
  have zb3 := b3.size
  replace hx0_0 := hx0_0.below b3 (by omega)
  replace hx2_0 := hx2_0.below b3 (by omega)
  replace bx4 := bx4.below b3 (by omega)
  replace bx5 := bx5.below b3 (by omega)
  replace bx6 := bx6.below b3 (by omega)
  replace bx7 := bx7.below b3 (by omega)
  replace BB := Below.step b3 (by omega) BB
  clear b3
  by_cases hn2 : r2 < 0
  · go_wp2_with fail
    go_ret
    exact ⟨rfl, by (repeat (first | with_reducible assumption | with_reducible exact Below.refl _ _ | with_reducible refine Below.setCell ?_ ?_ _ | with_reducible refine Below.alloc ?_ ?_ _ | with_reducible refine Below.drew ?_ | with_reducible refine below_drewN ?_ _ | with_reducible refine Below.step (by with_reducible assumption) ?_ ?_ | omega | (simp <;> omega) | (simp; done)))⟩
  have hp2 : 0 ≤ r2 := by omega
  have hq2' := hrb2 hp2
  clear hrb2
  have hs2 : Hearing.small b := Hearing.small_of hq2'.1 (by omega)
  have hm2_0 : b.people.length ≤ 1048576 := hs2.len0
  obtain ⟨qbx4_0, qbx4_1, qbx4_2, qbx4_3⟩ := bx4.c4
  obtain ⟨qbx5_0, qbx5_1, qbx5_2⟩ := bx5.c3
  obtain ⟨qbx6_0, qbx6_1, qbx6_2, qbx6_3⟩ := bx6.c4
  obtain ⟨qbx7_0, qbx7_1, qbx7_2⟩ := bx7.c3
  go_wp2_with fail
  go_region_held3 (fun w' => w'.cell? ⟨w.heap.size, 0, none⟩ = some (.string a.code) ∧ w'.cell? ⟨w.heap.size, 1, none⟩ = some (.int .i64 a.len) ∧ w'.cell? ⟨w.heap.size, 2, none⟩ = some (p0_0) ∧ w'.cell? ⟨w.heap.size, 3, none⟩ = some (.int .i64 a.last) ∧ w'.cell? ⟨w.heap.size + 1, 0, none⟩ = some (.int .i64 s.room) ∧ w'.cell? ⟨w.heap.size + 1, 1, none⟩ = some (.int .i64 s.day) ∧ w'.cell? ⟨w.heap.size + 1, 2, none⟩ = some (.int .i64 s.frm) ∧ w'.cell? ⟨w.heap.size + 2, 0, none⟩ = some (.string b.code) ∧ w'.cell? ⟨w.heap.size + 2, 1, none⟩ = some (.int .i64 b.len) ∧ w'.cell? ⟨w.heap.size + 2, 2, none⟩ = some (p2_0) ∧ w'.cell? ⟨w.heap.size + 2, 3, none⟩ = some (.int .i64 b.last) ∧ w'.cell? ⟨w.heap.size + 3, 0, none⟩ = some (.int .i64 t.room) ∧ w'.cell? ⟨w.heap.size + 3, 1, none⟩ = some (.int .i64 t.day) ∧ w'.cell? ⟨w.heap.size + 3, 2, none⟩ = some (.int .i64 t.frm)) (go_keep)
    (first
      | (go_at_call 24; refine (sDoClash_any a (.slice Yy4_0 (a.people).length Zy4_0) _ _ s b (.slice Yy6_0 (b.people).length Zy6_0) _ _ t _ hy4_0.rd (by omega) hs0 hy6_0.rd (by omega) hs2).mono ?_; rintro e w8 ⟨rfl, b8⟩; have zb8 := b8.size; replace hx0_0 := hx0_0.below b8 (by omega); replace hx2_0 := hx2_0.below b8 (by omega); replace bx4 := bx4.below b8 (by omega); replace bx5 := bx5.below b8 (by omega); replace bx6 := bx6.below b8 (by omega); replace bx7 := bx7.below b8 (by omega); replace hy4_0 := hy4_0.below b8 (by omega); replace hy6_0 := hy6_0.below b8 (by omega); replace BB := Below.step b8 (by omega) BB; clear b8; obtain ⟨q8bx4_0, q8bx4_1, q8bx4_2, q8bx4_3⟩ := bx4.c4; obtain ⟨q8bx5_0, q8bx5_1, q8bx5_2⟩ := bx5.c3; obtain ⟨q8bx6_0, q8bx6_1, q8bx6_2, q8bx6_3⟩ := bx6.c4; obtain ⟨q8bx7_0, q8bx7_1, q8bx7_2⟩ := bx7.c3)
      | (go_at_call 16; have gq := zb6; clear gq; refine (toSlot_any t _).mono ?_; rintro e w7 ⟨rfl, b7⟩; have zb7 := b7.size; replace hx0_0 := hx0_0.below b7 (by omega); replace hx2_0 := hx2_0.below b7 (by omega); replace bx4 := bx4.below b7 (by omega); replace bx5 := bx5.below b7 (by omega); replace bx6 := bx6.below b7 (by omega); replace bx7 := bx7.below b7 (by omega); replace hy4_0 := hy4_0.below b7 (by omega); replace hy6_0 := hy6_0.below b7 (by omega); replace BB := Below.step b7 (by omega) BB; clear b7; obtain ⟨q7bx4_0, q7bx4_1, q7bx4_2, q7bx4_3⟩ := bx4.c4; obtain ⟨q7bx5_0, q7bx5_1, q7bx5_2⟩ := bx5.c3; obtain ⟨q7bx6_0, q7bx6_1, q7bx6_2, q7bx6_3⟩ := bx6.c4; obtain ⟨q7bx7_0, q7bx7_1, q7bx7_2⟩ := bx7.c3)
      | (go_at_call 15; have gq := zb5; clear gq; refine (toHearing_any b p2_0 _ _ _ hx2_0 (by omega) hs2).mono ?_; rintro e w6 ⟨y6_0, rfl, hy6_0, b6⟩; have zb6 := b6.size; replace hx0_0 := hx0_0.below b6 (by omega); replace hx2_0 := hx2_0.below b6 (by omega); replace bx4 := bx4.below b6 (by omega); replace bx5 := bx5.below b6 (by omega); replace bx6 := bx6.below b6 (by omega); replace bx7 := bx7.below b6 (by omega); replace hy4_0 := hy4_0.below b6 (by omega); replace BB := Below.step b6 (by omega) BB; clear b6; obtain ⟨q6bx4_0, q6bx4_1, q6bx4_2, q6bx4_3⟩ := bx4.c4; obtain ⟨q6bx5_0, q6bx5_1, q6bx5_2⟩ := bx5.c3; obtain ⟨q6bx6_0, q6bx6_1, q6bx6_2, q6bx6_3⟩ := bx6.c4; obtain ⟨q6bx7_0, q6bx7_1, q6bx7_2⟩ := bx7.c3; obtain ⟨Yy6_0, Zy6_0, rfl, hzy6_0⟩ := hy6_0.form)
      | (go_at_call 16; have gq := zb4; clear gq; refine (toSlot_any s _).mono ?_; rintro e w5 ⟨rfl, b5⟩; have zb5 := b5.size; replace hx0_0 := hx0_0.below b5 (by omega); replace hx2_0 := hx2_0.below b5 (by omega); replace bx4 := bx4.below b5 (by omega); replace bx5 := bx5.below b5 (by omega); replace bx6 := bx6.below b5 (by omega); replace bx7 := bx7.below b5 (by omega); replace hy4_0 := hy4_0.below b5 (by omega); replace BB := Below.step b5 (by omega) BB; clear b5; obtain ⟨q5bx4_0, q5bx4_1, q5bx4_2, q5bx4_3⟩ := bx4.c4; obtain ⟨q5bx5_0, q5bx5_1, q5bx5_2⟩ := bx5.c3; obtain ⟨q5bx6_0, q5bx6_1, q5bx6_2, q5bx6_3⟩ := bx6.c4; obtain ⟨q5bx7_0, q5bx7_1, q5bx7_2⟩ := bx7.c3)
      | (go_at_call 15; refine (toHearing_any a p0_0 _ _ _ (hx0_0.below (B := w3.heap.size) (Below.refl _ w3).drew (by omega)) (by show _ ≤ w3.heap.size; omega) hs0).mono ?_; rintro e w4 ⟨y4_0, rfl, hy4_0, b4⟩; replace b4 : Below w3.heap.size w3 w4 := Below.undrew b4; have zb4 := b4.size; replace hx0_0 := hx0_0.below b4 (by omega); replace hx2_0 := hx2_0.below b4 (by omega); replace bx4 := bx4.below b4 (by omega); replace bx5 := bx5.below b4 (by omega); replace bx6 := bx6.below b4 (by omega); replace bx7 := bx7.below b4 (by omega); replace BB := Below.step b4 (by omega) BB; clear b4; obtain ⟨q4bx4_0, q4bx4_1, q4bx4_2, q4bx4_3⟩ := bx4.c4; obtain ⟨q4bx5_0, q4bx5_1, q4bx5_2⟩ := bx5.c3; obtain ⟨q4bx6_0, q4bx6_1, q4bx6_2, q4bx6_3⟩ := bx6.c4; obtain ⟨q4bx7_0, q4bx7_1, q4bx7_2⟩ := bx7.c3; obtain ⟨Yy4_0, Zy4_0, rfl, hzy4_0⟩ := hy4_0.form))
  clear qbx4_0 qbx4_1 qbx4_2 qbx4_3 qbx5_0 qbx5_1 qbx5_2 qbx6_0 qbx6_1 qbx6_2 qbx6_3 qbx7_0 qbx7_1 qbx7_2 q4bx4_0 q4bx4_1 q4bx4_2 q4bx4_3 q4bx5_0 q4bx5_1 q4bx5_2 q4bx6_0 q4bx6_1 q4bx6_2 q4bx6_3 q4bx7_0 q4bx7_1 q4bx7_2 q5bx4_0 q5bx4_1 q5bx4_2 q5bx4_3 q5bx5_0 q5bx5_1 q5bx5_2 q5bx6_0 q5bx6_1 q5bx6_2 q5bx6_3 q5bx7_0 q5bx7_1 q5bx7_2 q6bx4_0 q6bx4_1 q6bx4_2 q6bx4_3 q6bx5_0 q6bx5_1 q6bx5_2 q6bx6_0 q6bx6_1 q6bx6_2 q6bx6_3 q6bx7_0 q6bx7_1 q6bx7_2 q7bx4_0 q7bx4_1 q7bx4_2 q7bx4_3 q7bx5_0 q7bx5_1 q7bx5_2 q7bx6_0 q7bx6_1 q7bx6_2 q7bx6_3 q7bx7_0 q7bx7_1 q7bx7_2 q8bx4_0 q8bx4_1 q8bx4_2 q8bx4_3 q8bx5_0 q8bx5_1 q8bx5_2 q8bx6_0 q8bx6_1 q8bx6_2 q8bx6_3 q8bx7_0 q8bx7_1 q8bx7_2
  clear hy4_0 hy6_0
  obtain ⟨qbx4_0, qbx4_1, qbx4_2, qbx4_3⟩ := bx4.c4
  go_wp2_with fail
  refine (toHearing_any a p0_0 _ _ _ hx0_0 (by omega) hs0).mono ?_
  rintro e w9 ⟨y9_0, rfl, hy9_0, b9⟩
  clear qbx4_0 qbx4_1 qbx4_2 qbx4_3
  have zb9 := b9.size
  replace hx0_0 := hx0_0.below b9 (by omega)
  replace hx2_0 := hx2_0.below b9 (by omega)
  replace bx4 := bx4.below b9 (by omega)
  replace bx5 := bx5.below b9 (by omega)
  replace bx6 := bx6.below b9 (by omega)
  replace bx7 := bx7.below b9 (by omega)
  replace BB := Below.step b9 (by omega) BB
  clear b9
  obtain ⟨Yy9_0, Zy9_0, rfl, hzy9_0⟩ := hy9_0.form
  obtain ⟨pbx6_0, pbx6_1, pbx6_2, pbx6_3⟩ := (Blk.below bx6 (show Below w9.heap.size w9 (w9.alloc (.cells #[.string a.code, .int .i64 a.len, (.slice Yy9_0 (a.people).length Zy9_0), .int .i64 a.last] 30)) from ((Below.refl _ _).alloc (by first | exact Nat.le_refl _ | (simp; omega) | (simp; done)) _)) (by omega)).c4
  go_wp2_with fail
  clear pbx6_0 pbx6_1 pbx6_2 pbx6_3
  have ab10 : Below w9.heap.size w9 (w9.alloc (.cells #[.string a.code, .int .i64 a.len, (.slice Yy9_0 (a.people).length Zy9_0), .int .i64 a.last] 30)) := ((Below.refl _ _).alloc (by first | exact Nat.le_refl _ | (simp; omega) | (simp; done)) _)
  have az10 : (w9.alloc (.cells #[.string a.code, .int .i64 a.len, (.slice Yy9_0 (a.people).length Zy9_0), .int .i64 a.last] 30)).heap.size = w9.heap.size + 1 := by simp
  replace hx0_0 := hx0_0.below ab10 (by omega)
  replace hx2_0 := hx2_0.below ab10 (by omega)
  replace bx4 := bx4.below ab10 (by omega)
  replace bx5 := bx5.below ab10 (by omega)
  replace bx6 := bx6.below ab10 (by omega)
  replace bx7 := bx7.below ab10 (by omega)
  replace hy9_0 := hy9_0.below ab10 (by omega)
  replace BB := Below.step ab10 (by omega) BB
  clear ab10
  have bx12 : Blk (w9.alloc (.cells #[.string a.code, .int .i64 a.len, (.slice Yy9_0 (a.people).length Zy9_0), .int .i64 a.last] 30)) (w9.heap.size) 30 #[.string a.code, .int .i64 a.len, (.slice Yy9_0 (a.people).length Zy9_0), .int .i64 a.last] := Blk.newAt (w := w9) (n := w9.heap.size) (t := 30) (cs := #[.string a.code, .int .i64 a.len, (.slice Yy9_0 (a.people).length Zy9_0), .int .i64 a.last]) (by simp)
  generalize (w9.alloc (.cells #[.string a.code, .int .i64 a.len, (.slice Yy9_0 (a.people).length Zy9_0), .int .i64 a.last] 30)) = wb10 at *
  obtain ⟨qbx6_0, qbx6_1, qbx6_2, qbx6_3⟩ := bx6.c4
  try go_wp2_with fail
  refine (toHearing_any b p2_0 _ _ _ hx2_0 (by omega) hs2).mono ?_
  rintro e w11 ⟨y11_0, rfl, hy11_0, b11⟩
  clear qbx6_0 qbx6_1 qbx6_2 qbx6_3
  have zb11 := b11.size
  replace hx0_0 := hx0_0.below b11 (by omega)
  replace hx2_0 := hx2_0.below b11 (by omega)
  replace bx4 := bx4.below b11 (by omega)
  replace bx5 := bx5.below b11 (by omega)
  replace bx6 := bx6.below b11 (by omega)
  replace bx7 := bx7.below b11 (by omega)
  replace hy9_0 := hy9_0.below b11 (by omega)
  replace bx12 := bx12.below b11 (by omega)
  replace BB := Below.step b11 (by omega) BB
  clear b11
  obtain ⟨Yy11_0, Zy11_0, rfl, hzy11_0⟩ := hy11_0.form
  obtain ⟨pbx5_0, pbx5_1, pbx5_2⟩ := (Blk.below bx5 (show Below w11.heap.size w11 (w11.alloc (.cells #[.string b.code, .int .i64 b.len, (.slice Yy11_0 (b.people).length Zy11_0), .int .i64 b.last] 30)) from ((Below.refl _ _).alloc (by first | exact Nat.le_refl _ | (simp; omega) | (simp; done)) _)) (by omega)).c3
  obtain ⟨pbx7_0, pbx7_1, pbx7_2⟩ := (Blk.below bx7 (show Below w11.heap.size w11 (w11.alloc (.cells #[.string b.code, .int .i64 b.len, (.slice Yy11_0 (b.people).length Zy11_0), .int .i64 b.last] 30)) from ((Below.refl _ _).alloc (by first | exact Nat.le_refl _ | (simp; omega) | (simp; done)) _)) (by omega)).c3
  obtain ⟨pbx12_0, pbx12_1, pbx12_2, pbx12_3⟩ := (Blk.below bx12 (show Below w11.heap.size w11 (w11.alloc (.cells #[.string b.code, .int .i64 b.len, (.slice Yy11_0 (b.people).length Zy11_0), .int .i64 b.last] 30)) from ((Below.refl _ _).alloc (by first | exact Nat.le_refl _ | (simp; omega) | (simp; done)) _)) (by omega)).c4
  go_wp2_with fail
  clear pbx5_0 pbx5_1 pbx5_2 pbx7_0 pbx7_1 pbx7_2 pbx12_0 pbx12_1 pbx12_2 pbx12_3
  have ab12 : Below w11.heap.size w11 (w11.alloc (.cells #[.string b.code, .int .i64 b.len, (.slice Yy11_0 (b.people).length Zy11_0), .int .i64 b.last] 30)) := ((Below.refl _ _).alloc (by first | exact Nat.le_refl _ | (simp; omega) | (simp; done)) _)
  have az12 : (w11.alloc (.cells #[.string b.code, .int .i64 b.len, (.slice Yy11_0 (b.people).length Zy11_0), .int .i64 b.last] 30)).heap.size = w11.heap.size + 1 := by simp
  replace hx0_0 := hx0_0.below ab12 (by omega)
  replace hx2_0 := hx2_0.below ab12 (by omega)
  replace bx4 := bx4.below ab12 (by omega)
  replace bx5 := bx5.below ab12 (by omega)
  replace bx6 := bx6.below ab12 (by omega)
  replace bx7 := bx7.below ab12 (by omega)
  replace hy9_0 := hy9_0.below ab12 (by omega)
  replace bx12 := bx12.below ab12 (by omega)
  replace hy11_0 := hy11_0.below ab12 (by omega)
  replace BB := Below.step ab12 (by omega) BB
  clear ab12
  have bx13 : Blk (w11.alloc (.cells #[.string b.code, .int .i64 b.len, (.slice Yy11_0 (b.people).length Zy11_0), .int .i64 b.last] 30)) (w11.heap.size) 30 #[.string b.code, .int .i64 b.len, (.slice Yy11_0 (b.people).length Zy11_0), .int .i64 b.last] := Blk.newAt (w := w11) (n := w11.heap.size) (t := 30) (cs := #[.string b.code, .int .i64 b.len, (.slice Yy11_0 (b.people).length Zy11_0), .int .i64 b.last]) (by simp)
  generalize (w11.alloc (.cells #[.string b.code, .int .i64 b.len, (.slice Yy11_0 (b.people).length Zy11_0), .int .i64 b.last] 30)) = wb12 at *
  obtain ⟨qbx5_0, qbx5_1, qbx5_2⟩ := bx5.c3
  obtain ⟨qbx7_0, qbx7_1, qbx7_2⟩ := bx7.c3
  obtain ⟨qbx12_0, qbx12_1, qbx12_2, qbx12_3⟩ := bx12.c4
  obtain ⟨qbx13_0, qbx13_1, qbx13_2, qbx13_3⟩ := bx13.c4
  try go_wp2_with fail
  go_region_held3 (fun w' => w'.cell? ⟨w.heap.size + 1, 0, none⟩ = some (.int .i64 s.room) ∧ w'.cell? ⟨w.heap.size + 1, 1, none⟩ = some (.int .i64 s.day) ∧ w'.cell? ⟨w.heap.size + 1, 2, none⟩ = some (.int .i64 s.frm) ∧ w'.cell? ⟨w.heap.size + 3, 0, none⟩ = some (.int .i64 t.room) ∧ w'.cell? ⟨w.heap.size + 3, 1, none⟩ = some (.int .i64 t.day) ∧ w'.cell? ⟨w.heap.size + 3, 2, none⟩ = some (.int .i64 t.frm) ∧ w'.cell? ⟨w9.heap.size, 0, none⟩ = some (.string a.code) ∧ w'.cell? ⟨w9.heap.size, 1, none⟩ = some (.int .i64 a.len) ∧ w'.cell? ⟨w9.heap.size, 2, none⟩ = some ((.slice Yy9_0 (a.people).length Zy9_0)) ∧ w'.cell? ⟨w9.heap.size, 3, none⟩ = some (.int .i64 a.last) ∧ w'.cell? ⟨w11.heap.size, 0, none⟩ = some (.string b.code) ∧ w'.cell? ⟨w11.heap.size, 1, none⟩ = some (.int .i64 b.len) ∧ w'.cell? ⟨w11.heap.size, 2, none⟩ = some ((.slice Yy11_0 (b.people).length Zy11_0)) ∧ w'.cell? ⟨w11.heap.size, 3, none⟩ = some (.int .i64 b.last)) (go_keep)
    (first
      | (go_at_call 25; refine (doClash_any a (.slice Yy9_0 (a.people).length Zy9_0) _ _ s b (.slice Yy11_0 (b.people).length Zy11_0) _ _ t _ hy9_0.rd (by omega) hs0 hy11_0.rd (by omega) hs2).mono ?_; rintro e w15 ⟨rfl, b15⟩; have zb15 := b15.size; replace hx0_0 := hx0_0.below b15 (by omega); replace hx2_0 := hx2_0.below b15 (by omega); replace bx4 := bx4.below b15 (by omega); replace bx5 := bx5.below b15 (by omega); replace bx6 := bx6.below b15 (by omega); replace bx7 := bx7.below b15 (by omega); replace hy9_0 := hy9_0.below b15 (by omega); replace bx12 := bx12.below b15 (by omega); replace hy11_0 := hy11_0.below b15 (by omega); replace bx13 := bx13.below b15 (by omega); replace BB := Below.step b15 (by omega) BB; clear b15; obtain ⟨q15bx5_0, q15bx5_1, q15bx5_2⟩ := bx5.c3; obtain ⟨q15bx7_0, q15bx7_1, q15bx7_2⟩ := bx7.c3; obtain ⟨q15bx12_0, q15bx12_1, q15bx12_2, q15bx12_3⟩ := bx12.c4; obtain ⟨q15bx13_0, q15bx13_1, q15bx13_2, q15bx13_3⟩ := bx13.c4)
      | (go_at_call 16; have gq := zb13; clear gq; refine (toSlot_any t _).mono ?_; rintro e w14 ⟨rfl, b14⟩; have zb14 := b14.size; replace hx0_0 := hx0_0.below b14 (by omega); replace hx2_0 := hx2_0.below b14 (by omega); replace bx4 := bx4.below b14 (by omega); replace bx5 := bx5.below b14 (by omega); replace bx6 := bx6.below b14 (by omega); replace bx7 := bx7.below b14 (by omega); replace hy9_0 := hy9_0.below b14 (by omega); replace bx12 := bx12.below b14 (by omega); replace hy11_0 := hy11_0.below b14 (by omega); replace bx13 := bx13.below b14 (by omega); replace BB := Below.step b14 (by omega) BB; clear b14; obtain ⟨q14bx5_0, q14bx5_1, q14bx5_2⟩ := bx5.c3; obtain ⟨q14bx7_0, q14bx7_1, q14bx7_2⟩ := bx7.c3; obtain ⟨q14bx12_0, q14bx12_1, q14bx12_2, q14bx12_3⟩ := bx12.c4; obtain ⟨q14bx13_0, q14bx13_1, q14bx13_2, q14bx13_3⟩ := bx13.c4)
      | (go_at_call 16; refine (toSlot_any s _).mono ?_; rintro e w13 ⟨rfl, b13⟩; replace b13 : Below wb12.heap.size wb12 w13 := Below.undrew b13; have zb13 := b13.size; replace hx0_0 := hx0_0.below b13 (by omega); replace hx2_0 := hx2_0.below b13 (by omega); replace bx4 := bx4.below b13 (by omega); replace bx5 := bx5.below b13 (by omega); replace bx6 := bx6.below b13 (by omega); replace bx7 := bx7.below b13 (by omega); replace hy9_0 := hy9_0.below b13 (by omega); replace bx12 := bx12.below b13 (by omega); replace hy11_0 := hy11_0.below b13 (by omega); replace bx13 := bx13.below b13 (by omega); replace BB := Below.step b13 (by omega) BB; clear b13; obtain ⟨q13bx5_0, q13bx5_1, q13bx5_2⟩ := bx5.c3; obtain ⟨q13bx7_0, q13bx7_1, q13bx7_2⟩ := bx7.c3; obtain ⟨q13bx12_0, q13bx12_1, q13bx12_2, q13bx12_3⟩ := bx12.c4; obtain ⟨q13bx13_0, q13bx13_1, q13bx13_2, q13bx13_3⟩ := bx13.c4))
  clear qbx5_0 qbx5_1 qbx5_2 qbx7_0 qbx7_1 qbx7_2 qbx12_0 qbx12_1 qbx12_2 qbx12_3 qbx13_0 qbx13_1 qbx13_2 qbx13_3 q13bx5_0 q13bx5_1 q13bx5_2 q13bx7_0 q13bx7_1 q13bx7_2 q13bx12_0 q13bx12_1 q13bx12_2 q13bx12_3 q13bx13_0 q13bx13_1 q13bx13_2 q13bx13_3 q14bx5_0 q14bx5_1 q14bx5_2 q14bx7_0 q14bx7_1 q14bx7_2 q14bx12_0 q14bx12_1 q14bx12_2 q14bx12_3 q14bx13_0 q14bx13_1 q14bx13_2 q14bx13_3 q15bx5_0 q15bx5_1 q15bx5_2 q15bx7_0 q15bx7_1 q15bx7_2 q15bx12_0 q15bx12_1 q15bx12_2 q15bx12_3 q15bx13_0 q15bx13_1 q15bx13_2 q15bx13_3
  clear bx5
  clear bx7
  obtain ⟨qbx4_0, qbx4_1, qbx4_2, qbx4_3⟩ := bx4.c4
  obtain ⟨qbx12_0, qbx12_1, qbx12_2, qbx12_3⟩ := bx12.c4
  go_wp2_with fail
  go_region_held3 (fun w' => w'.cell? ⟨w.heap.size, 0, none⟩ = some (.string a.code) ∧ w'.cell? ⟨w.heap.size, 1, none⟩ = some (.int .i64 a.len) ∧ w'.cell? ⟨w.heap.size, 2, none⟩ = some (p0_0) ∧ w'.cell? ⟨w.heap.size, 3, none⟩ = some (.int .i64 a.last) ∧ w'.cell? ⟨w9.heap.size, 0, none⟩ = some (.string a.code) ∧ w'.cell? ⟨w9.heap.size, 1, none⟩ = some (.int .i64 a.len) ∧ w'.cell? ⟨w9.heap.size, 2, none⟩ = some ((.slice Yy9_0 (a.people).length Zy9_0)) ∧ w'.cell? ⟨w9.heap.size, 3, none⟩ = some (.int .i64 a.last)) (go_keep)
    (first
      | (go_at_call 18; refine (eqHearing_any a a (.slice Yy9_0 (a.people).length Zy9_0) (.slice Yy16_0 (a.people).length Zy16_0) _ _ _ _ _ hy9_0.rd (by omega) hy16_0.rd (by omega) hs0 hs0).mono ?_; rintro e w17 ⟨rfl, b17⟩; have zb17 := b17.size; replace hx0_0 := hx0_0.below b17 (by omega); replace hx2_0 := hx2_0.below b17 (by omega); replace bx4 := bx4.below b17 (by omega); replace bx6 := bx6.below b17 (by omega); replace hy9_0 := hy9_0.below b17 (by omega); replace bx12 := bx12.below b17 (by omega); replace hy11_0 := hy11_0.below b17 (by omega); replace bx13 := bx13.below b17 (by omega); replace hy16_0 := hy16_0.below b17 (by omega); replace BB := Below.step b17 (by omega) BB; clear b17; obtain ⟨q17bx4_0, q17bx4_1, q17bx4_2, q17bx4_3⟩ := bx4.c4; obtain ⟨q17bx12_0, q17bx12_1, q17bx12_2, q17bx12_3⟩ := bx12.c4; rw [show Hearing.beq a a = true from Hearing.beq_refl _])
      | (go_at_call 15; refine (toHearing_any a p0_0 _ _ _ (hx0_0.below (B := w15.heap.size) (Below.refl _ w15).drew (by omega)) (by show _ ≤ w15.heap.size; omega) hs0).mono ?_; rintro e w16 ⟨y16_0, rfl, hy16_0, b16⟩; replace b16 : Below w15.heap.size w15 w16 := Below.undrew b16; have zb16 := b16.size; replace hx0_0 := hx0_0.below b16 (by omega); replace hx2_0 := hx2_0.below b16 (by omega); replace bx4 := bx4.below b16 (by omega); replace bx6 := bx6.below b16 (by omega); replace hy9_0 := hy9_0.below b16 (by omega); replace bx12 := bx12.below b16 (by omega); replace hy11_0 := hy11_0.below b16 (by omega); replace bx13 := bx13.below b16 (by omega); replace BB := Below.step b16 (by omega) BB; clear b16; obtain ⟨q16bx4_0, q16bx4_1, q16bx4_2, q16bx4_3⟩ := bx4.c4; obtain ⟨q16bx12_0, q16bx12_1, q16bx12_2, q16bx12_3⟩ := bx12.c4; obtain ⟨Yy16_0, Zy16_0, rfl, hzy16_0⟩ := hy16_0.form))
  clear qbx4_0 qbx4_1 qbx4_2 qbx4_3 qbx12_0 qbx12_1 qbx12_2 qbx12_3 q16bx4_0 q16bx4_1 q16bx4_2 q16bx4_3 q16bx12_0 q16bx12_1 q16bx12_2 q16bx12_3 q17bx4_0 q17bx4_1 q17bx4_2 q17bx4_3 q17bx12_0 q17bx12_1 q17bx12_2 q17bx12_3
  clear bx4
  clear bx12
  clear hx0_0 hy9_0 hy16_0
  obtain ⟨qbx6_0, qbx6_1, qbx6_2, qbx6_3⟩ := bx6.c4
  obtain ⟨qbx13_0, qbx13_1, qbx13_2, qbx13_3⟩ := bx13.c4
  go_wp2_with fail
  go_region_held3 (fun w' => w'.cell? ⟨w.heap.size + 2, 0, none⟩ = some (.string b.code) ∧ w'.cell? ⟨w.heap.size + 2, 1, none⟩ = some (.int .i64 b.len) ∧ w'.cell? ⟨w.heap.size + 2, 2, none⟩ = some (p2_0) ∧ w'.cell? ⟨w.heap.size + 2, 3, none⟩ = some (.int .i64 b.last) ∧ w'.cell? ⟨w11.heap.size, 0, none⟩ = some (.string b.code) ∧ w'.cell? ⟨w11.heap.size, 1, none⟩ = some (.int .i64 b.len) ∧ w'.cell? ⟨w11.heap.size, 2, none⟩ = some ((.slice Yy11_0 (b.people).length Zy11_0)) ∧ w'.cell? ⟨w11.heap.size, 3, none⟩ = some (.int .i64 b.last)) (go_keep)
    (first
      | (go_at_call 18; refine (eqHearing_any b b (.slice Yy11_0 (b.people).length Zy11_0) (.slice Yy18_0 (b.people).length Zy18_0) _ _ _ _ _ hy11_0.rd (by omega) hy18_0.rd (by omega) hs2 hs2).mono ?_; rintro e w19 ⟨rfl, b19⟩; have zb19 := b19.size; replace hx2_0 := hx2_0.below b19 (by omega); replace bx6 := bx6.below b19 (by omega); replace hy11_0 := hy11_0.below b19 (by omega); replace bx13 := bx13.below b19 (by omega); replace hy18_0 := hy18_0.below b19 (by omega); replace BB := Below.step b19 (by omega) BB; clear b19; obtain ⟨q19bx6_0, q19bx6_1, q19bx6_2, q19bx6_3⟩ := bx6.c4; obtain ⟨q19bx13_0, q19bx13_1, q19bx13_2, q19bx13_3⟩ := bx13.c4; rw [show Hearing.beq b b = true from Hearing.beq_refl _])
      | (go_at_call 15; refine (toHearing_any b p2_0 _ _ _ (hx2_0.below (B := w17.heap.size) (Below.refl _ w17).drew (by omega)) (by show _ ≤ w17.heap.size; omega) hs2).mono ?_; rintro e w18 ⟨y18_0, rfl, hy18_0, b18⟩; replace b18 : Below w17.heap.size w17 w18 := Below.undrew b18; have zb18 := b18.size; replace hx2_0 := hx2_0.below b18 (by omega); replace bx6 := bx6.below b18 (by omega); replace hy11_0 := hy11_0.below b18 (by omega); replace bx13 := bx13.below b18 (by omega); replace BB := Below.step b18 (by omega) BB; clear b18; obtain ⟨q18bx6_0, q18bx6_1, q18bx6_2, q18bx6_3⟩ := bx6.c4; obtain ⟨q18bx13_0, q18bx13_1, q18bx13_2, q18bx13_3⟩ := bx13.c4; obtain ⟨Yy18_0, Zy18_0, rfl, hzy18_0⟩ := hy18_0.form))
  clear qbx6_0 qbx6_1 qbx6_2 qbx6_3 qbx13_0 qbx13_1 qbx13_2 qbx13_3 q18bx6_0 q18bx6_1 q18bx6_2 q18bx6_3 q18bx13_0 q18bx13_1 q18bx13_2 q18bx13_3 q19bx6_0 q19bx6_1 q19bx6_2 q19bx6_3 q19bx13_0 q19bx13_1 q19bx13_2 q19bx13_3
  clear bx6
  clear bx13
  clear hx2_0 hy11_0 hy18_0
  go_wp2_with fail
  go_ret
  exact ⟨rfl, BB⟩

set_option maxRecDepth 100000 in
theorem lifted (os : Os) (started : os.Started) (H : Type) (enc : TypeId × Value → H) :
    ReturnsInHanded {} Try.checked os 5 .any (Rows.fnExactDoClashSpec.pre6 enc Try.prog Try.f5 Rows.fnExactDoClashRow.domain false) (Rows.fnExactDoClashSpec.post enc Try.prog Try.f5 false true false false) := by
  refine returnsInHanded_of_change (C := Try.checked) own started (by kernel_rfl) Try.func5
    (ChangeSpec.witness6 (enc := enc) (C := Try.checked) false ⟨#[], #[.agg #[.string ByteArray.empty, .int .i64 0, .slice none 0 0, .int .i64 0], .agg #[.int .i64 0, .int .i64 0, .int .i64 0], .agg #[.string ByteArray.empty, .int .i64 0, .slice none 0 0, .int .i64 0], .agg #[.int .i64 0, .int .i64 0, .int .i64 0]], []⟩ 8 (by kernel_rfl) (by kernel_rfl) (by kernel_rfl) (by kernel_rfl)) ?_
  intro W base args ds gs before hval0 hW hcnd _
  have hval : ∀ (j : Nat) t v, Try.f5.params[j]? = some t → args[j]? = some v → Value.okWide Try.prog W .any base t v := hval0
  have hW' := hW
  obtain ⟨p, q, hA0, hV, rfl, hfz, hnd⟩ := hW
  have hA : DataW.TrodAll enc Try.prog W 0 (fun _ => true) true Try.f5.params.toList args.toList ds p := hA0
  rw [Try.params5] at hA hval
  obtain ⟨v0, vs0, d0, ds0, p0, q0, hargs, rfl, rfl, h0, r0⟩ := trodAll_cons hA
  obtain ⟨v1, vs1, d1, ds1, p1, q1, rfl, rfl, rfl, h1, r1⟩ := trodAll_cons r0
  obtain ⟨v2, vs2, d2, ds2, p2, q2, rfl, rfl, rfl, h2, r2⟩ := trodAll_cons r1
  obtain ⟨v3, vs3, d3, ds3, p3, q3, rfl, rfl, rfl, h3, r3⟩ := trodAll_cons r2
  obtain ⟨rfl, rfl, rfl⟩ := trodAll_nil r3
  obtain rfl : args = #[v0, v1, v2, v3] := by cases args; simp_all
  obtain ⟨rfl, rfl⟩ := trodVars_none hV
  have k0 := h0
  have lt0 : ∀ x ∈ p0, x.block < W.heap.size := by obtain ⟨m, hm⟩ := k0; exact DataW.trod_lt m _ _ _ hm
  have k1 := h1
  have lt1 : ∀ x ∈ p1, x.block < W.heap.size := by obtain ⟨m, hm⟩ := k1; exact DataW.trod_lt m _ _ _ hm
  have k2 := h2
  have lt2 : ∀ x ∈ p2, x.block < W.heap.size := by obtain ⟨m, hm⟩ := k2; exact DataW.trod_lt m _ _ _ hm
  have k3 := h3
  have lt3 : ∀ x ∈ p3, x.block < W.heap.size := by obtain ⟨m, hm⟩ := k3; exact DataW.trod_lt m _ _ _ hm
  obtain ⟨a, p0_0, rfl, hx0_0, hq0⟩ := openHearing (hval 0 24 v0 rfl rfl) h0
  obtain ⟨s, rfl, hq1⟩ := openSlot (hval 1 26 v1 rfl rfl) h1
  obtain ⟨b, p2_0, rfl, hx2_0, hq2⟩ := openHearing (hval 2 24 v2 rfl rfl) h2
  obtain ⟨t, rfl, hq3⟩ := openSlot (hval 3 26 v3 rfl rfl) h3
  clear hA0 hval0
  refine (walk a p0_0 s b p2_0 t W hx0_0 hq0 hq1 hx2_0 hq2 hq3).mono fun e W' ⟨he, bel⟩ => ?_
  subst he
  exact ⟨_, rfl, _, _, _, [], _, [], hW', trodAll_mk1 (shut_bool Try.underlying4 _), (trodAll_cons_mk (Below.trod laidOut (by kernel_rfl) (of_decide_eq_true (by kernel_rfl)) k0 bel lt0) (trodAll_cons_mk (Below.trod laidOut (by kernel_rfl) (of_decide_eq_true (by kernel_rfl)) k1 bel lt1) (trodAll_cons_mk (Below.trod laidOut (by kernel_rfl) (of_decide_eq_true (by kernel_rfl)) k2 bel lt2) (trodAll_cons_mk (Below.trod laidOut (by kernel_rfl) (of_decide_eq_true (by kernel_rfl)) k3 bel lt3) trodAll_mk0)))), rfl, bel.frame _, fun h => by cases h⟩

theorem over : Rows.fnExactDoClashRow.holds Try.pinned (OpenSpec.ofChange Rows.fnExactDoClashSpec) :=
  OpenClaim.holds_of_wide 5 Try.f5 rfl rfl rfl rfl rfl rfl rfl ⟨rfl, rfl, rfl, rfl, rfl⟩ rfl rfl rfl rfl rfl (by kernel_rfl) Try.func5 (by kernel_rfl)
    (of_decide_eq_true (by kernel_rfl)) (by unfold Func.isWrapper; first | (rw [if_pos (by decide +kernel)]; kernel_rfl) | (rw [if_neg (by decide +kernel)]; exact ⟨rfl, rfl⟩))
    (fun os started H enc _ => lifted os started H enc)

theorem proved : Rows.FnExactDoClashSaid := over
#print axioms proved
end Go.Proofs.Ytdcfenkkgnnbbaa.doClash
