/- The program's ExtendStage returns what the reference's returns, for all arguments. No conditions. -/
import Derived.Test.YtmgolgbhidenkaaReachX
import Derived.Test.YtmgolgbhidenkaaCustodyM
import Derived.Test.YtmgolgbhidenkaaCustodyO
import Derived.Test.YtmgolgbhidenkaaStageM
import Derived.Test.YtmgolgbhidenkaaStageO
import Derived.Test.YtmgolgbhidenkaaInts2H
import Derived.Test.YtmgolgbhidenkaaMark
namespace Go.Proofs.Ytmgolgbhidenkaa.extendStage
open Go.ChangeShapes Go.WideShapes Go.ChangeAt Go.RowKit
open Go.ChangeMaps (open_string shut_string)
set_option linter.unusedVariables false

theorem own : ownKnob Try.prog.godebug = none := by kernel_rfl
theorem laidOut : laidOutB Try.prog = true := by kernel_rfl


set_option maxRecDepth 100000 in
set_option maxHeartbeats 4000000 in
theorem walk (v0 : Value) (rules : List Stage) (v1 : Value) (hol : List Int) (c : Custody) (p2_0 p2_1 : Value) (day : Int) (w : World) (hx0 : RdF Stage.enc 3 w 0 w.heap.size v0 rules) (hl0 : rules.length ≤ maxLen) (hq0 : ∀ x ∈ rules, Stage.wf x) (hx1 : RdF encInt 1 w 0 w.heap.size v1 hol) (hl1 : hol.length ≤ maxLen) (hq1 : ∀ x ∈ hol, -9223372036854775808 ≤ x ∧ x ≤ 9223372036854775807) (hx2_0 : RdF encInt 1 w 0 w.heap.size p2_0 c.done) (hx2_1 : RdF encBool 1 w 0 w.heap.size p2_1 c.ext) (hq2 : Custody.wf c) (hb3 : -9223372036854775808 ≤ day ∧ day ≤ 9223372036854775807) :
    Calls Try.prog 11 #[v0, v1, .agg #[.int .i64 c.start, p2_0, p2_1], .int .i64 day] w fun e w' => e = .returned (.bool true) ∧ Below w.heap.size w w' := by
  try unfold maxLen at *
  obtain ⟨AX1, CX1, rfl, hCX1⟩ := hx1.form
  by_cases hlen1 : (1048576 : Int) < ((hol).length : Int)
  · go_enter Try.func11, Try.ntmps11
    go_wp2_with fail
    go_ret
    exact ⟨rfl, by (repeat (first | with_reducible assumption | with_reducible exact Below.refl _ _ | with_reducible refine Below.setCell ?_ ?_ _ | with_reducible refine Below.alloc ?_ ?_ _ | with_reducible refine Below.drew ?_ | with_reducible refine below_drewN ?_ _ | with_reducible refine Below.step (by with_reducible assumption) ?_ ?_ | omega | (simp <;> omega) | (simp; done)))⟩
  have hm1 : ((hol).length : Int) ≤ 1048576 := by omega
  go_enter Try.func11, Try.ntmps11
  have BB : Below w.heap.size w w := Below.refl _ _
  go_wp2_with fail
  have ab1 : Below w.heap.size w (w.alloc (.cells #[.int .i64 c.start, p2_0, p2_1] 26)) := ((Below.refl _ _).alloc (by first | exact Nat.le_refl _ | (simp; omega) | (simp; done)) _)
  have az1 : (w.alloc (.cells #[.int .i64 c.start, p2_0, p2_1] 26)).heap.size = w.heap.size + 1 := by simp
  replace hx0 := hx0.below ab1 (by omega)
  replace hx1 := hx1.below ab1 (by omega)
  replace hx2_0 := hx2_0.below ab1 (by omega)
  replace hx2_1 := hx2_1.below ab1 (by omega)
  replace BB := Below.step ab1 (by omega) BB
  clear ab1
  have bx6 : Blk (w.alloc (.cells #[.int .i64 c.start, p2_0, p2_1] 26)) (w.heap.size) 26 #[.int .i64 c.start, p2_0, p2_1] := Blk.newAt (w := w) (n := w.heap.size) (t := 26) (cs := #[.int .i64 c.start, p2_0, p2_1]) (by simp)
  generalize (w.alloc (.cells #[.int .i64 c.start, p2_0, p2_1] 26)) = wb1 at *
  try go_wp2_with fail
  refine (szStageS_any v0 rules _ _ _ _ hx0 (by omega) (by omega) (fun x hx => by have := hq0 x hx; unfold Stage.wf at this; omega) (by omega) (by omega)).mono ?_
  rintro e w2 ⟨r0, rfl, ⟨hra0, hrb0⟩, b2⟩
  have zb2 := b2.size
  replace hx0 := hx0.below b2 (by omega)
  replace hx1 := hx1.below b2 (by omega)
  replace hx2_0 := hx2_0.below b2 (by omega)
  replace hx2_1 := hx2_1.below b2 (by omega)
  replace bx6 := bx6.below b2 (by omega)
  replace BB := Below.step b2 (by omega) BB
  clear b2
  by_cases hn0 : r0 < 0
  · go_wp2_with fail
    go_ret
    exact ⟨rfl, by (repeat (first | with_reducible assumption | with_reducible exact Below.refl _ _ | with_reducible refine Below.setCell ?_ ?_ _ | with_reducible refine Below.alloc ?_ ?_ _ | with_reducible refine Below.drew ?_ | with_reducible refine below_drewN ?_ _ | with_reducible refine Below.step (by with_reducible assumption) ?_ ?_ | omega | (simp <;> omega) | (simp; done)))⟩
  have hp0 : 0 ≤ r0 := by omega
  have hq0' := hrb0 hp0
  clear hrb0
  have hm0 : rules.length ≤ 1048576 := by omega
  have hs0 : ∀ x ∈ rules, Stage.small x := fun x hx => by have := hq0'.2 x hx; unfold Stage.small; omega
  obtain ⟨qbx6_0, qbx6_1, qbx6_2⟩ := bx6.c3
  go_wp2_with fail
  refine (szCustody_any c p2_0 p2_1 _ _ _ _ hx2_0 hx2_1 (by omega) (Custody.big_of hq2) (by omega) (by omega)).mono ?_
  rintro e w3 ⟨r2, rfl, ⟨hra2, hrb2⟩, b3⟩
  clear qbx6_0 qbx6_1 qbx6_2
  have zb3 := b3.size
  replace hx0 := hx0.below b3 (by omega)
  replace hx1 := hx1.below b3 (by omega)
  replace hx2_0 := hx2_0.below b3 (by omega)
  replace hx2_1 := hx2_1.below b3 (by omega)
  replace bx6 := bx6.below b3 (by omega)
  replace BB := Below.step b3 (by omega) BB
  clear b3
  by_cases hn2 : r2 < 0
  · go_wp2_with fail
    go_ret
    exact ⟨rfl, by (repeat (first | with_reducible assumption | with_reducible exact Below.refl _ _ | with_reducible refine Below.setCell ?_ ?_ _ | with_reducible refine Below.alloc ?_ ?_ _ | with_reducible refine Below.drew ?_ | with_reducible refine below_drewN ?_ _ | with_reducible refine Below.step (by with_reducible assumption) ?_ ?_ | omega | (simp <;> omega) | (simp; done)))⟩
  have hp2 : 0 ≤ r2 := by omega
  have hq2' := hrb2 hp2
  clear hrb2
  have hs2 : Custody.small c := Custody.small_of hq2' (by omega)
  have hm2_0 : c.done.length ≤ 1048576 := hs2.len0
  have hm2_1 : c.ext.length ≤ 1048576 := hs2.len1
  obtain ⟨qbx6_0, qbx6_1, qbx6_2⟩ := bx6.c3
  go_wp2_with fail
  go_upto_region 10 with fail
  go_cut [10, 11] (fun s1 s2 wx => CutC ((extendStage rules hol c day)) w3 s1 s2 wx)
  case first =>
    go_region_held3 (fun w' => w'.cell? ⟨w.heap.size, 0, none⟩ = some (.int .i64 c.start) ∧ w'.cell? ⟨w.heap.size, 1, none⟩ = some (p2_0) ∧ w'.cell? ⟨w.heap.size, 2, none⟩ = some (p2_1)) (go_keep)
      (first
        | (go_at_call 37; refine (sExtendStage_any y4 rules _ _ y5 hol _ _ c (.slice Yy6_0 (c.done).length Zy6_0) (.slice Yy6_1 (c.ext).length Zy6_1) _ _ day _ (hy4.below (B := w6.heap.size) (by (repeat (first | with_reducible assumption | with_reducible exact Below.refl _ _ | with_reducible refine Below.setCell ?_ ?_ _ | with_reducible refine Below.alloc ?_ ?_ _ | with_reducible refine Below.drew ?_ | with_reducible refine below_drewN ?_ _ | with_reducible refine Below.step (by with_reducible assumption) ?_ ?_ | omega | (simp <;> omega) | (simp; done)))) (by omega)).rd (by first | omega | (show _ ≤ w6.heap.size; omega) | (simp <;> omega)) (by omega) hs0 (hy5.below (B := w6.heap.size) (by (repeat (first | with_reducible assumption | with_reducible exact Below.refl _ _ | with_reducible refine Below.setCell ?_ ?_ _ | with_reducible refine Below.alloc ?_ ?_ _ | with_reducible refine Below.drew ?_ | with_reducible refine below_drewN ?_ _ | with_reducible refine Below.step (by with_reducible assumption) ?_ ?_ | omega | (simp <;> omega) | (simp; done)))) (by omega)).rd (by first | omega | (show _ ≤ w6.heap.size; omega) | (simp <;> omega)) (by omega) (hy6_0.below (B := w6.heap.size) (by (repeat (first | with_reducible assumption | with_reducible exact Below.refl _ _ | with_reducible refine Below.setCell ?_ ?_ _ | with_reducible refine Below.alloc ?_ ?_ _ | with_reducible refine Below.drew ?_ | with_reducible refine below_drewN ?_ _ | with_reducible refine Below.step (by with_reducible assumption) ?_ ?_ | omega | (simp <;> omega) | (simp; done)))) (by omega)).rd (hy6_1.below (B := w6.heap.size) (by (repeat (first | with_reducible assumption | with_reducible exact Below.refl _ _ | with_reducible refine Below.setCell ?_ ?_ _ | with_reducible refine Below.alloc ?_ ?_ _ | with_reducible refine Below.drew ?_ | with_reducible refine below_drewN ?_ _ | with_reducible refine Below.step (by with_reducible assumption) ?_ ?_ | omega | (simp <;> omega) | (simp; done)))) (by omega)).rd (by first | omega | (show _ ≤ w6.heap.size; omega) | (simp <;> omega)) hs2).mono ?_; rintro e w7 ⟨y7_0_0, y7_0_1, rfl, hy7_0_0, hy7_0_1, b7⟩; have c7 : Below w6.heap.size w6 w7 := (by first | exact b7 | exact Below.undrew b7 | ((repeat (first | with_reducible assumption | with_reducible exact Below.refl _ _ | with_reducible refine Below.setCell ?_ ?_ _ | with_reducible refine Below.alloc ?_ ?_ _ | with_reducible refine Below.drew ?_ | with_reducible refine below_drewN ?_ _ | with_reducible refine Below.step (by with_reducible assumption) ?_ ?_ | omega | (simp <;> omega) | (simp; done))))); have zc7 := c7.size; (try (have kl7 := kA.lt; replace kA := kA.below c7 (by omega))); (try (have kA : Blk w7 w6.heap.size 32 #[.int .i64 0, .slice none 0 0, .slice none 0 0] := (by first | exact Blk.below (Blk.newAt rfl) b7 (by simp) | exact Blk.below (Blk.drew (Blk.newAt rfl)) b7 (by simp)); have kn7bx6 : w.heap.size ≠ w6.heap.size := (by omega); have km7bx6 := kn7bx6.symm)); replace hx0 := hx0.below c7 (by omega); replace hx1 := hx1.below c7 (by omega); replace hx2_0 := hx2_0.below c7 (by omega); replace hx2_1 := hx2_1.below c7 (by omega); replace bx6 := bx6.below c7 (by omega); replace hy4 := hy4.below c7 (by omega); replace hy5 := hy5.below c7 (by omega); replace hy6_0 := hy6_0.below c7 (by omega); replace hy6_1 := hy6_1.below c7 (by omega); have D7 : Below w3.heap.size w3 w7 := Below.step c7 (by omega) D6; obtain ⟨q7bx6_0, q7bx6_1, q7bx6_2⟩ := bx6.c3; have s7_0 : Custody.small (extendStage rules hol c day).1 := extend_small (by assumption); obtain ⟨Yy7_0_0, Zy7_0_0, rfl, hzy7_0_0⟩ := hy7_0_0.form; have l7_0_0 : ((extendStage rules hol c day).1.done).length ≤ 1048576 := s7_0.len0; obtain ⟨Yy7_0_1, Zy7_0_1, rfl, hzy7_0_1⟩ := hy7_0_1.form; have l7_0_1 : ((extendStage rules hol c day).1.ext).length ≤ 1048576 := s7_0.len1; (try (obtain ⟨ka0, ka1, ka2⟩ := kA.c3; have kb0 := kA.frozen 0; have kb1 := kA.frozen 1; have kb2 := kA.frozen 2)))
        | (go_at_call 16; refine (toCustody_any c p2_0 p2_1 _ _ _ (hx2_0.below (B := w5.heap.size) (by (repeat (first | with_reducible assumption | with_reducible exact Below.refl _ _ | with_reducible refine Below.setCell ?_ ?_ _ | with_reducible refine Below.alloc ?_ ?_ _ | with_reducible refine Below.drew ?_ | with_reducible refine below_drewN ?_ _ | with_reducible refine Below.step (by with_reducible assumption) ?_ ?_ | omega | (simp <;> omega) | (simp; done)))) (by omega)) (hx2_1.below (B := w5.heap.size) (by (repeat (first | with_reducible assumption | with_reducible exact Below.refl _ _ | with_reducible refine Below.setCell ?_ ?_ _ | with_reducible refine Below.alloc ?_ ?_ _ | with_reducible refine Below.drew ?_ | with_reducible refine below_drewN ?_ _ | with_reducible refine Below.step (by with_reducible assumption) ?_ ?_ | omega | (simp <;> omega) | (simp; done)))) (by omega)) (by first | omega | (show _ ≤ w5.heap.size; omega) | (simp <;> omega)) hs2).mono ?_; rintro e w6 ⟨y6_0, y6_1, rfl, hy6_0, hy6_1, b6⟩; have c6 : Below w5.heap.size w5 w6 := (by first | exact b6 | exact Below.undrew b6 | ((repeat (first | with_reducible assumption | with_reducible exact Below.refl _ _ | with_reducible refine Below.setCell ?_ ?_ _ | with_reducible refine Below.alloc ?_ ?_ _ | with_reducible refine Below.drew ?_ | with_reducible refine below_drewN ?_ _ | with_reducible refine Below.step (by with_reducible assumption) ?_ ?_ | omega | (simp <;> omega) | (simp; done))))); have zc6 := c6.size; (try (have kl6 := kA.lt; replace kA := kA.below c6 (by omega))); (try (have kA : Blk w6 w5.heap.size 32 #[.int .i64 0, .slice none 0 0, .slice none 0 0] := (by first | exact Blk.below (Blk.newAt rfl) b6 (by simp) | exact Blk.below (Blk.drew (Blk.newAt rfl)) b6 (by simp)); have kn6bx6 : w.heap.size ≠ w5.heap.size := (by omega); have km6bx6 := kn6bx6.symm)); replace hx0 := hx0.below c6 (by omega); replace hx1 := hx1.below c6 (by omega); replace hx2_0 := hx2_0.below c6 (by omega); replace hx2_1 := hx2_1.below c6 (by omega); replace bx6 := bx6.below c6 (by omega); replace hy4 := hy4.below c6 (by omega); replace hy5 := hy5.below c6 (by omega); have D6 : Below w3.heap.size w3 w6 := Below.step c6 (by omega) D5; obtain ⟨q6bx6_0, q6bx6_1, q6bx6_2⟩ := bx6.c3; obtain ⟨Yy6_0, Zy6_0, rfl, hzy6_0⟩ := hy6_0.form; obtain ⟨Yy6_1, Zy6_1, rfl, hzy6_1⟩ := hy6_1.form)
        | (go_at_call 21; refine (toInt64S_any (.slice AX1 hol.length CX1) hol _ _ _ (hx1.below (B := w4.heap.size) (by (repeat (first | with_reducible assumption | with_reducible exact Below.refl _ _ | with_reducible refine Below.setCell ?_ ?_ _ | with_reducible refine Below.alloc ?_ ?_ _ | with_reducible refine Below.drew ?_ | with_reducible refine below_drewN ?_ _ | with_reducible refine Below.step (by with_reducible assumption) ?_ ?_ | omega | (simp <;> omega) | (simp; done)))) (by omega)) (by first | omega | (show _ ≤ w4.heap.size; omega) | (simp <;> omega)) (by omega)).mono ?_; rintro e w5 ⟨y5, rfl, hy5, b5⟩; have c5 : Below w4.heap.size w4 w5 := (by first | exact b5 | exact Below.undrew b5 | ((repeat (first | with_reducible assumption | with_reducible exact Below.refl _ _ | with_reducible refine Below.setCell ?_ ?_ _ | with_reducible refine Below.alloc ?_ ?_ _ | with_reducible refine Below.drew ?_ | with_reducible refine below_drewN ?_ _ | with_reducible refine Below.step (by with_reducible assumption) ?_ ?_ | omega | (simp <;> omega) | (simp; done))))); have zc5 := c5.size; (try (have kl5 := kA.lt; replace kA := kA.below c5 (by omega))); (try (have kA : Blk w5 w4.heap.size 32 #[.int .i64 0, .slice none 0 0, .slice none 0 0] := (by first | exact Blk.below (Blk.newAt rfl) b5 (by simp) | exact Blk.below (Blk.drew (Blk.newAt rfl)) b5 (by simp)); have kn5bx6 : w.heap.size ≠ w4.heap.size := (by omega); have km5bx6 := kn5bx6.symm)); replace hx0 := hx0.below c5 (by omega); replace hx1 := hx1.below c5 (by omega); replace hx2_0 := hx2_0.below c5 (by omega); replace hx2_1 := hx2_1.below c5 (by omega); replace bx6 := bx6.below c5 (by omega); replace hy4 := hy4.below c5 (by omega); have D5 : Below w3.heap.size w3 w5 := Below.step c5 (by omega) D4; obtain ⟨q5bx6_0, q5bx6_1, q5bx6_2⟩ := bx6.c3)
        | (go_at_call 15; refine (toStageS_any v0 rules _ _ _ (hx0.below (B := w3.heap.size) (by (repeat (first | with_reducible assumption | with_reducible exact Below.refl _ _ | with_reducible refine Below.setCell ?_ ?_ _ | with_reducible refine Below.alloc ?_ ?_ _ | with_reducible refine Below.drew ?_ | with_reducible refine below_drewN ?_ _ | with_reducible refine Below.step (by with_reducible assumption) ?_ ?_ | omega | (simp <;> omega) | (simp; done)))) (by omega)) (by first | omega | (show _ ≤ w3.heap.size; omega) | (simp <;> omega)) (by omega)).mono ?_; rintro e w4 ⟨y4, rfl, hy4, b4⟩; have c4 : Below w3.heap.size w3 w4 := (by first | exact b4 | exact Below.undrew b4 | ((repeat (first | with_reducible assumption | with_reducible exact Below.refl _ _ | with_reducible refine Below.setCell ?_ ?_ _ | with_reducible refine Below.alloc ?_ ?_ _ | with_reducible refine Below.drew ?_ | with_reducible refine below_drewN ?_ _ | with_reducible refine Below.step (by with_reducible assumption) ?_ ?_ | omega | (simp <;> omega) | (simp; done))))); have zc4 := c4.size; (try (have kl4 := kA.lt; replace kA := kA.below c4 (by omega))); (try (have kA : Blk w4 w3.heap.size 32 #[.int .i64 0, .slice none 0 0, .slice none 0 0] := (by first | exact Blk.below (Blk.newAt rfl) b4 (by simp) | exact Blk.below (Blk.drew (Blk.newAt rfl)) b4 (by simp)); have kn4bx6 : w.heap.size ≠ w3.heap.size := (by omega); have km4bx6 := kn4bx6.symm)); replace hx0 := hx0.below c4 (by omega); replace hx1 := hx1.below c4 (by omega); replace hx2_0 := hx2_0.below c4 (by omega); replace hx2_1 := hx2_1.below c4 (by omega); replace bx6 := bx6.below c4 (by omega); have D4 : Below w3.heap.size w3 w4 := c4; obtain ⟨q4bx6_0, q4bx6_1, q4bx6_2⟩ := bx6.c3))
    all_goals (go_wp2_with fail; go_meet; first | exact CutC.late (hy7_0_0.wide (by first | omega | (simp <;> omega) | (show w3.heap.size ≤ w6.heap.size; omega)) (Nat.le_refl _)) (hy7_0_1.wide (by first | omega | (simp <;> omega) | (show w3.heap.size ≤ w6.heap.size; omega)) (Nat.le_refl _)) D7 | exact CutC.early (by omega) kA (hy7_0_0.wide (by first | omega | (simp <;> omega) | (show w3.heap.size ≤ w6.heap.size; omega)) (Nat.le_refl _)) (hy7_0_1.wide (by first | omega | (simp <;> omega) | (show w3.heap.size ≤ w6.heap.size; omega)) (Nat.le_refl _)) D7)
  case rest =>
    obtain ⟨gc8, Yc8_0, Yc8_1, Zc8_0, Zc8_1, rfl, rfl, gl8, gh8, bx10, hc8_0, hc8_1, b8⟩ := hcut
    clear qbx6_0 qbx6_1 qbx6_2
    have zb8 := b8.size
    replace hx0 := hx0.below b8 (by omega)
    replace hx1 := hx1.below b8 (by omega)
    replace hx2_0 := hx2_0.below b8 (by omega)
    replace hx2_1 := hx2_1.below b8 (by omega)
    replace bx6 := bx6.below b8 (by omega)
    replace BB := Below.step b8 (by omega) BB
    clear b8
    generalize hwx : wc = wn8 at *
    clear hwx
    have sc8 : Custody.small (extendStage rules hol c day).1 := extend_small (by assumption)
    have lc8_0 : ((extendStage rules hol c day).1.done).length ≤ 1048576 := sc8.len0
    have lc8_1 : ((extendStage rules hol c day).1.ext).length ≤ 1048576 := sc8.len1
    go_wp2_with fail
    refine (toStageS_any v0 rules _ _ _ hx0 (by omega) (by omega)).mono ?_
    rintro e w9 ⟨y9, rfl, hy9, b9⟩
    have zb9 := b9.size
    replace hx0 := hx0.below b9 (by omega)
    replace hx1 := hx1.below b9 (by omega)
    replace hx2_0 := hx2_0.below b9 (by omega)
    replace hx2_1 := hx2_1.below b9 (by omega)
    replace bx6 := bx6.below b9 (by omega)
    replace bx10 := bx10.below b9 (by omega)
    replace hc8_0 := hc8_0.below b9 (by omega)
    replace hc8_1 := hc8_1.below b9 (by omega)
    replace BB := Below.step b9 (by omega) BB
    clear b9
    go_wp2_with fail
    refine (toInt64S_any (.slice AX1 hol.length CX1) hol _ _ _ hx1 (by omega) (by omega)).mono ?_
    rintro e w10 ⟨y10, rfl, hy10, b10⟩
    have zb10 := b10.size
    replace hx0 := hx0.below b10 (by omega)
    replace hx1 := hx1.below b10 (by omega)
    replace hx2_0 := hx2_0.below b10 (by omega)
    replace hx2_1 := hx2_1.below b10 (by omega)
    replace bx6 := bx6.below b10 (by omega)
    replace bx10 := bx10.below b10 (by omega)
    replace hc8_0 := hc8_0.below b10 (by omega)
    replace hc8_1 := hc8_1.below b10 (by omega)
    replace hy9 := hy9.below b10 (by omega)
    replace BB := Below.step b10 (by omega) BB
    clear b10
    obtain ⟨qbx6_0, qbx6_1, qbx6_2⟩ := bx6.c3
    go_wp2_with fail
    refine (toCustody_any c p2_0 p2_1 _ _ _ hx2_0 hx2_1 (by omega) hs2).mono ?_
    rintro e w11 ⟨y11_0, y11_1, rfl, hy11_0, hy11_1, b11⟩
    clear qbx6_0 qbx6_1 qbx6_2
    have zb11 := b11.size
    replace hx0 := hx0.below b11 (by omega)
    replace hx1 := hx1.below b11 (by omega)
    replace hx2_0 := hx2_0.below b11 (by omega)
    replace hx2_1 := hx2_1.below b11 (by omega)
    replace bx6 := bx6.below b11 (by omega)
    replace bx10 := bx10.below b11 (by omega)
    replace hc8_0 := hc8_0.below b11 (by omega)
    replace hc8_1 := hc8_1.below b11 (by omega)
    replace hy9 := hy9.below b11 (by omega)
    replace hy10 := hy10.below b11 (by omega)
    replace BB := Below.step b11 (by omega) BB
    clear b11
    obtain ⟨Yy11_0, Zy11_0, rfl, hzy11_0⟩ := hy11_0.form
    obtain ⟨Yy11_1, Zy11_1, rfl, hzy11_1⟩ := hy11_1.form
    go_wp2_with fail
    have ab12 : Below w11.heap.size w11 (w11.alloc (.cells #[.int .i64 c.start, (.slice Yy11_0 (c.done).length Zy11_0), (.slice Yy11_1 (c.ext).length Zy11_1)] 32)) := ((Below.refl _ _).alloc (by first | exact Nat.le_refl _ | (simp; omega) | (simp; done)) _)
    have az12 : (w11.alloc (.cells #[.int .i64 c.start, (.slice Yy11_0 (c.done).length Zy11_0), (.slice Yy11_1 (c.ext).length Zy11_1)] 32)).heap.size = w11.heap.size + 1 := by simp
    replace hx0 := hx0.below ab12 (by omega)
    replace hx1 := hx1.below ab12 (by omega)
    replace hx2_0 := hx2_0.below ab12 (by omega)
    replace hx2_1 := hx2_1.below ab12 (by omega)
    replace bx6 := bx6.below ab12 (by omega)
    replace bx10 := bx10.below ab12 (by omega)
    replace hc8_0 := hc8_0.below ab12 (by omega)
    replace hc8_1 := hc8_1.below ab12 (by omega)
    replace hy9 := hy9.below ab12 (by omega)
    replace hy10 := hy10.below ab12 (by omega)
    replace hy11_0 := hy11_0.below ab12 (by omega)
    replace hy11_1 := hy11_1.below ab12 (by omega)
    replace BB := Below.step ab12 (by omega) BB
    clear ab12
    have bx14 : Blk (w11.alloc (.cells #[.int .i64 c.start, (.slice Yy11_0 (c.done).length Zy11_0), (.slice Yy11_1 (c.ext).length Zy11_1)] 32)) (w11.heap.size) 32 #[.int .i64 c.start, (.slice Yy11_0 (c.done).length Zy11_0), (.slice Yy11_1 (c.ext).length Zy11_1)] := Blk.newAt (w := w11) (n := w11.heap.size) (t := 32) (cs := #[.int .i64 c.start, (.slice Yy11_0 (c.done).length Zy11_0), (.slice Yy11_1 (c.ext).length Zy11_1)]) (by simp)
    generalize (w11.alloc (.cells #[.int .i64 c.start, (.slice Yy11_0 (c.done).length Zy11_0), (.slice Yy11_1 (c.ext).length Zy11_1)] 32)) = wb12 at *
    obtain ⟨qbx14_0, qbx14_1, qbx14_2⟩ := bx14.c3
    try go_wp2_with fail
    refine (impExtendStage_any y9 rules _ _ y10 hol _ _ c (.slice Yy11_0 (c.done).length Zy11_0) (.slice Yy11_1 (c.ext).length Zy11_1) _ _ day _ hy9.rd (by omega) (by omega) hs0 hy10.rd (by omega) (by omega) hy11_0.rd hy11_1.rd (by omega) hs2).mono ?_
    rintro e w13 ⟨y13_0_0, y13_0_1, rfl, hy13_0_0, hy13_0_1, b13⟩
    clear qbx14_0 qbx14_1 qbx14_2
    have zb13 := b13.size
    replace hx0 := hx0.below b13 (by omega)
    replace hx1 := hx1.below b13 (by omega)
    replace hx2_0 := hx2_0.below b13 (by omega)
    replace hx2_1 := hx2_1.below b13 (by omega)
    replace bx6 := bx6.below b13 (by omega)
    replace bx10 := bx10.below b13 (by omega)
    replace hc8_0 := hc8_0.below b13 (by omega)
    replace hc8_1 := hc8_1.below b13 (by omega)
    replace hy9 := hy9.below b13 (by omega)
    replace hy10 := hy10.below b13 (by omega)
    replace hy11_0 := hy11_0.below b13 (by omega)
    replace hy11_1 := hy11_1.below b13 (by omega)
    replace bx14 := bx14.below b13 (by omega)
    replace BB := Below.step b13 (by omega) BB
    clear b13
    have s13_0 : Custody.small (extendStage rules hol c day).1 := extend_small (by assumption)
    obtain ⟨Yy13_0_0, Zy13_0_0, rfl, hzy13_0_0⟩ := hy13_0_0.form
    have l13_0_0 : ((extendStage rules hol c day).1.done).length ≤ 1048576 := s13_0.len0
    obtain ⟨Yy13_0_1, Zy13_0_1, rfl, hzy13_0_1⟩ := hy13_0_1.form
    have l13_0_1 : ((extendStage rules hol c day).1.ext).length ≤ 1048576 := s13_0.len1
    obtain ⟨pbx10_0, pbx10_1, pbx10_2⟩ := (Blk.below bx10 (show Below w13.heap.size w13 (w13.alloc (.cells #[.int .i64 (extendStage rules hol c day).1.start, (.slice Yy13_0_0 ((extendStage rules hol c day).1.done).length Zy13_0_0), (.slice Yy13_0_1 ((extendStage rules hol c day).1.ext).length Zy13_0_1)] 32)) from ((Below.refl _ _).alloc (by first | exact Nat.le_refl _ | (simp; omega) | (simp; done)) _)) (by omega)).c3
    go_wp2_with fail
    clear pbx10_0 pbx10_1 pbx10_2
    have ab14 : Below w13.heap.size w13 (w13.alloc (.cells #[.int .i64 (extendStage rules hol c day).1.start, (.slice Yy13_0_0 ((extendStage rules hol c day).1.done).length Zy13_0_0), (.slice Yy13_0_1 ((extendStage rules hol c day).1.ext).length Zy13_0_1)] 32)) := ((Below.refl _ _).alloc (by first | exact Nat.le_refl _ | (simp; omega) | (simp; done)) _)
    have az14 : (w13.alloc (.cells #[.int .i64 (extendStage rules hol c day).1.start, (.slice Yy13_0_0 ((extendStage rules hol c day).1.done).length Zy13_0_0), (.slice Yy13_0_1 ((extendStage rules hol c day).1.ext).length Zy13_0_1)] 32)).heap.size = w13.heap.size + 1 := by simp
    replace hx0 := hx0.below ab14 (by omega)
    replace hx1 := hx1.below ab14 (by omega)
    replace hx2_0 := hx2_0.below ab14 (by omega)
    replace hx2_1 := hx2_1.below ab14 (by omega)
    replace bx6 := bx6.below ab14 (by omega)
    replace bx10 := bx10.below ab14 (by omega)
    replace hc8_0 := hc8_0.below ab14 (by omega)
    replace hc8_1 := hc8_1.below ab14 (by omega)
    replace hy9 := hy9.below ab14 (by omega)
    replace hy10 := hy10.below ab14 (by omega)
    replace hy11_0 := hy11_0.below ab14 (by omega)
    replace hy11_1 := hy11_1.below ab14 (by omega)
    replace bx14 := bx14.below ab14 (by omega)
    replace hy13_0_0 := hy13_0_0.below ab14 (by omega)
    replace hy13_0_1 := hy13_0_1.below ab14 (by omega)
    replace BB := Below.step ab14 (by omega) BB
    clear ab14
    have bx15 : Blk (w13.alloc (.cells #[.int .i64 (extendStage rules hol c day).1.start, (.slice Yy13_0_0 ((extendStage rules hol c day).1.done).length Zy13_0_0), (.slice Yy13_0_1 ((extendStage rules hol c day).1.ext).length Zy13_0_1)] 32)) (w13.heap.size) 32 #[.int .i64 (extendStage rules hol c day).1.start, (.slice Yy13_0_0 ((extendStage rules hol c day).1.done).length Zy13_0_0), (.slice Yy13_0_1 ((extendStage rules hol c day).1.ext).length Zy13_0_1)] := Blk.newAt (w := w13) (n := w13.heap.size) (t := 32) (cs := #[.int .i64 (extendStage rules hol c day).1.start, (.slice Yy13_0_0 ((extendStage rules hol c day).1.done).length Zy13_0_0), (.slice Yy13_0_1 ((extendStage rules hol c day).1.ext).length Zy13_0_1)]) (by simp)
    generalize (w13.alloc (.cells #[.int .i64 (extendStage rules hol c day).1.start, (.slice Yy13_0_0 ((extendStage rules hol c day).1.done).length Zy13_0_0), (.slice Yy13_0_1 ((extendStage rules hol c day).1.ext).length Zy13_0_1)] 32)) = wb14 at *
    obtain ⟨qbx10_0, qbx10_1, qbx10_2⟩ := bx10.c3
    obtain ⟨qbx15_0, qbx15_1, qbx15_2⟩ := bx15.c3
    try go_wp2_with fail
    refine (eqCustody_any (extendStage rules hol c day).1 (extendStage rules hol c day).1 (.slice Yy13_0_0 ((extendStage rules hol c day).1.done).length Zy13_0_0) (.slice Yy13_0_1 ((extendStage rules hol c day).1.ext).length Zy13_0_1) (.slice Yc8_0 ((extendStage rules hol c day).1.done).length Zc8_0) (.slice Yc8_1 ((extendStage rules hol c day).1.ext).length Zc8_1) _ _ _ _ _ hy13_0_0.rd hy13_0_1.rd (by omega) hc8_0.rd hc8_1.rd (by omega) s13_0 sc8).mono ?_
    rintro e w15 ⟨rfl, b15⟩
    clear qbx10_0 qbx10_1 qbx10_2 qbx15_0 qbx15_1 qbx15_2
    have zb15 := b15.size
    replace hx0 := hx0.below b15 (by omega)
    replace hx1 := hx1.below b15 (by omega)
    replace hx2_0 := hx2_0.below b15 (by omega)
    replace hx2_1 := hx2_1.below b15 (by omega)
    replace bx6 := bx6.below b15 (by omega)
    replace bx10 := bx10.below b15 (by omega)
    replace hc8_0 := hc8_0.below b15 (by omega)
    replace hc8_1 := hc8_1.below b15 (by omega)
    replace hy9 := hy9.below b15 (by omega)
    replace hy10 := hy10.below b15 (by omega)
    replace hy11_0 := hy11_0.below b15 (by omega)
    replace hy11_1 := hy11_1.below b15 (by omega)
    replace bx14 := bx14.below b15 (by omega)
    replace hy13_0_0 := hy13_0_0.below b15 (by omega)
    replace hy13_0_1 := hy13_0_1.below b15 (by omega)
    replace bx15 := bx15.below b15 (by omega)
    replace BB := Below.step b15 (by omega) BB
    clear b15
    rw [show Custody.beq (extendStage rules hol c day).1 (extendStage rules hol c day).1 = true from Custody.beq_refl _]
    go_wp2_with fail
    refine (toStageS_any v0 rules _ _ _ hx0 (by omega) (by omega)).mono ?_
    rintro e w16 ⟨y16, rfl, hy16, b16⟩
    have zb16 := b16.size
    replace hx0 := hx0.below b16 (by omega)
    replace hx1 := hx1.below b16 (by omega)
    replace hx2_0 := hx2_0.below b16 (by omega)
    replace hx2_1 := hx2_1.below b16 (by omega)
    replace bx6 := bx6.below b16 (by omega)
    replace bx10 := bx10.below b16 (by omega)
    replace hc8_0 := hc8_0.below b16 (by omega)
    replace hc8_1 := hc8_1.below b16 (by omega)
    replace hy9 := hy9.below b16 (by omega)
    replace hy10 := hy10.below b16 (by omega)
    replace hy11_0 := hy11_0.below b16 (by omega)
    replace hy11_1 := hy11_1.below b16 (by omega)
    replace bx14 := bx14.below b16 (by omega)
    replace hy13_0_0 := hy13_0_0.below b16 (by omega)
    replace hy13_0_1 := hy13_0_1.below b16 (by omega)
    replace bx15 := bx15.below b16 (by omega)
    replace BB := Below.step b16 (by omega) BB
    clear b16
    go_wp2_with fail
    refine (eqStageS_any y9 y16 rules rules _ _ _ _ _ hy9.rd (by omega) hy16.rd (by omega) (by omega) (by omega)).mono ?_
    rintro e w17 ⟨rfl, b17⟩
    have zb17 := b17.size
    replace hx0 := hx0.below b17 (by omega)
    replace hx1 := hx1.below b17 (by omega)
    replace hx2_0 := hx2_0.below b17 (by omega)
    replace hx2_1 := hx2_1.below b17 (by omega)
    replace bx6 := bx6.below b17 (by omega)
    replace bx10 := bx10.below b17 (by omega)
    replace hc8_0 := hc8_0.below b17 (by omega)
    replace hc8_1 := hc8_1.below b17 (by omega)
    replace hy9 := hy9.below b17 (by omega)
    replace hy10 := hy10.below b17 (by omega)
    replace hy11_0 := hy11_0.below b17 (by omega)
    replace hy11_1 := hy11_1.below b17 (by omega)
    replace bx14 := bx14.below b17 (by omega)
    replace hy13_0_0 := hy13_0_0.below b17 (by omega)
    replace hy13_0_1 := hy13_0_1.below b17 (by omega)
    replace bx15 := bx15.below b17 (by omega)
    replace hy16 := hy16.below b17 (by omega)
    replace BB := Below.step b17 (by omega) BB
    clear b17
    rw [show eqL Stage.beq rules rules = true from (eqL_iff (fun x y => Stage.beq_iff)).2 rfl]
    clear hy16
    go_wp2_with fail
    refine (toInt64S_any (.slice AX1 hol.length CX1) hol _ _ _ hx1 (by omega) (by omega)).mono ?_
    rintro e w18 ⟨y18, rfl, hy18, b18⟩
    have zb18 := b18.size
    replace hx0 := hx0.below b18 (by omega)
    replace hx1 := hx1.below b18 (by omega)
    replace hx2_0 := hx2_0.below b18 (by omega)
    replace hx2_1 := hx2_1.below b18 (by omega)
    replace bx6 := bx6.below b18 (by omega)
    replace bx10 := bx10.below b18 (by omega)
    replace hc8_0 := hc8_0.below b18 (by omega)
    replace hc8_1 := hc8_1.below b18 (by omega)
    replace hy9 := hy9.below b18 (by omega)
    replace hy10 := hy10.below b18 (by omega)
    replace hy11_0 := hy11_0.below b18 (by omega)
    replace hy11_1 := hy11_1.below b18 (by omega)
    replace bx14 := bx14.below b18 (by omega)
    replace hy13_0_0 := hy13_0_0.below b18 (by omega)
    replace hy13_0_1 := hy13_0_1.below b18 (by omega)
    replace bx15 := bx15.below b18 (by omega)
    replace BB := Below.step b18 (by omega) BB
    clear b18
    go_wp2_with fail
    refine (eqInt64S_any y10 y18 hol hol _ _ _ _ _ hy10.rd (by omega) hy18.rd (by omega) (by omega) (by omega)).mono ?_
    rintro e w19 ⟨rfl, b19⟩
    have zb19 := b19.size
    replace hx0 := hx0.below b19 (by omega)
    replace hx1 := hx1.below b19 (by omega)
    replace hx2_0 := hx2_0.below b19 (by omega)
    replace hx2_1 := hx2_1.below b19 (by omega)
    replace bx6 := bx6.below b19 (by omega)
    replace bx10 := bx10.below b19 (by omega)
    replace hc8_0 := hc8_0.below b19 (by omega)
    replace hc8_1 := hc8_1.below b19 (by omega)
    replace hy9 := hy9.below b19 (by omega)
    replace hy10 := hy10.below b19 (by omega)
    replace hy11_0 := hy11_0.below b19 (by omega)
    replace hy11_1 := hy11_1.below b19 (by omega)
    replace bx14 := bx14.below b19 (by omega)
    replace hy13_0_0 := hy13_0_0.below b19 (by omega)
    replace hy13_0_1 := hy13_0_1.below b19 (by omega)
    replace bx15 := bx15.below b19 (by omega)
    replace hy18 := hy18.below b19 (by omega)
    replace BB := Below.step b19 (by omega) BB
    clear b19
    rw [show eqL intEq hol hol = true from (eqL_iff (fun x y => intEq_iff x y)).2 rfl]
    clear hy18
    obtain ⟨qbx6_0, qbx6_1, qbx6_2⟩ := bx6.c3
    obtain ⟨qbx14_0, qbx14_1, qbx14_2⟩ := bx14.c3
    go_wp2_with fail
    go_region_held3 (fun w' => w'.cell? ⟨w.heap.size, 0, none⟩ = some (.int .i64 c.start) ∧ w'.cell? ⟨w.heap.size, 1, none⟩ = some (p2_0) ∧ w'.cell? ⟨w.heap.size, 2, none⟩ = some (p2_1) ∧ w'.cell? ⟨w11.heap.size, 0, none⟩ = some (.int .i64 c.start) ∧ w'.cell? ⟨w11.heap.size, 1, none⟩ = some ((.slice Yy11_0 (c.done).length Zy11_0)) ∧ w'.cell? ⟨w11.heap.size, 2, none⟩ = some ((.slice Yy11_1 (c.ext).length Zy11_1))) (go_keep)
      (first
        | (go_at_call 19; refine (eqCustody_any c c (.slice Yy11_0 (c.done).length Zy11_0) (.slice Yy11_1 (c.ext).length Zy11_1) (.slice Yy20_0 (c.done).length Zy20_0) (.slice Yy20_1 (c.ext).length Zy20_1) _ _ _ _ _ hy11_0.rd hy11_1.rd (by omega) hy20_0.rd hy20_1.rd (by omega) hs2 hs2).mono ?_; rintro e w21 ⟨rfl, b21⟩; have zb21 := b21.size; replace hx0 := hx0.below b21 (by omega); replace hx1 := hx1.below b21 (by omega); replace hx2_0 := hx2_0.below b21 (by omega); replace hx2_1 := hx2_1.below b21 (by omega); replace bx6 := bx6.below b21 (by omega); replace bx10 := bx10.below b21 (by omega); replace hc8_0 := hc8_0.below b21 (by omega); replace hc8_1 := hc8_1.below b21 (by omega); replace hy9 := hy9.below b21 (by omega); replace hy10 := hy10.below b21 (by omega); replace hy11_0 := hy11_0.below b21 (by omega); replace hy11_1 := hy11_1.below b21 (by omega); replace bx14 := bx14.below b21 (by omega); replace hy13_0_0 := hy13_0_0.below b21 (by omega); replace hy13_0_1 := hy13_0_1.below b21 (by omega); replace bx15 := bx15.below b21 (by omega); replace hy20_0 := hy20_0.below b21 (by omega); replace hy20_1 := hy20_1.below b21 (by omega); replace BB := Below.step b21 (by omega) BB; clear b21; obtain ⟨q21bx6_0, q21bx6_1, q21bx6_2⟩ := bx6.c3; obtain ⟨q21bx14_0, q21bx14_1, q21bx14_2⟩ := bx14.c3; rw [show Custody.beq c c = true from Custody.beq_refl _])
        | (go_at_call 16; refine (toCustody_any c p2_0 p2_1 _ _ _ (hx2_0.below (B := w19.heap.size) (Below.refl _ w19).drew (by omega)) (hx2_1.below (B := w19.heap.size) (Below.refl _ w19).drew (by omega)) (by show _ ≤ w19.heap.size; omega) hs2).mono ?_; rintro e w20 ⟨y20_0, y20_1, rfl, hy20_0, hy20_1, b20⟩; replace b20 : Below w19.heap.size w19 w20 := Below.undrew b20; have zb20 := b20.size; replace hx0 := hx0.below b20 (by omega); replace hx1 := hx1.below b20 (by omega); replace hx2_0 := hx2_0.below b20 (by omega); replace hx2_1 := hx2_1.below b20 (by omega); replace bx6 := bx6.below b20 (by omega); replace bx10 := bx10.below b20 (by omega); replace hc8_0 := hc8_0.below b20 (by omega); replace hc8_1 := hc8_1.below b20 (by omega); replace hy9 := hy9.below b20 (by omega); replace hy10 := hy10.below b20 (by omega); replace hy11_0 := hy11_0.below b20 (by omega); replace hy11_1 := hy11_1.below b20 (by omega); replace bx14 := bx14.below b20 (by omega); replace hy13_0_0 := hy13_0_0.below b20 (by omega); replace hy13_0_1 := hy13_0_1.below b20 (by omega); replace bx15 := bx15.below b20 (by omega); replace BB := Below.step b20 (by omega) BB; clear b20; obtain ⟨q20bx6_0, q20bx6_1, q20bx6_2⟩ := bx6.c3; obtain ⟨q20bx14_0, q20bx14_1, q20bx14_2⟩ := bx14.c3; obtain ⟨Yy20_0, Zy20_0, rfl, hzy20_0⟩ := hy20_0.form; obtain ⟨Yy20_1, Zy20_1, rfl, hzy20_1⟩ := hy20_1.form))
    clear qbx6_0 qbx6_1 qbx6_2 qbx14_0 qbx14_1 qbx14_2 q20bx6_0 q20bx6_1 q20bx6_2 q20bx14_0 q20bx14_1 q20bx14_2 q21bx6_0 q21bx6_1 q21bx6_2 q21bx14_0 q21bx14_1 q21bx14_2
    clear hy20_0 hy20_1
    go_wp2_with fail
    refine (markStageS_any y9 (rules) _ _ (1) _ hy9 (by omega) (by omega) (by omega) (by omega)).mono ?_
    rintro e w22 ⟨rfl, hg22, cg22⟩
    have zcg22 := cg22.size
    clear hy9
    replace hx0 := hx0.chg cg22 (by omega) (by omega)
    replace hx1 := hx1.chg cg22 (by omega) (by omega)
    replace hx2_0 := hx2_0.chg cg22 (by omega) (by omega)
    replace hx2_1 := hx2_1.chg cg22 (by omega) (by omega)
    replace bx6 := bx6.chg cg22 (by omega) (by omega)
    replace bx10 := bx10.chg cg22 (by omega) (by omega)
    replace hc8_0 := hc8_0.chg cg22 (by omega) (by omega)
    replace hc8_1 := hc8_1.chg cg22 (by omega) (by omega)
    replace hy10 := hy10.chg cg22 (by omega) (by omega)
    replace hy11_0 := hy11_0.chg cg22 (by omega) (by omega)
    replace hy11_1 := hy11_1.chg cg22 (by omega) (by omega)
    replace bx14 := bx14.chg cg22 (by omega) (by omega)
    replace hy13_0_0 := hy13_0_0.chg cg22 (by omega) (by omega)
    replace hy13_0_1 := hy13_0_1.chg cg22 (by omega) (by omega)
    replace bx15 := bx15.chg cg22 (by omega) (by omega)
    replace BB := BB.trans (cg22.below (by omega) (by omega))
    clear cg22
    clear hg22
    go_wp2_with fail
    refine (markInt64S_any y10 (hol) _ _ (1 + ((rules).length : Int) * 3) _ hy10 (by omega) (by omega) (by omega) (by omega)).mono ?_
    rintro e w23 ⟨rfl, hg23, cg23⟩
    have zcg23 := cg23.size
    clear hy10
    replace hx0 := hx0.chg cg23 (by omega) (by omega)
    replace hx1 := hx1.chg cg23 (by omega) (by omega)
    replace hx2_0 := hx2_0.chg cg23 (by omega) (by omega)
    replace hx2_1 := hx2_1.chg cg23 (by omega) (by omega)
    replace bx6 := bx6.chg cg23 (by omega) (by omega)
    replace bx10 := bx10.chg cg23 (by omega) (by omega)
    replace hc8_0 := hc8_0.chg cg23 (by omega) (by omega)
    replace hc8_1 := hc8_1.chg cg23 (by omega) (by omega)
    replace hy11_0 := hy11_0.chg cg23 (by omega) (by omega)
    replace hy11_1 := hy11_1.chg cg23 (by omega) (by omega)
    replace bx14 := bx14.chg cg23 (by omega) (by omega)
    replace hy13_0_0 := hy13_0_0.chg cg23 (by omega) (by omega)
    replace hy13_0_1 := hy13_0_1.chg cg23 (by omega) (by omega)
    replace bx15 := bx15.chg cg23 (by omega) (by omega)
    replace BB := BB.trans (cg23.below (by omega) (by omega))
    clear cg23
    clear hg23
    obtain ⟨qbx14_0, qbx14_1, qbx14_2⟩ := bx14.c3
    go_wp2_with fail
    refine (markCustody_any (c) (.slice Yy11_0 (c.done).length Zy11_0) (.slice Yy11_1 (c.ext).length Zy11_1) _ _ (1 + ((rules).length : Int) * 3 + ((hol).length : Int)) _ (hy11_0) (hy11_1) (by omega) hs2 (by omega) (by omega)).mono ?_
    rintro e w24 ⟨rfl, hg24_0, hg24_1, cg24⟩
    clear qbx14_0 qbx14_1 qbx14_2
    have zcg24 := cg24.size
    clear hy11_0 hy11_1
    replace hx0 := hx0.chg cg24 (by omega) (by omega)
    replace hx1 := hx1.chg cg24 (by omega) (by omega)
    replace hx2_0 := hx2_0.chg cg24 (by omega) (by omega)
    replace hx2_1 := hx2_1.chg cg24 (by omega) (by omega)
    replace bx6 := bx6.chg cg24 (by omega) (by omega)
    replace bx10 := bx10.chg cg24 (by omega) (by omega)
    replace hc8_0 := hc8_0.chg cg24 (by omega) (by omega)
    replace hc8_1 := hc8_1.chg cg24 (by omega) (by omega)
    replace bx14 := bx14.chg cg24 (by omega) (by omega)
    replace hy13_0_0 := hy13_0_0.chg cg24 (by omega) (by omega)
    replace hy13_0_1 := hy13_0_1.chg cg24 (by omega) (by omega)
    replace bx15 := bx15.chg cg24 (by omega) (by omega)
    replace BB := BB.trans (cg24.below (by omega) (by omega))
    clear cg24
    clear bx14
    clear hg24_0 hg24_1
    obtain ⟨qbx10_0, qbx10_1, qbx10_2⟩ := bx10.c3
    obtain ⟨qbx15_0, qbx15_1, qbx15_2⟩ := bx15.c3
    go_wp2_with fail
    refine (eqCustody_any (extendStage rules hol c day).1 (extendStage rules hol c day).1 (.slice Yy13_0_0 ((extendStage rules hol c day).1.done).length Zy13_0_0) (.slice Yy13_0_1 ((extendStage rules hol c day).1.ext).length Zy13_0_1) (.slice Yc8_0 ((extendStage rules hol c day).1.done).length Zc8_0) (.slice Yc8_1 ((extendStage rules hol c day).1.ext).length Zc8_1) _ _ _ _ _ hy13_0_0.rd hy13_0_1.rd (by omega) hc8_0.rd hc8_1.rd (by omega) s13_0 sc8).mono ?_
    rintro e w25 ⟨rfl, b25⟩
    clear qbx10_0 qbx10_1 qbx10_2 qbx15_0 qbx15_1 qbx15_2
    have zb25 := b25.size
    replace hx0 := hx0.below b25 (by omega)
    replace hx1 := hx1.below b25 (by omega)
    replace hx2_0 := hx2_0.below b25 (by omega)
    replace hx2_1 := hx2_1.below b25 (by omega)
    replace bx6 := bx6.below b25 (by omega)
    replace bx10 := bx10.below b25 (by omega)
    replace hc8_0 := hc8_0.below b25 (by omega)
    replace hc8_1 := hc8_1.below b25 (by omega)
    replace hy13_0_0 := hy13_0_0.below b25 (by omega)
    replace hy13_0_1 := hy13_0_1.below b25 (by omega)
    replace bx15 := bx15.below b25 (by omega)
    replace BB := Below.step b25 (by omega) BB
    clear b25
    rw [show Custody.beq (extendStage rules hol c day).1 (extendStage rules hol c day).1 = true from Custody.beq_refl _]
    obtain ⟨qbx15_0, qbx15_1, qbx15_2⟩ := bx15.c3
    go_wp2_with fail
    refine (markCustody_any ((extendStage rules hol c day).1) (.slice Yy13_0_0 ((extendStage rules hol c day).1.done).length Zy13_0_0) (.slice Yy13_0_1 ((extendStage rules hol c day).1.ext).length Zy13_0_1) _ _ (1) _ (hy13_0_0) (hy13_0_1) (by omega) s13_0 (by omega) (by omega)).mono ?_
    rintro e w26 ⟨rfl, hg26_0, hg26_1, cg26⟩
    clear qbx15_0 qbx15_1 qbx15_2
    have zcg26 := cg26.size
    clear hy13_0_0 hy13_0_1
    replace hx0 := hx0.chg cg26 (by omega) (by omega)
    replace hx1 := hx1.chg cg26 (by omega) (by omega)
    replace hx2_0 := hx2_0.chg cg26 (by omega) (by omega)
    replace hx2_1 := hx2_1.chg cg26 (by omega) (by omega)
    replace bx6 := bx6.chg cg26 (by omega) (by omega)
    replace bx10 := bx10.chg cg26 (by omega) (by omega)
    replace hc8_0 := hc8_0.chg cg26 (by omega) (by omega)
    replace hc8_1 := hc8_1.chg cg26 (by omega) (by omega)
    replace bx15 := bx15.chg cg26 (by omega) (by omega)
    replace BB := BB.trans (cg26.below (by omega) (by omega))
    clear cg26
    obtain ⟨qbx15_0, qbx15_1, qbx15_2⟩ := bx15.c3
    go_wp2_with fail
    refine (heldCustody_any _ ((extendStage rules hol c day).1.done).length ((extendStage rules hol c day).1.ext).length (.slice Yy13_0_0 ((extendStage rules hol c day).1.done).length Zy13_0_0) (.slice Yy13_0_1 ((extendStage rules hol c day).1.ext).length Zy13_0_1) _ _ (1) _ hg26_0.rd hg26_1.rd (by omega) (by omega) (by omega) (by omega) (by omega)).mono ?_
    rintro e w27 ⟨rfl, b27⟩
    clear qbx15_0 qbx15_1 qbx15_2
    have zb27 := b27.size
    replace hx0 := hx0.below b27 (by omega)
    replace hx1 := hx1.below b27 (by omega)
    replace hx2_0 := hx2_0.below b27 (by omega)
    replace hx2_1 := hx2_1.below b27 (by omega)
    replace bx6 := bx6.below b27 (by omega)
    replace bx10 := bx10.below b27 (by omega)
    replace hc8_0 := hc8_0.below b27 (by omega)
    replace hc8_1 := hc8_1.below b27 (by omega)
    replace bx15 := bx15.below b27 (by omega)
    replace hg26_0 := hg26_0.below b27 (by omega)
    replace hg26_1 := hg26_1.below b27 (by omega)
    replace BB := Below.step b27 (by omega) BB
    clear b27
    obtain ⟨qbx6_0, qbx6_1, qbx6_2⟩ := bx6.c3
    go_wp2_with fail
    go_upto_region 37 with fail
    go_cut [20, 21] (fun s1 s2 wx => CutC ((extendStage rules hol c day)) w27 s1 s2 wx)
    case first =>
      go_region_held3 (fun w' => w'.cell? ⟨w.heap.size, 0, none⟩ = some (.int .i64 c.start) ∧ w'.cell? ⟨w.heap.size, 1, none⟩ = some (p2_0) ∧ w'.cell? ⟨w.heap.size, 2, none⟩ = some (p2_1)) (go_keep)
        (first
          | (go_at_call 36; refine (impExtendStage_any y28 rules _ _ y29 hol _ _ c (.slice Yy30_0 (c.done).length Zy30_0) (.slice Yy30_1 (c.ext).length Zy30_1) _ _ day _ (hy28.below (B := w30.heap.size) (by (repeat (first | with_reducible assumption | with_reducible exact Below.refl _ _ | with_reducible refine Below.setCell ?_ ?_ _ | with_reducible refine Below.alloc ?_ ?_ _ | with_reducible refine Below.drew ?_ | with_reducible refine below_drewN ?_ _ | with_reducible refine Below.step (by with_reducible assumption) ?_ ?_ | omega | (simp <;> omega) | (simp; done)))) (by omega)).rd (by first | omega | (show _ ≤ w30.heap.size; omega) | (simp <;> omega)) (by omega) hs0 (hy29.below (B := w30.heap.size) (by (repeat (first | with_reducible assumption | with_reducible exact Below.refl _ _ | with_reducible refine Below.setCell ?_ ?_ _ | with_reducible refine Below.alloc ?_ ?_ _ | with_reducible refine Below.drew ?_ | with_reducible refine below_drewN ?_ _ | with_reducible refine Below.step (by with_reducible assumption) ?_ ?_ | omega | (simp <;> omega) | (simp; done)))) (by omega)).rd (by first | omega | (show _ ≤ w30.heap.size; omega) | (simp <;> omega)) (by omega) (hy30_0.below (B := w30.heap.size) (by (repeat (first | with_reducible assumption | with_reducible exact Below.refl _ _ | with_reducible refine Below.setCell ?_ ?_ _ | with_reducible refine Below.alloc ?_ ?_ _ | with_reducible refine Below.drew ?_ | with_reducible refine below_drewN ?_ _ | with_reducible refine Below.step (by with_reducible assumption) ?_ ?_ | omega | (simp <;> omega) | (simp; done)))) (by omega)).rd (hy30_1.below (B := w30.heap.size) (by (repeat (first | with_reducible assumption | with_reducible exact Below.refl _ _ | with_reducible refine Below.setCell ?_ ?_ _ | with_reducible refine Below.alloc ?_ ?_ _ | with_reducible refine Below.drew ?_ | with_reducible refine below_drewN ?_ _ | with_reducible refine Below.step (by with_reducible assumption) ?_ ?_ | omega | (simp <;> omega) | (simp; done)))) (by omega)).rd (by first | omega | (show _ ≤ w30.heap.size; omega) | (simp <;> omega)) hs2).mono ?_; rintro e w31 ⟨y31_0_0, y31_0_1, rfl, hy31_0_0, hy31_0_1, b31⟩; have c31 : Below w30.heap.size w30 w31 := (by first | exact b31 | exact Below.undrew b31 | ((repeat (first | with_reducible assumption | with_reducible exact Below.refl _ _ | with_reducible refine Below.setCell ?_ ?_ _ | with_reducible refine Below.alloc ?_ ?_ _ | with_reducible refine Below.drew ?_ | with_reducible refine below_drewN ?_ _ | with_reducible refine Below.step (by with_reducible assumption) ?_ ?_ | omega | (simp <;> omega) | (simp; done))))); have zc31 := c31.size; (try (have kl31 := kA.lt; replace kA := kA.below c31 (by omega))); (try (have kA : Blk w31 w30.heap.size 32 #[.int .i64 0, .slice none 0 0, .slice none 0 0] := (by first | exact Blk.below (Blk.newAt rfl) b31 (by simp) | exact Blk.below (Blk.drew (Blk.newAt rfl)) b31 (by simp)); have kn31bx6 : w.heap.size ≠ w30.heap.size := (by omega); have km31bx6 := kn31bx6.symm)); replace hx0 := hx0.below c31 (by omega); replace hx1 := hx1.below c31 (by omega); replace hx2_0 := hx2_0.below c31 (by omega); replace hx2_1 := hx2_1.below c31 (by omega); replace bx6 := bx6.below c31 (by omega); replace bx10 := bx10.below c31 (by omega); replace hc8_0 := hc8_0.below c31 (by omega); replace hc8_1 := hc8_1.below c31 (by omega); replace bx15 := bx15.below c31 (by omega); replace hg26_0 := hg26_0.below c31 (by omega); replace hg26_1 := hg26_1.below c31 (by omega); replace hy28 := hy28.below c31 (by omega); replace hy29 := hy29.below c31 (by omega); replace hy30_0 := hy30_0.below c31 (by omega); replace hy30_1 := hy30_1.below c31 (by omega); have D31 : Below w27.heap.size w27 w31 := Below.step c31 (by omega) D30; obtain ⟨q31bx6_0, q31bx6_1, q31bx6_2⟩ := bx6.c3; have s31_0 : Custody.small (extendStage rules hol c day).1 := extend_small (by assumption); obtain ⟨Yy31_0_0, Zy31_0_0, rfl, hzy31_0_0⟩ := hy31_0_0.form; have l31_0_0 : ((extendStage rules hol c day).1.done).length ≤ 1048576 := s31_0.len0; obtain ⟨Yy31_0_1, Zy31_0_1, rfl, hzy31_0_1⟩ := hy31_0_1.form; have l31_0_1 : ((extendStage rules hol c day).1.ext).length ≤ 1048576 := s31_0.len1; (try (obtain ⟨ka0, ka1, ka2⟩ := kA.c3; have kb0 := kA.frozen 0; have kb1 := kA.frozen 1; have kb2 := kA.frozen 2)))
          | (go_at_call 16; refine (toCustody_any c p2_0 p2_1 _ _ _ (hx2_0.below (B := w29.heap.size) (by (repeat (first | with_reducible assumption | with_reducible exact Below.refl _ _ | with_reducible refine Below.setCell ?_ ?_ _ | with_reducible refine Below.alloc ?_ ?_ _ | with_reducible refine Below.drew ?_ | with_reducible refine below_drewN ?_ _ | with_reducible refine Below.step (by with_reducible assumption) ?_ ?_ | omega | (simp <;> omega) | (simp; done)))) (by omega)) (hx2_1.below (B := w29.heap.size) (by (repeat (first | with_reducible assumption | with_reducible exact Below.refl _ _ | with_reducible refine Below.setCell ?_ ?_ _ | with_reducible refine Below.alloc ?_ ?_ _ | with_reducible refine Below.drew ?_ | with_reducible refine below_drewN ?_ _ | with_reducible refine Below.step (by with_reducible assumption) ?_ ?_ | omega | (simp <;> omega) | (simp; done)))) (by omega)) (by first | omega | (show _ ≤ w29.heap.size; omega) | (simp <;> omega)) hs2).mono ?_; rintro e w30 ⟨y30_0, y30_1, rfl, hy30_0, hy30_1, b30⟩; have c30 : Below w29.heap.size w29 w30 := (by first | exact b30 | exact Below.undrew b30 | ((repeat (first | with_reducible assumption | with_reducible exact Below.refl _ _ | with_reducible refine Below.setCell ?_ ?_ _ | with_reducible refine Below.alloc ?_ ?_ _ | with_reducible refine Below.drew ?_ | with_reducible refine below_drewN ?_ _ | with_reducible refine Below.step (by with_reducible assumption) ?_ ?_ | omega | (simp <;> omega) | (simp; done))))); have zc30 := c30.size; (try (have kl30 := kA.lt; replace kA := kA.below c30 (by omega))); (try (have kA : Blk w30 w29.heap.size 32 #[.int .i64 0, .slice none 0 0, .slice none 0 0] := (by first | exact Blk.below (Blk.newAt rfl) b30 (by simp) | exact Blk.below (Blk.drew (Blk.newAt rfl)) b30 (by simp)); have kn30bx6 : w.heap.size ≠ w29.heap.size := (by omega); have km30bx6 := kn30bx6.symm)); replace hx0 := hx0.below c30 (by omega); replace hx1 := hx1.below c30 (by omega); replace hx2_0 := hx2_0.below c30 (by omega); replace hx2_1 := hx2_1.below c30 (by omega); replace bx6 := bx6.below c30 (by omega); replace bx10 := bx10.below c30 (by omega); replace hc8_0 := hc8_0.below c30 (by omega); replace hc8_1 := hc8_1.below c30 (by omega); replace bx15 := bx15.below c30 (by omega); replace hg26_0 := hg26_0.below c30 (by omega); replace hg26_1 := hg26_1.below c30 (by omega); replace hy28 := hy28.below c30 (by omega); replace hy29 := hy29.below c30 (by omega); have D30 : Below w27.heap.size w27 w30 := Below.step c30 (by omega) D29; obtain ⟨q30bx6_0, q30bx6_1, q30bx6_2⟩ := bx6.c3; obtain ⟨Yy30_0, Zy30_0, rfl, hzy30_0⟩ := hy30_0.form; obtain ⟨Yy30_1, Zy30_1, rfl, hzy30_1⟩ := hy30_1.form)
          | (go_at_call 21; refine (toInt64S_any (.slice AX1 hol.length CX1) hol _ _ _ (hx1.below (B := w28.heap.size) (by (repeat (first | with_reducible assumption | with_reducible exact Below.refl _ _ | with_reducible refine Below.setCell ?_ ?_ _ | with_reducible refine Below.alloc ?_ ?_ _ | with_reducible refine Below.drew ?_ | with_reducible refine below_drewN ?_ _ | with_reducible refine Below.step (by with_reducible assumption) ?_ ?_ | omega | (simp <;> omega) | (simp; done)))) (by omega)) (by first | omega | (show _ ≤ w28.heap.size; omega) | (simp <;> omega)) (by omega)).mono ?_; rintro e w29 ⟨y29, rfl, hy29, b29⟩; have c29 : Below w28.heap.size w28 w29 := (by first | exact b29 | exact Below.undrew b29 | ((repeat (first | with_reducible assumption | with_reducible exact Below.refl _ _ | with_reducible refine Below.setCell ?_ ?_ _ | with_reducible refine Below.alloc ?_ ?_ _ | with_reducible refine Below.drew ?_ | with_reducible refine below_drewN ?_ _ | with_reducible refine Below.step (by with_reducible assumption) ?_ ?_ | omega | (simp <;> omega) | (simp; done))))); have zc29 := c29.size; (try (have kl29 := kA.lt; replace kA := kA.below c29 (by omega))); (try (have kA : Blk w29 w28.heap.size 32 #[.int .i64 0, .slice none 0 0, .slice none 0 0] := (by first | exact Blk.below (Blk.newAt rfl) b29 (by simp) | exact Blk.below (Blk.drew (Blk.newAt rfl)) b29 (by simp)); have kn29bx6 : w.heap.size ≠ w28.heap.size := (by omega); have km29bx6 := kn29bx6.symm)); replace hx0 := hx0.below c29 (by omega); replace hx1 := hx1.below c29 (by omega); replace hx2_0 := hx2_0.below c29 (by omega); replace hx2_1 := hx2_1.below c29 (by omega); replace bx6 := bx6.below c29 (by omega); replace bx10 := bx10.below c29 (by omega); replace hc8_0 := hc8_0.below c29 (by omega); replace hc8_1 := hc8_1.below c29 (by omega); replace bx15 := bx15.below c29 (by omega); replace hg26_0 := hg26_0.below c29 (by omega); replace hg26_1 := hg26_1.below c29 (by omega); replace hy28 := hy28.below c29 (by omega); have D29 : Below w27.heap.size w27 w29 := Below.step c29 (by omega) D28; obtain ⟨q29bx6_0, q29bx6_1, q29bx6_2⟩ := bx6.c3)
          | (go_at_call 15; refine (toStageS_any v0 rules _ _ _ (hx0.below (B := w27.heap.size) (by (repeat (first | with_reducible assumption | with_reducible exact Below.refl _ _ | with_reducible refine Below.setCell ?_ ?_ _ | with_reducible refine Below.alloc ?_ ?_ _ | with_reducible refine Below.drew ?_ | with_reducible refine below_drewN ?_ _ | with_reducible refine Below.step (by with_reducible assumption) ?_ ?_ | omega | (simp <;> omega) | (simp; done)))) (by omega)) (by first | omega | (show _ ≤ w27.heap.size; omega) | (simp <;> omega)) (by omega)).mono ?_; rintro e w28 ⟨y28, rfl, hy28, b28⟩; have c28 : Below w27.heap.size w27 w28 := (by first | exact b28 | exact Below.undrew b28 | ((repeat (first | with_reducible assumption | with_reducible exact Below.refl _ _ | with_reducible refine Below.setCell ?_ ?_ _ | with_reducible refine Below.alloc ?_ ?_ _ | with_reducible refine Below.drew ?_ | with_reducible refine below_drewN ?_ _ | with_reducible refine Below.step (by with_reducible assumption) ?_ ?_ | omega | (simp <;> omega) | (simp; done))))); have zc28 := c28.size; (try (have kl28 := kA.lt; replace kA := kA.below c28 (by omega))); (try (have kA : Blk w28 w27.heap.size 32 #[.int .i64 0, .slice none 0 0, .slice none 0 0] := (by first | exact Blk.below (Blk.newAt rfl) b28 (by simp) | exact Blk.below (Blk.drew (Blk.newAt rfl)) b28 (by simp)); have kn28bx6 : w.heap.size ≠ w27.heap.size := (by omega); have km28bx6 := kn28bx6.symm)); replace hx0 := hx0.below c28 (by omega); replace hx1 := hx1.below c28 (by omega); replace hx2_0 := hx2_0.below c28 (by omega); replace hx2_1 := hx2_1.below c28 (by omega); replace bx6 := bx6.below c28 (by omega); replace bx10 := bx10.below c28 (by omega); replace hc8_0 := hc8_0.below c28 (by omega); replace hc8_1 := hc8_1.below c28 (by omega); replace bx15 := bx15.below c28 (by omega); replace hg26_0 := hg26_0.below c28 (by omega); replace hg26_1 := hg26_1.below c28 (by omega); have D28 : Below w27.heap.size w27 w28 := c28; obtain ⟨q28bx6_0, q28bx6_1, q28bx6_2⟩ := bx6.c3))
      all_goals (go_wp2_with fail; go_meet; first | exact CutC.late (hy31_0_0.wide (by first | omega | (simp <;> omega) | (show w27.heap.size ≤ w30.heap.size; omega)) (Nat.le_refl _)) (hy31_0_1.wide (by first | omega | (simp <;> omega) | (show w27.heap.size ≤ w30.heap.size; omega)) (Nat.le_refl _)) D31 | exact CutC.early (by omega) kA (hy31_0_0.wide (by first | omega | (simp <;> omega) | (show w27.heap.size ≤ w30.heap.size; omega)) (Nat.le_refl _)) (hy31_0_1.wide (by first | omega | (simp <;> omega) | (show w27.heap.size ≤ w30.heap.size; omega)) (Nat.le_refl _)) D31)
    case rest =>
      obtain ⟨gc32, Yc32_0, Yc32_1, Zc32_0, Zc32_1, rfl, rfl, gl32, gh32, bx20, hc32_0, hc32_1, b32⟩ := hcut
      clear qbx6_0 qbx6_1 qbx6_2
      have zb32 := b32.size
      replace hx0 := hx0.below b32 (by omega)
      replace hx1 := hx1.below b32 (by omega)
      replace hx2_0 := hx2_0.below b32 (by omega)
      replace hx2_1 := hx2_1.below b32 (by omega)
      replace bx6 := bx6.below b32 (by omega)
      replace bx10 := bx10.below b32 (by omega)
      replace hc8_0 := hc8_0.below b32 (by omega)
      replace hc8_1 := hc8_1.below b32 (by omega)
      replace bx15 := bx15.below b32 (by omega)
      replace hg26_0 := hg26_0.below b32 (by omega)
      replace hg26_1 := hg26_1.below b32 (by omega)
      replace BB := Below.step b32 (by omega) BB
      clear b32
      generalize hwx : wc = wn32 at *
      clear hwx
      have sc32 : Custody.small (extendStage rules hol c day).1 := extend_small (by assumption)
      have lc32_0 : ((extendStage rules hol c day).1.done).length ≤ 1048576 := sc32.len0
      have lc32_1 : ((extendStage rules hol c day).1.ext).length ≤ 1048576 := sc32.len1
      clear bx6
      clear hx0 hx1 hx2_0 hx2_1
      obtain ⟨qbx10_0, qbx10_1, qbx10_2⟩ := bx10.c3
      obtain ⟨qbx20_0, qbx20_1, qbx20_2⟩ := bx20.c3
      go_wp2_with fail
      refine (eqCustody_any (extendStage rules hol c day).1 (extendStage rules hol c day).1 (.slice Yc32_0 ((extendStage rules hol c day).1.done).length Zc32_0) (.slice Yc32_1 ((extendStage rules hol c day).1.ext).length Zc32_1) (.slice Yc8_0 ((extendStage rules hol c day).1.done).length Zc8_0) (.slice Yc8_1 ((extendStage rules hol c day).1.ext).length Zc8_1) _ _ _ _ _ hc32_0.rd hc32_1.rd (by omega) hc8_0.rd hc8_1.rd (by omega) sc32 sc8).mono ?_
      rintro e w33 ⟨rfl, b33⟩
      clear qbx10_0 qbx10_1 qbx10_2 qbx20_0 qbx20_1 qbx20_2
      have zb33 := b33.size
      replace bx10 := bx10.below b33 (by omega)
      replace hc8_0 := hc8_0.below b33 (by omega)
      replace hc8_1 := hc8_1.below b33 (by omega)
      replace bx15 := bx15.below b33 (by omega)
      replace hg26_0 := hg26_0.below b33 (by omega)
      replace hg26_1 := hg26_1.below b33 (by omega)
      replace bx20 := bx20.below b33 (by omega)
      replace hc32_0 := hc32_0.below b33 (by omega)
      replace hc32_1 := hc32_1.below b33 (by omega)
      replace BB := Below.step b33 (by omega) BB
      clear b33
      rw [show Custody.beq (extendStage rules hol c day).1 (extendStage rules hol c day).1 = true from Custody.beq_refl _]
      clear bx10
      clear bx20
      clear hc8_0 hc8_1 hc32_0 hc32_1
      obtain ⟨qbx15_0, qbx15_1, qbx15_2⟩ := bx15.c3
      go_wp2_with fail
      refine (heldCustody_any _ ((extendStage rules hol c day).1.done).length ((extendStage rules hol c day).1.ext).length (.slice Yy13_0_0 ((extendStage rules hol c day).1.done).length Zy13_0_0) (.slice Yy13_0_1 ((extendStage rules hol c day).1.ext).length Zy13_0_1) _ _ (1) _ hg26_0.rd hg26_1.rd (by omega) (by omega) (by omega) (by omega) (by omega)).mono ?_
      rintro e w34 ⟨rfl, b34⟩
      clear qbx15_0 qbx15_1 qbx15_2
      have zb34 := b34.size
      replace bx15 := bx15.below b34 (by omega)
      replace hg26_0 := hg26_0.below b34 (by omega)
      replace hg26_1 := hg26_1.below b34 (by omega)
      replace BB := Below.step b34 (by omega) BB
      clear b34
      clear bx15
      clear hg26_0 hg26_1
      go_wp2_with fail
      go_ret
      exact ⟨rfl, BB⟩

set_option maxRecDepth 100000 in
theorem lifted (os : Os) (started : os.Started) (H : Type) (enc : TypeId × Value → H) :
    ReturnsInHanded {} Try.checked os 11 .any (Rows.fnExactExtendStageSpec.pre6 enc Try.prog Try.f11 Rows.fnExactExtendStageRow.domain false) (Rows.fnExactExtendStageSpec.post enc Try.prog Try.f11 false true false false) := by
  refine returnsInHanded_of_change (C := Try.checked) own started (by kernel_rfl) Try.func11
    (ChangeSpec.witness6 (enc := enc) (C := Try.checked) false ⟨#[], #[.slice none 0 0, .slice none 0 0, .agg #[.int .i64 0, .slice none 0 0, .slice none 0 0], .int .i64 0], []⟩ 8 (by kernel_rfl) (by kernel_rfl) (by kernel_rfl) (by kernel_rfl)) ?_
  intro W base args ds gs before hval0 hW hcnd _
  have hval : ∀ (j : Nat) t v, Try.f11.params[j]? = some t → args[j]? = some v → Value.okWide Try.prog W .any base t v := hval0
  have hW' := hW
  obtain ⟨p, q, hA0, hV, rfl, hfz, hnd⟩ := hW
  have hA : DataW.TrodAll enc Try.prog W 0 (fun _ => true) true Try.f11.params.toList args.toList ds p := hA0
  rw [Try.params11] at hA hval
  obtain ⟨v0, vs0, d0, ds0, p0, q0, hargs, rfl, rfl, h0, r0⟩ := trodAll_cons hA
  obtain ⟨v1, vs1, d1, ds1, p1, q1, rfl, rfl, rfl, h1, r1⟩ := trodAll_cons r0
  obtain ⟨v2, vs2, d2, ds2, p2, q2, rfl, rfl, rfl, h2, r2⟩ := trodAll_cons r1
  obtain ⟨v3, vs3, d3, ds3, p3, q3, rfl, rfl, rfl, h3, r3⟩ := trodAll_cons r2
  obtain ⟨rfl, rfl, rfl⟩ := trodAll_nil r3
  obtain rfl : args = #[v0, v1, v2, v3] := by cases args; simp_all
  obtain ⟨rfl, rfl⟩ := trodVars_none hV
  have k0 := h0
  have lt0 : ∀ x ∈ p0, x.block < W.heap.size := by obtain ⟨m, hm⟩ := k0; exact DataW.trod_lt m _ _ _ hm
  have k1 := h1
  have lt1 : ∀ x ∈ p1, x.block < W.heap.size := by obtain ⟨m, hm⟩ := k1; exact DataW.trod_lt m _ _ _ hm
  have k2 := h2
  have lt2 : ∀ x ∈ p2, x.block < W.heap.size := by obtain ⟨m, hm⟩ := k2; exact DataW.trod_lt m _ _ _ hm
  obtain ⟨rules, hx0, hl0, hq0⟩ := openStageS (hval 0 22 v0 rfl rfl) h0
  obtain ⟨hol, hx1, hl1, hq1⟩ := open_ints Try.underlying23 Try.underlying2 (by kernel_rfl) (hval 1 23 v1 rfl rfl) h1
  obtain ⟨c, p2_0, p2_1, rfl, hx2_0, hx2_1, hq2⟩ := openCustody (hval 2 26 v2 rfl rfl) h2
  obtain ⟨day, rfl, rfl, rfl, wf3⟩ := open_int Try.underlying2 (hval 3 2 v3 rfl rfl) h3
  clear hA0 hval0
  refine (walk v0 rules v1 hol c p2_0 p2_1 day W hx0 hl0 hq0 hx1 hl1 hq1 hx2_0 hx2_1 hq2 (i64_bounds wf3)).mono fun e W' ⟨he, bel⟩ => ?_
  subst he
  exact ⟨_, rfl, _, _, _, [], _, [], hW', trodAll_mk1 (shut_bool Try.underlying4 _), (trodAll_cons_mk (Below.trod laidOut (by kernel_rfl) (of_decide_eq_true (by kernel_rfl)) k0 bel lt0) (trodAll_cons_mk (Below.trod laidOut (by kernel_rfl) (of_decide_eq_true (by kernel_rfl)) k1 bel lt1) (trodAll_cons_mk (Below.trod laidOut (by kernel_rfl) (of_decide_eq_true (by kernel_rfl)) k2 bel lt2) (trodAll_cons_mk (shut_int Try.underlying2 wf3) trodAll_mk0)))), rfl, bel.frame _, fun h => by cases h⟩

theorem over : Rows.fnExactExtendStageRow.holds Try.pinned (OpenSpec.ofChange Rows.fnExactExtendStageSpec) :=
  OpenClaim.holds_of_wide 11 Try.f11 rfl rfl rfl rfl rfl rfl rfl ⟨rfl, rfl, rfl, rfl, rfl⟩ rfl rfl rfl rfl rfl (by kernel_rfl) Try.func11 (by kernel_rfl)
    (of_decide_eq_true (by kernel_rfl)) (by unfold Func.isWrapper; first | (rw [if_pos (by decide +kernel)]; kernel_rfl) | (rw [if_neg (by decide +kernel)]; exact ⟨rfl, rfl⟩))
    (fun os started H enc _ => lifted os started H enc)

theorem proved : Rows.FnExactExtendStageSaid := over
#print axioms proved
end Go.Proofs.Ytmgolgbhidenkaa.extendStage
