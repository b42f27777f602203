/- The program's IsCustody returns what the reference's returns, for all arguments. No conditions. -/
import Derived.Test.YtmgolgbhidenkaaCustodyW
import Derived.Test.YtmgolgbhidenkaaCustodyO
import Derived.Test.YtmgolgbhidenkaaStageO
namespace Go.Proofs.Ytmgolgbhidenkaa.isCustody
open Go.ChangeShapes Go.WideShapes Go.ChangeAt Go.RowKit
open Go.ChangeMaps (open_string shut_string)
set_option linter.unusedVariables false

theorem own : ownKnob Try.prog.godebug = none := by kernel_rfl
theorem laidOut : laidOutB Try.prog = true := by kernel_rfl


set_option maxRecDepth 100000 in
set_option maxHeartbeats 4000000 in
theorem walk (v0 : Value) (rules : List Stage) (c : Custody) (p1_0 p1_1 : Value) (w : World) (hx0 : RdF Stage.enc 3 w 0 w.heap.size v0 rules) (hl0 : rules.length ≤ maxLen) (hq0 : ∀ x ∈ rules, Stage.wf x) (hx1_0 : RdF encInt 1 w 0 w.heap.size p1_0 c.done) (hx1_1 : RdF encBool 1 w 0 w.heap.size p1_1 c.ext) (hq1 : Custody.wf c) :
    Calls Try.prog 3 #[v0, .agg #[.int .i64 c.start, p1_0, p1_1]] w fun e w' => e = .returned (.bool true) ∧ Below w.heap.size w w' := by
  try unfold maxLen at *
  go_enter Try.func3, Try.ntmps3
  have BB : Below w.heap.size w w := Below.refl _ _
  go_wp2_with fail
  have ab1 : Below w.heap.size w (w.alloc (.cells #[.int .i64 c.start, p1_0, p1_1] 26)) := ((Below.refl _ _).alloc (by first | exact Nat.le_refl _ | (simp; omega) | (simp; done)) _)
  have az1 : (w.alloc (.cells #[.int .i64 c.start, p1_0, p1_1] 26)).heap.size = w.heap.size + 1 := by simp
  replace hx0 := hx0.below ab1 (by omega)
  replace hx1_0 := hx1_0.below ab1 (by omega)
  replace hx1_1 := hx1_1.below ab1 (by omega)
  replace BB := Below.step ab1 (by omega) BB
  clear ab1
  have bx3 : Blk (w.alloc (.cells #[.int .i64 c.start, p1_0, p1_1] 26)) (w.heap.size) 26 #[.int .i64 c.start, p1_0, p1_1] := Blk.newAt (w := w) (n := w.heap.size) (t := 26) (cs := #[.int .i64 c.start, p1_0, p1_1]) (by simp)
  generalize (w.alloc (.cells #[.int .i64 c.start, p1_0, p1_1] 26)) = wb1 at *
  try go_wp2_with fail
  refine (szStageS_any v0 rules _ _ _ _ hx0 (by omega) (by omega) (fun x hx => by have := hq0 x hx; unfold Stage.wf at this; omega) (by omega) (by omega)).mono ?_
  rintro e w2 ⟨r0, rfl, ⟨hra0, hrb0⟩, b2⟩
  have zb2 := b2.size
  replace hx0 := hx0.below b2 (by omega)
  replace hx1_0 := hx1_0.below b2 (by omega)
  replace hx1_1 := hx1_1.below b2 (by omega)
  replace bx3 := bx3.below b2 (by omega)
  replace BB := Below.step b2 (by omega) BB
  clear b2
  by_cases hn0 : r0 < 0
  · go_wp2_with fail
    go_ret
    exact ⟨rfl, by (repeat (first | with_reducible assumption | with_reducible exact Below.refl _ _ | with_reducible refine Below.setCell ?_ ?_ _ | with_reducible refine Below.alloc ?_ ?_ _ | with_reducible refine Below.drew ?_ | with_reducible refine below_drewN ?_ _ | with_reducible refine Below.step (by with_reducible assumption) ?_ ?_ | omega | (simp <;> omega) | (simp; done)))⟩
  have hp0 : 0 ≤ r0 := by omega
  have hq0' := hrb0 hp0
  clear hrb0
  have hm0 : rules.length ≤ 1048576 := by omega
  have hs0 : ∀ x ∈ rules, Stage.small x := fun x hx => by have := hq0'.2 x hx; unfold Stage.small; omega
  obtain ⟨qbx3_0, qbx3_1, qbx3_2⟩ := bx3.c3
  go_wp2_with fail
  refine (szCustody_any c p1_0 p1_1 _ _ _ _ hx1_0 hx1_1 (by omega) (Custody.big_of hq1) (by omega) (by omega)).mono ?_
  rintro e w3 ⟨r1, rfl, ⟨hra1, hrb1⟩, b3⟩
  clear qbx3_0 qbx3_1 qbx3_2
  have zb3 := b3.size
  replace hx0 := hx0.below b3 (by omega)
  replace hx1_0 := hx1_0.below b3 (by omega)
  replace hx1_1 := hx1_1.below b3 (by omega)
  replace bx3 := bx3.below b3 (by omega)
  replace BB := Below.step b3 (by omega) BB
  clear b3
  by_cases hn1 : r1 < 0
  · go_wp2_with fail
    go_ret
    exact ⟨rfl, by (repeat (first | with_reducible assumption | with_reducible exact Below.refl _ _ | with_reducible refine Below.setCell ?_ ?_ _ | with_reducible refine Below.alloc ?_ ?_ _ | with_reducible refine Below.drew ?_ | with_reducible refine below_drewN ?_ _ | with_reducible refine Below.step (by with_reducible assumption) ?_ ?_ | omega | (simp <;> omega) | (simp; done)))⟩
  have hp1 : 0 ≤ r1 := by omega
  have hq1' := hrb1 hp1
  clear hrb1
  have hs1 : Custody.small c := Custody.small_of hq1' (by omega)
  have hm1_0 : c.done.length ≤ 1048576 := hs1.len0
  have hm1_1 : c.ext.length ≤ 1048576 := hs1.len1
  obtain ⟨qbx3_0, qbx3_1, qbx3_2⟩ := bx3.c3
  go_wp2_with fail
  go_region_held3 (fun w' => w'.cell? ⟨w.heap.size, 0, none⟩ = some (.int .i64 c.start) ∧ w'.cell? ⟨w.heap.size, 1, none⟩ = some (p1_0) ∧ w'.cell? ⟨w.heap.size, 2, none⟩ = some (p1_1)) (go_keep)
    (first
      | (go_at_call 15; refine (toStageS_any v0 rules _ _ _ (hx0.below (B := w3.heap.size) (Below.refl _ w3).drew (by omega)) (by show _ ≤ w3.heap.size; omega) (by omega)).mono ?_; rintro e w4 ⟨y4, rfl, hy4, b4⟩; replace b4 : Below w3.heap.size w3 w4 := Below.undrew b4; have zb4 := b4.size; replace hx0 := hx0.below b4 (by omega); replace hx1_0 := hx1_0.below b4 (by omega); replace hx1_1 := hx1_1.below b4 (by omega); replace bx3 := bx3.below b4 (by omega); replace BB := Below.step b4 (by omega) BB; clear b4; obtain ⟨q4bx3_0, q4bx3_1, q4bx3_2⟩ := bx3.c3)
      | (go_at_call 16; refine (toCustody_any c p1_0 p1_1 _ _ _ hx1_0 hx1_1 (by omega) hs1).mono ?_; rintro e w5 ⟨y5_0, y5_1, rfl, hy5_0, hy5_1, b5⟩; have zb5 := b5.size; replace hx0 := hx0.below b5 (by omega); replace hx1_0 := hx1_0.below b5 (by omega); replace hx1_1 := hx1_1.below b5 (by omega); replace bx3 := bx3.below b5 (by omega); replace hy4 := hy4.below b5 (by omega); replace BB := Below.step b5 (by omega) BB; clear b5; obtain ⟨q5bx3_0, q5bx3_1, q5bx3_2⟩ := bx3.c3; obtain ⟨Yy5_0, Zy5_0, rfl, hzy5_0⟩ := hy5_0.form; obtain ⟨Yy5_1, Zy5_1, rfl, hzy5_1⟩ := hy5_1.form)
      | (go_at_call 14; refine (sIsCustody_any y4 rules _ _ c (.slice Yy5_0 (c.done).length Zy5_0) (.slice Yy5_1 (c.ext).length Zy5_1) _ _ _ hy4.rd (by omega) (by omega) hs0 hy5_0.rd hy5_1.rd (by omega) hs1).mono ?_; rintro e w6 ⟨rfl, b6⟩; have zb6 := b6.size; replace hx0 := hx0.below b6 (by omega); replace hx1_0 := hx1_0.below b6 (by omega); replace hx1_1 := hx1_1.below b6 (by omega); replace bx3 := bx3.below b6 (by omega); replace hy4 := hy4.below b6 (by omega); replace hy5_0 := hy5_0.below b6 (by omega); replace hy5_1 := hy5_1.below b6 (by omega); replace BB := Below.step b6 (by omega) BB; clear b6; obtain ⟨q6bx3_0, q6bx3_1, q6bx3_2⟩ := bx3.c3))
  clear qbx3_0 qbx3_1 qbx3_2 q4bx3_0 q4bx3_1 q4bx3_2 q5bx3_0 q5bx3_1 q5bx3_2 q6bx3_0 q6bx3_1 q6bx3_2
  clear hy4 hy5_0 hy5_1
  go_wp2_with fail
  refine (toStageS_any v0 rules _ _ _ hx0 (by omega) (by omega)).mono ?_
  rintro e w7 ⟨y7, rfl, hy7, b7⟩
  have zb7 := b7.size
  replace hx0 := hx0.below b7 (by omega)
  replace hx1_0 := hx1_0.below b7 (by omega)
  replace hx1_1 := hx1_1.below b7 (by omega)
  replace bx3 := bx3.below b7 (by omega)
  replace BB := Below.step b7 (by omega) BB
  clear b7
  obtain ⟨qbx3_0, qbx3_1, qbx3_2⟩ := bx3.c3
  go_wp2_with fail
  refine (toCustody_any c p1_0 p1_1 _ _ _ hx1_0 hx1_1 (by omega) hs1).mono ?_
  rintro e w8 ⟨y8_0, y8_1, rfl, hy8_0, hy8_1, b8⟩
  clear qbx3_0 qbx3_1 qbx3_2
  have zb8 := b8.size
  replace hx0 := hx0.below b8 (by omega)
  replace hx1_0 := hx1_0.below b8 (by omega)
  replace hx1_1 := hx1_1.below b8 (by omega)
  replace bx3 := bx3.below b8 (by omega)
  replace hy7 := hy7.below b8 (by omega)
  replace BB := Below.step b8 (by omega) BB
  clear b8
  obtain ⟨Yy8_0, Zy8_0, rfl, hzy8_0⟩ := hy8_0.form
  obtain ⟨Yy8_1, Zy8_1, rfl, hzy8_1⟩ := hy8_1.form
  go_wp2_with fail
  have ab9 : Below w8.heap.size w8 (w8.alloc (.cells #[.int .i64 c.start, (.slice Yy8_0 (c.done).length Zy8_0), (.slice Yy8_1 (c.ext).length Zy8_1)] 32)) := ((Below.refl _ _).alloc (by first | exact Nat.le_refl _ | (simp; omega) | (simp; done)) _)
  have az9 : (w8.alloc (.cells #[.int .i64 c.start, (.slice Yy8_0 (c.done).length Zy8_0), (.slice Yy8_1 (c.ext).length Zy8_1)] 32)).heap.size = w8.heap.size + 1 := by simp
  replace hx0 := hx0.below ab9 (by omega)
  replace hx1_0 := hx1_0.below ab9 (by omega)
  replace hx1_1 := hx1_1.below ab9 (by omega)
  replace bx3 := bx3.below ab9 (by omega)
  replace hy7 := hy7.below ab9 (by omega)
  replace hy8_0 := hy8_0.below ab9 (by omega)
  replace hy8_1 := hy8_1.below ab9 (by omega)
  replace BB := Below.step ab9 (by omega) BB
  clear ab9
  have bx8 : Blk (w8.alloc (.cells #[.int .i64 c.start, (.slice Yy8_0 (c.done).length Zy8_0), (.slice Yy8_1 (c.ext).length Zy8_1)] 32)) (w8.heap.size) 32 #[.int .i64 c.start, (.slice Yy8_0 (c.done).length Zy8_0), (.slice Yy8_1 (c.ext).length Zy8_1)] := Blk.newAt (w := w8) (n := w8.heap.size) (t := 32) (cs := #[.int .i64 c.start, (.slice Yy8_0 (c.done).length Zy8_0), (.slice Yy8_1 (c.ext).length Zy8_1)]) (by simp)
  generalize (w8.alloc (.cells #[.int .i64 c.start, (.slice Yy8_0 (c.done).length Zy8_0), (.slice Yy8_1 (c.ext).length Zy8_1)] 32)) = wb9 at *
  obtain ⟨qbx8_0, qbx8_1, qbx8_2⟩ := bx8.c3
  try go_wp2_with fail
  refine (isCustody_any y7 rules _ _ c (.slice Yy8_0 (c.done).length Zy8_0) (.slice Yy8_1 (c.ext).length Zy8_1) _ _ _ hy7.rd (by omega) (by omega) hs0 hy8_0.rd hy8_1.rd (by omega) hs1).mono ?_
  rintro e w10 ⟨rfl, b10⟩
  clear qbx8_0 qbx8_1 qbx8_2
  have zb10 := b10.size
  replace hx0 := hx0.below b10 (by omega)
  replace hx1_0 := hx1_0.below b10 (by omega)
  replace hx1_1 := hx1_1.below b10 (by omega)
  replace bx3 := bx3.below b10 (by omega)
  replace hy7 := hy7.below b10 (by omega)
  replace hy8_0 := hy8_0.below b10 (by omega)
  replace hy8_1 := hy8_1.below b10 (by omega)
  replace bx8 := bx8.below b10 (by omega)
  replace BB := Below.step b10 (by omega) BB
  clear b10
  go_wp2_with fail
  refine (toStageS_any v0 rules _ _ _ hx0 (by omega) (by omega)).mono ?_
  rintro e w11 ⟨y11, rfl, hy11, b11⟩
  have zb11 := b11.size
  replace hx0 := hx0.below b11 (by omega)
  replace hx1_0 := hx1_0.below b11 (by omega)
  replace hx1_1 := hx1_1.below b11 (by omega)
  replace bx3 := bx3.below b11 (by omega)
  replace hy7 := hy7.below b11 (by omega)
  replace hy8_0 := hy8_0.below b11 (by omega)
  replace hy8_1 := hy8_1.below b11 (by omega)
  replace bx8 := bx8.below b11 (by omega)
  replace BB := Below.step b11 (by omega) BB
  clear b11
  go_wp2_with fail
  refine (eqStageS_any y7 y11 rules rules _ _ _ _ _ hy7.rd (by omega) hy11.rd (by omega) (by omega) (by omega)).mono ?_
  rintro e w12 ⟨rfl, b12⟩
  have zb12 := b12.size
  replace hx0 := hx0.below b12 (by omega)
  replace hx1_0 := hx1_0.below b12 (by omega)
  replace hx1_1 := hx1_1.below b12 (by omega)
  replace bx3 := bx3.below b12 (by omega)
  replace hy7 := hy7.below b12 (by omega)
  replace hy8_0 := hy8_0.below b12 (by omega)
  replace hy8_1 := hy8_1.below b12 (by omega)
  replace bx8 := bx8.below b12 (by omega)
  replace hy11 := hy11.below b12 (by omega)
  replace BB := Below.step b12 (by omega) BB
  clear b12
  rw [show eqL Stage.beq rules rules = true from (eqL_iff (fun x y => Stage.beq_iff)).2 rfl]
  clear hx0 hy7 hy11
  obtain ⟨qbx3_0, qbx3_1, qbx3_2⟩ := bx3.c3
  obtain ⟨qbx8_0, qbx8_1, qbx8_2⟩ := bx8.c3
  go_wp2_with fail
  go_region_held3 (fun w' => w'.cell? ⟨w.heap.size, 0, none⟩ = some (.int .i64 c.start) ∧ w'.cell? ⟨w.heap.size, 1, none⟩ = some (p1_0) ∧ w'.cell? ⟨w.heap.size, 2, none⟩ = some (p1_1) ∧ w'.cell? ⟨w8.heap.size, 0, none⟩ = some (.int .i64 c.start) ∧ w'.cell? ⟨w8.heap.size, 1, none⟩ = some ((.slice Yy8_0 (c.done).length Zy8_0)) ∧ w'.cell? ⟨w8.heap.size, 2, none⟩ = some ((.slice Yy8_1 (c.ext).length Zy8_1))) (go_keep)
    (first
      | (go_at_call 16; refine (toCustody_any c p1_0 p1_1 _ _ _ (hx1_0.below (B := w12.heap.size) (Below.refl _ w12).drew (by omega)) (hx1_1.below (B := w12.heap.size) (Below.refl _ w12).drew (by omega)) (by show _ ≤ w12.heap.size; omega) hs1).mono ?_; rintro e w13 ⟨y13_0, y13_1, rfl, hy13_0, hy13_1, b13⟩; replace b13 : Below w12.heap.size w12 w13 := Below.undrew b13; have zb13 := b13.size; replace hx1_0 := hx1_0.below b13 (by omega); replace hx1_1 := hx1_1.below b13 (by omega); replace bx3 := bx3.below b13 (by omega); replace hy8_0 := hy8_0.below b13 (by omega); replace hy8_1 := hy8_1.below b13 (by omega); replace bx8 := bx8.below b13 (by omega); replace BB := Below.step b13 (by omega) BB; clear b13; obtain ⟨q13bx3_0, q13bx3_1, q13bx3_2⟩ := bx3.c3; obtain ⟨q13bx8_0, q13bx8_1, q13bx8_2⟩ := bx8.c3; obtain ⟨Yy13_0, Zy13_0, rfl, hzy13_0⟩ := hy13_0.form; obtain ⟨Yy13_1, Zy13_1, rfl, hzy13_1⟩ := hy13_1.form)
      | (go_at_call 19; refine (eqCustody_any c c (.slice Yy8_0 (c.done).length Zy8_0) (.slice Yy8_1 (c.ext).length Zy8_1) (.slice Yy13_0 (c.done).length Zy13_0) (.slice Yy13_1 (c.ext).length Zy13_1) _ _ _ _ _ hy8_0.rd hy8_1.rd (by omega) hy13_0.rd hy13_1.rd (by omega) hs1 hs1).mono ?_; rintro e w14 ⟨rfl, b14⟩; have zb14 := b14.size; replace hx1_0 := hx1_0.below b14 (by omega); replace hx1_1 := hx1_1.below b14 (by omega); replace bx3 := bx3.below b14 (by omega); replace hy8_0 := hy8_0.below b14 (by omega); replace hy8_1 := hy8_1.below b14 (by omega); replace bx8 := bx8.below b14 (by omega); replace hy13_0 := hy13_0.below b14 (by omega); replace hy13_1 := hy13_1.below b14 (by omega); replace BB := Below.step b14 (by omega) BB; clear b14; obtain ⟨q14bx3_0, q14bx3_1, q14bx3_2⟩ := bx3.c3; obtain ⟨q14bx8_0, q14bx8_1, q14bx8_2⟩ := bx8.c3; rw [show Custody.beq c c = true from Custody.beq_refl _]))
  clear qbx3_0 qbx3_1 qbx3_2 qbx8_0 qbx8_1 qbx8_2 q13bx3_0 q13bx3_1 q13bx3_2 q13bx8_0 q13bx8_1 q13bx8_2 q14bx3_0 q14bx3_1 q14bx3_2 q14bx8_0 q14bx8_1 q14bx8_2
  clear bx3
  clear bx8
  clear hx1_0 hx1_1 hy8_0 hy8_1 hy13_0 hy13_1
  go_wp2_with fail
  go_ret
  exact ⟨rfl, BB⟩

set_option maxRecDepth 100000 in
theorem lifted (os : Os) (started : os.Started) (H : Type) (enc : TypeId × Value → H) :
    ReturnsInHanded {} Try.checked os 3 .any (Rows.fnExactIsCustodySpec.pre6 enc Try.prog Try.f3 Rows.fnExactIsCustodyRow.domain false) (Rows.fnExactIsCustodySpec.post enc Try.prog Try.f3 false true false false) := by
  refine returnsInHanded_of_change (C := Try.checked) own started (by kernel_rfl) Try.func3
    (ChangeSpec.witness6 (enc := enc) (C := Try.checked) false ⟨#[], #[.slice none 0 0, .agg #[.int .i64 0, .slice none 0 0, .slice none 0 0]], []⟩ 8 (by kernel_rfl) (by kernel_rfl) (by kernel_rfl) (by kernel_rfl)) ?_
  intro W base args ds gs before hval0 hW hcnd _
  have hval : ∀ (j : Nat) t v, Try.f3.params[j]? = some t → args[j]? = some v → Value.okWide Try.prog W .any base t v := hval0
  have hW' := hW
  obtain ⟨p, q, hA0, hV, rfl, hfz, hnd⟩ := hW
  have hA : DataW.TrodAll enc Try.prog W 0 (fun _ => true) true Try.f3.params.toList args.toList ds p := hA0
  rw [Try.params3] at hA hval
  obtain ⟨v0, vs0, d0, ds0, p0, q0, hargs, rfl, rfl, h0, r0⟩ := trodAll_cons hA
  obtain ⟨v1, vs1, d1, ds1, p1, q1, rfl, rfl, rfl, h1, r1⟩ := trodAll_cons r0
  obtain ⟨rfl, rfl, rfl⟩ := trodAll_nil r1
  obtain rfl : args = #[v0, v1] := by cases args; simp_all
  obtain ⟨rfl, rfl⟩ := trodVars_none hV
  have k0 := h0
  have lt0 : ∀ x ∈ p0, x.block < W.heap.size := by obtain ⟨m, hm⟩ := k0; exact DataW.trod_lt m _ _ _ hm
  have k1 := h1
  have lt1 : ∀ x ∈ p1, x.block < W.heap.size := by obtain ⟨m, hm⟩ := k1; exact DataW.trod_lt m _ _ _ hm
  obtain ⟨rules, hx0, hl0, hq0⟩ := openStageS (hval 0 22 v0 rfl rfl) h0
  obtain ⟨c, p1_0, p1_1, rfl, hx1_0, hx1_1, hq1⟩ := openCustody (hval 1 26 v1 rfl rfl) h1
  clear hA0 hval0
  refine (walk v0 rules c p1_0 p1_1 W hx0 hl0 hq0 hx1_0 hx1_1 hq1).mono fun e W' ⟨he, bel⟩ => ?_
  subst he
  exact ⟨_, rfl, _, _, _, [], _, [], hW', trodAll_mk1 (shut_bool Try.underlying4 _), (trodAll_cons_mk (Below.trod laidOut (by kernel_rfl) (of_decide_eq_true (by kernel_rfl)) k0 bel lt0) (trodAll_cons_mk (Below.trod laidOut (by kernel_rfl) (of_decide_eq_true (by kernel_rfl)) k1 bel lt1) trodAll_mk0)), rfl, bel.frame _, fun h => by cases h⟩

theorem over : Rows.fnExactIsCustodyRow.holds Try.pinned (OpenSpec.ofChange Rows.fnExactIsCustodySpec) :=
  OpenClaim.holds_of_wide 3 Try.f3 rfl rfl rfl rfl rfl rfl rfl ⟨rfl, rfl, rfl, rfl, rfl⟩ rfl rfl rfl rfl rfl (by kernel_rfl) Try.func3 (by kernel_rfl)
    (of_decide_eq_true (by kernel_rfl)) (by unfold Func.isWrapper; first | (rw [if_pos (by decide +kernel)]; kernel_rfl) | (rw [if_neg (by decide +kernel)]; exact ⟨rfl, rfl⟩))
    (fun os started H enc _ => lifted os started H enc)

theorem proved : Rows.FnExactIsCustodySaid := over
#print axioms proved
end Go.Proofs.Ytmgolgbhidenkaa.isCustody
