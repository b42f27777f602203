/- The program's FirstBreak returns what the reference's returns, for all arguments. No conditions. -/
import Derived.Test.YthodceeioinnoaaBreakW
import Derived.Test.YthodceeioinnoaaExhibitO
namespace Go.Proofs.Ythodceeioinnoaa.firstBreak
open Go.ChangeShapes Go.WideShapes Go.ChangeAt Go.RowKit
open Go.ChangeMaps (open_string shut_string)
set_option linter.unusedVariables false

theorem own : ownKnob Try.prog.godebug = none := by kernel_rfl
theorem laidOut : laidOutB Try.prog = true := by kernel_rfl


set_option maxRecDepth 100000 in
set_option maxHeartbeats 4000000 in
theorem walk (x : Exhibit) (p0_0 : Value) (w : World) (hx0_0 : RdF Handing.enc 4 w 0 w.heap.size p0_0 x.chain) (hq0 : Exhibit.wf x) :
    Calls Try.prog 13 #[.agg #[.string x.code, .string x.found, .int .i64 x.day, .int .i64 x.sl, p0_0]] w fun e w' => e = .returned (.bool true) ∧ Below w.heap.size w w' := by
  try unfold maxLen at *
  go_enter Try.func13, Try.ntmps13
  have BB : Below w.heap.size w w := Below.refl _ _
  go_wp2_with fail
  have ab1 : Below w.heap.size w (w.alloc (.cells #[.string x.code, .string x.found, .int .i64 x.day, .int .i64 x.sl, p0_0] 65)) := ((Below.refl _ _).alloc (by first | exact Nat.le_refl _ | (simp; omega) | (simp; done)) _)
  have az1 : (w.alloc (.cells #[.string x.code, .string x.found, .int .i64 x.day, .int .i64 x.sl, p0_0] 65)).heap.size = w.heap.size + 1 := by simp
  replace hx0_0 := hx0_0.below ab1 (by omega)
  replace BB := Below.step ab1 (by omega) BB
  clear ab1
  have bx1 : Blk (w.alloc (.cells #[.string x.code, .string x.found, .int .i64 x.day, .int .i64 x.sl, p0_0] 65)) (w.heap.size) 65 #[.string x.code, .string x.found, .int .i64 x.day, .int .i64 x.sl, p0_0] := Blk.newAt (w := w) (n := w.heap.size) (t := 65) (cs := #[.string x.code, .string x.found, .int .i64 x.day, .int .i64 x.sl, p0_0]) (by simp)
  generalize (w.alloc (.cells #[.string x.code, .string x.found, .int .i64 x.day, .int .i64 x.sl, p0_0] 65)) = wb1 at *
  obtain ⟨qbx1_0, qbx1_1, qbx1_2, qbx1_3, qbx1_4⟩ := bx1.c5
  try go_wp2_with fail
  refine (szExhibit_any x p0_0 _ _ _ _ hx0_0 (by omega) (Exhibit.big_of hq0) (by omega) (by omega)).mono ?_
  rintro e w2 ⟨r0, rfl, ⟨hra0, hrb0⟩, b2⟩
  clear qbx1_0 qbx1_1 qbx1_2 qbx1_3 qbx1_4
  have zb2 := b2.size
  replace hx0_0 := hx0_0.below b2 (by omega)
  replace bx1 := bx1.below b2 (by omega)
  replace BB := Below.step b2 (by omega) BB
  clear b2
  by_cases hn0 : r0 < 0
  · go_wp2_with fail
    go_ret
    exact ⟨rfl, by (repeat (first | with_reducible assumption | with_reducible exact Below.refl _ _ | with_reducible refine Below.setCell ?_ ?_ _ | with_reducible refine Below.alloc ?_ ?_ _ | with_reducible refine Below.drew ?_ | with_reducible refine below_drewN ?_ _ | with_reducible refine Below.step (by with_reducible assumption) ?_ ?_ | omega | (simp <;> omega) | (simp; done)))⟩
  have hp0 : 0 ≤ r0 := by omega
  have hq0' := hrb0 hp0
  clear hrb0
  have hs0 : Exhibit.small x := Exhibit.small_of hq0' (by omega)
  have hm0_0 : x.chain.length ≤ 1048576 := hs0.len0
  obtain ⟨qbx1_0, qbx1_1, qbx1_2, qbx1_3, qbx1_4⟩ := bx1.c5
  go_wp2_with fail
  refine (toExhibit_any x p0_0 _ _ _ hx0_0 (by omega) hs0).mono ?_
  rintro e w3 ⟨y3_0, rfl, hy3_0, b3⟩
  clear qbx1_0 qbx1_1 qbx1_2 qbx1_3 qbx1_4
  have zb3 := b3.size
  replace hx0_0 := hx0_0.below b3 (by omega)
  replace bx1 := bx1.below b3 (by omega)
  replace BB := Below.step b3 (by omega) BB
  clear b3
  obtain ⟨Yy3_0, Zy3_0, rfl, hzy3_0⟩ := hy3_0.form
  obtain ⟨qbx1_0, qbx1_1, qbx1_2, qbx1_3, qbx1_4⟩ := bx1.c5
  go_wp2_with fail
  refine (sFirstBreak_any x (.slice Yy3_0 (x.chain).length Zy3_0) _ _ _ hy3_0.rd (by omega) hs0).mono ?_
  rintro e w4 ⟨rfl, b4⟩
  clear qbx1_0 qbx1_1 qbx1_2 qbx1_3 qbx1_4
  have zb4 := b4.size
  replace hx0_0 := hx0_0.below b4 (by omega)
  replace bx1 := bx1.below b4 (by omega)
  replace hy3_0 := hy3_0.below b4 (by omega)
  replace BB := Below.step b4 (by omega) BB
  clear b4
  clear hy3_0
  obtain ⟨qbx1_0, qbx1_1, qbx1_2, qbx1_3, qbx1_4⟩ := bx1.c5
  go_wp2_with fail
  refine (toExhibit_any x p0_0 _ _ _ hx0_0 (by omega) hs0).mono ?_
  rintro e w5 ⟨y5_0, rfl, hy5_0, b5⟩
  clear qbx1_0 qbx1_1 qbx1_2 qbx1_3 qbx1_4
  have zb5 := b5.size
  replace hx0_0 := hx0_0.below b5 (by omega)
  replace bx1 := bx1.below b5 (by omega)
  replace BB := Below.step b5 (by omega) BB
  clear b5
  obtain ⟨Yy5_0, Zy5_0, rfl, hzy5_0⟩ := hy5_0.form
  go_wp2_with fail
  have ab6 : Below w5.heap.size w5 (w5.alloc (.cells #[.string x.code, .string x.found, .int .i64 x.day, .int .i64 x.sl, (.slice Yy5_0 (x.chain).length Zy5_0)] 70)) := ((Below.refl _ _).alloc (by first | exact Nat.le_refl _ | (simp; omega) | (simp; done)) _)
  have az6 : (w5.alloc (.cells #[.string x.code, .string x.found, .int .i64 x.day, .int .i64 x.sl, (.slice Yy5_0 (x.chain).length Zy5_0)] 70)).heap.size = w5.heap.size + 1 := by simp
  replace hx0_0 := hx0_0.below ab6 (by omega)
  replace bx1 := bx1.below ab6 (by omega)
  replace hy5_0 := hy5_0.below ab6 (by omega)
  replace BB := Below.step ab6 (by omega) BB
  clear ab6
  have bx6 : Blk (w5.alloc (.cells #[.string x.code, .string x.found, .int .i64 x.day, .int .i64 x.sl, (.slice Yy5_0 (x.chain).length Zy5_0)] 70)) (w5.heap.size) 70 #[.string x.code, .string x.found, .int .i64 x.day, .int .i64 x.sl, (.slice Yy5_0 (x.chain).length Zy5_0)] := Blk.newAt (w := w5) (n := w5.heap.size) (t := 70) (cs := #[.string x.code, .string x.found, .int .i64 x.day, .int .i64 x.sl, (.slice Yy5_0 (x.chain).length Zy5_0)]) (by simp)
  generalize (w5.alloc (.cells #[.string x.code, .string x.found, .int .i64 x.day, .int .i64 x.sl, (.slice Yy5_0 (x.chain).length Zy5_0)] 70)) = wb6 at *
  obtain ⟨qbx6_0, qbx6_1, qbx6_2, qbx6_3, qbx6_4⟩ := bx6.c5
  try go_wp2_with fail
  refine (impFirstBreak_any x (.slice Yy5_0 (x.chain).length Zy5_0) _ _ _ hy5_0.rd (by omega) hs0).mono ?_
  rintro e w7 ⟨rfl, b7⟩
  clear qbx6_0 qbx6_1 qbx6_2 qbx6_3 qbx6_4
  have zb7 := b7.size
  replace hx0_0 := hx0_0.below b7 (by omega)
  replace bx1 := bx1.below b7 (by omega)
  replace hy5_0 := hy5_0.below b7 (by omega)
  replace bx6 := bx6.below b7 (by omega)
  replace BB := Below.step b7 (by omega) BB
  clear b7
  obtain ⟨qbx1_0, qbx1_1, qbx1_2, qbx1_3, qbx1_4⟩ := bx1.c5
  obtain ⟨qbx6_0, qbx6_1, qbx6_2, qbx6_3, qbx6_4⟩ := bx6.c5
  go_wp2_with fail
  go_region_held3 (fun w' => w'.cell? ⟨w.heap.size, 0, none⟩ = some (.string x.code) ∧ w'.cell? ⟨w.heap.size, 1, none⟩ = some (.string x.found) ∧ w'.cell? ⟨w.heap.size, 2, none⟩ = some (.int .i64 x.day) ∧ w'.cell? ⟨w.heap.size, 3, none⟩ = some (.int .i64 x.sl) ∧ w'.cell? ⟨w.heap.size, 4, none⟩ = some (p0_0) ∧ w'.cell? ⟨w5.heap.size, 0, none⟩ = some (.string x.code) ∧ w'.cell? ⟨w5.heap.size, 1, none⟩ = some (.string x.found) ∧ w'.cell? ⟨w5.heap.size, 2, none⟩ = some (.int .i64 x.day) ∧ w'.cell? ⟨w5.heap.size, 3, none⟩ = some (.int .i64 x.sl) ∧ w'.cell? ⟨w5.heap.size, 4, none⟩ = some ((.slice Yy5_0 (x.chain).length Zy5_0))) (go_keep)
    (first
      | (go_at_call 50; refine (toExhibit_any x p0_0 _ _ _ (hx0_0.below (B := w7.heap.size) (Below.refl _ w7).drew (by omega)) (by show _ ≤ w7.heap.size; omega) hs0).mono ?_; rintro e w8 ⟨y8_0, rfl, hy8_0, b8⟩; replace b8 : Below w7.heap.size w7 w8 := Below.undrew b8; have zb8 := b8.size; replace hx0_0 := hx0_0.below b8 (by omega); replace bx1 := bx1.below b8 (by omega); replace hy5_0 := hy5_0.below b8 (by omega); replace bx6 := bx6.below b8 (by omega); replace BB := Below.step b8 (by omega) BB; clear b8; obtain ⟨q8bx1_0, q8bx1_1, q8bx1_2, q8bx1_3, q8bx1_4⟩ := bx1.c5; obtain ⟨q8bx6_0, q8bx6_1, q8bx6_2, q8bx6_3, q8bx6_4⟩ := bx6.c5; obtain ⟨Yy8_0, Zy8_0, rfl, hzy8_0⟩ := hy8_0.form)
      | (go_at_call 52; refine (eqExhibit_any x x (.slice Yy5_0 (x.chain).length Zy5_0) (.slice Yy8_0 (x.chain).length Zy8_0) _ _ _ _ _ hy5_0.rd (by omega) hy8_0.rd (by omega) hs0 hs0).mono ?_; rintro e w9 ⟨rfl, b9⟩; have zb9 := b9.size; replace hx0_0 := hx0_0.below b9 (by omega); replace bx1 := bx1.below b9 (by omega); replace hy5_0 := hy5_0.below b9 (by omega); replace bx6 := bx6.below b9 (by omega); replace hy8_0 := hy8_0.below b9 (by omega); replace BB := Below.step b9 (by omega) BB; clear b9; obtain ⟨q9bx1_0, q9bx1_1, q9bx1_2, q9bx1_3, q9bx1_4⟩ := bx1.c5; obtain ⟨q9bx6_0, q9bx6_1, q9bx6_2, q9bx6_3, q9bx6_4⟩ := bx6.c5; rw [show Exhibit.beq x x = true from Exhibit.beq_refl _]))
  clear qbx1_0 qbx1_1 qbx1_2 qbx1_3 qbx1_4 qbx6_0 qbx6_1 qbx6_2 qbx6_3 qbx6_4 q8bx1_0 q8bx1_1 q8bx1_2 q8bx1_3 q8bx1_4 q8bx6_0 q8bx6_1 q8bx6_2 q8bx6_3 q8bx6_4 q9bx1_0 q9bx1_1 q9bx1_2 q9bx1_3 q9bx1_4 q9bx6_0 q9bx6_1 q9bx6_2 q9bx6_3 q9bx6_4
  clear bx1
  clear bx6
  clear hx0_0 hy5_0 hy8_0
  go_wp2_with fail
  go_ret
  exact ⟨rfl, BB⟩

set_option maxRecDepth 100000 in
theorem lifted (os : Os) (started : os.Started) (H : Type) (enc : TypeId × Value → H) :
    ReturnsInHanded {} Try.checked os 13 .any (Rows.fnExactFirstBreakSpec.pre6 enc Try.prog Try.f13 Rows.fnExactFirstBreakRow.domain false) (Rows.fnExactFirstBreakSpec.post enc Try.prog Try.f13 false true false false) := by
  refine returnsInHanded_of_change (C := Try.checked) own started (by kernel_rfl) Try.func13
    (ChangeSpec.witness6 (enc := enc) (C := Try.checked) false ⟨#[], #[.agg #[.string ByteArray.empty, .string ByteArray.empty, .int .i64 0, .int .i64 0, .slice none 0 0]], []⟩ 8 (by kernel_rfl) (by kernel_rfl) (by kernel_rfl) (by kernel_rfl)) ?_
  intro W base args ds gs before hval0 hW hcnd _
  have hval : ∀ (j : Nat) t v, Try.f13.params[j]? = some t → args[j]? = some v → Value.okWide Try.prog W .any base t v := hval0
  have hW' := hW
  obtain ⟨p, q, hA0, hV, rfl, hfz, hnd⟩ := hW
  have hA : DataW.TrodAll enc Try.prog W 0 (fun _ => true) true Try.f13.params.toList args.toList ds p := hA0
  rw [Try.params13] at hA hval
  obtain ⟨v0, vs0, d0, ds0, p0, q0, hargs, rfl, rfl, h0, r0⟩ := trodAll_cons hA
  obtain ⟨rfl, rfl, rfl⟩ := trodAll_nil r0
  obtain rfl : args = #[v0] := by cases args; simp_all
  obtain ⟨rfl, rfl⟩ := trodVars_none hV
  have k0 := h0
  have lt0 : ∀ x ∈ p0, x.block < W.heap.size := by obtain ⟨m, hm⟩ := k0; exact DataW.trod_lt m _ _ _ hm
  obtain ⟨x, p0_0, rfl, hx0_0, hq0⟩ := openExhibit (hval 0 65 v0 rfl rfl) h0
  clear hA0 hval0
  refine (walk x p0_0 W hx0_0 hq0).mono fun e W' ⟨he, bel⟩ => ?_
  subst he
  exact ⟨_, rfl, _, _, _, [], _, [], hW', trodAll_mk1 (shut_bool Try.underlying4 _), (trodAll_cons_mk (Below.trod laidOut (by kernel_rfl) (of_decide_eq_true (by kernel_rfl)) k0 bel lt0) trodAll_mk0), rfl, bel.frame _, fun h => by cases h⟩

theorem over : Rows.fnExactFirstBreakRow.holds Try.pinned (OpenSpec.ofChange Rows.fnExactFirstBreakSpec) :=
  OpenClaim.holds_of_wide 13 Try.f13 rfl rfl rfl rfl rfl rfl rfl ⟨rfl, rfl, rfl, rfl, rfl⟩ rfl rfl rfl rfl rfl (by kernel_rfl) Try.func13 (by kernel_rfl)
    (of_decide_eq_true (by kernel_rfl)) (by unfold Func.isWrapper; first | (rw [if_pos (by decide +kernel)]; kernel_rfl) | (rw [if_neg (by decide +kernel)]; exact ⟨rfl, rfl⟩))
    (fun os started H enc _ => lifted os started H enc)

theorem proved : Rows.FnExactFirstBreakSaid := over
#print axioms proved
end Go.Proofs.Ythodceeioinnoaa.firstBreak
