/- The program's AreHearings returns what the reference's returns, for all arguments. No conditions. -/
import Derived.Test.YtdcfenkkgnnbbaaHearingL
import Derived.Test.YtdcfenkkgnnbbaaHearingO
namespace Go.Proofs.Ytdcfenkkgnnbbaa.areHearings
open Go.ChangeShapes Go.WideShapes Go.ChangeAt Go.RowKit
open Go.ChangeMaps (open_string shut_string)
set_option linter.unusedVariables false

theorem own : ownKnob Try.prog.godebug = none := by kernel_rfl
theorem laidOut : laidOutB Try.prog = true := by kernel_rfl


set_option maxRecDepth 100000 in
set_option maxHeartbeats 4000000 in
theorem walk (v0 : Value) (xs : List Hearing) (w : World) (hx0 : RdHearing w 0 w.heap.size v0 xs) (hl0 : xs.length ≤ maxLen) (hq0 : ∀ x ∈ xs, Hearing.wf x) :
    Calls Try.prog 4 #[v0] w fun e w' => e = .returned (.bool true) ∧ Below w.heap.size w w' := by
  try unfold maxLen at *
  go_enter Try.func4, Try.ntmps4
  have BB : Below w.heap.size w w := Below.refl _ _
  go_wp2_with fail
  refine (szHearingS_any v0 xs _ _ _ _ hx0 (by omega) (by omega) (fun x hx => Hearing.big_of (hq0 x hx)) (by omega) (by omega)).mono ?_
  rintro e w1 ⟨r0, rfl, ⟨hra0, hrb0⟩, b1⟩
  have zb1 := b1.size
  replace hx0 := hx0.below b1 (by omega)
  replace BB := Below.step b1 (by omega) BB
  clear b1
  by_cases hn0 : r0 < 0
  · go_wp2_with fail
    go_ret
    exact ⟨rfl, by (repeat (first | with_reducible assumption | with_reducible exact Below.refl _ _ | with_reducible refine Below.setCell ?_ ?_ _ | with_reducible refine Below.alloc ?_ ?_ _ | with_reducible refine Below.drew ?_ | with_reducible refine below_drewN ?_ _ | with_reducible refine Below.step (by with_reducible assumption) ?_ ?_ | omega | (simp <;> omega) | (simp; done)))⟩
  have hp0 : 0 ≤ r0 := by omega
  have hq0' := hrb0 hp0
  clear hrb0
  have hm0 : xs.length ≤ 1048576 := by omega
  have hs0 : ∀ x ∈ xs, Hearing.small x := fun x hx => Hearing.small_of (hq0'.2 x hx) (by omega)
  go_wp2_with fail
  refine (toHearingS_any v0 xs _ _ _ hx0 (by omega) (by omega) hs0).mono ?_
  rintro e w2 ⟨y2, rfl, hy2, b2⟩
  have zb2 := b2.size
  replace hx0 := hx0.below b2 (by omega)
  replace BB := Below.step b2 (by omega) BB
  clear b2
  go_wp2_with fail
  refine (sAreHearings_any y2 xs _ _ _ hy2.rd (by omega) (by omega) hs0).mono ?_
  rintro e w3 ⟨rfl, b3⟩
  have zb3 := b3.size
  replace hx0 := hx0.below b3 (by omega)
  replace hy2 := hy2.below b3 (by omega)
  replace BB := Below.step b3 (by omega) BB
  clear b3
  clear hy2
  go_wp2_with fail
  refine (toHearingS_any v0 xs _ _ _ hx0 (by omega) (by omega) hs0).mono ?_
  rintro e w4 ⟨y4, rfl, hy4, b4⟩
  have zb4 := b4.size
  replace hx0 := hx0.below b4 (by omega)
  replace BB := Below.step b4 (by omega) BB
  clear b4
  go_wp2_with fail
  refine (areHearings_any y4 xs _ _ _ hy4.rd (by omega) (by omega) hs0).mono ?_
  rintro e w5 ⟨rfl, b5⟩
  have zb5 := b5.size
  replace hx0 := hx0.below b5 (by omega)
  replace hy4 := hy4.below b5 (by omega)
  replace BB := Below.step b5 (by omega) BB
  clear b5
  go_wp2_with fail
  refine (toHearingS_any v0 xs _ _ _ hx0 (by omega) (by omega) hs0).mono ?_
  rintro e w6 ⟨y6, rfl, hy6, b6⟩
  have zb6 := b6.size
  replace hx0 := hx0.below b6 (by omega)
  replace hy4 := hy4.below b6 (by omega)
  replace BB := Below.step b6 (by omega) BB
  clear b6
  go_wp2_with fail
  refine (eqHearingS_any y4 y6 xs xs _ _ _ _ _ hy4.rd (by omega) hy6.rd (by omega) (by omega) (by omega) hs0 hs0).mono ?_
  rintro e w7 ⟨rfl, b7⟩
  have zb7 := b7.size
  replace hx0 := hx0.below b7 (by omega)
  replace hy4 := hy4.below b7 (by omega)
  replace hy6 := hy6.below b7 (by omega)
  replace BB := Below.step b7 (by omega) BB
  clear b7
  rw [show eqL Hearing.beq xs xs = true from Hearing.eqL_refl _]
  clear hx0 hy4 hy6
  go_wp2_with fail
  go_ret
  exact ⟨rfl, BB⟩

set_option maxRecDepth 100000 in
theorem lifted (os : Os) (started : os.Started) (H : Type) (enc : TypeId × Value → H) :
    ReturnsInHanded {} Try.checked os 4 .any (Rows.fnExactAreHearingsSpec.pre6 enc Try.prog Try.f4 Rows.fnExactAreHearingsRow.domain false) (Rows.fnExactAreHearingsSpec.post enc Try.prog Try.f4 false true false false) := by
  refine returnsInHanded_of_change (C := Try.checked) own started (by kernel_rfl) Try.func4
    (ChangeSpec.witness6 (enc := enc) (C := Try.checked) false ⟨#[], #[.slice none 0 0], []⟩ 8 (by kernel_rfl) (by kernel_rfl) (by kernel_rfl) (by kernel_rfl)) ?_
  intro W base args ds gs before hval0 hW hcnd _
  have hval : ∀ (j : Nat) t v, Try.f4.params[j]? = some t → args[j]? = some v → Value.okWide Try.prog W .any base t v := hval0
  have hW' := hW
  obtain ⟨p, q, hA0, hV, rfl, hfz, hnd⟩ := hW
  have hA : DataW.TrodAll enc Try.prog W 0 (fun _ => true) true Try.f4.params.toList args.toList ds p := hA0
  rw [Try.params4] at hA hval
  obtain ⟨v0, vs0, d0, ds0, p0, q0, hargs, rfl, rfl, h0, r0⟩ := trodAll_cons hA
  obtain ⟨rfl, rfl, rfl⟩ := trodAll_nil r0
  obtain rfl : args = #[v0] := by cases args; simp_all
  obtain ⟨rfl, rfl⟩ := trodVars_none hV
  have k0 := h0
  have lt0 : ∀ x ∈ p0, x.block < W.heap.size := by obtain ⟨m, hm⟩ := k0; exact DataW.trod_lt m _ _ _ hm
  obtain ⟨xs, hx0, hl0, hq0⟩ := openHearingS (hval 0 36 v0 rfl rfl) h0
  clear hA0 hval0
  refine (walk v0 xs W hx0 hl0 hq0).mono fun e W' ⟨he, bel⟩ => ?_
  subst he
  exact ⟨_, rfl, _, _, _, [], _, [], hW', trodAll_mk1 (shut_bool Try.underlying4 _), (trodAll_cons_mk (Below.trod laidOut (by kernel_rfl) (of_decide_eq_true (by kernel_rfl)) k0 bel lt0) trodAll_mk0), rfl, bel.frame _, fun h => by cases h⟩

theorem over : Rows.fnExactAreHearingsRow.holds Try.pinned (OpenSpec.ofChange Rows.fnExactAreHearingsSpec) :=
  OpenClaim.holds_of_wide 4 Try.f4 rfl rfl rfl rfl rfl rfl rfl ⟨rfl, rfl, rfl, rfl, rfl⟩ rfl rfl rfl rfl rfl (by kernel_rfl) Try.func4 (by kernel_rfl)
    (of_decide_eq_true (by kernel_rfl)) (by unfold Func.isWrapper; first | (rw [if_pos (by decide +kernel)]; kernel_rfl) | (rw [if_neg (by decide +kernel)]; exact ⟨rfl, rfl⟩))
    (fun os started H enc _ => lifted os started H enc)

theorem proved : Rows.FnExactAreHearingsSaid := over
#print axioms proved
end Go.Proofs.Ytdcfenkkgnnbbaa.areHearings
