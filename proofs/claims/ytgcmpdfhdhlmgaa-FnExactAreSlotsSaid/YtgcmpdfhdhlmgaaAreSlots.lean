/- The program's AreSlots returns what the reference's returns, for all arguments. No conditions. -/
import Derived.Test.YtgcmpdfhdhlmgaaSlotW
import Derived.Test.YtgcmpdfhdhlmgaaOpen
namespace Go.Proofs.Ytgcmpdfhdhlmgaa.areSlots
open Go.ChangeShapes Go.WideShapes Go.ChangeAt Go.RowKit

theorem own : ownKnob Try.prog.godebug = none := by kernel_rfl
theorem laidOut : laidOutB Try.prog = true := by kernel_rfl

theorem walk (v : Value) (xs : List Slot) (w : World) (h : RdF Slot.enc 3 w 0 w.heap.size v xs) (hm : xs.length ≤ maxLen) :
    Calls Try.prog 3 #[v] w fun e w' => e = .returned (.bool true) ∧ Below w.heap.size w w' := by
  unfold maxLen at hm
  by_cases hl : (1048576 : Int) < xs.length
  · go_enter Try.func3, Try.ntmps3
    go_wp2_with fail
    refine (szSlotS_any v xs _ _ _ _ h (by omega) (by omega) (by omega)).mono ?_
    rintro e w1 ⟨rfl, rfl⟩
    rw [if_pos (by omega)]
    go_wp2_with fail
    go_ret
    exact ⟨rfl, Below.refl _ _⟩
  · go_enter Try.func3, Try.ntmps3
    go_wp2_with fail
    refine (szSlotS_any v xs _ _ _ _ h (by omega) (by omega) (by omega)).mono ?_
    rintro e w1 ⟨rfl, rfl⟩
    rw [if_neg (by omega)]
    go_wp2_with fail
    refine (toSlotS_any v xs _ _ _ h (by omega) (by omega)).mono ?_
    rintro e w1 ⟨v1, rfl, h1, b1⟩
    have z1 := b1.size
    go_wp2_with fail
    refine (sAreSlots_any v1 xs _ _ _ h1 (by omega) (by omega)).mono ?_
    rintro e w2 ⟨rfl, b2⟩
    have z2 := b2.size
    go_wp2_with fail
    refine (toSlotS_any v xs _ _ _ ((h.below b1 (by omega)).below b2 (by omega)) (by omega) (by omega)).mono ?_
    rintro e w3 ⟨v3, rfl, h3, b3⟩
    have z3 := b3.size
    go_wp2_with fail
    refine (areSlots_any v3 xs _ _ _ h3 (by omega) (by omega)).mono ?_
    rintro e w4 ⟨rfl, b4⟩
    have z4 := b4.size
    go_wp2_with fail
    refine (toSlotS_any v xs _ _ _ ((((h.below b1 (by omega)).below b2 (by omega)).below b3 (by omega)).below b4 (by omega)) (by omega) (by omega)).mono ?_
    rintro e w5 ⟨v5, rfl, h5, b5⟩
    have z5 := b5.size
    go_wp2_with fail
    refine (eqSlotS_any v3 v5 xs xs _ _ _ _ _ ((h3.below b4 (by omega)).below b5 (by omega)) (by omega) h5 (by omega) (by omega) (by omega)).mono ?_
    rintro e w6 ⟨rfl, b6⟩
    have z6 := b6.size
    have he : eqL Slot.beq xs xs = true := (eqL_iff (fun x y => Slot.beq_iff)).2 rfl
    rw [he]
    go_wp2_with fail
    go_ret
    exact ⟨rfl, by (repeat (first | assumption | exact Below.refl _ _ | refine Below.alloc ?_ ?_ _ | refine Below.drew ?_ | refine below_drewN ?_ _ | refine Below.setCell ?_ ?_ _ | refine Below.step (by assumption) ?_ ?_ | (simp <;> omega) | omega))⟩

set_option maxRecDepth 100000 in
theorem lifted (os : Os) (started : os.Started) (H : Type) (enc : TypeId × Value → H) :
    ReturnsInHanded {} Try.checked os 3 .any (Rows.fnExactAreSlotsSpec.pre6 enc Try.prog Try.f3 Rows.fnExactAreSlotsRow.domain false) (Rows.fnExactAreSlotsSpec.post enc Try.prog Try.f3 false true false false) := by
  refine returnsInHanded_of_change (C := Try.checked) own started (by kernel_rfl) Try.func3
    (ChangeSpec.witness6 (enc := enc) (C := Try.checked) false ⟨#[], #[.slice none 0 0], []⟩ 8 (by kernel_rfl) (by kernel_rfl) (by kernel_rfl) (by kernel_rfl)) ?_
  intro W base args ds gs before hval0 hW hcnd _
  have hval : ∀ (j : Nat) t v, Try.f3.params[j]? = some t → args[j]? = some v → Value.okWide Try.prog W .any base t v := hval0
  have hW' := hW
  obtain ⟨p, q, hA0, hV, rfl, hfz, hnd⟩ := hW
  have hA : DataW.TrodAll enc Try.prog W 0 (fun _ => true) true Try.f3.params.toList args.toList ds p := hA0
  rw [Try.params3] at hA hval
  obtain ⟨v0, vs0, d0, ds0, p0, q0, hargs, rfl, rfl, h0, r0⟩ := trodAll_cons hA
  obtain ⟨rfl, rfl, rfl⟩ := trodAll_nil r0
  obtain rfl : args = #[v0] := by cases args; simp_all
  obtain ⟨rfl, rfl⟩ := trodVars_none hV
  have k0 := h0
  have lt0 : ∀ x ∈ p0, x.block < W.heap.size := by obtain ⟨m, hm⟩ := k0; exact DataW.trod_lt m _ _ _ hm
  obtain ⟨xs, hx, hxl⟩ := open_flat (enc := Slot.enc) (sz := 3) Try.underlying22 (by kernel_rfl) (by omega) (fun n cs y hl hy => by
    obtain ⟨m, hf⟩ := open_fields Try.underlying61 (by kernel_rfl) hl hy
    match cs, hl with
    | [c0, c1, c2], _ =>
      obtain ⟨z0, y0⟩ := hf 0 _ c0 rfl rfl
      obtain ⟨z1, y1⟩ := hf 1 _ c1 rfl rfl
      obtain ⟨z2, y2⟩ := hf 2 _ c2 rfl rfl
      obtain ⟨a, e0, _, _⟩ := DataW.trod_int Try.underlying2 y0
      obtain ⟨b, e1, _, _⟩ := DataW.trod_int Try.underlying2 y1
      obtain ⟨c, e2, _, _⟩ := DataW.trod_int Try.underlying2 y2
      simp at e0 e1 e2
      subst e0 e1 e2
      exact ⟨⟨a, b, c⟩, rfl⟩) (hval 0 22 v0 rfl rfl) h0
  clear hA0 hval0
  refine (walk v0 xs W hx hxl).mono fun e W' ⟨he, bel⟩ => ?_
  subst he
  exact ⟨_, rfl, _, _, _, [], _, [], hW', trodAll_mk1 (shut_bool Try.underlying4 _), (trodAll_cons_mk (Below.trod laidOut (by kernel_rfl) (of_decide_eq_true (by kernel_rfl)) k0 bel lt0) trodAll_mk0), rfl, bel.frame _, fun h => by cases h⟩

theorem over : Rows.fnExactAreSlotsRow.holds Try.pinned (OpenSpec.ofChange Rows.fnExactAreSlotsSpec) :=
  OpenClaim.holds_of_wide 3 Try.f3 rfl rfl rfl rfl rfl rfl rfl ⟨rfl, rfl, rfl, rfl, rfl⟩ rfl rfl rfl rfl rfl (by kernel_rfl) Try.func3 (by kernel_rfl)
    (of_decide_eq_true (by kernel_rfl)) (by unfold Func.isWrapper; first | (rw [if_pos (by decide +kernel)]; kernel_rfl) | (rw [if_neg (by decide +kernel)]; exact ⟨rfl, rfl⟩))
    (fun os started H enc _ => lifted os started H enc)

theorem proved : Rows.FnExactAreSlotsSaid := over
#print axioms proved
end Go.Proofs.Ytgcmpdfhdhlmgaa.areSlots
