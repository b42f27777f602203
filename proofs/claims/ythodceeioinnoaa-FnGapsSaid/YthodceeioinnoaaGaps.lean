/- Kept quarters and the longest gap have room on a day, and before and behind the gap the room is kept: returns true for all arguments. No conditions. -/
import Derived.Test.YthodceeioinnoaaGapP
import Derived.Test.YthodceeioinnoaaDrawBx
import Derived.Test.YthodceeioinnoaaLike
import Derived.Test.YthodceeioinnoaaOpenB
namespace Go.Proofs.Ythodceeioinnoaa.gaps
open Go.ChangeShapes Go.WideShapes Go.ChangeAt Go.RowKit
open Go.ChangeMaps (open_string shut_string)
set_option linter.unusedVariables false

theorem own : ownKnob Try.prog.godebug = none := by kernel_rfl
theorem laidOut : laidOutB Try.prog = true := by kernel_rfl


set_option maxRecDepth 100000 in
set_option maxHeartbeats 4000000 in
theorem walk (v0 : Value) (code : List Int) (w : World) (hx0 : RdF encByte 1 w 0 w.heap.size v0 code) (hl0 : code.length ≤ maxLen) (hq0 : ∀ x ∈ code, 0 ≤ x ∧ x ≤ 255) :
    Calls Try.prog 10 #[v0] w fun e w' => e = .returned (.bool true) ∧ Below w.heap.size w w' := by
  try unfold maxLen at *
  obtain ⟨A0, C0, rfl, hc0⟩ := hx0.form
  by_cases hbig : (4096 : Int) < (code.length : Int)
  · go_enter Try.func10, Try.ntmps10
    go_wp2_with fail
    refine (big_any A0 C0 code.length _).mono ?_
    rintro e w1 ⟨rfl, b1⟩
    rw [decide_eq_true hbig]
    go_wp2_with fail
    go_ret
    exact ⟨rfl, b1⟩
  go_enter Try.func10, Try.ntmps10
  have BB : Below w.heap.size w w := Below.refl _ _
  go_wp2_with fail
  refine (big_any A0 C0 code.length _).mono ?_
  rintro e w1 ⟨rfl, b1⟩
  have zb1 := b1.size
  replace hx0 := hx0.below b1 (by omega)
  replace BB := Below.step b1 (by omega) BB
  clear b1
  rw [decide_eq_false (show ¬ (4096 : Int) < (code.length : Int) by omega)]
  go_wp2_with fail
  refine (drawLongestGap_any _ code _ _ _ hx0 (by omega) (by omega) hq0).mono ?_
  rintro e w2 ⟨v1, xs, room, day, rfl, hx30, hM, hr1, hd1, h1, b2⟩
  have zb2 := b2.size
  replace hx0 := hx0.below b2 (by omega)
  replace BB := Below.step b2 (by omega) BB
  clear b2
  have hs1 : ∀ x ∈ xs, Booking.small x := fun x hx => by have := hM x hx; unfold Booking.small; omega
  clear hM
  clear hx0
  go_wp2_with fail
  refine (longestGap_any _ xs _ _ room day _ h1 (by omega) (by omega) hs1).mono ?_
  rintro e w3 ⟨rfl, b3⟩
  have zb3 := b3.size
  replace h1 := h1.below b3 (by omega)
  replace BB := Below.step b3 (by omega) BB
  clear b3
  go_wp2_with fail
  refine (sLongestGap_any _ xs _ _ room day _ h1 (by omega) (by omega) hs1).mono ?_
  rintro e w4 ⟨rfl, b4⟩
  have zb4 := b4.size
  replace h1 := h1.below b4 (by omega)
  replace BB := Below.step b4 (by omega) BB
  clear b4
  go_wp2_with fail
  refine (quartersKept_any _ xs _ _ room day _ h1 (by omega) (by omega) hs1).mono ?_
  rintro e w5 ⟨rfl, b5⟩
  have zb5 := b5.size
  replace h1 := h1.below b5 (by omega)
  replace BB := Below.step b5 (by omega) BB
  clear b5
  go_wp2_with fail
  refine (sQuartersKept_any _ xs _ _ room day _ h1 (by omega) (by omega) hs1).mono ?_
  rintro e w6 ⟨rfl, b6⟩
  have zb6 := b6.size
  replace h1 := h1.below b6 (by omega)
  replace BB := Below.step b6 (by omega) BB
  clear b6
  by_cases hz : (longestGap xs room day).2.2 = 0
  rotate_left
  · have hN := gaps_none hz
    generalize (longestGap xs room day).2.2 = bad at *
    generalize (longestGap xs room day).1 = g at *
    generalize (longestGap xs room day).2.1 = n at *
    generalize (quartersKept xs room day).1 = k at *
    generalize (quartersKept xs room day).2 = one at *
    have hz' : (bad != 0) = true := by simpa using hz
    by_cases h4 : bad = 4
    · have h36 : k = 36 := by
        rcases hN with h | h
        · exact absurd h4 h
        · exact h
      subst h4
      subst h36
      go_wp2_with fail
      go_ret
      exact ⟨by first | rfl | exact ret_bool (by simp), by (repeat (first | with_reducible assumption | with_reducible exact Below.refl _ _ | with_reducible refine Below.setCell ?_ ?_ _ | with_reducible refine Below.alloc ?_ ?_ _ | with_reducible refine Below.drew ?_ | with_reducible refine below_drewN ?_ _ | with_reducible refine Below.step (by with_reducible assumption) ?_ ?_ | omega | (simp <;> omega) | (simp; done)))⟩
    · have h4' : (bad != 4) = true := by simpa using h4
      clear hN
      go_wp2_with fail
      go_ret
      exact ⟨by first | rfl | exact ret_bool (by simp_all), by (repeat (first | with_reducible assumption | with_reducible exact Below.refl _ _ | with_reducible refine Below.setCell ?_ ?_ _ | with_reducible refine Below.alloc ?_ ?_ _ | with_reducible refine Below.drew ?_ | with_reducible refine below_drewN ?_ _ | with_reducible refine Below.step (by with_reducible assumption) ?_ ?_ | omega | (simp <;> omega) | (simp; done)))⟩
  obtain ⟨hr, hd, hx, hn, hg, hgn, hk2, hk0, hk, hf, hbe, hbh⟩ := gaps_some hz
  rw [hz]
  rw [hk2]
  clear hr hd hx hz hk2
  generalize (longestGap xs room day).1 = g at *
  generalize (longestGap xs room day).2.1 = n at *
  generalize (quartersKept xs room day).1 = k at *
  have HF := Lib.hid hf; clear hf
  have HBE := Lib.hid hbe; clear hbe
  have HBH := Lib.hid hbh; clear hbh
  by_cases hg0 : 0 < g
  · go_wp2_with fail
    refine (roomsFree_any _ xs _ _ day (g - 1) (g) _ h1 (by omega) (by omega) hs1).mono ?_
    rintro e w7 ⟨y7, rfl, hy7, b7⟩
    have zb7 := b7.size
    replace h1 := h1.below b7 (by omega)
    replace BB := Below.step b7 (by omega) BB
    clear b7
    rw [(HBE.out hg0).1]
    have hl7 := roomsFree_len xs day (g - 1) (g)
    go_wp2_with fail
    refine (hasInt_any _ (roomsFree xs day (g - 1) (g)).1 _ _ room _ hy7.rd (by omega) hl7).mono ?_
    rintro e w8 ⟨rfl, b8⟩
    have zb8 := b8.size
    replace h1 := h1.below b8 (by omega)
    replace hy7 := hy7.below b8 (by omega)
    replace BB := Below.step b8 (by omega) BB
    clear b8
    rw [(HBE.out hg0).2]
    clear hy7
    by_cases hg1 : g + n < 36
    · go_wp2_with fail
      refine (roomsFree_any _ xs _ _ day (g + n) (g + n + 1) _ h1 (by omega) (by omega) hs1).mono ?_
      rintro e w9 ⟨y9, rfl, hy9, b9⟩
      have zb9 := b9.size
      replace h1 := h1.below b9 (by omega)
      replace BB := Below.step b9 (by omega) BB
      clear b9
      rw [(HBH.out hg1).1]
      have hl9 := roomsFree_len xs day (g + n) (g + n + 1)
      go_wp2_with fail
      refine (hasInt_any _ (roomsFree xs day (g + n) (g + n + 1)).1 _ _ room _ hy9.rd (by omega) hl9).mono ?_
      rintro e w10 ⟨rfl, b10⟩
      have zb10 := b10.size
      replace h1 := h1.below b10 (by omega)
      replace hy9 := hy9.below b10 (by omega)
      replace BB := Below.step b10 (by omega) BB
      clear b10
      rw [(HBH.out hg1).2]
      clear hy9
      go_wp2_with fail
      refine (firstFree_any _ xs _ _ room day n _ h1 (by omega) (by omega) hs1).mono ?_
      rintro e w11 ⟨rfl, b11⟩
      have zb11 := b11.size
      replace h1 := h1.below b11 (by omega)
      replace BB := Below.step b11 (by omega) BB
      clear b11
      rw [HF.out]
      have hkn : decide (k + n ≤ 36) = true := decide_eq_true hk
      go_wp2_with fail
      go_ret
      exact ⟨by first | rfl | exact ret_bool (by simp_all) | exact ret_bool (by simp; omega), by (repeat (first | with_reducible assumption | with_reducible exact Below.refl _ _ | with_reducible refine Below.setCell ?_ ?_ _ | with_reducible refine Below.alloc ?_ ?_ _ | with_reducible refine Below.drew ?_ | with_reducible refine below_drewN ?_ _ | with_reducible refine Below.step (by with_reducible assumption) ?_ ?_ | omega | (simp <;> omega) | (simp; done)))⟩
    · go_wp2_with fail
      refine (firstFree_any _ xs _ _ room day n _ h1 (by omega) (by omega) hs1).mono ?_
      rintro e w9 ⟨rfl, b9⟩
      have zb9 := b9.size
      replace h1 := h1.below b9 (by omega)
      replace BB := Below.step b9 (by omega) BB
      clear b9
      rw [HF.out]
      have hkn : decide (k + n ≤ 36) = true := decide_eq_true hk
      go_wp2_with fail
      go_ret
      exact ⟨by first | rfl | exact ret_bool (by simp_all) | exact ret_bool (by simp; omega), by (repeat (first | with_reducible assumption | with_reducible exact Below.refl _ _ | with_reducible refine Below.setCell ?_ ?_ _ | with_reducible refine Below.alloc ?_ ?_ _ | with_reducible refine Below.drew ?_ | with_reducible refine below_drewN ?_ _ | with_reducible refine Below.step (by with_reducible assumption) ?_ ?_ | omega | (simp <;> omega) | (simp; done)))⟩
  · by_cases hg1 : g + n < 36
    · go_wp2_with fail
      refine (roomsFree_any _ xs _ _ day (g + n) (g + n + 1) _ h1 (by omega) (by omega) hs1).mono ?_
      rintro e w7 ⟨y7, rfl, hy7, b7⟩
      have zb7 := b7.size
      replace h1 := h1.below b7 (by omega)
      replace BB := Below.step b7 (by omega) BB
      clear b7
      rw [(HBH.out hg1).1]
      have hl7 := roomsFree_len xs day (g + n) (g + n + 1)
      go_wp2_with fail
      refine (hasInt_any _ (roomsFree xs day (g + n) (g + n + 1)).1 _ _ room _ hy7.rd (by omega) hl7).mono ?_
      rintro e w8 ⟨rfl, b8⟩
      have zb8 := b8.size
      replace h1 := h1.below b8 (by omega)
      replace hy7 := hy7.below b8 (by omega)
      replace BB := Below.step b8 (by omega) BB
      clear b8
      rw [(HBH.out hg1).2]
      clear hy7
      go_wp2_with fail
      refine (firstFree_any _ xs _ _ room day n _ h1 (by omega) (by omega) hs1).mono ?_
      rintro e w9 ⟨rfl, b9⟩
      have zb9 := b9.size
      replace h1 := h1.below b9 (by omega)
      replace BB := Below.step b9 (by omega) BB
      clear b9
      rw [HF.out]
      have hkn : decide (k + n ≤ 36) = true := decide_eq_true hk
      go_wp2_with fail
      go_ret
      exact ⟨by first | rfl | exact ret_bool (by simp_all) | exact ret_bool (by simp; omega), by (repeat (first | with_reducible assumption | with_reducible exact Below.refl _ _ | with_reducible refine Below.setCell ?_ ?_ _ | with_reducible refine Below.alloc ?_ ?_ _ | with_reducible refine Below.drew ?_ | with_reducible refine below_drewN ?_ _ | with_reducible refine Below.step (by with_reducible assumption) ?_ ?_ | omega | (simp <;> omega) | (simp; done)))⟩
    · go_wp2_with fail
      refine (firstFree_any _ xs _ _ room day n _ h1 (by omega) (by omega) hs1).mono ?_
      rintro e w7 ⟨rfl, b7⟩
      have zb7 := b7.size
      replace h1 := h1.below b7 (by omega)
      replace BB := Below.step b7 (by omega) BB
      clear b7
      rw [HF.out]
      have hkn : decide (k + n ≤ 36) = true := decide_eq_true hk
      go_wp2_with fail
      go_ret
      exact ⟨by first | rfl | exact ret_bool (by simp_all) | exact ret_bool (by simp; omega), by (repeat (first | with_reducible assumption | with_reducible exact Below.refl _ _ | with_reducible refine Below.setCell ?_ ?_ _ | with_reducible refine Below.alloc ?_ ?_ _ | with_reducible refine Below.drew ?_ | with_reducible refine below_drewN ?_ _ | with_reducible refine Below.step (by with_reducible assumption) ?_ ?_ | omega | (simp <;> omega) | (simp; done)))⟩

set_option maxRecDepth 100000 in
theorem lifted (os : Os) (started : os.Started) (H : Type) (enc : TypeId × Value → H) :
    ReturnsInHanded {} Try.checked os 10 .any (Rows.fnGapsSpec.pre6 enc Try.prog Try.f10 Rows.fnGapsRow.domain false) (Rows.fnGapsSpec.post enc Try.prog Try.f10 false true false false) := by
  refine returnsInHanded_of_change (C := Try.checked) own started (by kernel_rfl) Try.func10
    (ChangeSpec.witness6 (enc := enc) (C := Try.checked) false ⟨#[], #[.slice none 0 0], []⟩ 8 (by kernel_rfl) (by kernel_rfl) (by kernel_rfl) (by kernel_rfl)) ?_
  intro W base args ds gs before hval0 hW hcnd _
  have hval : ∀ (j : Nat) t v, Try.f10.params[j]? = some t → args[j]? = some v → Value.okWide Try.prog W .any base t v := hval0
  have hW' := hW
  obtain ⟨p, q, hA0, hV, rfl, hfz, hnd⟩ := hW
  have hA : DataW.TrodAll enc Try.prog W 0 (fun _ => true) true Try.f10.params.toList args.toList ds p := hA0
  rw [Try.params10] at hA hval
  obtain ⟨v0, vs0, d0, ds0, p0, q0, hargs, rfl, rfl, h0, r0⟩ := trodAll_cons hA
  obtain ⟨rfl, rfl, rfl⟩ := trodAll_nil r0
  obtain rfl : args = #[v0] := by cases args; simp_all
  obtain ⟨rfl, rfl⟩ := trodVars_none hV
  have k0 := h0
  have lt0 : ∀ x ∈ p0, x.block < W.heap.size := by obtain ⟨m, hm⟩ := k0; exact DataW.trod_lt m _ _ _ hm
  obtain ⟨code, hx0, hl0, hq0⟩ := open_bytes Try.underlying52 Try.underlying5 (by kernel_rfl) (hval 0 52 v0 rfl rfl) h0
  clear hA0 hval0
  refine (walk v0 code W hx0 hl0 hq0).mono fun e W' ⟨he, bel⟩ => ?_
  subst he
  exact ⟨_, rfl, _, _, _, [], _, [], hW', trodAll_mk1 (shut_bool Try.underlying4 _), (trodAll_cons_mk (Below.trod laidOut (by kernel_rfl) (of_decide_eq_true (by kernel_rfl)) k0 bel lt0) trodAll_mk0), rfl, bel.frame _, fun h => by cases h⟩

theorem over : Rows.fnGapsRow.holds Try.pinned (OpenSpec.ofChange Rows.fnGapsSpec) :=
  OpenClaim.holds_of_wide 10 Try.f10 rfl rfl rfl rfl rfl rfl rfl ⟨rfl, rfl, rfl, rfl, rfl⟩ rfl rfl rfl rfl rfl (by kernel_rfl) Try.func10 (by kernel_rfl)
    (of_decide_eq_true (by kernel_rfl)) (by unfold Func.isWrapper; first | (rw [if_pos (by decide +kernel)]; kernel_rfl) | (rw [if_neg (by decide +kernel)]; exact ⟨rfl, rfl⟩))
    (fun os started H enc _ => lifted os started H enc)

theorem proved : Rows.FnGapsSaid := over
#print axioms proved
end Go.Proofs.Ythodceeioinnoaa.gaps
