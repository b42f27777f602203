/- Walks of the exhibits' functions. -/
import Derived.Test.YthodceeioinnoaaExhibitP
import Derived.Test.YthodceeioinnoaaHandingA
import Derived.BigQuiet
import Derived.Deep.QuietTactic
namespace Go.Proofs.Ythodceeioinnoaa
open Go.RowKit
set_option linter.unusedVariables false

set_option maxHeartbeats 400000 in
theorem isNumber_any (n : Int) (w : World) : Calls Try.prog 89 #[.int .i64 n] w fun e w' => e = .returned (.bool (numOk n)) ∧ w = w' := by
  go_enter Try.func89, Try.ntmps89
  go_wp2_with (go_at_call 70; refine (within_any _ _ _ _).mono ?_; rintro e w' ⟨rfl, rfl⟩)
  go_ret
  exact ⟨rfl, rfl⟩
set_option maxHeartbeats 800000 in
theorem isHanding_any (h : Handing) (w : World) (hs : Handing.small h) :
    Calls Try.prog 87 #[.agg #[.int .i64 h.day, .string h.frm, .string h.to_, .int .i64 h.sl]] w fun e w' => e = .returned (.bool h.ok) ∧ Below w.heap.size w w' := by
  obtain ⟨g1, g2⟩ := hs
  go_enter Try.func87, Try.ntmps87
  go_wp2_with (first | (go_at_call 88; refine (isDay_any _ _).mono ?_; rintro e w' ⟨rfl, rfl⟩) | (go_at_call 89; refine (isNumber_any _ _).mono ?_; rintro e w' ⟨rfl, rfl⟩) | (go_at_call 74; refine (IsWord_any _ _ (by omega)).mono ?_; rintro e w' ⟨rfl, rfl⟩))
  all_goals (go_ret; exact ⟨ret_bool (by simp_all [Handing.ok]), by (repeat (first | with_reducible assumption | with_reducible exact Below.refl _ _ | with_reducible refine Below.setCell ?_ ?_ _ | with_reducible refine Below.alloc ?_ ?_ _ | with_reducible refine Below.drew ?_ | with_reducible refine below_drewN ?_ _ | with_reducible refine Below.step (by with_reducible assumption) ?_ ?_ | omega | (simp <;> omega) | (simp; done)))⟩)
set_option maxHeartbeats 800000 in
theorem l23Handing_any (h : Handing) (w : World) (hs : Handing.small h) :
    Calls Try.prog 84 #[.agg #[.int .i64 h.day, .string h.frm, .string h.to_, .int .i64 h.sl]] w fun e w' => e = .returned (.bool h.ok) ∧ Below w.heap.size w w' := by
  obtain ⟨g1, g2⟩ := hs
  go_enter Try.func84, Try.ntmps84
  go_wp2_with (first | (go_at_call 85; refine (l02Is_any _ _).mono ?_; rintro e w' ⟨rfl, rfl⟩) | (go_at_call 69; refine (l01In_any _ _ _ _).mono ?_; rintro e w' ⟨rfl, rfl⟩) | (go_at_call 73; refine (sIsWord_any _ _ (by omega)).mono ?_; rintro e w' ⟨rfl, rfl⟩))
  all_goals (go_ret; exact ⟨ret_bool (by simp_all [Handing.ok, numOk]), by (repeat (first | with_reducible assumption | with_reducible exact Below.refl _ _ | with_reducible refine Below.setCell ?_ ?_ _ | with_reducible refine Below.alloc ?_ ?_ _ | with_reducible refine Below.drew ?_ | with_reducible refine below_drewN ?_ _ | with_reducible refine Below.step (by with_reducible assumption) ?_ ?_ | omega | (simp <;> omega) | (simp; done)))⟩)

set_option maxRecDepth 100000 in
set_option maxHeartbeats 2000000 in
theorem isExhibit_any (x : Exhibit) (p0 : Value) (lo hi : Nat) (w : World) (h0 : RdF Handing.enc 4 w lo hi p0 x.chain) (hh : hi ≤ w.heap.size) (hs : x.small) :
    Calls Try.prog 51 #[.agg #[.string x.code, .string x.found, .int .i64 x.day, .int .i64 x.sl, p0]] w fun e w' => e = .returned (.bool x.ok) ∧ Below w.heap.size w w' := by
  obtain ⟨A, c, rfl, hc⟩ := h0.form
  obtain ⟨sc, sf, sl, sa⟩ := hs
  have HM := Lib.hid sa; clear sa
  have kX := Blk.newAt (w := w) (n := w.heap.size) (t := 70) (cs := #[.string x.code, .string x.found, .int .i64 x.day, .int .i64 x.sl, .slice A x.chain.length c]) rfl
  have hbkX : Below w.heap.size w (w.alloc (.cells #[.string x.code, .string x.found, .int .i64 x.day, .int .i64 x.sl, .slice A x.chain.length c] 70)) := (Below.refl _ _).alloc (Nat.le_refl _) _
  have hzkX : (w.alloc (.cells #[.string x.code, .string x.found, .int .i64 x.day, .int .i64 x.sl, .slice A x.chain.length c] 70)).heap.size = w.heap.size + 1 := by simp
  replace h0 := h0.below hbkX hh
  go_enter Try.func51, Try.ntmps51
  go_wp2
  generalize (w.alloc (.cells #[.string x.code, .string x.found, .int .i64 x.day, .int .i64 x.sl, .slice A x.chain.length c] 70)) = W0 at *
  go_loopw [4, 8] (fun _ i wr => ∃ k : Nat, k ≤ x.chain.length ∧ i = .int .i64 k ∧ Hid ((x.chain.take k).all Handing.ok = true) ∧ Below W0.heap.size W0 wr) (fun _ i _ => x.chain.length - (intOf i).toNat)
  case atStart => exact ⟨0, Nat.zero_le _, rfl, rfl, Below.refl _ _⟩
  case round =>
    obtain ⟨k, hk, rfl, HA, hb⟩ := hrel
    have z0 := hb.size
    have kR := kX.below hb (by omega)
    by_cases hlt : k < x.chain.length
    · obtain ⟨s, b, off, HS, rfl, -, hbw, c0, c1, c2, c3⟩ := Handing.at h0 hb (by omega) hlt
      have hsm := HM.out s (List.mem_of_getElem? HS.out)
      have hsm' : Handing.small s := by unfold Handing.small; omega
      go_wp2_with (go_at_call 87; refine (isHanding_any s _ hsm').mono ?_; rintro e w1 ⟨rfl, hb1⟩)
      · have hf : (!s.ok) = true := by assumption
        go_ret
        exact ⟨ret_bool (by rw [Exhibit.ok, all_false_of HS.out (by simpa using hf)]; rfl), by (repeat (first | with_reducible assumption | with_reducible exact Below.refl _ _ | with_reducible refine Below.setCell ?_ ?_ _ | with_reducible refine Below.alloc ?_ ?_ _ | with_reducible refine Below.drew ?_ | with_reducible refine below_drewN ?_ _ | with_reducible refine Below.step (by with_reducible assumption) ?_ ?_ | omega | (simp <;> omega) | (simp; done)))⟩
      · have hf : (!s.ok) = false := by assumption
        go_roundw
        case rel => exact ⟨k + 1, by omega, by go_num, take_all_succ HA.out HS.out (by simpa using hf), by (repeat (first | with_reducible assumption | with_reducible exact Below.refl _ _ | with_reducible refine Below.setCell ?_ ?_ _ | with_reducible refine Below.alloc ?_ ?_ _ | with_reducible refine Below.drew ?_ | with_reducible refine below_drewN ?_ _ | with_reducible refine Below.step (by with_reducible assumption) ?_ ?_ | omega | (simp <;> omega) | (simp; done)))⟩
        case measure => simp [intOf]; omega
    · have hall := all_of_take HA.out hlt
      have HL := Lib.hid hall; clear hall
      obtain ⟨q0, q1, q2, q3, q4⟩ := kR.c5
      go_wp2_with (first | (go_at_call 88; refine (isDay_any _ _).mono ?_; rintro e w' ⟨rfl, rfl⟩) | (go_at_call 89; refine (isNumber_any _ _).mono ?_; rintro e w' ⟨rfl, rfl⟩) | (go_at_call 74; refine (IsWord_any _ _ (by omega)).mono ?_; rintro e w' ⟨rfl, rfl⟩) | (go_at_call 64; refine (few_any _ _ _).mono ?_; rintro e w' ⟨rfl, rfl⟩))
      all_goals (go_ret; exact ⟨ret_bool (by rw [Exhibit.ok, HL.out]; simp_all <;> omega), by (repeat (first | with_reducible assumption | with_reducible exact Below.refl _ _ | with_reducible refine Below.setCell ?_ ?_ _ | with_reducible refine Below.alloc ?_ ?_ _ | with_reducible refine Below.drew ?_ | with_reducible refine below_drewN ?_ _ | with_reducible refine Below.step (by with_reducible assumption) ?_ ?_ | omega | (simp <;> omega) | (simp; done)))⟩)
set_option maxRecDepth 100000 in
set_option maxHeartbeats 2000000 in
theorem sIsExhibit_any (x : Exhibit) (p0 : Value) (lo hi : Nat) (w : World) (h0 : RdF Handing.enc 4 w lo hi p0 x.chain) (hh : hi ≤ w.heap.size) (hs : x.small) :
    Calls Try.prog 49 #[.agg #[.string x.code, .string x.found, .int .i64 x.day, .int .i64 x.sl, p0]] w fun e w' => e = .returned (.bool x.ok) ∧ Below w.heap.size w w' := by
  obtain ⟨A, c, rfl, hc⟩ := h0.form
  obtain ⟨sc, sf, sl, sa⟩ := hs
  have HM := Lib.hid sa; clear sa
  have kX := Blk.newAt (w := w) (n := w.heap.size) (t := 70) (cs := #[.string x.code, .string x.found, .int .i64 x.day, .int .i64 x.sl, .slice A x.chain.length c]) rfl
  have hbkX : Below w.heap.size w (w.alloc (.cells #[.string x.code, .string x.found, .int .i64 x.day, .int .i64 x.sl, .slice A x.chain.length c] 70)) := (Below.refl _ _).alloc (Nat.le_refl _) _
  have hzkX : (w.alloc (.cells #[.string x.code, .string x.found, .int .i64 x.day, .int .i64 x.sl, .slice A x.chain.length c] 70)).heap.size = w.heap.size + 1 := by simp
  replace h0 := h0.below hbkX hh
  go_enter Try.func49, Try.ntmps49
  go_wp2
  generalize (w.alloc (.cells #[.string x.code, .string x.found, .int .i64 x.day, .int .i64 x.sl, .slice A x.chain.length c] 70)) = W0 at *
  go_loopw [3] (fun i wr => ∃ k : Nat, k ≤ x.chain.length ∧ i = .int .i64 k ∧ Hid ((x.chain.take k).all Handing.ok = true) ∧ Below W0.heap.size W0 wr) (fun i _ => x.chain.length - (intOf i).toNat)
  case atStart => exact ⟨0, Nat.zero_le _, rfl, rfl, Below.refl _ _⟩
  case round =>
    obtain ⟨k, hk, rfl, HA, hb⟩ := hrel
    have z0 := hb.size
    have kR := kX.below hb (by omega)
    obtain ⟨q0, q1, q2, q3, q4⟩ := kR.c5
    by_cases hlt : k < x.chain.length
    · obtain ⟨s, b, off, HS, rfl, -, hbw, c0, c1, c2, c3⟩ := Handing.at h0 hb (by omega) hlt
      have hsm := HM.out s (List.mem_of_getElem? HS.out)
      have hsm' : Handing.small s := by unfold Handing.small; omega
      go_wp2_with (go_at_call 84; refine (l23Handing_any s _ hsm').mono ?_; rintro e w1 ⟨rfl, hb1⟩)
      · have hf : (!s.ok) = true := by assumption
        go_ret
        exact ⟨ret_bool (by rw [Exhibit.ok, all_false_of HS.out (by simpa using hf)]; rfl), by (repeat (first | with_reducible assumption | with_reducible exact Below.refl _ _ | with_reducible refine Below.setCell ?_ ?_ _ | with_reducible refine Below.alloc ?_ ?_ _ | with_reducible refine Below.drew ?_ | with_reducible refine below_drewN ?_ _ | with_reducible refine Below.step (by with_reducible assumption) ?_ ?_ | omega | (simp <;> omega) | (simp; done)))⟩
      · have hf : (!s.ok) = false := by assumption
        go_roundw
        case rel => exact ⟨k + 1, by omega, by go_num, take_all_succ HA.out HS.out (by simpa using hf), by (repeat (first | with_reducible assumption | with_reducible exact Below.refl _ _ | with_reducible refine Below.setCell ?_ ?_ _ | with_reducible refine Below.alloc ?_ ?_ _ | with_reducible refine Below.drew ?_ | with_reducible refine below_drewN ?_ _ | with_reducible refine Below.step (by with_reducible assumption) ?_ ?_ | omega | (simp <;> omega) | (simp; done)))⟩
        case measure => simp [intOf]; omega
    · have hall := all_of_take HA.out hlt
      have HL := Lib.hid hall; clear hall
      go_wp2_with (first | (go_at_call 85; refine (l02Is_any _ _).mono ?_; rintro e w' ⟨rfl, rfl⟩) | (go_at_call 69; refine (l01In_any _ _ _ _).mono ?_; rintro e w' ⟨rfl, rfl⟩) | (go_at_call 73; refine (sIsWord_any _ _ (by omega)).mono ?_; rintro e w' ⟨rfl, rfl⟩))
      all_goals (go_ret; exact ⟨ret_bool (by rw [Exhibit.ok, HL.out]; simp_all [numOk] <;> omega), by (repeat (first | with_reducible assumption | with_reducible exact Below.refl _ _ | with_reducible refine Below.setCell ?_ ?_ _ | with_reducible refine Below.alloc ?_ ?_ _ | with_reducible refine Below.drew ?_ | with_reducible refine below_drewN ?_ _ | with_reducible refine Below.step (by with_reducible assumption) ?_ ?_ | omega | (simp <;> omega) | (simp; done)))⟩)
end Go.Proofs.Ythodceeioinnoaa
