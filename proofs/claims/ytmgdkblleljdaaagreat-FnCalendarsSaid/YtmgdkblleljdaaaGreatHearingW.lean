/- Walks of the hearings' tests. -/
import Derived.Test.YtmgdkblleljdaaaGreatHearingP
import Derived.BigQuiet
import Derived.Deep.QuietTactic
namespace Go.Proofs.YtmgdkblleljdaaaGreat
open Go.RowKit
set_option linter.unusedVariables false

set_option maxRecDepth 100000 in
set_option maxHeartbeats 2000000 in
theorem isHearing_any (h : Hearing) (p0 : Value) (lo hi : Nat) (w : World) (h0 : RdF encStr 1 w lo hi p0 h.people) (hh : hi ≤ w.heap.size) (hs : h.small) :
    Calls Tryz.prog 62 #[.agg #[.string h.code, .int .i64 h.len, p0, .int .i64 h.last]] w fun e w' => e = .returned (.bool h.ok) ∧ Below w.heap.size w w' := by
  obtain ⟨A, c, rfl, hc⟩ := h0.form
  obtain ⟨sc, sl, sa⟩ := hs
  have HM := Lib.hid (show ∀ x ∈ h.people, x.size ≤ 1048576 from fun x hx => by have := sa x hx; omega); clear sa
  have kX := Blk.newAt (w := w) (n := w.heap.size) (t := 56) (cs := #[.string h.code, .int .i64 h.len, .slice A h.people.length c, .int .i64 h.last]) rfl
  have hbkX : Below w.heap.size w (w.alloc (.cells #[.string h.code, .int .i64 h.len, .slice A h.people.length c, .int .i64 h.last] 56)) := (Below.refl _ _).alloc (Nat.le_refl _) _
  have hzkX : (w.alloc (.cells #[.string h.code, .int .i64 h.len, .slice A h.people.length c, .int .i64 h.last] 56)).heap.size = w.heap.size + 1 := by simp
  replace h0 := h0.below hbkX hh
  go_enter Tryz.func62, Tryz.ntmps62
  go_wp2
  generalize (w.alloc (.cells #[.string h.code, .int .i64 h.len, .slice A h.people.length c, .int .i64 h.last] 56)) = W0 at *
  go_loopw [3, 4, 8] (fun _ _ i wr => ∃ k : Nat, k ≤ h.people.length ∧ i = .int .i64 k ∧ Hid (prefAll newW h.people k = true) ∧ Below W0.heap.size W0 wr) (fun _ _ i _ => h.people.length - (intOf i).toNat)
  case atStart => exact ⟨0, Nat.zero_le _, rfl, rfl, Below.refl _ _⟩
  case round =>
    obtain ⟨k, hk, rfl, HA, hb⟩ := hrel
    have z0 := hb.size
    have kR := kX.below hb (by omega)
    obtain ⟨q0, q1, q2, q3⟩ := kR.c4
    by_cases hlt : k < h.people.length
    · obtain ⟨s, b, off, HS, rfl, hbw, c0⟩ := RdF.str h0 hb (by omega) hlt
      have ht := (h0.pre (k := k) (by omega)).below hb (by omega)
      have hki : (k : Int) < (h.people.length : Int) := by omega
      have hki' : (k : Int) ≤ (c : Int) := by omega
      have hlk : (h.people.take k).length ≤ 1048576 := by simp; omega
      go_wp2_with (go_at_call 76; refine (hasStr_any _ (h.people.take k) _ _ s _ ht (by omega) hlk).mono ?_; rintro e w' ⟨rfl, rfl⟩)
      · have hf : hasW (h.people.take k) s = true := by assumption
        go_ret
        exact ⟨ret_bool (by rw [Hearing.ok, prefOk_false HS.out (by rw [newW, hf]; rfl)]; rfl), by (repeat (first | with_reducible assumption | with_reducible exact Below.refl _ _ | with_reducible refine Below.setCell ?_ ?_ _ | with_reducible refine Below.alloc ?_ ?_ _ | with_reducible refine Below.drew ?_ | with_reducible refine below_drewN ?_ _ | with_reducible refine Below.step (by with_reducible assumption) ?_ ?_ | omega | (simp <;> omega) | (simp; done)))⟩
      · have hf : hasW (h.people.take k) s = false := by assumption
        go_roundw
        case rel => exact ⟨k + 1, by omega, by go_num, prefAll_succ HA.out HS.out (by rw [newW, hf]; rfl), by (repeat (first | with_reducible assumption | with_reducible exact Below.refl _ _ | with_reducible refine Below.setCell ?_ ?_ _ | with_reducible refine Below.alloc ?_ ?_ _ | with_reducible refine Below.drew ?_ | with_reducible refine below_drewN ?_ _ | with_reducible refine Below.step (by with_reducible assumption) ?_ ?_ | omega | (simp <;> omega) | (simp; done)))⟩
        case measure => simp [intOf]; omega
    · have HL := Lib.hid (prefOk_of HA.out hk hlt)
      have hr := h0.below hb (by omega)
      go_wp2_with (first | (go_at_call 71; refine (isDay_any _ _).mono ?_; rintro e w' ⟨rfl, rfl⟩) | (go_at_call 72; refine (within_any _ _ _ _).mono ?_; rintro e w' ⟨rfl, rfl⟩) | (go_at_call 77; refine (IsWord_any _ _ (by omega)).mono ?_; rintro e w' ⟨rfl, rfl⟩) | (go_at_call 78; refine (areWords_any _ h.people _ _ _ hr (by omega) (by omega) HM.out).mono ?_; rintro e w' ⟨rfl, rfl⟩) | (go_at_call 42; refine (few_any _ _ _).mono ?_; rintro e w' ⟨rfl, rfl⟩))
      all_goals (go_ret; refine ⟨ret_bool ?_, by (repeat (first | with_reducible assumption | with_reducible exact Below.refl _ _ | with_reducible refine Below.setCell ?_ ?_ _ | with_reducible refine Below.alloc ?_ ?_ _ | with_reducible refine Below.drew ?_ | with_reducible refine below_drewN ?_ _ | with_reducible refine Below.step (by with_reducible assumption) ?_ ?_ | omega | (simp <;> omega) | (simp; done)))⟩; rw [Hearing.ok, HL.out]; clear hr q0 q1 q2 q3 kR; first | (simp_all; done) | (simp_all <;> omega) | (simp_all; intro _h1 ha; have hex : ∃ x, x ∈ h.people ∧ wordOk x = false := (by assumption); obtain ⟨x, hx, hw⟩ := hex; rw [ha x hx] at hw; cases hw))

set_option maxRecDepth 100000 in
set_option maxHeartbeats 2000000 in
theorem l19Is_any (h : Hearing) (p0 : Value) (lo hi : Nat) (w : World) (h0 : RdF encStr 1 w lo hi p0 h.people) (hh : hi ≤ w.heap.size) (hs : h.small) :
    Calls Tryz.prog 65 #[.agg #[.string h.code, .int .i64 h.len, p0, .int .i64 h.last]] w fun e w' => e = .returned (.bool h.ok) ∧ Below w.heap.size w w' := by
  obtain ⟨A, c, rfl, hc⟩ := h0.form
  obtain ⟨sc, sl, sa⟩ := hs
  have HM := Lib.hid (show ∀ x ∈ h.people, x.size ≤ 1048576 from fun x hx => by have := sa x hx; omega); clear sa
  have kX := Blk.newAt (w := w) (n := w.heap.size) (t := 56) (cs := #[.string h.code, .int .i64 h.len, .slice A h.people.length c, .int .i64 h.last]) rfl
  have hbkX : Below w.heap.size w (w.alloc (.cells #[.string h.code, .int .i64 h.len, .slice A h.people.length c, .int .i64 h.last] 56)) := (Below.refl _ _).alloc (Nat.le_refl _) _
  have hzkX : (w.alloc (.cells #[.string h.code, .int .i64 h.len, .slice A h.people.length c, .int .i64 h.last] 56)).heap.size = w.heap.size + 1 := by simp
  replace h0 := h0.below hbkX hh
  go_enter Tryz.func65, Tryz.ntmps65
  go_wp2
  generalize (w.alloc (.cells #[.string h.code, .int .i64 h.len, .slice A h.people.length c, .int .i64 h.last] 56)) = W0 at *
  go_loopw [3] (fun i wr => ∃ k : Nat, k ≤ h.people.length ∧ i = .int .i64 k ∧ Hid (prefAll (fun b p => wordOk p && newW b p) h.people k = true) ∧ Below W0.heap.size W0 wr) (fun i _ => h.people.length - (intOf i).toNat)
  case atStart => exact ⟨0, Nat.zero_le _, rfl, rfl, Below.refl _ _⟩
  case round =>
    obtain ⟨k, hk, rfl, HA, hb⟩ := hrel
    have z0 := hb.size
    have kR := kX.below hb (by omega)
    obtain ⟨q0, q1, q2, q3⟩ := kR.c4
    by_cases hlt : k < h.people.length
    · obtain ⟨s, b, off, HS, rfl, hbw, c0⟩ := RdF.str h0 hb (by omega) hlt
      have ht := (h0.pre (k := k) (by omega)).below hb (by omega)
      have hsm := HM.out s (List.mem_of_getElem? HS.out)
      have hki : (k : Int) < (h.people.length : Int) := by omega
      have hki' : (k : Int) ≤ (c : Int) := by omega
      have hlk : (h.people.take k).length ≤ 1048576 := by simp; omega
      have htn : ∀ n : Nat, RdF encStr 1 (wr.drewN n) lo hi (.slice (some ⟨b, off, none⟩) k c) (h.people.take k) := fun n => ht.below (B := hi) (below_drewN (Below.refl _ _) n) (Nat.le_refl _)
      have hzn : ∀ n : Nat, hi ≤ (wr.drewN n).heap.size := fun n => by show hi ≤ wr.heap.size; omega
      cases hw : wordOk s with
      | false =>
        go_wp2_with fail
        go_quiet ((first | (go_at_call 80; exact Calls.quiet_of_same ((sIsWord_any _ _ (by omega)).mono (by rintro e w' ⟨rfl, rfl⟩; exact ⟨by rw [hw], rfl⟩)))))
        go_wp2_with fail
        go_ret
        exact ⟨ret_bool (by rw [Hearing.ok_spec, prefOk_false HS.out (by rw [hw]; rfl)]; rfl), by (repeat (first | with_reducible assumption | with_reducible exact Below.refl _ _ | with_reducible refine Below.setCell ?_ ?_ _ | with_reducible refine Below.alloc ?_ ?_ _ | with_reducible refine Below.drew ?_ | with_reducible refine below_drewN ?_ _ | with_reducible refine Below.step (by with_reducible assumption) ?_ ?_ | omega | (simp <;> omega) | (simp; done)))⟩
      | true =>
        cases hf : hasW (h.people.take k) s with
        | true =>
          go_wp2_with fail
          go_quiet ((first | (go_at_call 80; exact Calls.quiet_of_same ((sIsWord_any _ _ (by omega)).mono (by rintro e w' ⟨rfl, rfl⟩; exact ⟨by rw [hw], rfl⟩))) | (go_at_call 81; exact Calls.quiet_of_same ((l13Word_any _ (h.people.take k) lo hi s _ (htn _) (hzn _) hlk).mono (by rintro e w' ⟨rfl, rfl⟩; exact ⟨by rw [hf], rfl⟩)))))
          go_wp2_with fail
          go_ret
          exact ⟨ret_bool (by rw [Hearing.ok_spec, prefOk_false HS.out (by rw [hw, newW, hf]; rfl)]; rfl), by (repeat (first | with_reducible assumption | with_reducible exact Below.refl _ _ | with_reducible refine Below.setCell ?_ ?_ _ | with_reducible refine Below.alloc ?_ ?_ _ | with_reducible refine Below.drew ?_ | with_reducible refine below_drewN ?_ _ | with_reducible refine Below.step (by with_reducible assumption) ?_ ?_ | omega | (simp <;> omega) | (simp; done)))⟩
        | false =>
          go_wp2_with fail
          go_quiet ((first | (go_at_call 80; exact Calls.quiet_of_same ((sIsWord_any _ _ (by omega)).mono (by rintro e w' ⟨rfl, rfl⟩; exact ⟨by rw [hw], rfl⟩))) | (go_at_call 81; exact Calls.quiet_of_same ((l13Word_any _ (h.people.take k) lo hi s _ (htn _) (hzn _) hlk).mono (by rintro e w' ⟨rfl, rfl⟩; exact ⟨by rw [hf], rfl⟩)))))
          go_wp2_with fail
          go_roundw
          case rel => exact ⟨k + 1, by omega, by go_num, prefAll_succ HA.out HS.out (by rw [hw, newW, hf]; rfl), by (repeat (first | with_reducible assumption | with_reducible exact Below.refl _ _ | with_reducible refine Below.setCell ?_ ?_ _ | with_reducible refine Below.alloc ?_ ?_ _ | with_reducible refine Below.drew ?_ | with_reducible refine below_drewN ?_ _ | with_reducible refine Below.step (by with_reducible assumption) ?_ ?_ | omega | (simp <;> omega) | (simp; done)))⟩
          case measure => simp [intOf]; omega
    · have HL := Lib.hid (prefOk_of HA.out hk hlt)
      go_wp2_with (first | (go_at_call 73; refine (l02Is_any _ _).mono ?_; rintro e w' ⟨rfl, rfl⟩) | (go_at_call 54; refine (l01In_any _ _ _ _).mono ?_; rintro e w' ⟨rfl, rfl⟩) | (go_at_call 80; refine (sIsWord_any _ _ (by omega)).mono ?_; rintro e w' ⟨rfl, rfl⟩))
      all_goals (go_ret; exact ⟨ret_bool (by rw [Hearing.ok_spec, HL.out]; (first | (simp_all; done) | (simp_all <;> omega) | (simp_all <;> intros <;> omega))), by (repeat (first | with_reducible assumption | with_reducible exact Below.refl _ _ | with_reducible refine Below.setCell ?_ ?_ _ | with_reducible refine Below.alloc ?_ ?_ _ | with_reducible refine Below.drew ?_ | with_reducible refine below_drewN ?_ _ | with_reducible refine Below.step (by with_reducible assumption) ?_ ?_ | omega | (simp <;> omega) | (simp; done)))⟩)
end Go.Proofs.YtmgdkblleljdaaaGreat
