/- Walks: whether a hearing fits into a slot. -/
import Derived.Test.YtdcfenkkgnnbbaaHearingW
namespace Go.Proofs.Ytdcfenkkgnnbbaa
open Go.RowKit
set_option linter.unusedVariables false

set_option maxHeartbeats 800000 in
theorem fits_any (h : Hearing) (p0 : Value) (s : Slot) (w : World) (h1 : 1 ≤ h.len) (h2 : h.len ≤ 36) (h3 : 0 ≤ s.frm) (h4 : s.frm ≤ 35) :
    Calls Try.prog 76 #[.agg #[.string h.code, .int .i64 h.len, p0, .int .i64 h.last], .agg #[.int .i64 s.room, .int .i64 s.day, .int .i64 s.frm]] w fun e w' => e = .returned (.bool (fitB h s)) ∧ Below w.heap.size w w' := by
  go_enter Try.func76, Try.ntmps76
  go_wp2
  all_goals (go_ret; exact ⟨ret_bool (by first | (simp_all [fitB]; done) | (simp_all [fitB] <;> intros <;> omega)), by (repeat (first | with_reducible assumption | with_reducible exact Below.refl _ _ | with_reducible refine Below.setCell ?_ ?_ _ | with_reducible refine Below.alloc ?_ ?_ _ | with_reducible refine Below.drew ?_ | with_reducible refine below_drewN ?_ _ | with_reducible refine Below.step (by with_reducible assumption) ?_ ?_ | omega | (simp <;> omega) | (simp; done)))⟩)
set_option maxHeartbeats 800000 in
theorem l19Fits_any (h : Hearing) (p0 : Value) (s : Slot) (w : World) (h1 : 1 ≤ h.len) (h2 : h.len ≤ 36) (h3 : 0 ≤ s.frm) (h4 : s.frm ≤ 35) :
    Calls Try.prog 72 #[.agg #[.string h.code, .int .i64 h.len, p0, .int .i64 h.last], .agg #[.int .i64 s.room, .int .i64 s.day, .int .i64 s.frm]] w fun e w' => e = .returned (.bool (fitB h s)) ∧ Below w.heap.size w w' := by
  go_enter Try.func72, Try.ntmps72
  go_wp2
  all_goals (go_ret; exact ⟨ret_bool (by first | (simp_all [fitB]; done) | (simp_all [fitB] <;> intros <;> omega)), by (repeat (first | with_reducible assumption | with_reducible exact Below.refl _ _ | with_reducible refine Below.setCell ?_ ?_ _ | with_reducible refine Below.alloc ?_ ?_ _ | with_reducible refine Below.drew ?_ | with_reducible refine below_drewN ?_ _ | with_reducible refine Below.step (by with_reducible assumption) ?_ ?_ | omega | (simp <;> omega) | (simp; done)))⟩)

set_option maxRecDepth 100000 in
set_option maxHeartbeats 2000000 in
theorem doesFit_any (h : Hearing) (p0 : Value) (lo hi : Nat) (s : Slot) (w : World) (h0 : RdF encStr 1 w lo hi p0 h.people) (hh : hi ≤ w.heap.size) (hs : h.small) :
    Calls Try.prog 17 #[.agg #[.string h.code, .int .i64 h.len, p0, .int .i64 h.last], .agg #[.int .i64 s.room, .int .i64 s.day, .int .i64 s.frm]] w fun e w' => e = .returned (.tuple #[.bool (doesFit h s).1, .int .i64 (doesFit h s).2]) ∧ Below w.heap.size w w' := by
  have kA := (Blk.newAt (w := w) (n := w.heap.size) (t := 30) (cs := #[.string h.code, .int .i64 h.len, p0, .int .i64 h.last]) rfl).alloc (.cells #[.int .i64 s.room, .int .i64 s.day, .int .i64 s.frm] 32)
  have kB := Blk.newAt (w := (w.alloc (.cells #[.string h.code, .int .i64 h.len, p0, .int .i64 h.last] 30))) (n := w.heap.size + 1) (t := 32) (cs := #[.int .i64 s.room, .int .i64 s.day, .int .i64 s.frm]) (by simp)
  have hbk : Below w.heap.size w ((w.alloc (.cells #[.string h.code, .int .i64 h.len, p0, .int .i64 h.last] 30)).alloc (.cells #[.int .i64 s.room, .int .i64 s.day, .int .i64 s.frm] 32)) := ((Below.refl _ _).alloc (Nat.le_refl _) _).alloc (by simp) _
  have hzk : ((w.alloc (.cells #[.string h.code, .int .i64 h.len, p0, .int .i64 h.last] 30)).alloc (.cells #[.int .i64 s.room, .int .i64 s.day, .int .i64 s.frm] 32)).heap.size = w.heap.size + 2 := by simp
  replace h0 := h0.below hbk hh
  go_enter Try.func17, Try.ntmps17
  go_wp2_with fail
  generalize ((w.alloc (.cells #[.string h.code, .int .i64 h.len, p0, .int .i64 h.last] 30)).alloc (.cells #[.int .i64 s.room, .int .i64 s.day, .int .i64 s.frm] 32)) = W0 at *
  refine (isHearing_any h p0 lo hi _ h0 (by omega) hs).mono ?_
  rintro e w1 ⟨rfl, b1⟩
  have z1 := b1.size
  replace kA := kA.below b1 (by omega)
  replace kB := kB.below b1 (by omega)
  replace hbk := Below.step b1 (by omega) hbk
  clear b1
  obtain ⟨q0, q1, q2, q3⟩ := kA.c4
  obtain ⟨r0, r1, r2⟩ := kB.c3
  cases ho : h.ok with
  | false =>
    have HF := Lib.hid (show doesFit h s = (false, 1) by rw [doesFit, ho]; rfl)
    go_wp2_with fail
    go_ret2
    exact ⟨ret_bc HF.out.symm, by (repeat (first | with_reducible assumption | with_reducible exact Below.refl _ _ | with_reducible refine Below.setCell ?_ ?_ _ | with_reducible refine Below.alloc ?_ ?_ _ | with_reducible refine Below.drew ?_ | with_reducible refine below_drewN ?_ _ | with_reducible refine Below.step (by with_reducible assumption) ?_ ?_ | omega | (simp <;> omega) | (simp; done)))⟩
  | true =>
    go_wp2_with fail
    refine (isSlot_any s _).mono ?_
    rintro e w2 ⟨rfl, b2⟩
    have z2 := b2.size
    replace kA := kA.below b2 (by omega)
    replace kB := kB.below b2 (by omega)
    replace hbk := Below.step b2 (by omega) hbk
    clear b2 q0 q1 q2 q3 r0 r1 r2
    obtain ⟨q0, q1, q2, q3⟩ := kA.c4
    obtain ⟨r0, r1, r2⟩ := kB.c3
    cases hs' : s.ok with
    | false =>
      have HF := Lib.hid (show doesFit h s = (false, 1) by rw [doesFit, ho, hs']; rfl)
      go_wp2_with fail
      go_ret2
      exact ⟨ret_bc HF.out.symm, by (repeat (first | with_reducible assumption | with_reducible exact Below.refl _ _ | with_reducible refine Below.setCell ?_ ?_ _ | with_reducible refine Below.alloc ?_ ?_ _ | with_reducible refine Below.drew ?_ | with_reducible refine below_drewN ?_ _ | with_reducible refine Below.step (by with_reducible assumption) ?_ ?_ | omega | (simp <;> omega) | (simp; done)))⟩
    | true =>
      have HF := Lib.hid (show doesFit h s = (fitB h s, 0) by rw [doesFit, ho, hs']; rfl)
      have hob := h.ok_bounds ho
      have hsb := s.ok_bounds hs'
      go_wp2_with fail
      refine (fits_any h p0 s _ (by omega) (by omega) (by omega) (by omega)).mono ?_
      rintro e w3 ⟨rfl, b3⟩
      go_wp2_with fail
      go_ret2
      exact ⟨ret_bc HF.out.symm, by (repeat (first | with_reducible assumption | with_reducible exact Below.refl _ _ | with_reducible refine Below.setCell ?_ ?_ _ | with_reducible refine Below.alloc ?_ ?_ _ | with_reducible refine Below.drew ?_ | with_reducible refine below_drewN ?_ _ | with_reducible refine Below.step (by with_reducible assumption) ?_ ?_ | omega | (simp <;> omega) | (simp; done)))⟩
set_option maxRecDepth 100000 in
set_option maxHeartbeats 2000000 in
theorem sDoesFit_any (h : Hearing) (p0 : Value) (lo hi : Nat) (s : Slot) (w : World) (h0 : RdF encStr 1 w lo hi p0 h.people) (hh : hi ≤ w.heap.size) (hs : h.small) :
    Calls Try.prog 14 #[.agg #[.string h.code, .int .i64 h.len, p0, .int .i64 h.last], .agg #[.int .i64 s.room, .int .i64 s.day, .int .i64 s.frm]] w fun e w' => e = .returned (.tuple #[.bool (doesFit h s).1, .int .i64 (doesFit h s).2]) ∧ Below w.heap.size w w' := by
  have kA := (Blk.newAt (w := w) (n := w.heap.size) (t := 30) (cs := #[.string h.code, .int .i64 h.len, p0, .int .i64 h.last]) rfl).alloc (.cells #[.int .i64 s.room, .int .i64 s.day, .int .i64 s.frm] 32)
  have kB := Blk.newAt (w := (w.alloc (.cells #[.string h.code, .int .i64 h.len, p0, .int .i64 h.last] 30))) (n := w.heap.size + 1) (t := 32) (cs := #[.int .i64 s.room, .int .i64 s.day, .int .i64 s.frm]) (by simp)
  have hbk : Below w.heap.size w ((w.alloc (.cells #[.string h.code, .int .i64 h.len, p0, .int .i64 h.last] 30)).alloc (.cells #[.int .i64 s.room, .int .i64 s.day, .int .i64 s.frm] 32)) := ((Below.refl _ _).alloc (Nat.le_refl _) _).alloc (by simp) _
  have hzk : ((w.alloc (.cells #[.string h.code, .int .i64 h.len, p0, .int .i64 h.last] 30)).alloc (.cells #[.int .i64 s.room, .int .i64 s.day, .int .i64 s.frm] 32)).heap.size = w.heap.size + 2 := by simp
  replace h0 := h0.below hbk hh
  go_enter Try.func14, Try.ntmps14
  go_wp2_with fail
  generalize ((w.alloc (.cells #[.string h.code, .int .i64 h.len, p0, .int .i64 h.last] 30)).alloc (.cells #[.int .i64 s.room, .int .i64 s.day, .int .i64 s.frm] 32)) = W0 at *
  refine (l19Is_any h p0 lo hi _ h0 (by omega) hs).mono ?_
  rintro e w1 ⟨rfl, b1⟩
  have z1 := b1.size
  replace kA := kA.below b1 (by omega)
  replace kB := kB.below b1 (by omega)
  replace hbk := Below.step b1 (by omega) hbk
  clear b1
  obtain ⟨q0, q1, q2, q3⟩ := kA.c4
  obtain ⟨r0, r1, r2⟩ := kB.c3
  cases ho : h.ok with
  | false =>
    have HF := Lib.hid (show doesFit h s = (false, 1) by rw [doesFit, ho]; rfl)
    go_wp2_with fail
    go_ret2
    exact ⟨ret_bc HF.out.symm, by (repeat (first | with_reducible assumption | with_reducible exact Below.refl _ _ | with_reducible refine Below.setCell ?_ ?_ _ | with_reducible refine Below.alloc ?_ ?_ _ | with_reducible refine Below.drew ?_ | with_reducible refine below_drewN ?_ _ | with_reducible refine Below.step (by with_reducible assumption) ?_ ?_ | omega | (simp <;> omega) | (simp; done)))⟩
  | true =>
    go_wp2_with fail
    refine (l19Slot_any s _).mono ?_
    rintro e w2 ⟨rfl, b2⟩
    have z2 := b2.size
    replace kA := kA.below b2 (by omega)
    replace kB := kB.below b2 (by omega)
    replace hbk := Below.step b2 (by omega) hbk
    clear b2 q0 q1 q2 q3 r0 r1 r2
    obtain ⟨q0, q1, q2, q3⟩ := kA.c4
    obtain ⟨r0, r1, r2⟩ := kB.c3
    cases hs' : s.ok with
    | false =>
      have HF := Lib.hid (show doesFit h s = (false, 1) by rw [doesFit, ho, hs']; rfl)
      go_wp2_with fail
      go_ret2
      exact ⟨ret_bc HF.out.symm, by (repeat (first | with_reducible assumption | with_reducible exact Below.refl _ _ | with_reducible refine Below.setCell ?_ ?_ _ | with_reducible refine Below.alloc ?_ ?_ _ | with_reducible refine Below.drew ?_ | with_reducible refine below_drewN ?_ _ | with_reducible refine Below.step (by with_reducible assumption) ?_ ?_ | omega | (simp <;> omega) | (simp; done)))⟩
    | true =>
      have HF := Lib.hid (show doesFit h s = (fitB h s, 0) by rw [doesFit, ho, hs']; rfl)
      have hob := h.ok_bounds ho
      have hsb := s.ok_bounds hs'
      go_wp2_with fail
      refine (l19Fits_any h p0 s _ (by omega) (by omega) (by omega) (by omega)).mono ?_
      rintro e w3 ⟨rfl, b3⟩
      go_wp2_with fail
      go_ret2
      exact ⟨ret_bc HF.out.symm, by (repeat (first | with_reducible assumption | with_reducible exact Below.refl _ _ | with_reducible refine Below.setCell ?_ ?_ _ | with_reducible refine Below.alloc ?_ ?_ _ | with_reducible refine Below.drew ?_ | with_reducible refine below_drewN ?_ _ | with_reducible refine Below.step (by with_reducible assumption) ?_ ?_ | omega | (simp <;> omega) | (simp; done)))⟩
end Go.Proofs.Ytdcfenkkgnnbbaa
