/- Walks of the rooms' tests: bookings, what keeps a room, what is free. -/
import Derived.Test.YtmfidoahdkipmaaDoorBase
import Derived.Test.YtmfidoahdkipmaaDoorBookingH
import Derived.StillTailTactics
import Derived.Deep.RegionHeld3
namespace Go.Proofs.YtmfidoahdkipmaaDoor
open Go.RowKit
set_option linter.unusedVariables false

def timeOk (f t : Int) : Bool := decide (0 ≤ f) && (decide (f < t) && decide (t ≤ 36))
def Booking.ok (b : Booking) : Bool := roomOk b.room && (dayOk b.day && (timeOk b.frm b.to_ && wordOk b.use))
def keepsB (r d f t : Int) (b : Booking) : Bool := (b.room == r) && ((b.day == d) && decide (max b.frm f < min b.to_ t))
def meetB (r d f t : Int) (b : Booking) : Bool := (b.room == r) && ((b.day == d) && (decide (b.frm < t) && decide (f < b.to_)))
theorem keeps_meet {r d f t : Int} {b : Booking} (hb : b.frm < b.to_) (h : f < t) : keepsB r d f t b = meetB r d f t b := by
  rw [Bool.eq_iff_iff]; simp [keepsB, meetB]; omega
theorem ok_time {b : Booking} (h : b.ok = true) : 0 ≤ b.frm ∧ b.frm < b.to_ ∧ b.to_ ≤ 36 := by
  simp [Booking.ok, timeOk] at h; omega
def freeB (xs : List Booking) (r d f t : Int) : Bool := !xs.any (meetB r d f t)
def freeK (xs : List Booking) (r d f t : Int) : Bool := !xs.any (keepsB r d f t)
theorem freeK_eq {xs : List Booking} {r d f t : Int} (hx : ∀ b ∈ xs, b.ok = true) (h : f < t) : freeK xs r d f t = freeB xs r d f t := by
  unfold freeK freeB
  congr 1
  rw [Bool.eq_iff_iff, List.any_eq_true, List.any_eq_true]
  constructor
  · rintro ⟨b, hb, hk⟩; exact ⟨b, hb, by rw [← keeps_meet (ok_time (hx b hb)).2.1 h]; exact hk⟩
  · rintro ⟨b, hb, hk⟩; exact ⟨b, hb, by rw [keeps_meet (ok_time (hx b hb)).2.1 h]; exact hk⟩

set_option maxHeartbeats 400000 in
theorem isTime_any (f t : Int) (w : World) : Calls Tryd.prog 37 #[.int .i64 f, .int .i64 t] w fun e w' => e = .returned (.bool (timeOk f t)) ∧ w = w' := by
  go_enter Tryd.func37, Tryd.ntmps37
  go_wp2
  all_goals (go_ret; exact ⟨ret_bool (by rw [Bool.eq_iff_iff]; simp [timeOk] <;> omega), rfl⟩)

set_option maxHeartbeats 400000 in
theorem l18Time_any (f t : Int) (w : World) : Calls Tryd.prog 32 #[.int .i64 f, .int .i64 t] w fun e w' => e = .returned (.bool (timeOk f t)) ∧ w = w' := by
  cases hf : inR f 0 35 with
  | true =>
    have hf' := inR_iff.1 hf
    go_enter Tryd.func32, Tryd.ntmps32
    go_wp2_with (go_at_call 30; refine (l01In_any _ _ _ _).mono ?_; rintro e w' ⟨rfl, rfl⟩)
    go_ret
    exact ⟨ret_bool (by rw [Bool.eq_iff_iff]; simp [timeOk, inR] <;> omega), rfl⟩
  | false =>
    have hf' : ¬ (0 ≤ f ∧ f ≤ 35) := by rw [← inR_iff, hf]; simp
    go_enter Tryd.func32, Tryd.ntmps32
    go_wp2_with (go_at_call 30; refine (l01In_any _ _ _ _).mono ?_; rintro e w' ⟨rfl, rfl⟩)
    go_ret
    exact ⟨ret_bool (by rw [Bool.eq_iff_iff]; simp [timeOk] <;> omega), rfl⟩

set_option maxHeartbeats 800000 in
theorem isBooking_any (b : Booking) (w : World) (hs : b.use.size ≤ 9223372036854775807) :
    Calls Tryd.prog 18 #[.agg #[.int .i64 b.room, .int .i64 b.day, .int .i64 b.frm, .int .i64 b.to_, .string b.use]] w fun e w' => e = .returned (.bool b.ok) ∧ Below w.heap.size w w' := by
  go_enter Tryd.func18, Tryd.ntmps18
  go_wp2_with (first | (go_at_call 35; refine (isCourtRoom_any _ _).mono ?_; rintro e w' ⟨rfl, rfl⟩) | (go_at_call 36; refine (isDay_any _ _).mono ?_; rintro e w' ⟨rfl, rfl⟩) | (go_at_call 37; refine (isTime_any _ _ _).mono ?_; rintro e w' ⟨rfl, rfl⟩) | (go_at_call 38; refine (IsWord_any _ _ (by omega)).mono ?_; rintro e w' ⟨rfl, rfl⟩))
  all_goals (go_ret; exact ⟨ret_bool (by simp_all [Booking.ok]), by (repeat (first | with_reducible assumption | with_reducible exact Below.refl _ _ | with_reducible refine Below.setCell ?_ ?_ _ | with_reducible refine Below.alloc ?_ ?_ _ | with_reducible refine Below.drew ?_ | with_reducible refine below_drewN ?_ _ | with_reducible refine Below.step (by with_reducible assumption) ?_ ?_ | omega | (simp <;> omega) | (simp; done)))⟩)

set_option maxHeartbeats 800000 in
theorem l18Is_any (b : Booking) (w : World) (hs : b.use.size ≤ 9223372036854775807) :
    Calls Tryd.prog 16 #[.agg #[.int .i64 b.room, .int .i64 b.day, .int .i64 b.frm, .int .i64 b.to_, .string b.use]] w fun e w' => e = .returned (.bool b.ok) ∧ Below w.heap.size w w' := by
  go_enter Tryd.func16, Tryd.ntmps16
  go_wp2_with (first | (go_at_call 30; refine (l01In_any _ _ _ _).mono ?_; rintro e w' ⟨rfl, rfl⟩) | (go_at_call 31; refine (l02Is_any _ _).mono ?_; rintro e w' ⟨rfl, rfl⟩) | (go_at_call 32; refine (l18Time_any _ _ _).mono ?_; rintro e w' ⟨rfl, rfl⟩) | (go_at_call 33; refine (sIsWord_any _ _ (by omega)).mono ?_; rintro e w' ⟨rfl, rfl⟩))
  all_goals (go_ret; exact ⟨ret_bool (by simp_all [Booking.ok, roomOk]), by (repeat (first | with_reducible assumption | with_reducible exact Below.refl _ _ | with_reducible refine Below.setCell ?_ ?_ _ | with_reducible refine Below.alloc ?_ ?_ _ | with_reducible refine Below.drew ?_ | with_reducible refine below_drewN ?_ _ | with_reducible refine Below.step (by with_reducible assumption) ?_ ?_ | omega | (simp <;> omega) | (simp; done)))⟩)


/-- A booking, held against those ahead of it. -/
def bookPref (before : List Booking) (b : Booking) : Bool := b.ok && freeB before b.room b.day b.frm b.to_
def bookingsOk (xs : List Booking) : Bool := prefOk bookPref xs && decide (xs.length ≤ 20)
theorem pref_ok_all {xs : List Booking} : ∀ {k : Nat}, prefAll bookPref xs k = true → ∀ b ∈ xs.take k, b.ok = true
  | 0, _ => by simp
  | k + 1, h => by
    simp only [prefAll, Bool.and_eq_true] at h
    intro b hb
    rw [List.take_add_one, List.mem_append] at hb
    rcases hb with hb | hb
    · exact pref_ok_all h.1 b hb
    · cases hx : xs[k]? with
      | none => rw [hx] at hb; simp at hb
      | some x =>
        rw [hx] at hb h
        simp at hb
        subst hb
        have := h.2
        simp only [bookPref, Bool.and_eq_true] at this
        exact this.1
theorem bookingsOk_all {xs : List Booking} (h : bookingsOk xs = true) : ∀ b ∈ xs, b.ok = true := by
  simp only [bookingsOk, Bool.and_eq_true] at h
  have := pref_ok_all h.1
  rwa [List.take_length] at this

theorem meet_symm (a b : Booking) : meetB a.room a.day a.frm a.to_ b = meetB b.room b.day b.frm b.to_ a := by
  rw [Bool.eq_iff_iff]; simp [meetB]; omega

end Go.Proofs.YtmfidoahdkipmaaDoor
