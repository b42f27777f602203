/- Walks of the rooms' tests: bookings, what keeps a room, what is free. -/
import Derived.Test.YthodceeioinnoaaBase
import Derived.Test.YthodceeioinnoaaBookingH
import Derived.StillTailTactics
import Derived.Deep.RegionHeld3
namespace Go.Proofs.Ythodceeioinnoaa
open Go.RowKit
set_option linter.unusedVariables false

def timeOk (f t : Int) : Bool := decide (0 ≤ f) && (decide (f < t) && decide (t ≤ 36))
def Booking.ok (b : Booking) : Bool := roomOk b.room && (dayOk b.day && (timeOk b.frm b.to_ && wordOk b.use))
def keepsB (r d f t : Int) (b : Booking) : Bool := (b.room == r) && ((b.day == d) && decide (max b.frm f < min b.to_ t))
def meetB (r d f t : Int) (b : Booking) : Bool := (b.room == r) && ((b.day == d) && (decide (b.frm < t) && decide (f < b.to_)))
theorem keeps_meet {r d f t : Int} {b : Booking} (hb : b.frm < b.to_) (h : f < t) : keepsB r d f t b = meetB r d f t b := by
  rw [Bool.eq_iff_iff]; simp [keepsB, meetB]; omega
theorem ok_time {b : Booking} (h : b.ok = true) : 0 ≤ b.frm ∧ b.frm < b.to_ ∧ b.to_ ≤ 36 := by
  simp [Booking.ok, timeOk] at h; omega
def freeB (xs : List Booking) (r d f t : Int) : Bool := !xs.any (meetB r d f t)
def freeK (xs : List Booking) (r d f t : Int) : Bool := !xs.any (keepsB r d f t)
theorem freeK_eq {xs : List Booking} {r d f t : Int} (hx : ∀ b ∈ xs, b.ok = true) (h : f < t) : freeK xs r d f t = freeB xs r d f t := by
  unfold freeK freeB
  congr 1
  rw [Bool.eq_iff_iff, List.any_eq_true, List.any_eq_true]
  constructor
  · rintro ⟨b, hb, hk⟩; exact ⟨b, hb, by rw [← keeps_meet (ok_time (hx b hb)).2.1 h]; exact hk⟩
  · rintro ⟨b, hb, hk⟩; exact ⟨b, hb, by rw [keeps_meet (ok_time (hx b hb)).2.1 h]; exact hk⟩

set_option maxHeartbeats 400000 in
theorem isTime_any (f t : Int) (w : World) : Calls Try.prog 76 #[.int .i64 f, .int .i64 t] w fun e w' => e = .returned (.bool (timeOk f t)) ∧ w = w' := by
  go_enter Try.func76, Try.ntmps76
  go_wp2
  all_goals (go_ret; exact ⟨ret_bool (by rw [Bool.eq_iff_iff]; simp [timeOk] <;> omega), rfl⟩)

set_option maxHeartbeats 400000 in
theorem l18Time_any (f t : Int) (w : World) : Calls Try.prog 75 #[.int .i64 f, .int .i64 t] w fun e w' => e = .returned (.bool (timeOk f t)) ∧ w = w' := by
  cases hf : inR f 0 35 with
  | true =>
    have hf' := inR_iff.1 hf
    go_enter Try.func75, Try.ntmps75
    go_wp2_with (go_at_call 69; refine (l01In_any _ _ _ _).mono ?_; rintro e w' ⟨rfl, rfl⟩)
    go_ret
    exact ⟨ret_bool (by rw [Bool.eq_iff_iff]; simp [timeOk, inR] <;> omega), rfl⟩
  | false =>
    have hf' : ¬ (0 ≤ f ∧ f ≤ 35) := by rw [← inR_iff, hf]; simp
    go_enter Try.func75, Try.ntmps75
    go_wp2_with (go_at_call 69; refine (l01In_any _ _ _ _).mono ?_; rintro e w' ⟨rfl, rfl⟩)
    go_ret
    exact ⟨ret_bool (by rw [Bool.eq_iff_iff]; simp [timeOk] <;> omega), rfl⟩

set_option maxHeartbeats 800000 in
theorem isBooking_any (b : Booking) (w : World) (hs : b.use.size ≤ 9223372036854775807) :
    Calls Try.prog 62 #[.agg #[.int .i64 b.room, .int .i64 b.day, .int .i64 b.frm, .int .i64 b.to_, .string b.use]] w fun e w' => e = .returned (.bool b.ok) ∧ Below w.heap.size w w' := by
  go_enter Try.func62, Try.ntmps62
  go_wp2_with (first | (go_at_call 96; refine (isCourtRoom_any _ _).mono ?_; rintro e w' ⟨rfl, rfl⟩) | (go_at_call 88; refine (isDay_any _ _).mono ?_; rintro e w' ⟨rfl, rfl⟩) | (go_at_call 76; refine (isTime_any _ _ _).mono ?_; rintro e w' ⟨rfl, rfl⟩) | (go_at_call 74; refine (IsWord_any _ _ (by omega)).mono ?_; rintro e w' ⟨rfl, rfl⟩))
  all_goals (go_ret; exact ⟨ret_bool (by simp_all [Booking.ok]), by (repeat (first | with_reducible assumption | with_reducible exact Below.refl _ _ | with_reducible refine Below.setCell ?_ ?_ _ | with_reducible refine Below.alloc ?_ ?_ _ | with_reducible refine Below.drew ?_ | with_reducible refine below_drewN ?_ _ | with_reducible refine Below.step (by with_reducible assumption) ?_ ?_ | omega | (simp <;> omega) | (simp; done)))⟩)

set_option maxHeartbeats 800000 in
theorem l18Is_any (b : Booking) (w : World) (hs : b.use.size ≤ 9223372036854775807) :
    Calls Try.prog 60 #[.agg #[.int .i64 b.room, .int .i64 b.day, .int .i64 b.frm, .int .i64 b.to_, .string b.use]] w fun e w' => e = .returned (.bool b.ok) ∧ Below w.heap.size w w' := by
  go_enter Try.func60, Try.ntmps60
  go_wp2_with (first | (go_at_call 69; refine (l01In_any _ _ _ _).mono ?_; rintro e w' ⟨rfl, rfl⟩) | (go_at_call 85; refine (l02Is_any _ _).mono ?_; rintro e w' ⟨rfl, rfl⟩) | (go_at_call 75; refine (l18Time_any _ _ _).mono ?_; rintro e w' ⟨rfl, rfl⟩) | (go_at_call 73; refine (sIsWord_any _ _ (by omega)).mono ?_; rintro e w' ⟨rfl, rfl⟩))
  all_goals (go_ret; exact ⟨ret_bool (by simp_all [Booking.ok, roomOk]), by (repeat (first | with_reducible assumption | with_reducible exact Below.refl _ _ | with_reducible refine Below.setCell ?_ ?_ _ | with_reducible refine Below.alloc ?_ ?_ _ | with_reducible refine Below.drew ?_ | with_reducible refine below_drewN ?_ _ | with_reducible refine Below.step (by with_reducible assumption) ?_ ?_ | omega | (simp <;> omega) | (simp; done)))⟩)

set_option maxHeartbeats 800000 in
theorem keeps_any (b : Booking) (r d f t : Int) (w : World) :
    Calls Try.prog 97 #[.agg #[.int .i64 b.room, .int .i64 b.day, .int .i64 b.frm, .int .i64 b.to_, .string b.use], .int .i64 r, .int .i64 d, .int .i64 f, .int .i64 t] w fun e w' => e = .returned (.bool (keepsB r d f t b)) ∧ Below w.heap.size w w' := by
  go_enter Try.func97, Try.ntmps97
  go_wp2
  all_goals (go_ret; exact ⟨ret_bool (by simp_all [keepsB] <;> omega), by (repeat (first | with_reducible assumption | with_reducible exact Below.refl _ _ | with_reducible refine Below.setCell ?_ ?_ _ | with_reducible refine Below.alloc ?_ ?_ _ | with_reducible refine Below.drew ?_ | with_reducible refine below_drewN ?_ _ | with_reducible refine Below.step (by with_reducible assumption) ?_ ?_ | omega | (simp <;> omega) | (simp; done)))⟩)

set_option maxHeartbeats 800000 in
theorem l18Meet_any (a b : Booking) (w : World) :
    Calls Try.prog 61 #[.agg #[.int .i64 a.room, .int .i64 a.day, .int .i64 a.frm, .int .i64 a.to_, .string a.use], .agg #[.int .i64 b.room, .int .i64 b.day, .int .i64 b.frm, .int .i64 b.to_, .string b.use]] w fun e w' => e = .returned (.bool (meetB b.room b.day b.frm b.to_ a)) ∧ Below w.heap.size w w' := by
  go_enter Try.func61, Try.ntmps61
  go_wp2
  all_goals (go_ret; exact ⟨ret_bool (by simp_all [meetB] <;> omega), by (repeat (first | with_reducible assumption | with_reducible exact Below.refl _ _ | with_reducible refine Below.setCell ?_ ?_ _ | with_reducible refine Below.alloc ?_ ?_ _ | with_reducible refine Below.drew ?_ | with_reducible refine below_drewN ?_ _ | with_reducible refine Below.step (by with_reducible assumption) ?_ ?_ | omega | (simp <;> omega) | (simp; done)))⟩)

set_option maxHeartbeats 800000 in
theorem isFree_any (v : Value) (xs : List Booking) (lo hi : Nat) (r d f t : Int) (w : World) (h : RdF Booking.enc 5 w lo hi v xs) (hh : hi ≤ w.heap.size) (hm : xs.length ≤ 1048576) :
    Calls Try.prog 63 #[v, .int .i64 r, .int .i64 d, .int .i64 f, .int .i64 t] w fun e w' => e = .returned (.bool (freeK xs r d f t)) ∧ Below w.heap.size w w' := by
  obtain ⟨A, c, rfl, hc, hA⟩ := h
  go_enter Try.func63, Try.ntmps63
  go_wp2
  go_loopw [12, 15] (fun _ i wr => ∃ k : Nat, k ≤ xs.length ∧ i = .int .i64 k ∧ Hid ((xs.take k).any (keepsB r d f t) = false) ∧ Below w.heap.size w wr) (fun _ i _ => xs.length - (intOf i).toNat)
  case atStart => exact ⟨0, Nat.zero_le _, rfl, rfl, Below.refl _ _⟩
  case round =>
    obtain ⟨k, hk, rfl, HA, hb⟩ := hrel
    have z0 := hb.size
    by_cases hlt : k < xs.length
    · obtain ⟨b, off, rfl, -, hbw, hcell⟩ := hA (by omega)
      have hs : xs[k]? = some xs[k] := List.getElem?_eq_getElem hlt
      have c0 : wr.cell? ⟨b, off + k * 5, none⟩ = _ := (hb.cell (p := ⟨b, off + k * 5, none⟩) (by omega : b < _)).trans (hcell k _ hs 0 _ rfl)
      have c1 := (hb.cell (p := ⟨b, off + k * 5 + 1, none⟩) (by omega : b < _)).trans (hcell k _ hs 1 _ rfl)
      have c2 := (hb.cell (p := ⟨b, off + k * 5 + 2, none⟩) (by omega : b < _)).trans (hcell k _ hs 2 _ rfl)
      have c3 := (hb.cell (p := ⟨b, off + k * 5 + 3, none⟩) (by omega : b < _)).trans (hcell k _ hs 3 _ rfl)
      have c4 := (hb.cell (p := ⟨b, off + k * 5 + 4, none⟩) (by omega : b < _)).trans (hcell k _ hs 4 _ rfl)
      clear hcell hA
      have HS := Lib.hid hs; clear hs
      generalize xs[k] = s at *
      go_wp2_with (go_at_call 97; refine (keeps_any s r d f t _).mono ?_; rintro e w1 ⟨rfl, hb1⟩)
      · have hf : keepsB r d f t s = true := by assumption
        go_ret
        exact ⟨ret_bool (by rw [freeK, any_true_of HS.out hf]; rfl), by (repeat (first | with_reducible assumption | with_reducible exact Below.refl _ _ | with_reducible refine Below.setCell ?_ ?_ _ | with_reducible refine Below.alloc ?_ ?_ _ | with_reducible refine Below.drew ?_ | with_reducible refine below_drewN ?_ _ | with_reducible refine Below.step (by with_reducible assumption) ?_ ?_ | omega | (simp <;> omega) | (simp; done)))⟩
      · have hf : keepsB r d f t s = false := by assumption
        go_roundw
        case rel => exact ⟨k + 1, by omega, by go_num, any_take_succ HA.out HS.out hf, by (repeat (first | with_reducible assumption | with_reducible exact Below.refl _ _ | with_reducible refine Below.setCell ?_ ?_ _ | with_reducible refine Below.alloc ?_ ?_ _ | with_reducible refine Below.drew ?_ | with_reducible refine below_drewN ?_ _ | with_reducible refine Below.step (by with_reducible assumption) ?_ ?_ | omega | (simp <;> omega) | (simp; done)))⟩
        case measure => simp [intOf]; omega
    · go_wp2
      go_ret
      exact ⟨ret_bool (by rw [freeK, any_of_take HA.out hlt]; rfl), by (repeat (first | with_reducible assumption | with_reducible exact Below.refl _ _ | with_reducible refine Below.setCell ?_ ?_ _ | with_reducible refine Below.alloc ?_ ?_ _ | with_reducible refine Below.drew ?_ | with_reducible refine below_drewN ?_ _ | with_reducible refine Below.step (by with_reducible assumption) ?_ ?_ | omega | (simp <;> omega) | (simp; done)))⟩

set_option maxHeartbeats 800000 in
theorem l18Free_any (v : Value) (xs : List Booking) (lo hi : Nat) (r d f t : Int) (w : World) (h : RdF Booking.enc 5 w lo hi v xs) (hh : hi ≤ w.heap.size) (hm : xs.length ≤ 1048576) :
    Calls Try.prog 67 #[v, .int .i64 r, .int .i64 d, .int .i64 f, .int .i64 t] w fun e w' => e = .returned (.bool (freeB xs r d f t)) ∧ Below w.heap.size w w' := by
  obtain ⟨A, c, rfl, hc, hA⟩ := h
  go_enter Try.func67, Try.ntmps67
  go_wp2
  go_loopw [11] (fun i wr => ∃ k : Nat, k ≤ xs.length ∧ i = .int .i64 k ∧ Hid ((xs.take k).any (meetB r d f t) = false) ∧ Below w.heap.size w wr) (fun i _ => xs.length - (intOf i).toNat)
  case atStart => exact ⟨0, Nat.zero_le _, rfl, rfl, Below.refl _ _⟩
  case round =>
    obtain ⟨k, hk, rfl, HA, hb⟩ := hrel
    have z0 := hb.size
    by_cases hlt : k < xs.length
    · obtain ⟨b, off, rfl, -, hbw, hcell⟩ := hA (by omega)
      have hs : xs[k]? = some xs[k] := List.getElem?_eq_getElem hlt
      have c0 : wr.cell? ⟨b, off + k * 5, none⟩ = _ := (hb.cell (p := ⟨b, off + k * 5, none⟩) (by omega : b < _)).trans (hcell k _ hs 0 _ rfl)
      have c1 := (hb.cell (p := ⟨b, off + k * 5 + 1, none⟩) (by omega : b < _)).trans (hcell k _ hs 1 _ rfl)
      have c2 := (hb.cell (p := ⟨b, off + k * 5 + 2, none⟩) (by omega : b < _)).trans (hcell k _ hs 2 _ rfl)
      have c3 := (hb.cell (p := ⟨b, off + k * 5 + 3, none⟩) (by omega : b < _)).trans (hcell k _ hs 3 _ rfl)
      have c4 := (hb.cell (p := ⟨b, off + k * 5 + 4, none⟩) (by omega : b < _)).trans (hcell k _ hs 4 _ rfl)
      clear hcell hA
      have HS := Lib.hid hs; clear hs
      generalize xs[k] = s at *
      go_wp2_with (go_at_call 61; refine (l18Meet_any s ⟨r, d, f, t, ByteArray.empty⟩ _).mono ?_; rintro e w1 ⟨rfl, hb1⟩)
      · have hf : meetB r d f t s = true := by assumption
        go_ret
        exact ⟨ret_bool (by rw [freeB, any_true_of HS.out hf]; rfl), by (repeat (first | with_reducible assumption | with_reducible exact Below.refl _ _ | with_reducible refine Below.setCell ?_ ?_ _ | with_reducible refine Below.alloc ?_ ?_ _ | with_reducible refine Below.drew ?_ | with_reducible refine below_drewN ?_ _ | with_reducible refine Below.step (by with_reducible assumption) ?_ ?_ | omega | (simp <;> omega) | (simp; done)))⟩
      · have hf : meetB r d f t s = false := by assumption
        go_roundw
        case rel => exact ⟨k + 1, by omega, by go_num, any_take_succ HA.out HS.out hf, by (repeat (first | with_reducible assumption | with_reducible exact Below.refl _ _ | with_reducible refine Below.setCell ?_ ?_ _ | with_reducible refine Below.alloc ?_ ?_ _ | with_reducible refine Below.drew ?_ | with_reducible refine below_drewN ?_ _ | with_reducible refine Below.step (by with_reducible assumption) ?_ ?_ | omega | (simp <;> omega) | (simp; done)))⟩
        case measure => simp [intOf]; omega
    · go_wp2
      go_ret
      exact ⟨ret_bool (by rw [freeB, any_of_take HA.out hlt]; rfl), by (repeat (first | with_reducible assumption | with_reducible exact Below.refl _ _ | with_reducible refine Below.setCell ?_ ?_ _ | with_reducible refine Below.alloc ?_ ?_ _ | with_reducible refine Below.drew ?_ | with_reducible refine below_drewN ?_ _ | with_reducible refine Below.step (by with_reducible assumption) ?_ ?_ | omega | (simp <;> omega) | (simp; done)))⟩

/-- A booking, held against those ahead of it. -/
def bookPref (before : List Booking) (b : Booking) : Bool := b.ok && freeB before b.room b.day b.frm b.to_
def bookingsOk (xs : List Booking) : Bool := prefOk bookPref xs && decide (xs.length ≤ 20)
theorem pref_ok_all {xs : List Booking} : ∀ {k : Nat}, prefAll bookPref xs k = true → ∀ b ∈ xs.take k, b.ok = true
  | 0, _ => by simp
  | k + 1, h => by
    simp only [prefAll, Bool.and_eq_true] at h
    intro b hb
    rw [List.take_add_one, List.mem_append] at hb
    rcases hb with hb | hb
    · exact pref_ok_all h.1 b hb
    · cases hx : xs[k]? with
      | none => rw [hx] at hb; simp at hb
      | some x =>
        rw [hx] at hb h
        simp at hb
        subst hb
        have := h.2
        simp only [bookPref, Bool.and_eq_true] at this
        exact this.1
theorem bookingsOk_all {xs : List Booking} (h : bookingsOk xs = true) : ∀ b ∈ xs, b.ok = true := by
  simp only [bookingsOk, Bool.and_eq_true] at h
  have := pref_ok_all h.1
  rwa [List.take_length] at this

set_option maxRecDepth 100000 in
set_option maxHeartbeats 2000000 in
theorem areBookings_any (v : Value) (xs : List Booking) (lo hi : Nat) (w : World) (h : RdF Booking.enc 5 w lo hi v xs) (hh : hi ≤ w.heap.size) (hm : xs.length ≤ 1048576) (hms : ∀ x ∈ xs, Booking.small x) :
    Calls Try.prog 18 #[v] w fun e w' => e = .returned (.bool (bookingsOk xs)) ∧ Below w.heap.size w w' := by
  obtain ⟨A, c, rfl, hcap, hA⟩ := h
  have HM := Lib.hid hms; clear hms
  go_enter Try.func18, Try.ntmps18
  go_wp2
  go_loopw [3, 4, 7] (fun _ _ i wr => ∃ k : Nat, k ≤ xs.length ∧ i = .int .i64 k ∧ Hid (prefAll bookPref xs k = true) ∧ Below w.heap.size w wr) (fun _ _ i _ => xs.length - (intOf i).toNat)
  case atStart => exact ⟨0, Nat.zero_le _, rfl, rfl, by (repeat (first | with_reducible assumption | with_reducible exact Below.refl _ _ | with_reducible refine Below.setCell ?_ ?_ _ | with_reducible refine Below.alloc ?_ ?_ _ | with_reducible refine Below.drew ?_ | with_reducible refine below_drewN ?_ _ | with_reducible refine Below.step (by with_reducible assumption) ?_ ?_ | omega | (simp <;> omega) | (simp; done)))⟩
  case round =>
    obtain ⟨k, hk, rfl, HA, hbel⟩ := hrel
    have z0 := hbel.size
    by_cases hlt : k < xs.length
    · obtain ⟨b, off, rfl, hlo, hbw, hcell⟩ := hA (by omega)
      have hs : xs[k]? = some xs[k] := List.getElem?_eq_getElem hlt
      have c0 : wr.cell? ⟨b, off + k * 5, none⟩ = _ := (hbel.cell (p := ⟨b, off + k * 5, none⟩) (by omega : b < _)).trans (hcell k _ hs 0 _ rfl)
      have c1 := (hbel.cell (p := ⟨b, off + k * 5 + 1, none⟩) (by omega : b < _)).trans (hcell k _ hs 1 _ rfl)
      have c2 := (hbel.cell (p := ⟨b, off + k * 5 + 2, none⟩) (by omega : b < _)).trans (hcell k _ hs 2 _ rfl)
      have c3 := (hbel.cell (p := ⟨b, off + k * 5 + 3, none⟩) (by omega : b < _)).trans (hcell k _ hs 3 _ rfl)
      have c4 := (hbel.cell (p := ⟨b, off + k * 5 + 4, none⟩) (by omega : b < _)).trans (hcell k _ hs 4 _ rfl)
      have ht := RdF.take (i := k) (by omega) hcap hlo hbw hcell
      clear hcell hA
      have hsm := HM.out _ (List.mem_of_getElem? hs)
      have HS := Lib.hid hs; clear hs
      generalize xs[k] = s at *
      unfold Booking.small at hsm
      go_wp2_with fail
      have d0 : (wr.alloc (.cells #[.int .i64 s.room, .int .i64 s.day, .int .i64 s.frm, .int .i64 s.to_, .string s.use] 41)).cell? ⟨wr.heap.size, 0, none⟩ = some (.int .i64 s.room) := by simp
      have d1 : (wr.alloc (.cells #[.int .i64 s.room, .int .i64 s.day, .int .i64 s.frm, .int .i64 s.to_, .string s.use] 41)).cell? ⟨wr.heap.size, 1, none⟩ = some (.int .i64 s.day) := by simp
      have d2 : (wr.alloc (.cells #[.int .i64 s.room, .int .i64 s.day, .int .i64 s.frm, .int .i64 s.to_, .string s.use] 41)).cell? ⟨wr.heap.size, 2, none⟩ = some (.int .i64 s.frm) := by simp
      have d3 : (wr.alloc (.cells #[.int .i64 s.room, .int .i64 s.day, .int .i64 s.frm, .int .i64 s.to_, .string s.use] 41)).cell? ⟨wr.heap.size, 3, none⟩ = some (.int .i64 s.to_) := by simp
      have d4 : (wr.alloc (.cells #[.int .i64 s.room, .int .i64 s.day, .int .i64 s.frm, .int .i64 s.to_, .string s.use] 41)).cell? ⟨wr.heap.size, 4, none⟩ = some (.string s.use) := by simp
      have zW : wr.heap.size < (wr.alloc (.cells #[.int .i64 s.room, .int .i64 s.day, .int .i64 s.frm, .int .i64 s.to_, .string s.use] 41)).heap.size := by simp
      have hW : Below w.heap.size w (wr.alloc (.cells #[.int .i64 s.room, .int .i64 s.day, .int .i64 s.frm, .int .i64 s.to_, .string s.use] 41)) := by (repeat (first | with_reducible assumption | with_reducible exact Below.refl _ _ | with_reducible refine Below.setCell ?_ ?_ _ | with_reducible refine Below.alloc ?_ ?_ _ | with_reducible refine Below.drew ?_ | with_reducible refine below_drewN ?_ _ | with_reducible refine Below.step (by with_reducible assumption) ?_ ?_ | omega | (simp <;> omega) | (simp; done)))
      have htW := ht.below hW hh
      clear c0 c1 c2 c3 c4 hbel
      generalize wr.alloc (.cells #[.int .i64 s.room, .int .i64 s.day, .int .i64 s.frm, .int .i64 s.to_, .string s.use] 41) = wo at *
      generalize wr.heap.size = B0 at *
      have hki : (k : Int) ≤ (c : Int) := by omega
      have g0 := Cls.cell zW d0
      have g1 := Cls.cell zW d1
      have g2 := Cls.cell zW d2
      have g3 := Cls.cell zW d3
      have g4 := Cls.cell zW d4
      have zz := hW.size
      cases ho : s.ok with
      | false =>
        refine wp_region_cls wo.heap.size wo (by kernel_rfl) (by kernel_rfl) (Below.refl _ _) ?_
        repeat (go_big_quiet_step ((first | (go_at_call 62; refine Calls.cls (Nat.le_refl _) (isBooking_any s _ (by omega))))))
        refine wpQuiet_nil ?_
        rintro _ ⟨⟨w1, hb1⟩, rfl⟩
        clear g0 g1 g2 g3 g4
        go_wp2_with fail
        go_ret
        exact ⟨ret_bool (by rw [bookingsOk, prefOk_false HS.out (by rw [bookPref, ho]; rfl)]; rfl), by (repeat (first | with_reducible assumption | with_reducible exact Below.refl _ _ | with_reducible refine Below.setCell ?_ ?_ _ | with_reducible refine Below.alloc ?_ ?_ _ | with_reducible refine Below.drew ?_ | with_reducible refine below_drewN ?_ _ | with_reducible refine Below.step (by with_reducible assumption) ?_ ?_ | omega | (simp <;> omega) | (simp; done)))⟩
      | true =>
        have gt : ∀ n : Cls wo.heap.size wo, RdF Booking.enc 5 n.w lo hi (.slice (some ⟨b, off, none⟩) k c) (xs.take k) := fun n => htW.below n.h (by omega)
        have gz : ∀ n : Cls wo.heap.size wo, hi ≤ n.w.heap.size := fun n => by have := n.h.size; omega
        have hlk : (xs.take k).length ≤ 1048576 := by simp; omega
        have HFr := Lib.hid (freeK_eq (xs := xs.take k) (r := s.room) (d := s.day) (pref_ok_all HA.out) (ok_time ho).2.1)
        cases hf : freeB (xs.take k) s.room s.day s.frm s.to_ with
        | false =>
          have hfk := HFr.out.trans hf
          refine wp_region_cls wo.heap.size wo (by kernel_rfl) (by kernel_rfl) (Below.refl _ _) ?_
          repeat (go_big_quiet_step ((first | (go_at_call 62; refine Calls.cls (Nat.le_refl _) (isBooking_any s _ (by omega))) | (go_at_call 63; refine Calls.cls (Nat.le_refl _) (isFree_any _ (xs.take k) lo hi _ _ _ _ _ (gt _) (gz _) hlk)))))
          refine wpQuiet_nil ?_
          rintro _ ⟨⟨w1, hb1⟩, rfl⟩
          clear g0 g1 g2 g3 g4 gt gz
          go_wp2_with fail
          go_ret
          exact ⟨ret_bool (by rw [bookingsOk, prefOk_false HS.out (by rw [bookPref, ho, hf]; rfl)]; rfl), by (repeat (first | with_reducible assumption | with_reducible exact Below.refl _ _ | with_reducible refine Below.setCell ?_ ?_ _ | with_reducible refine Below.alloc ?_ ?_ _ | with_reducible refine Below.drew ?_ | with_reducible refine below_drewN ?_ _ | with_reducible refine Below.step (by with_reducible assumption) ?_ ?_ | omega | (simp <;> omega) | (simp; done)))⟩
        | true =>
          have hfk := HFr.out.trans hf
          refine wp_region_cls wo.heap.size wo (by kernel_rfl) (by kernel_rfl) (Below.refl _ _) ?_
          repeat (go_big_quiet_step ((first | (go_at_call 62; refine Calls.cls (Nat.le_refl _) (isBooking_any s _ (by omega))) | (go_at_call 63; refine Calls.cls (Nat.le_refl _) (isFree_any _ (xs.take k) lo hi _ _ _ _ _ (gt _) (gz _) hlk)))))
          refine wpQuiet_nil ?_
          rintro _ ⟨⟨w1, hb1⟩, rfl⟩
          clear g0 g1 g2 g3 g4 gt gz
          go_wp2_with fail
          go_roundw
          case rel => exact ⟨k + 1, by omega, by go_num, prefAll_succ HA.out HS.out (by rw [bookPref, ho, hf]; rfl), by (repeat (first | with_reducible assumption | with_reducible exact Below.refl _ _ | with_reducible refine Below.setCell ?_ ?_ _ | with_reducible refine Below.alloc ?_ ?_ _ | with_reducible refine Below.drew ?_ | with_reducible refine below_drewN ?_ _ | with_reducible refine Below.step (by with_reducible assumption) ?_ ?_ | omega | (simp <;> omega) | (simp; done)))⟩
          case measure => simp [intOf]; omega
    · go_wp2_with (go_at_call 64; refine (few_any _ _ _).mono ?_; rintro e w' ⟨rfl, rfl⟩)
      go_ret
      exact ⟨ret_bool (by rw [bookingsOk, prefOk_of HA.out hk hlt, Bool.eq_iff_iff]; simp <;> omega), by (repeat (first | with_reducible assumption | with_reducible exact Below.refl _ _ | with_reducible refine Below.setCell ?_ ?_ _ | with_reducible refine Below.alloc ?_ ?_ _ | with_reducible refine Below.drew ?_ | with_reducible refine below_drewN ?_ _ | with_reducible refine Below.step (by with_reducible assumption) ?_ ?_ | omega | (simp <;> omega) | (simp; done)))⟩
theorem meet_symm (a b : Booking) : meetB a.room a.day a.frm a.to_ b = meetB b.room b.day b.frm b.to_ a := by
  rw [Bool.eq_iff_iff]; simp [meetB]; omega

set_option maxRecDepth 100000 in
set_option maxHeartbeats 2000000 in
theorem sAreBookings_any (v : Value) (xs : List Booking) (lo hi : Nat) (w : World) (h : RdF Booking.enc 5 w lo hi v xs) (hh : hi ≤ w.heap.size) (hm : xs.length ≤ 1048576) (hms : ∀ x ∈ xs, Booking.small x) :
    Calls Try.prog 16 #[v] w fun e w' => e = .returned (.bool (bookingsOk xs)) ∧ Below w.heap.size w w' := by
  obtain ⟨A, c, rfl, hcap, hA⟩ := h
  have HM := Lib.hid hms; clear hms
  go_enter Try.func16, Try.ntmps16
  go_wp2
  go_loopw [3, 4] (fun i _ wr => ∃ k : Nat, k ≤ xs.length ∧ i = .int .i64 k ∧ Hid (prefAll bookPref xs k = true) ∧ Below w.heap.size w wr) (fun i _ _ => xs.length - (intOf i).toNat)
  case atStart => exact ⟨0, Nat.zero_le _, rfl, rfl, by (repeat (first | with_reducible assumption | with_reducible exact Below.refl _ _ | with_reducible refine Below.setCell ?_ ?_ _ | with_reducible refine Below.alloc ?_ ?_ _ | with_reducible refine Below.drew ?_ | with_reducible refine below_drewN ?_ _ | with_reducible refine Below.step (by with_reducible assumption) ?_ ?_ | omega | (simp <;> omega) | (simp; done)))⟩
  case round =>
    obtain ⟨k, hk, rfl, HA, hbel⟩ := hrel
    have z0 := hbel.size
    by_cases hlt : k < xs.length
    · obtain ⟨b, off, rfl, hlo, hbw, hcell⟩ := hA (by omega)
      have hs : xs[k]? = some xs[k] := List.getElem?_eq_getElem hlt
      have c0 : wr.cell? ⟨b, off + k * 5, none⟩ = _ := (hbel.cell (p := ⟨b, off + k * 5, none⟩) (by omega : b < _)).trans (hcell k _ hs 0 _ rfl)
      have c1 := (hbel.cell (p := ⟨b, off + k * 5 + 1, none⟩) (by omega : b < _)).trans (hcell k _ hs 1 _ rfl)
      have c2 := (hbel.cell (p := ⟨b, off + k * 5 + 2, none⟩) (by omega : b < _)).trans (hcell k _ hs 2 _ rfl)
      have c3 := (hbel.cell (p := ⟨b, off + k * 5 + 3, none⟩) (by omega : b < _)).trans (hcell k _ hs 3 _ rfl)
      have c4 := (hbel.cell (p := ⟨b, off + k * 5 + 4, none⟩) (by omega : b < _)).trans (hcell k _ hs 4 _ rfl)
      clear hA
      have HC := Lib.hid hcell; clear hcell
      have hsm := HM.out _ (List.mem_of_getElem? hs)
      have HS := Lib.hid hs; clear hs
      generalize xs[k] = s at *
      unfold Booking.small at hsm
      cases ho : s.ok with
      | false =>
        go_wp2_with (go_at_call 60; refine (l18Is_any s _ (by omega)).mono ?_; rintro e w1 ⟨rfl, hb1⟩; rw [ho])
        go_ret
        exact ⟨ret_bool (by rw [bookingsOk, prefOk_false HS.out (by simp_all [bookPref])]; rfl), by (repeat (first | with_reducible assumption | with_reducible exact Below.refl _ _ | with_reducible refine Below.setCell ?_ ?_ _ | with_reducible refine Below.alloc ?_ ?_ _ | with_reducible refine Below.drew ?_ | with_reducible refine below_drewN ?_ _ | with_reducible refine Below.step (by with_reducible assumption) ?_ ?_ | omega | (simp <;> omega) | (simp; done)))⟩
      | true =>
        have HO := Lib.hid ho
        go_wp2_with (go_at_call 60; refine (l18Is_any s _ (by omega)).mono ?_; rintro e w1 ⟨rfl, hb1⟩; rw [ho])
        clear ho
        have hW : Below w.heap.size w w1 := by (repeat (first | with_reducible assumption | with_reducible exact Below.refl _ _ | with_reducible refine Below.setCell ?_ ?_ _ | with_reducible refine Below.alloc ?_ ?_ _ | with_reducible refine Below.drew ?_ | with_reducible refine below_drewN ?_ _ | with_reducible refine Below.step (by with_reducible assumption) ?_ ?_ | omega | (simp <;> omega) | (simp; done)))
        clear hbel hb1 c0 c1 c2 c3 c4
        go_loopw [4] (fun i wi => ∃ j : Nat, j ≤ k ∧ i = .int .i64 j ∧ Hid ((xs.take j).any (meetB s.room s.day s.frm s.to_) = false) ∧ Below w.heap.size w wi) (fun i _ => k - (intOf i).toNat)
        case atStart => exact ⟨0, Nat.zero_le _, rfl, rfl, hW⟩
        case round =>
          obtain ⟨j, hj, rfl, HJ, hi⟩ := hrel
          have z1 := hi.size
          clear hW
          by_cases hjk : j < k
          · have hs' : xs[j]? = some xs[j] := List.getElem?_eq_getElem (by omega)
            have c0 : wr.cell? ⟨b, off + k * 5, none⟩ = _ := (hi.cell (p := ⟨b, off + k * 5, none⟩) (by omega : b < _)).trans (HC.out k _ HS.out 0 _ rfl)
            have c1 := (hi.cell (p := ⟨b, off + k * 5 + 1, none⟩) (by omega : b < _)).trans (HC.out k _ HS.out 1 _ rfl)
            have c2 := (hi.cell (p := ⟨b, off + k * 5 + 2, none⟩) (by omega : b < _)).trans (HC.out k _ HS.out 2 _ rfl)
            have c3 := (hi.cell (p := ⟨b, off + k * 5 + 3, none⟩) (by omega : b < _)).trans (HC.out k _ HS.out 3 _ rfl)
            have c4 := (hi.cell (p := ⟨b, off + k * 5 + 4, none⟩) (by omega : b < _)).trans (HC.out k _ HS.out 4 _ rfl)
            have d0 : wr.cell? ⟨b, off + j * 5, none⟩ = _ := (hi.cell (p := ⟨b, off + j * 5, none⟩) (by omega : b < _)).trans (HC.out j _ hs' 0 _ rfl)
            have d1 := (hi.cell (p := ⟨b, off + j * 5 + 1, none⟩) (by omega : b < _)).trans (HC.out j _ hs' 1 _ rfl)
            have d2 := (hi.cell (p := ⟨b, off + j * 5 + 2, none⟩) (by omega : b < _)).trans (HC.out j _ hs' 2 _ rfl)
            have d3 := (hi.cell (p := ⟨b, off + j * 5 + 3, none⟩) (by omega : b < _)).trans (HC.out j _ hs' 3 _ rfl)
            have d4 := (hi.cell (p := ⟨b, off + j * 5 + 4, none⟩) (by omega : b < _)).trans (HC.out j _ hs' 4 _ rfl)
            have HS' := Lib.hid hs'; clear hs'
            generalize xs[j] = t at *
            have hji : (j : Int) < (xs.length : Int) := by omega
            have hki : (k : Int) < (xs.length : Int) := by omega
            have hjk' : (j : Int) < (k : Int) := by omega
            go_wp2_with fail
            go_still_tail 8, (by kernel_rfl)
            change wpList _ _ _ _ _ wr.drew
            go_wp2_with (go_at_call 61; refine (l18Meet_any s t _).mono ?_; rintro e w2 ⟨rfl, hb2⟩)
            · have hf : meetB t.room t.day t.frm t.to_ s = true := by assumption
              have HT := Lib.hid (any_true_of (p := meetB s.room s.day s.frm s.to_) (xs := xs.take k) (k := j) (by rw [List.getElem?_take, if_pos hjk]; exact HS'.out) (by rw [meet_symm]; exact hf))
              go_ret
              exact ⟨ret_bool (by rw [bookingsOk, prefOk_false HS.out (by rw [bookPref, HO.out, freeB, HT.out]; rfl)]; rfl), by (repeat (first | with_reducible assumption | with_reducible exact Below.refl _ _ | with_reducible refine Below.setCell ?_ ?_ _ | with_reducible refine Below.alloc ?_ ?_ _ | with_reducible refine Below.drew ?_ | with_reducible refine below_drewN ?_ _ | with_reducible refine Below.step (by with_reducible assumption) ?_ ?_ | omega | (simp <;> omega) | (simp; done)))⟩
            · have hf : meetB t.room t.day t.frm t.to_ s = false := by assumption
              go_roundw
              case rel => exact ⟨j + 1, by omega, by go_num, any_take_succ HJ.out HS'.out (by rw [meet_symm]; exact hf), by (repeat (first | with_reducible assumption | with_reducible exact Below.refl _ _ | with_reducible refine Below.setCell ?_ ?_ _ | with_reducible refine Below.alloc ?_ ?_ _ | with_reducible refine Below.drew ?_ | with_reducible refine below_drewN ?_ _ | with_reducible refine Below.step (by with_reducible assumption) ?_ ?_ | omega | (simp <;> omega) | (simp; done)))⟩
              case measure => simp [intOf]; omega
          · have HJ' : Hid ((xs.take k).any (meetB s.room s.day s.frm s.to_) = false) := by
              have e : j = k := by omega
              rw [← e]; exact HJ
            go_wp2_with fail
            go_roundw
            case rel => exact ⟨k + 1, by omega, by go_num, prefAll_succ HA.out HS.out (by rw [bookPref, HO.out, freeB, HJ'.out]; rfl), by (repeat (first | with_reducible assumption | with_reducible exact Below.refl _ _ | with_reducible refine Below.setCell ?_ ?_ _ | with_reducible refine Below.alloc ?_ ?_ _ | with_reducible refine Below.drew ?_ | with_reducible refine below_drewN ?_ _ | with_reducible refine Below.step (by with_reducible assumption) ?_ ?_ | omega | (simp <;> omega) | (simp; done)))⟩
            case measure => simp [intOf]; omega
    · go_wp2
      go_ret
      exact ⟨ret_bool (by rw [bookingsOk, prefOk_of HA.out hk hlt, Bool.eq_iff_iff]; simp <;> omega), by (repeat (first | with_reducible assumption | with_reducible exact Below.refl _ _ | with_reducible refine Below.setCell ?_ ?_ _ | with_reducible refine Below.alloc ?_ ?_ _ | with_reducible refine Below.drew ?_ | with_reducible refine below_drewN ?_ _ | with_reducible refine Below.step (by with_reducible assumption) ?_ ?_ | omega | (simp <;> omega) | (simp; done)))⟩
end Go.Proofs.Ythodceeioinnoaa
