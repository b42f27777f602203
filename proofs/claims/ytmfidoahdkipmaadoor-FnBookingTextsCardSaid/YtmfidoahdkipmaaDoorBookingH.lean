/- Booking: copies, comparison, size, as walks. Written by a program (gen_struct.py). -/
import Derived.Test.YtmfidoahdkipmaaDoorRows
import Derived.Test.YtmfidoahdkipmaaDoorMem
import Derived.StillTailTactics
namespace Go.Proofs.YtmfidoahdkipmaaDoor
open Go.RowKit

structure Booking where
  room : Int
  day : Int
  frm : Int
  to_ : Int
  use : ByteArray
def Booking.enc (s : Booking) : List Value := [.int .i64 s.room, .int .i64 s.day, .int .i64 s.frm, .int .i64 s.to_, .string s.use]
def Booking.beq (s t : Booking) : Bool := ((s.room == t.room) && ((s.day == t.day) && ((s.frm == t.frm) && ((s.to_ == t.to_) && (s.use.toList == t.use.toList)))))
theorem Booking.beq_iff {s t : Booking} : Booking.beq s t = true ↔ s = t := by
  obtain ⟨a0, a1, a2, a3, a4⟩ := s; obtain ⟨b0, b1, b2, b3, b4⟩ := t; simp [Booking.beq, toList_inj]

set_option maxHeartbeats 800000 in
theorem toBooking_any (s : Booking) (w : World) :
    Calls Tryd.prog 8 #[.agg #[.int .i64 s.room, .int .i64 s.day, .int .i64 s.frm, .int .i64 s.to_, .string s.use]] w fun e w' => e = .returned (.agg #[.int .i64 s.room, .int .i64 s.day, .int .i64 s.frm, .int .i64 s.to_, .string s.use]) ∧ Below w.heap.size w w' := by
  go_enter Tryd.func8, Tryd.ntmps8
  go_wp2
  refine bodyPost_ret (v := .agg #[.int .i64 s.room, .int .i64 s.day, .int .i64 s.frm, .int .i64 s.to_, .string s.use]) (by simp [results, Tryd.results8, go_sem]) rfl ⟨rfl, by (repeat (first | with_reducible assumption | with_reducible exact Below.refl _ _ | with_reducible refine Below.setCell ?_ ?_ _ | with_reducible refine Below.alloc ?_ ?_ _ | with_reducible refine Below.drew ?_ | with_reducible refine below_drewN ?_ _ | with_reducible refine Below.step (by with_reducible assumption) ?_ ?_ | omega | (simp <;> omega) | (simp; done)))⟩

set_option maxHeartbeats 800000 in
theorem eqBooking_any (s t : Booking) (w : World) :
    Calls Tryd.prog 12 #[.agg #[.int .i64 s.room, .int .i64 s.day, .int .i64 s.frm, .int .i64 s.to_, .string s.use], .agg #[.int .i64 t.room, .int .i64 t.day, .int .i64 t.frm, .int .i64 t.to_, .string t.use]] w fun e w' => e = .returned (.bool (Booking.beq s t)) ∧ Below w.heap.size w w' := by
  obtain ⟨a0, a1, a2, a3, a4⟩ := s
  obtain ⟨b0, b1, b2, b3, b4⟩ := t
  go_enter Tryd.func12, Tryd.ntmps12
  go_wp2
  all_goals (go_ret; exact ⟨ret_bool (by simp_all [Booking.beq]), by (repeat (first | with_reducible assumption | with_reducible exact Below.refl _ _ | with_reducible refine Below.setCell ?_ ?_ _ | with_reducible refine Below.alloc ?_ ?_ _ | with_reducible refine Below.drew ?_ | with_reducible refine below_drewN ?_ _ | with_reducible refine Below.step (by with_reducible assumption) ?_ ?_ | omega | (simp <;> omega) | (simp; done)))⟩)



def Booking.small (s : Booking) : Prop := s.use.size ≤ 1048576
def Booking.Sz (l : Int) (s : Booking) (r : Int) : Prop := r ≤ l ∧ (0 ≤ r → s.use.size ≤ l)
def Booking.SzS (l : Int) (xs : List Booking) (r : Int) : Prop := r ≤ l ∧ (0 ≤ r → xs.length ≤ l ∧ ∀ x ∈ xs, x.use.size ≤ l)
set_option maxHeartbeats 400000 in
theorem szBooking_any (s : Booking) (l : Int) (w : World) (hm0 : s.use.size ≤ 9223372036854775807) (h0 : 0 ≤ l) (h1 : l ≤ 1048576) :
    Calls Tryd.prog 6 #[.agg #[.int .i64 s.room, .int .i64 s.day, .int .i64 s.frm, .int .i64 s.to_, .string s.use], .int .i64 l] w fun e w' => RetI (Booking.Sz l s) w e w' := by
  go_enter Tryd.func6, Tryd.ntmps6
  go_wp2
  all_goals (go_ret; exact ⟨_, rfl, ⟨by omega, by omega⟩, by (repeat (first | with_reducible assumption | with_reducible exact Below.refl _ _ | with_reducible refine Below.setCell ?_ ?_ _ | with_reducible refine Below.alloc ?_ ?_ _ | with_reducible refine Below.drew ?_ | with_reducible refine below_drewN ?_ _ | with_reducible refine Below.step (by with_reducible assumption) ?_ ?_ | omega | (simp <;> omega) | (simp; done)))⟩)


end Go.Proofs.YtmfidoahdkipmaaDoor
