/- Booking: copies, comparison, size, as walks. Written by a program (gen_struct.py). -/
import Derived.Test.YtdcfenkkgnnbbaaRows
import Derived.Test.YtdcfenkkgnnbbaaMem
import Derived.StillTailTactics
namespace Go.Proofs.Ytdcfenkkgnnbbaa
open Go.RowKit

structure Booking where
  room : Int
  day : Int
  frm : Int
  to_ : Int
  use : ByteArray
def Booking.enc (s : Booking) : List Value := [.int .i64 s.room, .int .i64 s.day, .int .i64 s.frm, .int .i64 s.to_, .string s.use]
def Booking.beq (s t : Booking) : Bool := ((s.room == t.room) && ((s.day == t.day) && ((s.frm == t.frm) && ((s.to_ == t.to_) && (s.use.toList == t.use.toList)))))
theorem Booking.beq_iff {s t : Booking} : Booking.beq s t = true ↔ s = t := by
  obtain ⟨a0, a1, a2, a3, a4⟩ := s; obtain ⟨b0, b1, b2, b3, b4⟩ := t; simp [Booking.beq, toList_inj]


set_option maxHeartbeats 800000 in
theorem eqBooking_any (s t : Booking) (w : World) :
    Calls Try.prog 90 #[.agg #[.int .i64 s.room, .int .i64 s.day, .int .i64 s.frm, .int .i64 s.to_, .string s.use], .agg #[.int .i64 t.room, .int .i64 t.day, .int .i64 t.frm, .int .i64 t.to_, .string t.use]] w fun e w' => e = .returned (.bool (Booking.beq s t)) ∧ Below w.heap.size w w' := by
  obtain ⟨a0, a1, a2, a3, a4⟩ := s
  obtain ⟨b0, b1, b2, b3, b4⟩ := t
  go_enter Try.func90, Try.ntmps90
  go_wp2
  all_goals (go_ret; exact ⟨ret_bool (by simp_all [Booking.beq]), by (repeat (first | with_reducible assumption | with_reducible exact Below.refl _ _ | with_reducible refine Below.setCell ?_ ?_ _ | with_reducible refine Below.alloc ?_ ?_ _ | with_reducible refine Below.drew ?_ | with_reducible refine below_drewN ?_ _ | with_reducible refine Below.step (by with_reducible assumption) ?_ ?_ | omega | (simp <;> omega) | (simp; done)))⟩)


set_option maxRecDepth 100000 in
set_option maxHeartbeats 1000000 in
theorem eqBookingS_any (v v' : Value) (xs ys : List Booking) (lo hi lo' hi' : Nat) (w : World) (h : RdF Booking.enc 5 w lo hi v xs) (hh : hi ≤ w.heap.size) (h' : RdF Booking.enc 5 w lo' hi' v' ys) (hh' : hi' ≤ w.heap.size)
    (hm : xs.length ≤ 9223372036854775807) (hm' : ys.length ≤ 9223372036854775807) :
    Calls Try.prog 46 #[v, v'] w fun e w' => e = .returned (.bool (eqL Booking.beq xs ys)) ∧ Below w.heap.size w w' := by
  obtain ⟨A, c, rfl, hc, hA⟩ := h
  obtain ⟨A', c', rfl, hc', hA'⟩ := h'
  by_cases hlen : xs.length = ys.length
  · have hne : ((xs.length : Int) != (ys.length : Int)) = false := by simp [hlen]
    go_enter Try.func46, Try.ntmps46
    go_wp2
    go_loopw [5] (fun i wr => ∃ k : Nat, k ≤ xs.length ∧ i = .int .i64 k ∧ eqL Booking.beq (xs.take k) (ys.take k) = true ∧ Below w.heap.size w wr) (fun i _ => xs.length - (intOf i).toNat)
    case atStart => exact ⟨0, Nat.zero_le _, rfl, rfl, by (repeat (first | with_reducible assumption | with_reducible exact Below.refl _ _ | with_reducible refine Below.setCell ?_ ?_ _ | with_reducible refine Below.alloc ?_ ?_ _ | with_reducible refine Below.drew ?_ | with_reducible refine below_drewN ?_ _ | with_reducible refine Below.step (by with_reducible assumption) ?_ ?_ | omega | (simp <;> omega) | (simp; done)))⟩
    case round =>
      obtain ⟨k, hk, rfl, heq, hb⟩ := hrel
      have HE := Lib.hid heq; clear heq
      have HL := Lib.hid hlen; clear hlen
      have z0 := hb.size
      by_cases hlt : k < xs.length
      · have hlt' : k < ys.length := by rw [← HL.out]; exact hlt
        obtain ⟨b, off, rfl, -, hbw, hcell⟩ := hA (by omega)
        obtain ⟨b', off', rfl, -, hbw', hcell'⟩ := hA' (by omega)
        have hs : xs[k]? = some xs[k] := List.getElem?_eq_getElem hlt
        have hs' : ys[k]? = some ys[k] := List.getElem?_eq_getElem hlt'
        have c0 : wr.cell? ⟨b, off + k * 5, none⟩ = _ := (hb.cell (p := ⟨b, off + k * 5, none⟩) (by omega : b < _)).trans (hcell k _ hs 0 _ rfl)
        have c1 := (hb.cell (p := ⟨b, off + k * 5 + 1, none⟩) (by omega : b < _)).trans (hcell k _ hs 1 _ rfl)
        have c2 := (hb.cell (p := ⟨b, off + k * 5 + 2, none⟩) (by omega : b < _)).trans (hcell k _ hs 2 _ rfl)
        have c3 := (hb.cell (p := ⟨b, off + k * 5 + 3, none⟩) (by omega : b < _)).trans (hcell k _ hs 3 _ rfl)
        have c4 := (hb.cell (p := ⟨b, off + k * 5 + 4, none⟩) (by omega : b < _)).trans (hcell k _ hs 4 _ rfl)
        have d0 : wr.cell? ⟨b', off' + k * 5, none⟩ = _ := (hb.cell (p := ⟨b', off' + k * 5, none⟩) (by omega : b' < _)).trans (hcell' k _ hs' 0 _ rfl)
        have d1 := (hb.cell (p := ⟨b', off' + k * 5 + 1, none⟩) (by omega : b' < _)).trans (hcell' k _ hs' 1 _ rfl)
        have d2 := (hb.cell (p := ⟨b', off' + k * 5 + 2, none⟩) (by omega : b' < _)).trans (hcell' k _ hs' 2 _ rfl)
        have d3 := (hb.cell (p := ⟨b', off' + k * 5 + 3, none⟩) (by omega : b' < _)).trans (hcell' k _ hs' 3 _ rfl)
        have d4 := (hb.cell (p := ⟨b', off' + k * 5 + 4, none⟩) (by omega : b' < _)).trans (hcell' k _ hs' 4 _ rfl)
        clear hcell hA hcell' hA'
        have HS := Lib.hid hs; clear hs
        have HS' := Lib.hid hs'; clear hs'
        generalize xs[k] = s at *
        generalize ys[k] = s' at *
        have hki : (k : Int) < (xs.length : Int) := by omega
        have hki' : (k : Int) < (ys.length : Int) := by omega
        go_wp2_with fail
        go_still_tail 8, (by kernel_rfl)
        change wpList _ _ _ _ _ wr.drew
        go_wp2_with (go_at_call 90; refine (eqBooking_any s s' _).mono ?_; rintro e w1 ⟨rfl, hb1⟩)
        · have hf : (!Booking.beq s s') = true := by assumption
          go_ret
          exact ⟨ret_bool (by rw [eqL_false HS.out HS'.out (by simpa using hf)]), by (repeat (first | with_reducible assumption | with_reducible exact Below.refl _ _ | with_reducible refine Below.setCell ?_ ?_ _ | with_reducible refine Below.alloc ?_ ?_ _ | with_reducible refine Below.drew ?_ | with_reducible refine below_drewN ?_ _ | with_reducible refine Below.step (by with_reducible assumption) ?_ ?_ | omega | (simp <;> omega) | (simp; done)))⟩
        · have hf : (!Booking.beq s s') = false := by assumption
          go_roundw
          case rel => exact ⟨k + 1, by omega, by go_num, eqL_succ HE.out HS.out HS'.out (by simpa using hf), by (repeat (first | with_reducible assumption | with_reducible exact Below.refl _ _ | with_reducible refine Below.setCell ?_ ?_ _ | with_reducible refine Below.alloc ?_ ?_ _ | with_reducible refine Below.drew ?_ | with_reducible refine below_drewN ?_ _ | with_reducible refine Below.step (by with_reducible assumption) ?_ ?_ | omega | (simp <;> omega) | (simp; done)))⟩
          case measure => simp [intOf]; omega
      · go_wp2
        go_ret
        exact ⟨ret_bool (by rw [eqL_of_take HE.out hlt HL.out]), by (repeat (first | with_reducible assumption | with_reducible exact Below.refl _ _ | with_reducible refine Below.setCell ?_ ?_ _ | with_reducible refine Below.alloc ?_ ?_ _ | with_reducible refine Below.drew ?_ | with_reducible refine below_drewN ?_ _ | with_reducible refine Below.step (by with_reducible assumption) ?_ ?_ | omega | (simp <;> omega) | (simp; done)))⟩
  · have hne : ((xs.length : Int) != (ys.length : Int)) = true := by simp; omega
    go_enter Try.func46, Try.ntmps46
    go_wp2
    go_ret
    exact ⟨ret_bool (by rw [eqL_len _ hlen]), by (repeat (first | with_reducible assumption | with_reducible exact Below.refl _ _ | with_reducible refine Below.setCell ?_ ?_ _ | with_reducible refine Below.alloc ?_ ?_ _ | with_reducible refine Below.drew ?_ | with_reducible refine below_drewN ?_ _ | with_reducible refine Below.step (by with_reducible assumption) ?_ ?_ | omega | (simp <;> omega) | (simp; done)))⟩

def Booking.small (s : Booking) : Prop := s.use.size ≤ 1048576
def Booking.Sz (l : Int) (s : Booking) (r : Int) : Prop := r ≤ l ∧ (0 ≤ r → s.use.size ≤ l)
def Booking.SzS (l : Int) (xs : List Booking) (r : Int) : Prop := r ≤ l ∧ (0 ≤ r → xs.length ≤ l ∧ ∀ x ∈ xs, x.use.size ≤ l)


end Go.Proofs.Ytdcfenkkgnnbbaa
