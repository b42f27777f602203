/- Booking: copies, comparison, size, as walks. Written by a program (gen_struct.py). -/
import Derived.Test.YthodceeioinnoaaRows
import Derived.Test.YthodceeioinnoaaMem
import Derived.StillTailTactics
namespace Go.Proofs.Ythodceeioinnoaa
open Go.RowKit

structure Booking where
  room : Int
  day : Int
  frm : Int
  to_ : Int
  use : ByteArray
def Booking.enc (s : Booking) : List Value := [.int .i64 s.room, .int .i64 s.day, .int .i64 s.frm, .int .i64 s.to_, .string s.use]
def Booking.beq (s t : Booking) : Bool := ((s.room == t.room) && ((s.day == t.day) && ((s.frm == t.frm) && ((s.to_ == t.to_) && (s.use.toList == t.use.toList)))))
theorem Booking.beq_iff {s t : Booking} : Booking.beq s t = true ↔ s = t := by
  obtain ⟨a0, a1, a2, a3, a4⟩ := s; obtain ⟨b0, b1, b2, b3, b4⟩ := t; simp [Booking.beq, toList_inj]

set_option maxHeartbeats 800000 in
theorem toBooking_any (s : Booking) (w : World) :
    Calls Try.prog 28 #[.agg #[.int .i64 s.room, .int .i64 s.day, .int .i64 s.frm, .int .i64 s.to_, .string s.use]] w fun e w' => e = .returned (.agg #[.int .i64 s.room, .int .i64 s.day, .int .i64 s.frm, .int .i64 s.to_, .string s.use]) ∧ Below w.heap.size w w' := by
  go_enter Try.func28, Try.ntmps28
  go_wp2
  refine bodyPost_ret (v := .agg #[.int .i64 s.room, .int .i64 s.day, .int .i64 s.frm, .int .i64 s.to_, .string s.use]) (by simp [results, Try.results28, go_sem]) rfl ⟨rfl, by (repeat (first | with_reducible assumption | with_reducible exact Below.refl _ _ | with_reducible refine Below.setCell ?_ ?_ _ | with_reducible refine Below.alloc ?_ ?_ _ | with_reducible refine Below.drew ?_ | with_reducible refine below_drewN ?_ _ | with_reducible refine Below.step (by with_reducible assumption) ?_ ?_ | omega | (simp <;> omega) | (simp; done)))⟩

set_option maxHeartbeats 800000 in
theorem eqBooking_any (s t : Booking) (w : World) :
    Calls Try.prog 65 #[.agg #[.int .i64 s.room, .int .i64 s.day, .int .i64 s.frm, .int .i64 s.to_, .string s.use], .agg #[.int .i64 t.room, .int .i64 t.day, .int .i64 t.frm, .int .i64 t.to_, .string t.use]] w fun e w' => e = .returned (.bool (Booking.beq s t)) ∧ Below w.heap.size w w' := by
  obtain ⟨a0, a1, a2, a3, a4⟩ := s
  obtain ⟨b0, b1, b2, b3, b4⟩ := t
  go_enter Try.func65, Try.ntmps65
  go_wp2
  all_goals (go_ret; exact ⟨ret_bool (by simp_all [Booking.beq]), by (repeat (first | with_reducible assumption | with_reducible exact Below.refl _ _ | with_reducible refine Below.setCell ?_ ?_ _ | with_reducible refine Below.alloc ?_ ?_ _ | with_reducible refine Below.drew ?_ | with_reducible refine below_drewN ?_ _ | with_reducible refine Below.step (by with_reducible assumption) ?_ ?_ | omega | (simp <;> omega) | (simp; done)))⟩)

set_option maxRecDepth 100000 in
set_option maxHeartbeats 1000000 in
theorem toBookingS_any (v : Value) (xs : List Booking) (lo hi : Nat) (w : World) (h : RdF Booking.enc 5 w lo hi v xs) (hh : hi ≤ w.heap.size) (hm : xs.length ≤ 1048576) :
    Calls Try.prog 17 #[v] w fun e w' => RetV (fun v' w' => RdW Booking.enc 5 41 w' w.heap.size w'.heap.size v' xs) w e w' := by
  obtain ⟨A, c, rfl, hc, hA⟩ := h
  obtain ⟨arr, ha, hmk⟩ := mkRow (P := Try.prog) 25 41 Try.underlying25 (.agg #[.int .i64 0, .int .i64 0, .int .i64 0, .int .i64 0, .string ByteArray.empty]) 5 48 (by kernel_rfl) xs.length (by omega) (by omega)
  have HR := Lib.hid ha; clear ha
  go_enter Try.func17, Try.ntmps17
  go_wp2
  clear hmk
  go_loopw [4] (fun i wr => ∃ k : Nat, k ≤ xs.length ∧ i = .int .i64 k ∧ ∃ ar : Array Value, Hid (ar.size = xs.length * 5) ∧ RowTo Booking.enc 5 ar xs k ∧ Blk wr w.heap.size 41 ar ∧ Below w.heap.size w wr) (fun i _ => xs.length - (intOf i).toNat)
  case atStart => exact ⟨0, Nat.zero_le _, rfl, arr, HR, RowTo.zero, Blk.new _ _ _, by (repeat (first | with_reducible assumption | with_reducible exact Below.refl _ _ | with_reducible refine Below.setCell ?_ ?_ _ | with_reducible refine Below.alloc ?_ ?_ _ | with_reducible refine Below.drew ?_ | with_reducible refine below_drewN ?_ _ | with_reducible refine Below.step (by with_reducible assumption) ?_ ?_ | omega | (simp <;> omega) | (simp; done)))⟩
  case round =>
    obtain ⟨k, hk, rfl, ar, hsz, hrow, hblk, hb⟩ := hrel
    have HR2 := Lib.hid hrow; clear hrow
    have z0 := hb.size
    have z1 := hblk.lt
    by_cases hlt : k < xs.length
    · obtain ⟨b, off, rfl, -, hbw, hcell⟩ := hA (by omega)
      have hs : xs[k]? = some xs[k] := List.getElem?_eq_getElem hlt
      have c0 : wr.cell? ⟨b, off + k * 5, none⟩ = _ := (hb.cell (p := ⟨b, off + k * 5, none⟩) (by omega : b < _)).trans (hcell k _ hs 0 _ rfl)
      have c1 := (hb.cell (p := ⟨b, off + k * 5 + 1, none⟩) (by omega : b < _)).trans (hcell k _ hs 1 _ rfl)
      have c2 := (hb.cell (p := ⟨b, off + k * 5 + 2, none⟩) (by omega : b < _)).trans (hcell k _ hs 2 _ rfl)
      have c3 := (hb.cell (p := ⟨b, off + k * 5 + 3, none⟩) (by omega : b < _)).trans (hcell k _ hs 3 _ rfl)
      have c4 := (hb.cell (p := ⟨b, off + k * 5 + 4, none⟩) (by omega : b < _)).trans (hcell k _ hs 4 _ rfl)
      clear hcell hA
      have HS := Lib.hid hs; clear hs
      generalize xs[k] = s at *
      go_wp2_with fail
      refine (toBooking_any s _).mono ?_
      rintro e w1 ⟨rfl, hb1⟩
      have hk1 := hblk.below hb1 z1
      obtain ⟨u0, f0⟩ := hk1.some_ (k * 5) (by have := hsz.out; omega)
      obtain ⟨u1, f1⟩ := hk1.some_ (k * 5 + 1) (by have := hsz.out; omega)
      obtain ⟨u2, f2⟩ := hk1.some_ (k * 5 + 2) (by have := hsz.out; omega)
      obtain ⟨u3, f3⟩ := hk1.some_ (k * 5 + 3) (by have := hsz.out; omega)
      obtain ⟨u4, f4⟩ := hk1.some_ (k * 5 + 4) (by have := hsz.out; omega)
      have g0 := hk1.frozen (k * 5)
      have g1 := hk1.frozen (k * 5 + 1)
      have g2 := hk1.frozen (k * 5 + 2)
      have g3 := hk1.frozen (k * 5 + 3)
      have g4 := hk1.frozen (k * 5 + 4)
      go_wp2_with fail
      go_roundw
      case rel => exact ⟨k + 1, by omega, by go_num, setL ar (k * 5) s.enc, (setL_size _ _ _).trans hsz.out, HR2.out.step HS.out (fun _ => rfl) hsz.out hlt, hk1.set5 _ _ _ _ _ _, Below.set5 (Below.step hb1 z0 hb) (Nat.le_refl _) _ _ _ _ _ _⟩
      case measure => simp [intOf]; omega
    · obtain rfl : k = xs.length := by omega
      go_wp2
      go_ret
      exact ⟨_, rfl, RdW.of_row hblk hsz.out HR2.out _ _ (Nat.le_refl _) z1, hb⟩

set_option maxRecDepth 100000 in
set_option maxHeartbeats 1000000 in
theorem eqBookingS_any (v v' : Value) (xs ys : List Booking) (lo hi lo' hi' : Nat) (w : World) (h : RdF Booking.enc 5 w lo hi v xs) (hh : hi ≤ w.heap.size) (h' : RdF Booking.enc 5 w lo' hi' v' ys) (hh' : hi' ≤ w.heap.size)
    (hm : xs.length ≤ 9223372036854775807) (hm' : ys.length ≤ 9223372036854775807) :
    Calls Try.prog 19 #[v, v'] w fun e w' => e = .returned (.bool (eqL Booking.beq xs ys)) ∧ Below w.heap.size w w' := by
  obtain ⟨A, c, rfl, hc, hA⟩ := h
  obtain ⟨A', c', rfl, hc', hA'⟩ := h'
  by_cases hlen : xs.length = ys.length
  · have hne : ((xs.length : Int) != (ys.length : Int)) = false := by simp [hlen]
    go_enter Try.func19, Try.ntmps19
    go_wp2
    go_loopw [5] (fun i wr => ∃ k : Nat, k ≤ xs.length ∧ i = .int .i64 k ∧ eqL Booking.beq (xs.take k) (ys.take k) = true ∧ Below w.heap.size w wr) (fun i _ => xs.length - (intOf i).toNat)
    case atStart => exact ⟨0, Nat.zero_le _, rfl, rfl, by (repeat (first | with_reducible assumption | with_reducible exact Below.refl _ _ | with_reducible refine Below.setCell ?_ ?_ _ | with_reducible refine Below.alloc ?_ ?_ _ | with_reducible refine Below.drew ?_ | with_reducible refine below_drewN ?_ _ | with_reducible refine Below.step (by with_reducible assumption) ?_ ?_ | omega | (simp <;> omega) | (simp; done)))⟩
    case round =>
      obtain ⟨k, hk, rfl, heq, hb⟩ := hrel
      have HE := Lib.hid heq; clear heq
      have HL := Lib.hid hlen; clear hlen
      have z0 := hb.size
      by_cases hlt : k < xs.length
      · have hlt' : k < ys.length := by rw [← HL.out]; exact hlt
        obtain ⟨b, off, rfl, -, hbw, hcell⟩ := hA (by omega)
        obtain ⟨b', off', rfl, -, hbw', hcell'⟩ := hA' (by omega)
        have hs : xs[k]? = some xs[k] := List.getElem?_eq_getElem hlt
        have hs' : ys[k]? = some ys[k] := List.getElem?_eq_getElem hlt'
        have c0 : wr.cell? ⟨b, off + k * 5, none⟩ = _ := (hb.cell (p := ⟨b, off + k * 5, none⟩) (by omega : b < _)).trans (hcell k _ hs 0 _ rfl)
        have c1 := (hb.cell (p := ⟨b, off + k * 5 + 1, none⟩) (by omega : b < _)).trans (hcell k _ hs 1 _ rfl)
        have c2 := (hb.cell (p := ⟨b, off + k * 5 + 2, none⟩) (by omega : b < _)).trans (hcell k _ hs 2 _ rfl)
        have c3 := (hb.cell (p := ⟨b, off + k * 5 + 3, none⟩) (by omega : b < _)).trans (hcell k _ hs 3 _ rfl)
        have c4 := (hb.cell (p := ⟨b, off + k * 5 + 4, none⟩) (by omega : b < _)).trans (hcell k _ hs 4 _ rfl)
        have d0 : wr.cell? ⟨b', off' + k * 5, none⟩ = _ := (hb.cell (p := ⟨b', off' + k * 5, none⟩) (by omega : b' < _)).trans (hcell' k _ hs' 0 _ rfl)
        have d1 := (hb.cell (p := ⟨b', off' + k * 5 + 1, none⟩) (by omega : b' < _)).trans (hcell' k _ hs' 1 _ rfl)
        have d2 := (hb.cell (p := ⟨b', off' + k * 5 + 2, none⟩) (by omega : b' < _)).trans (hcell' k _ hs' 2 _ rfl)
        have d3 := (hb.cell (p := ⟨b', off' + k * 5 + 3, none⟩) (by omega : b' < _)).trans (hcell' k _ hs' 3 _ rfl)
        have d4 := (hb.cell (p := ⟨b', off' + k * 5 + 4, none⟩) (by omega : b' < _)).trans (hcell' k _ hs' 4 _ rfl)
        clear hcell hA hcell' hA'
        have HS := Lib.hid hs; clear hs
        have HS' := Lib.hid hs'; clear hs'
        generalize xs[k] = s at *
        generalize ys[k] = s' at *
        have hki : (k : Int) < (xs.length : Int) := by omega
        have hki' : (k : Int) < (ys.length : Int) := by omega
        go_wp2_with fail
        go_still_tail 8, (by kernel_rfl)
        change wpList _ _ _ _ _ wr.drew
        go_wp2_with (go_at_call 65; refine (eqBooking_any s s' _).mono ?_; rintro e w1 ⟨rfl, hb1⟩)
        · have hf : (!Booking.beq s s') = true := by assumption
          go_ret
          exact ⟨ret_bool (by rw [eqL_false HS.out HS'.out (by simpa using hf)]), by (repeat (first | with_reducible assumption | with_reducible exact Below.refl _ _ | with_reducible refine Below.setCell ?_ ?_ _ | with_reducible refine Below.alloc ?_ ?_ _ | with_reducible refine Below.drew ?_ | with_reducible refine below_drewN ?_ _ | with_reducible refine Below.step (by with_reducible assumption) ?_ ?_ | omega | (simp <;> omega) | (simp; done)))⟩
        · have hf : (!Booking.beq s s') = false := by assumption
          go_roundw
          case rel => exact ⟨k + 1, by omega, by go_num, eqL_succ HE.out HS.out HS'.out (by simpa using hf), by (repeat (first | with_reducible assumption | with_reducible exact Below.refl _ _ | with_reducible refine Below.setCell ?_ ?_ _ | with_reducible refine Below.alloc ?_ ?_ _ | with_reducible refine Below.drew ?_ | with_reducible refine below_drewN ?_ _ | with_reducible refine Below.step (by with_reducible assumption) ?_ ?_ | omega | (simp <;> omega) | (simp; done)))⟩
          case measure => simp [intOf]; omega
      · go_wp2
        go_ret
        exact ⟨ret_bool (by rw [eqL_of_take HE.out hlt HL.out]), by (repeat (first | with_reducible assumption | with_reducible exact Below.refl _ _ | with_reducible refine Below.setCell ?_ ?_ _ | with_reducible refine Below.alloc ?_ ?_ _ | with_reducible refine Below.drew ?_ | with_reducible refine below_drewN ?_ _ | with_reducible refine Below.step (by with_reducible assumption) ?_ ?_ | omega | (simp <;> omega) | (simp; done)))⟩
  · have hne : ((xs.length : Int) != (ys.length : Int)) = true := by simp; omega
    go_enter Try.func19, Try.ntmps19
    go_wp2
    go_ret
    exact ⟨ret_bool (by rw [eqL_len _ hlen]), by (repeat (first | with_reducible assumption | with_reducible exact Below.refl _ _ | with_reducible refine Below.setCell ?_ ?_ _ | with_reducible refine Below.alloc ?_ ?_ _ | with_reducible refine Below.drew ?_ | with_reducible refine below_drewN ?_ _ | with_reducible refine Below.step (by with_reducible assumption) ?_ ?_ | omega | (simp <;> omega) | (simp; done)))⟩

def Booking.small (s : Booking) : Prop := s.use.size ≤ 1048576
def Booking.Sz (l : Int) (s : Booking) (r : Int) : Prop := r ≤ l ∧ (0 ≤ r → s.use.size ≤ l)
def Booking.SzS (l : Int) (xs : List Booking) (r : Int) : Prop := r ≤ l ∧ (0 ≤ r → xs.length ≤ l ∧ ∀ x ∈ xs, x.use.size ≤ l)
set_option maxHeartbeats 400000 in
theorem szBooking_any (s : Booking) (l : Int) (w : World) (hm0 : s.use.size ≤ 9223372036854775807) (h0 : 0 ≤ l) (h1 : l ≤ 1048576) :
    Calls Try.prog 26 #[.agg #[.int .i64 s.room, .int .i64 s.day, .int .i64 s.frm, .int .i64 s.to_, .string s.use], .int .i64 l] w fun e w' => RetI (Booking.Sz l s) w e w' := by
  go_enter Try.func26, Try.ntmps26
  go_wp2
  all_goals (go_ret; exact ⟨_, rfl, ⟨by omega, by omega⟩, by (repeat (first | with_reducible assumption | with_reducible exact Below.refl _ _ | with_reducible refine Below.setCell ?_ ?_ _ | with_reducible refine Below.alloc ?_ ?_ _ | with_reducible refine Below.drew ?_ | with_reducible refine below_drewN ?_ _ | with_reducible refine Below.step (by with_reducible assumption) ?_ ?_ | omega | (simp <;> omega) | (simp; done)))⟩)

set_option maxHeartbeats 800000 in
theorem szBookingS_any (v : Value) (xs : List Booking) (lo hi : Nat) (l : Int) (w : World) (h : RdF Booking.enc 5 w lo hi v xs) (hh : hi ≤ w.heap.size) (hm : xs.length ≤ 9223372036854775807) (hms : ∀ x ∈ xs, x.use.size ≤ 9223372036854775807) (h0 : 0 ≤ l) (h1 : l ≤ 1048576) :
    Calls Try.prog 15 #[v, .int .i64 l] w fun e w' => RetI (Booking.SzS l xs) w e w' := by
  obtain ⟨A, c, rfl, hc, hA⟩ := h
  by_cases hl : l < xs.length
  · go_enter Try.func15, Try.ntmps15
    go_wp2
    go_ret
    exact ⟨_, rfl, ⟨by omega, by omega⟩, by (repeat (first | with_reducible assumption | with_reducible exact Below.refl _ _ | with_reducible refine Below.setCell ?_ ?_ _ | with_reducible refine Below.alloc ?_ ?_ _ | with_reducible refine Below.drew ?_ | with_reducible refine below_drewN ?_ _ | with_reducible refine Below.step (by with_reducible assumption) ?_ ?_ | omega | (simp <;> omega) | (simp; done)))⟩
  · go_enter Try.func15, Try.ntmps15
    go_wp2
    go_loopw [1, 5] (fun q i wr => ∃ k : Nat, k ≤ xs.length ∧ i = .int .i64 k ∧ ∃ r : Int, q = .int .i64 r ∧ 0 ≤ r ∧ r ≤ l - xs.length ∧ (∀ x ∈ xs.take k, x.use.size ≤ l) ∧ Below w.heap.size w wr) (fun _ i _ => xs.length - (intOf i).toNat)
    case atStart => exact ⟨0, Nat.zero_le _, rfl, _, rfl, by omega, by omega, by simp, by (repeat (first | with_reducible assumption | with_reducible exact Below.refl _ _ | with_reducible refine Below.setCell ?_ ?_ _ | with_reducible refine Below.alloc ?_ ?_ _ | with_reducible refine Below.drew ?_ | with_reducible refine below_drewN ?_ _ | with_reducible refine Below.step (by with_reducible assumption) ?_ ?_ | omega | (simp <;> omega) | (simp; done)))⟩
    case round =>
      obtain ⟨k, hk, rfl, r, rfl, hr0, hr1, hall, hb⟩ := hrel
      have HA := Lib.hid hall; clear hall
      have HM := Lib.hid hms; clear hms
      have z0 := hb.size
      by_cases hlt : k < xs.length
      · obtain ⟨b, off, rfl, -, hbw, hcell⟩ := hA (by omega)
        have hs : xs[k]? = some xs[k] := List.getElem?_eq_getElem hlt
        have c0 : wr.cell? ⟨b, off + k * 5, none⟩ = _ := (hb.cell (p := ⟨b, off + k * 5, none⟩) (by omega : b < _)).trans (hcell k _ hs 0 _ rfl)
        have c1 := (hb.cell (p := ⟨b, off + k * 5 + 1, none⟩) (by omega : b < _)).trans (hcell k _ hs 1 _ rfl)
        have c2 := (hb.cell (p := ⟨b, off + k * 5 + 2, none⟩) (by omega : b < _)).trans (hcell k _ hs 2 _ rfl)
        have c3 := (hb.cell (p := ⟨b, off + k * 5 + 3, none⟩) (by omega : b < _)).trans (hcell k _ hs 3 _ rfl)
        have c4 := (hb.cell (p := ⟨b, off + k * 5 + 4, none⟩) (by omega : b < _)).trans (hcell k _ hs 4 _ rfl)
        clear hcell hA
        have HS := Lib.hid hs; clear hs
        generalize xs[k] = s at *
        obtain hx0 := HM.out s (List.mem_of_getElem? HS.out)
        go_wp2_with (go_at_call 26; refine (szBooking_any s r _ (by omega) (by omega) (by omega)).mono ?_; rintro e w1 ⟨q, rfl, ⟨hq1, hq2⟩, hb1⟩)
        · go_ret
          exact ⟨_, rfl, ⟨by omega, by omega⟩, by (repeat (first | with_reducible assumption | with_reducible exact Below.refl _ _ | with_reducible refine Below.setCell ?_ ?_ _ | with_reducible refine Below.alloc ?_ ?_ _ | with_reducible refine Below.drew ?_ | with_reducible refine below_drewN ?_ _ | with_reducible refine Below.step (by with_reducible assumption) ?_ ?_ | omega | (simp <;> omega) | (simp; done)))⟩
        · have hq0 : 0 ≤ q := by omega
          go_roundw
          case rel =>
            refine ⟨k + 1, by omega, by go_num, _, rfl, by omega, by omega, take_forall_succ HA.out HS.out ?_, by (repeat (first | with_reducible assumption | with_reducible exact Below.refl _ _ | with_reducible refine Below.setCell ?_ ?_ _ | with_reducible refine Below.alloc ?_ ?_ _ | with_reducible refine Below.drew ?_ | with_reducible refine below_drewN ?_ _ | with_reducible refine Below.step (by with_reducible assumption) ?_ ?_ | omega | (simp <;> omega) | (simp; done)))⟩
            have := hq2 hq0
            omega
          case measure => simp [intOf]; omega
      · obtain rfl : k = xs.length := by omega
        go_wp2
        go_ret
        exact ⟨_, rfl, ⟨by omega, fun _ => ⟨by omega, by have := HA.out; rwa [List.take_length] at this⟩⟩, by (repeat (first | with_reducible assumption | with_reducible exact Below.refl _ _ | with_reducible refine Below.setCell ?_ ?_ _ | with_reducible refine Below.alloc ?_ ?_ _ | with_reducible refine Below.drew ?_ | with_reducible refine below_drewN ?_ _ | with_reducible refine Below.step (by with_reducible assumption) ?_ ?_ | omega | (simp <;> omega) | (simp; done)))⟩

end Go.Proofs.Ythodceeioinnoaa
