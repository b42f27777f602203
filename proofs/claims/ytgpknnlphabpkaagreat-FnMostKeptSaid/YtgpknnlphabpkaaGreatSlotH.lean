/- Slot: copies, comparison, size, as walks. Written by a program (gen_struct.py). -/
import Derived.Test.YtgpknnlphabpkaaGreatRows
import Derived.Test.YtgpknnlphabpkaaGreatMem
import Derived.StillTailTactics
namespace Go.Proofs.YtgpknnlphabpkaaGreat
open Go.RowKit

structure Slot where
  room : Int
  day : Int
  frm : Int
def Slot.enc (s : Slot) : List Value := [.int .i64 s.room, .int .i64 s.day, .int .i64 s.frm]
def Slot.beq (s t : Slot) : Bool := ((s.room == t.room) && ((s.day == t.day) && (s.frm == t.frm)))
theorem Slot.beq_iff {s t : Slot} : Slot.beq s t = true ↔ s = t := by
  obtain ⟨a0, a1, a2⟩ := s; obtain ⟨b0, b1, b2⟩ := t; simp [Slot.beq]

set_option maxHeartbeats 800000 in
theorem toSlot_any (s : Slot) (w : World) :
    Calls Tryz.prog 68 #[.agg #[.int .i64 s.room, .int .i64 s.day, .int .i64 s.frm]] w fun e w' => e = .returned (.agg #[.int .i64 s.room, .int .i64 s.day, .int .i64 s.frm]) ∧ Below w.heap.size w w' := by
  go_enter Tryz.func68, Tryz.ntmps68
  go_wp2
  refine bodyPost_ret (v := .agg #[.int .i64 s.room, .int .i64 s.day, .int .i64 s.frm]) (by simp [results, Tryz.results68, go_sem]) rfl ⟨rfl, by (repeat (first | with_reducible assumption | with_reducible exact Below.refl _ _ | with_reducible refine Below.setCell ?_ ?_ _ | with_reducible refine Below.alloc ?_ ?_ _ | with_reducible refine Below.drew ?_ | with_reducible refine below_drewN ?_ _ | with_reducible refine Below.step (by with_reducible assumption) ?_ ?_ | omega | (simp <;> omega) | (simp; done)))⟩

set_option maxHeartbeats 800000 in
theorem eqSlot_any (s t : Slot) (w : World) :
    Calls Tryz.prog 73 #[.agg #[.int .i64 s.room, .int .i64 s.day, .int .i64 s.frm], .agg #[.int .i64 t.room, .int .i64 t.day, .int .i64 t.frm]] w fun e w' => e = .returned (.bool (Slot.beq s t)) ∧ Below w.heap.size w w' := by
  obtain ⟨a0, a1, a2⟩ := s
  obtain ⟨b0, b1, b2⟩ := t
  go_enter Tryz.func73, Tryz.ntmps73
  go_wp2
  all_goals (go_ret; exact ⟨ret_bool (by simp_all [Slot.beq]), by (repeat (first | with_reducible assumption | with_reducible exact Below.refl _ _ | with_reducible refine Below.setCell ?_ ?_ _ | with_reducible refine Below.alloc ?_ ?_ _ | with_reducible refine Below.drew ?_ | with_reducible refine below_drewN ?_ _ | with_reducible refine Below.step (by with_reducible assumption) ?_ ?_ | omega | (simp <;> omega) | (simp; done)))⟩)

set_option maxRecDepth 100000 in
set_option maxHeartbeats 1000000 in
theorem toSlotS_any (v : Value) (xs : List Slot) (lo hi : Nat) (w : World) (h : RdF Slot.enc 3 w lo hi v xs) (hh : hi ≤ w.heap.size) (hm : xs.length ≤ 1048576) :
    Calls Tryz.prog 28 #[v] w fun e w' => RetV (fun v' w' => RdW Slot.enc 3 79 w' w.heap.size w'.heap.size v' xs) w e w' := by
  obtain ⟨A, c, rfl, hc, hA⟩ := h
  obtain ⟨arr, ha, hmk⟩ := mkRow (P := Tryz.prog) 25 79 Tryz.underlying25 (.agg #[.int .i64 0, .int .i64 0, .int .i64 0]) 3 24 (by kernel_rfl) xs.length (by omega) (by omega)
  have HR := Lib.hid ha; clear ha
  go_enter Tryz.func28, Tryz.ntmps28
  go_wp2
  clear hmk
  go_loopw [4] (fun i wr => ∃ k : Nat, k ≤ xs.length ∧ i = .int .i64 k ∧ ∃ ar : Array Value, Hid (ar.size = xs.length * 3) ∧ RowTo Slot.enc 3 ar xs k ∧ Blk wr w.heap.size 79 ar ∧ Below w.heap.size w wr) (fun i _ => xs.length - (intOf i).toNat)
  case atStart => exact ⟨0, Nat.zero_le _, rfl, arr, HR, RowTo.zero, Blk.new _ _ _, by (repeat (first | with_reducible assumption | with_reducible exact Below.refl _ _ | with_reducible refine Below.setCell ?_ ?_ _ | with_reducible refine Below.alloc ?_ ?_ _ | with_reducible refine Below.drew ?_ | with_reducible refine below_drewN ?_ _ | with_reducible refine Below.step (by with_reducible assumption) ?_ ?_ | omega | (simp <;> omega) | (simp; done)))⟩
  case round =>
    obtain ⟨k, hk, rfl, ar, hsz, hrow, hblk, hb⟩ := hrel
    have HR2 := Lib.hid hrow; clear hrow
    have z0 := hb.size
    have z1 := hblk.lt
    by_cases hlt : k < xs.length
    · obtain ⟨b, off, rfl, -, hbw, hcell⟩ := hA (by omega)
      have hs : xs[k]? = some xs[k] := List.getElem?_eq_getElem hlt
      have c0 : wr.cell? ⟨b, off + k * 3, none⟩ = _ := (hb.cell (p := ⟨b, off + k * 3, none⟩) (by omega : b < _)).trans (hcell k _ hs 0 _ rfl)
      have c1 := (hb.cell (p := ⟨b, off + k * 3 + 1, none⟩) (by omega : b < _)).trans (hcell k _ hs 1 _ rfl)
      have c2 := (hb.cell (p := ⟨b, off + k * 3 + 2, none⟩) (by omega : b < _)).trans (hcell k _ hs 2 _ rfl)
      clear hcell hA
      have HS := Lib.hid hs; clear hs
      generalize xs[k] = s at *
      go_wp2_with fail
      refine (toSlot_any s _).mono ?_
      rintro e w1 ⟨rfl, hb1⟩
      have hk1 := hblk.below hb1 z1
      obtain ⟨u0, f0⟩ := hk1.some_ (k * 3) (by have := hsz.out; omega)
      obtain ⟨u1, f1⟩ := hk1.some_ (k * 3 + 1) (by have := hsz.out; omega)
      obtain ⟨u2, f2⟩ := hk1.some_ (k * 3 + 2) (by have := hsz.out; omega)
      have g0 := hk1.frozen (k * 3)
      have g1 := hk1.frozen (k * 3 + 1)
      have g2 := hk1.frozen (k * 3 + 2)
      go_wp2_with fail
      go_roundw
      case rel => exact ⟨k + 1, by omega, by go_num, setL ar (k * 3) s.enc, (setL_size _ _ _).trans hsz.out, HR2.out.step HS.out (fun _ => rfl) hsz.out hlt, hk1.set3 _ _ _ _, Below.set3 (Below.step hb1 z0 hb) (Nat.le_refl _) _ _ _ _⟩
      case measure => simp [intOf]; omega
    · obtain rfl : k = xs.length := by omega
      go_wp2
      go_ret
      exact ⟨_, rfl, RdW.of_row hblk hsz.out HR2.out _ _ (Nat.le_refl _) z1, hb⟩

set_option maxRecDepth 100000 in
set_option maxHeartbeats 1000000 in
theorem eqSlotS_any (v v' : Value) (xs ys : List Slot) (lo hi lo' hi' : Nat) (w : World) (h : RdF Slot.enc 3 w lo hi v xs) (hh : hi ≤ w.heap.size) (h' : RdF Slot.enc 3 w lo' hi' v' ys) (hh' : hi' ≤ w.heap.size)
    (hm : xs.length ≤ 9223372036854775807) (hm' : ys.length ≤ 9223372036854775807) :
    Calls Tryz.prog 33 #[v, v'] w fun e w' => e = .returned (.bool (eqL Slot.beq xs ys)) ∧ Below w.heap.size w w' := by
  obtain ⟨A, c, rfl, hc, hA⟩ := h
  obtain ⟨A', c', rfl, hc', hA'⟩ := h'
  by_cases hlen : xs.length = ys.length
  · have hne : ((xs.length : Int) != (ys.length : Int)) = false := by simp [hlen]
    go_enter Tryz.func33, Tryz.ntmps33
    go_wp2
    go_loopw [5] (fun i wr => ∃ k : Nat, k ≤ xs.length ∧ i = .int .i64 k ∧ eqL Slot.beq (xs.take k) (ys.take k) = true ∧ Below w.heap.size w wr) (fun i _ => xs.length - (intOf i).toNat)
    case atStart => exact ⟨0, Nat.zero_le _, rfl, rfl, by (repeat (first | with_reducible assumption | with_reducible exact Below.refl _ _ | with_reducible refine Below.setCell ?_ ?_ _ | with_reducible refine Below.alloc ?_ ?_ _ | with_reducible refine Below.drew ?_ | with_reducible refine below_drewN ?_ _ | with_reducible refine Below.step (by with_reducible assumption) ?_ ?_ | omega | (simp <;> omega) | (simp; done)))⟩
    case round =>
      obtain ⟨k, hk, rfl, heq, hb⟩ := hrel
      have HE := Lib.hid heq; clear heq
      have HL := Lib.hid hlen; clear hlen
      have z0 := hb.size
      by_cases hlt : k < xs.length
      · have hlt' : k < ys.length := by rw [← HL.out]; exact hlt
        obtain ⟨b, off, rfl, -, hbw, hcell⟩ := hA (by omega)
        obtain ⟨b', off', rfl, -, hbw', hcell'⟩ := hA' (by omega)
        have hs : xs[k]? = some xs[k] := List.getElem?_eq_getElem hlt
        have hs' : ys[k]? = some ys[k] := List.getElem?_eq_getElem hlt'
        have c0 : wr.cell? ⟨b, off + k * 3, none⟩ = _ := (hb.cell (p := ⟨b, off + k * 3, none⟩) (by omega : b < _)).trans (hcell k _ hs 0 _ rfl)
        have c1 := (hb.cell (p := ⟨b, off + k * 3 + 1, none⟩) (by omega : b < _)).trans (hcell k _ hs 1 _ rfl)
        have c2 := (hb.cell (p := ⟨b, off + k * 3 + 2, none⟩) (by omega : b < _)).trans (hcell k _ hs 2 _ rfl)
        have d0 : wr.cell? ⟨b', off' + k * 3, none⟩ = _ := (hb.cell (p := ⟨b', off' + k * 3, none⟩) (by omega : b' < _)).trans (hcell' k _ hs' 0 _ rfl)
        have d1 := (hb.cell (p := ⟨b', off' + k * 3 + 1, none⟩) (by omega : b' < _)).trans (hcell' k _ hs' 1 _ rfl)
        have d2 := (hb.cell (p := ⟨b', off' + k * 3 + 2, none⟩) (by omega : b' < _)).trans (hcell' k _ hs' 2 _ rfl)
        clear hcell hA hcell' hA'
        have HS := Lib.hid hs; clear hs
        have HS' := Lib.hid hs'; clear hs'
        generalize xs[k] = s at *
        generalize ys[k] = s' at *
        have hki : (k : Int) < (xs.length : Int) := by omega
        have hki' : (k : Int) < (ys.length : Int) := by omega
        go_wp2_with fail
        go_still_tail 8, (by kernel_rfl)
        change wpList _ _ _ _ _ wr.drew
        go_wp2_with (go_at_call 73; refine (eqSlot_any s s' _).mono ?_; rintro e w1 ⟨rfl, hb1⟩)
        · have hf : (!Slot.beq s s') = true := by assumption
          go_ret
          exact ⟨ret_bool (by rw [eqL_false HS.out HS'.out (by simpa using hf)]), by (repeat (first | with_reducible assumption | with_reducible exact Below.refl _ _ | with_reducible refine Below.setCell ?_ ?_ _ | with_reducible refine Below.alloc ?_ ?_ _ | with_reducible refine Below.drew ?_ | with_reducible refine below_drewN ?_ _ | with_reducible refine Below.step (by with_reducible assumption) ?_ ?_ | omega | (simp <;> omega) | (simp; done)))⟩
        · have hf : (!Slot.beq s s') = false := by assumption
          go_roundw
          case rel => exact ⟨k + 1, by omega, by go_num, eqL_succ HE.out HS.out HS'.out (by simpa using hf), by (repeat (first | with_reducible assumption | with_reducible exact Below.refl _ _ | with_reducible refine Below.setCell ?_ ?_ _ | with_reducible refine Below.alloc ?_ ?_ _ | with_reducible refine Below.drew ?_ | with_reducible refine below_drewN ?_ _ | with_reducible refine Below.step (by with_reducible assumption) ?_ ?_ | omega | (simp <;> omega) | (simp; done)))⟩
          case measure => simp [intOf]; omega
      · go_wp2
        go_ret
        exact ⟨ret_bool (by rw [eqL_of_take HE.out hlt HL.out]), by (repeat (first | with_reducible assumption | with_reducible exact Below.refl _ _ | with_reducible refine Below.setCell ?_ ?_ _ | with_reducible refine Below.alloc ?_ ?_ _ | with_reducible refine Below.drew ?_ | with_reducible refine below_drewN ?_ _ | with_reducible refine Below.step (by with_reducible assumption) ?_ ?_ | omega | (simp <;> omega) | (simp; done)))⟩
  · have hne : ((xs.length : Int) != (ys.length : Int)) = true := by simp; omega
    go_enter Tryz.func33, Tryz.ntmps33
    go_wp2
    go_ret
    exact ⟨ret_bool (by rw [eqL_len _ hlen]), by (repeat (first | with_reducible assumption | with_reducible exact Below.refl _ _ | with_reducible refine Below.setCell ?_ ?_ _ | with_reducible refine Below.alloc ?_ ?_ _ | with_reducible refine Below.drew ?_ | with_reducible refine below_drewN ?_ _ | with_reducible refine Below.step (by with_reducible assumption) ?_ ?_ | omega | (simp <;> omega) | (simp; done)))⟩

set_option maxHeartbeats 400000 in
theorem szSlotS_any (v : Value) (xs : List Slot) (lo hi : Nat) (l : Int) (w : World) (h : RdF Slot.enc 3 w lo hi v xs) (_hh : hi ≤ w.heap.size) (hm : xs.length ≤ 9223372036854775807) (h0 : 0 ≤ l) (h1 : l ≤ 1048576) :
    Calls Tryz.prog 24 #[v, .int .i64 l] w fun e w' => RetI (SzN l xs.length) w e w' := by
  obtain ⟨A, c, rfl, hc, hA⟩ := h
  by_cases hl : l < xs.length
  · go_enter Tryz.func24, Tryz.ntmps24
    go_wp2
    go_ret
    exact ⟨_, rfl, ⟨by omega, by omega⟩, by (repeat (first | with_reducible assumption | with_reducible exact Below.refl _ _ | with_reducible refine Below.setCell ?_ ?_ _ | with_reducible refine Below.alloc ?_ ?_ _ | with_reducible refine Below.drew ?_ | with_reducible refine below_drewN ?_ _ | with_reducible refine Below.step (by with_reducible assumption) ?_ ?_ | omega | (simp <;> omega) | (simp; done)))⟩
  · go_enter Tryz.func24, Tryz.ntmps24
    go_wp2
    go_ret
    exact ⟨_, rfl, ⟨by omega, by omega⟩, by (repeat (first | with_reducible assumption | with_reducible exact Below.refl _ _ | with_reducible refine Below.setCell ?_ ?_ _ | with_reducible refine Below.alloc ?_ ?_ _ | with_reducible refine Below.drew ?_ | with_reducible refine below_drewN ?_ _ | with_reducible refine Below.step (by with_reducible assumption) ?_ ?_ | omega | (simp <;> omega) | (simp; done)))⟩

end Go.Proofs.YtgpknnlphabpkaaGreat
