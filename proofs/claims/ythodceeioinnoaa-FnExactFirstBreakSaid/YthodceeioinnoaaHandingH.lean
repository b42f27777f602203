/- Handing: copies, comparison, size, as walks. Written by a program (gen_struct.py). -/
import Derived.Test.YthodceeioinnoaaRows
import Derived.Test.YthodceeioinnoaaMem
import Derived.StillTailTactics
namespace Go.Proofs.Ythodceeioinnoaa
open Go.RowKit

structure Handing where
  day : Int
  frm : ByteArray
  to_ : ByteArray
  sl : Int
def Handing.enc (s : Handing) : List Value := [.int .i64 s.day, .string s.frm, .string s.to_, .int .i64 s.sl]
def Handing.beq (s t : Handing) : Bool := ((s.day == t.day) && ((s.frm.toList == t.frm.toList) && ((s.to_.toList == t.to_.toList) && (s.sl == t.sl))))
theorem Handing.beq_iff {s t : Handing} : Handing.beq s t = true ↔ s = t := by
  obtain ⟨a0, a1, a2, a3⟩ := s; obtain ⟨b0, b1, b2, b3⟩ := t; simp [Handing.beq, toList_inj]

set_option maxHeartbeats 800000 in
theorem toHanding_any (s : Handing) (w : World) :
    Calls Try.prog 101 #[.agg #[.int .i64 s.day, .string s.frm, .string s.to_, .int .i64 s.sl]] w fun e w' => e = .returned (.agg #[.int .i64 s.day, .string s.frm, .string s.to_, .int .i64 s.sl]) ∧ Below w.heap.size w w' := by
  go_enter Try.func101, Try.ntmps101
  go_wp2
  refine bodyPost_ret (v := .agg #[.int .i64 s.day, .string s.frm, .string s.to_, .int .i64 s.sl]) (by simp [results, Try.results101, go_sem]) rfl ⟨rfl, by (repeat (first | with_reducible assumption | with_reducible exact Below.refl _ _ | with_reducible refine Below.setCell ?_ ?_ _ | with_reducible refine Below.alloc ?_ ?_ _ | with_reducible refine Below.drew ?_ | with_reducible refine below_drewN ?_ _ | with_reducible refine Below.step (by with_reducible assumption) ?_ ?_ | omega | (simp <;> omega) | (simp; done)))⟩

set_option maxHeartbeats 800000 in
theorem eqHanding_any (s t : Handing) (w : World) :
    Calls Try.prog 102 #[.agg #[.int .i64 s.day, .string s.frm, .string s.to_, .int .i64 s.sl], .agg #[.int .i64 t.day, .string t.frm, .string t.to_, .int .i64 t.sl]] w fun e w' => e = .returned (.bool (Handing.beq s t)) ∧ Below w.heap.size w w' := by
  obtain ⟨a0, a1, a2, a3⟩ := s
  obtain ⟨b0, b1, b2, b3⟩ := t
  go_enter Try.func102, Try.ntmps102
  go_wp2
  all_goals (go_ret; exact ⟨ret_bool (by simp_all [Handing.beq]), by (repeat (first | with_reducible assumption | with_reducible exact Below.refl _ _ | with_reducible refine Below.setCell ?_ ?_ _ | with_reducible refine Below.alloc ?_ ?_ _ | with_reducible refine Below.drew ?_ | with_reducible refine below_drewN ?_ _ | with_reducible refine Below.step (by with_reducible assumption) ?_ ?_ | omega | (simp <;> omega) | (simp; done)))⟩)

set_option maxRecDepth 100000 in
set_option maxHeartbeats 1000000 in
theorem toHandingS_any (v : Value) (xs : List Handing) (lo hi : Nat) (w : World) (h : RdF Handing.enc 4 w lo hi v xs) (hh : hi ≤ w.heap.size) (hm : xs.length ≤ 1048576) :
    Calls Try.prog 86 #[v] w fun e w' => RetV (fun v' w' => RdW Handing.enc 4 102 w' w.heap.size w'.heap.size v' xs) w e w' := by
  obtain ⟨A, c, rfl, hc, hA⟩ := h
  obtain ⟨arr, ha, hmk⟩ := mkRow (P := Try.prog) 68 102 Try.underlying68 (.agg #[.int .i64 0, .string ByteArray.empty, .string ByteArray.empty, .int .i64 0]) 4 48 (by kernel_rfl) xs.length (by omega) (by omega)
  have HR := Lib.hid ha; clear ha
  go_enter Try.func86, Try.ntmps86
  go_wp2
  clear hmk
  go_loopw [4] (fun i wr => ∃ k : Nat, k ≤ xs.length ∧ i = .int .i64 k ∧ ∃ ar : Array Value, Hid (ar.size = xs.length * 4) ∧ RowTo Handing.enc 4 ar xs k ∧ Blk wr w.heap.size 102 ar ∧ Below w.heap.size w wr) (fun i _ => xs.length - (intOf i).toNat)
  case atStart => exact ⟨0, Nat.zero_le _, rfl, arr, HR, RowTo.zero, Blk.new _ _ _, by (repeat (first | with_reducible assumption | with_reducible exact Below.refl _ _ | with_reducible refine Below.setCell ?_ ?_ _ | with_reducible refine Below.alloc ?_ ?_ _ | with_reducible refine Below.drew ?_ | with_reducible refine below_drewN ?_ _ | with_reducible refine Below.step (by with_reducible assumption) ?_ ?_ | omega | (simp <;> omega) | (simp; done)))⟩
  case round =>
    obtain ⟨k, hk, rfl, ar, hsz, hrow, hblk, hb⟩ := hrel
    have HR2 := Lib.hid hrow; clear hrow
    have z0 := hb.size
    have z1 := hblk.lt
    by_cases hlt : k < xs.length
    · obtain ⟨b, off, rfl, -, hbw, hcell⟩ := hA (by omega)
      have hs : xs[k]? = some xs[k] := List.getElem?_eq_getElem hlt
      have c0 : wr.cell? ⟨b, off + k * 4, none⟩ = _ := (hb.cell (p := ⟨b, off + k * 4, none⟩) (by omega : b < _)).trans (hcell k _ hs 0 _ rfl)
      have c1 := (hb.cell (p := ⟨b, off + k * 4 + 1, none⟩) (by omega : b < _)).trans (hcell k _ hs 1 _ rfl)
      have c2 := (hb.cell (p := ⟨b, off + k * 4 + 2, none⟩) (by omega : b < _)).trans (hcell k _ hs 2 _ rfl)
      have c3 := (hb.cell (p := ⟨b, off + k * 4 + 3, none⟩) (by omega : b < _)).trans (hcell k _ hs 3 _ rfl)
      clear hcell hA
      have HS := Lib.hid hs; clear hs
      generalize xs[k] = s at *
      go_wp2_with fail
      refine (toHanding_any s _).mono ?_
      rintro e w1 ⟨rfl, hb1⟩
      have hk1 := hblk.below hb1 z1
      obtain ⟨u0, f0⟩ := hk1.some_ (k * 4) (by have := hsz.out; omega)
      obtain ⟨u1, f1⟩ := hk1.some_ (k * 4 + 1) (by have := hsz.out; omega)
      obtain ⟨u2, f2⟩ := hk1.some_ (k * 4 + 2) (by have := hsz.out; omega)
      obtain ⟨u3, f3⟩ := hk1.some_ (k * 4 + 3) (by have := hsz.out; omega)
      have g0 := hk1.frozen (k * 4)
      have g1 := hk1.frozen (k * 4 + 1)
      have g2 := hk1.frozen (k * 4 + 2)
      have g3 := hk1.frozen (k * 4 + 3)
      go_wp2_with fail
      go_roundw
      case rel => exact ⟨k + 1, by omega, by go_num, setL ar (k * 4) s.enc, (setL_size _ _ _).trans hsz.out, HR2.out.step HS.out (fun _ => rfl) hsz.out hlt, hk1.set4 _ _ _ _ _, Below.set4 (Below.step hb1 z0 hb) (Nat.le_refl _) _ _ _ _ _⟩
      case measure => simp [intOf]; omega
    · obtain rfl : k = xs.length := by omega
      go_wp2
      go_ret
      exact ⟨_, rfl, RdW.of_row hblk hsz.out HR2.out _ _ (Nat.le_refl _) z1, hb⟩

set_option maxRecDepth 100000 in
set_option maxHeartbeats 1000000 in
theorem eqHandingS_any (v v' : Value) (xs ys : List Handing) (lo hi lo' hi' : Nat) (w : World) (h : RdF Handing.enc 4 w lo hi v xs) (hh : hi ≤ w.heap.size) (h' : RdF Handing.enc 4 w lo' hi' v' ys) (hh' : hi' ≤ w.heap.size)
    (hm : xs.length ≤ 9223372036854775807) (hm' : ys.length ≤ 9223372036854775807) :
    Calls Try.prog 90 #[v, v'] w fun e w' => e = .returned (.bool (eqL Handing.beq xs ys)) ∧ Below w.heap.size w w' := by
  obtain ⟨A, c, rfl, hc, hA⟩ := h
  obtain ⟨A', c', rfl, hc', hA'⟩ := h'
  by_cases hlen : xs.length = ys.length
  · have hne : ((xs.length : Int) != (ys.length : Int)) = false := by simp [hlen]
    go_enter Try.func90, Try.ntmps90
    go_wp2
    go_loopw [5] (fun i wr => ∃ k : Nat, k ≤ xs.length ∧ i = .int .i64 k ∧ eqL Handing.beq (xs.take k) (ys.take k) = true ∧ Below w.heap.size w wr) (fun i _ => xs.length - (intOf i).toNat)
    case atStart => exact ⟨0, Nat.zero_le _, rfl, rfl, by (repeat (first | with_reducible assumption | with_reducible exact Below.refl _ _ | with_reducible refine Below.setCell ?_ ?_ _ | with_reducible refine Below.alloc ?_ ?_ _ | with_reducible refine Below.drew ?_ | with_reducible refine below_drewN ?_ _ | with_reducible refine Below.step (by with_reducible assumption) ?_ ?_ | omega | (simp <;> omega) | (simp; done)))⟩
    case round =>
      obtain ⟨k, hk, rfl, heq, hb⟩ := hrel
      have HE := Lib.hid heq; clear heq
      have HL := Lib.hid hlen; clear hlen
      have z0 := hb.size
      by_cases hlt : k < xs.length
      · have hlt' : k < ys.length := by rw [← HL.out]; exact hlt
        obtain ⟨b, off, rfl, -, hbw, hcell⟩ := hA (by omega)
        obtain ⟨b', off', rfl, -, hbw', hcell'⟩ := hA' (by omega)
        have hs : xs[k]? = some xs[k] := List.getElem?_eq_getElem hlt
        have hs' : ys[k]? = some ys[k] := List.getElem?_eq_getElem hlt'
        have c0 : wr.cell? ⟨b, off + k * 4, none⟩ = _ := (hb.cell (p := ⟨b, off + k * 4, none⟩) (by omega : b < _)).trans (hcell k _ hs 0 _ rfl)
        have c1 := (hb.cell (p := ⟨b, off + k * 4 + 1, none⟩) (by omega : b < _)).trans (hcell k _ hs 1 _ rfl)
        have c2 := (hb.cell (p := ⟨b, off + k * 4 + 2, none⟩) (by omega : b < _)).trans (hcell k _ hs 2 _ rfl)
        have c3 := (hb.cell (p := ⟨b, off + k * 4 + 3, none⟩) (by omega : b < _)).trans (hcell k _ hs 3 _ rfl)
        have d0 : wr.cell? ⟨b', off' + k * 4, none⟩ = _ := (hb.cell (p := ⟨b', off' + k * 4, none⟩) (by omega : b' < _)).trans (hcell' k _ hs' 0 _ rfl)
        have d1 := (hb.cell (p := ⟨b', off' + k * 4 + 1, none⟩) (by omega : b' < _)).trans (hcell' k _ hs' 1 _ rfl)
        have d2 := (hb.cell (p := ⟨b', off' + k * 4 + 2, none⟩) (by omega : b' < _)).trans (hcell' k _ hs' 2 _ rfl)
        have d3 := (hb.cell (p := ⟨b', off' + k * 4 + 3, none⟩) (by omega : b' < _)).trans (hcell' k _ hs' 3 _ rfl)
        clear hcell hA hcell' hA'
        have HS := Lib.hid hs; clear hs
        have HS' := Lib.hid hs'; clear hs'
        generalize xs[k] = s at *
        generalize ys[k] = s' at *
        have hki : (k : Int) < (xs.length : Int) := by omega
        have hki' : (k : Int) < (ys.length : Int) := by omega
        go_wp2_with fail
        go_still_tail 8, (by kernel_rfl)
        change wpList _ _ _ _ _ wr.drew
        go_wp2_with (go_at_call 102; refine (eqHanding_any s s' _).mono ?_; rintro e w1 ⟨rfl, hb1⟩)
        · have hf : (!Handing.beq s s') = true := by assumption
          go_ret
          exact ⟨ret_bool (by rw [eqL_false HS.out HS'.out (by simpa using hf)]), by (repeat (first | with_reducible assumption | with_reducible exact Below.refl _ _ | with_reducible refine Below.setCell ?_ ?_ _ | with_reducible refine Below.alloc ?_ ?_ _ | with_reducible refine Below.drew ?_ | with_reducible refine below_drewN ?_ _ | with_reducible refine Below.step (by with_reducible assumption) ?_ ?_ | omega | (simp <;> omega) | (simp; done)))⟩
        · have hf : (!Handing.beq s s') = false := by assumption
          go_roundw
          case rel => exact ⟨k + 1, by omega, by go_num, eqL_succ HE.out HS.out HS'.out (by simpa using hf), by (repeat (first | with_reducible assumption | with_reducible exact Below.refl _ _ | with_reducible refine Below.setCell ?_ ?_ _ | with_reducible refine Below.alloc ?_ ?_ _ | with_reducible refine Below.drew ?_ | with_reducible refine below_drewN ?_ _ | with_reducible refine Below.step (by with_reducible assumption) ?_ ?_ | omega | (simp <;> omega) | (simp; done)))⟩
          case measure => simp [intOf]; omega
      · go_wp2
        go_ret
        exact ⟨ret_bool (by rw [eqL_of_take HE.out hlt HL.out]), by (repeat (first | with_reducible assumption | with_reducible exact Below.refl _ _ | with_reducible refine Below.setCell ?_ ?_ _ | with_reducible refine Below.alloc ?_ ?_ _ | with_reducible refine Below.drew ?_ | with_reducible refine below_drewN ?_ _ | with_reducible refine Below.step (by with_reducible assumption) ?_ ?_ | omega | (simp <;> omega) | (simp; done)))⟩
  · have hne : ((xs.length : Int) != (ys.length : Int)) = true := by simp; omega
    go_enter Try.func90, Try.ntmps90
    go_wp2
    go_ret
    exact ⟨ret_bool (by rw [eqL_len _ hlen]), by (repeat (first | with_reducible assumption | with_reducible exact Below.refl _ _ | with_reducible refine Below.setCell ?_ ?_ _ | with_reducible refine Below.alloc ?_ ?_ _ | with_reducible refine Below.drew ?_ | with_reducible refine below_drewN ?_ _ | with_reducible refine Below.step (by with_reducible assumption) ?_ ?_ | omega | (simp <;> omega) | (simp; done)))⟩

def Handing.small (s : Handing) : Prop := s.frm.size ≤ 1048576 ∧ s.to_.size ≤ 1048576
def Handing.Sz (l : Int) (s : Handing) (r : Int) : Prop := r ≤ l ∧ (0 ≤ r → s.frm.size ≤ l ∧ s.to_.size ≤ l)
def Handing.SzS (l : Int) (xs : List Handing) (r : Int) : Prop := r ≤ l ∧ (0 ≤ r → xs.length ≤ l ∧ ∀ x ∈ xs, x.frm.size ≤ l ∧ x.to_.size ≤ l)
set_option maxHeartbeats 400000 in
theorem szHanding_any (s : Handing) (l : Int) (w : World) (hm0 : s.frm.size ≤ 9223372036854775807) (hm1 : s.to_.size ≤ 9223372036854775807) (h0 : 0 ≤ l) (h1 : l ≤ 1048576) :
    Calls Try.prog 100 #[.agg #[.int .i64 s.day, .string s.frm, .string s.to_, .int .i64 s.sl], .int .i64 l] w fun e w' => RetI (Handing.Sz l s) w e w' := by
  go_enter Try.func100, Try.ntmps100
  go_wp2
  all_goals (go_ret; exact ⟨_, rfl, ⟨by omega, by omega⟩, by (repeat (first | with_reducible assumption | with_reducible exact Below.refl _ _ | with_reducible refine Below.setCell ?_ ?_ _ | with_reducible refine Below.alloc ?_ ?_ _ | with_reducible refine Below.drew ?_ | with_reducible refine below_drewN ?_ _ | with_reducible refine Below.step (by with_reducible assumption) ?_ ?_ | omega | (simp <;> omega) | (simp; done)))⟩)

set_option maxHeartbeats 800000 in
theorem szHandingS_any (v : Value) (xs : List Handing) (lo hi : Nat) (l : Int) (w : World) (h : RdF Handing.enc 4 w lo hi v xs) (hh : hi ≤ w.heap.size) (hm : xs.length ≤ 9223372036854775807) (hms : ∀ x ∈ xs, x.frm.size ≤ 9223372036854775807 ∧ x.to_.size ≤ 9223372036854775807) (h0 : 0 ≤ l) (h1 : l ≤ 1048576) :
    Calls Try.prog 83 #[v, .int .i64 l] w fun e w' => RetI (Handing.SzS l xs) w e w' := by
  obtain ⟨A, c, rfl, hc, hA⟩ := h
  by_cases hl : l < xs.length
  · go_enter Try.func83, Try.ntmps83
    go_wp2
    go_ret
    exact ⟨_, rfl, ⟨by omega, by omega⟩, by (repeat (first | with_reducible assumption | with_reducible exact Below.refl _ _ | with_reducible refine Below.setCell ?_ ?_ _ | with_reducible refine Below.alloc ?_ ?_ _ | with_reducible refine Below.drew ?_ | with_reducible refine below_drewN ?_ _ | with_reducible refine Below.step (by with_reducible assumption) ?_ ?_ | omega | (simp <;> omega) | (simp; done)))⟩
  · go_enter Try.func83, Try.ntmps83
    go_wp2
    go_loopw [1, 5] (fun q i wr => ∃ k : Nat, k ≤ xs.length ∧ i = .int .i64 k ∧ ∃ r : Int, q = .int .i64 r ∧ 0 ≤ r ∧ r ≤ l - xs.length ∧ (∀ x ∈ xs.take k, x.frm.size ≤ l ∧ x.to_.size ≤ l) ∧ Below w.heap.size w wr) (fun _ i _ => xs.length - (intOf i).toNat)
    case atStart => exact ⟨0, Nat.zero_le _, rfl, _, rfl, by omega, by omega, by simp, by (repeat (first | with_reducible assumption | with_reducible exact Below.refl _ _ | with_reducible refine Below.setCell ?_ ?_ _ | with_reducible refine Below.alloc ?_ ?_ _ | with_reducible refine Below.drew ?_ | with_reducible refine below_drewN ?_ _ | with_reducible refine Below.step (by with_reducible assumption) ?_ ?_ | omega | (simp <;> omega) | (simp; done)))⟩
    case round =>
      obtain ⟨k, hk, rfl, r, rfl, hr0, hr1, hall, hb⟩ := hrel
      have HA := Lib.hid hall; clear hall
      have HM := Lib.hid hms; clear hms
      have z0 := hb.size
      by_cases hlt : k < xs.length
      · obtain ⟨b, off, rfl, -, hbw, hcell⟩ := hA (by omega)
        have hs : xs[k]? = some xs[k] := List.getElem?_eq_getElem hlt
        have c0 : wr.cell? ⟨b, off + k * 4, none⟩ = _ := (hb.cell (p := ⟨b, off + k * 4, none⟩) (by omega : b < _)).trans (hcell k _ hs 0 _ rfl)
        have c1 := (hb.cell (p := ⟨b, off + k * 4 + 1, none⟩) (by omega : b < _)).trans (hcell k _ hs 1 _ rfl)
        have c2 := (hb.cell (p := ⟨b, off + k * 4 + 2, none⟩) (by omega : b < _)).trans (hcell k _ hs 2 _ rfl)
        have c3 := (hb.cell (p := ⟨b, off + k * 4 + 3, none⟩) (by omega : b < _)).trans (hcell k _ hs 3 _ rfl)
        clear hcell hA
        have HS := Lib.hid hs; clear hs
        generalize xs[k] = s at *
        obtain ⟨hx0, hx1⟩ := HM.out s (List.mem_of_getElem? HS.out)
        go_wp2_with (go_at_call 100; refine (szHanding_any s r _ (by omega) (by omega) (by omega) (by omega)).mono ?_; rintro e w1 ⟨q, rfl, ⟨hq1, hq2⟩, hb1⟩)
        · go_ret
          exact ⟨_, rfl, ⟨by omega, by omega⟩, by (repeat (first | with_reducible assumption | with_reducible exact Below.refl _ _ | with_reducible refine Below.setCell ?_ ?_ _ | with_reducible refine Below.alloc ?_ ?_ _ | with_reducible refine Below.drew ?_ | with_reducible refine below_drewN ?_ _ | with_reducible refine Below.step (by with_reducible assumption) ?_ ?_ | omega | (simp <;> omega) | (simp; done)))⟩
        · have hq0 : 0 ≤ q := by omega
          go_roundw
          case rel =>
            refine ⟨k + 1, by omega, by go_num, _, rfl, by omega, by omega, take_forall_succ HA.out HS.out ?_, by (repeat (first | with_reducible assumption | with_reducible exact Below.refl _ _ | with_reducible refine Below.setCell ?_ ?_ _ | with_reducible refine Below.alloc ?_ ?_ _ | with_reducible refine Below.drew ?_ | with_reducible refine below_drewN ?_ _ | with_reducible refine Below.step (by with_reducible assumption) ?_ ?_ | omega | (simp <;> omega) | (simp; done)))⟩
            have := hq2 hq0
            omega
          case measure => simp [intOf]; omega
      · obtain rfl : k = xs.length := by omega
        go_wp2
        go_ret
        exact ⟨_, rfl, ⟨by omega, fun _ => ⟨by omega, by have := HA.out; rwa [List.take_length] at this⟩⟩, by (repeat (first | with_reducible assumption | with_reducible exact Below.refl _ _ | with_reducible refine Below.setCell ?_ ?_ _ | with_reducible refine Below.alloc ?_ ?_ _ | with_reducible refine Below.drew ?_ | with_reducible refine below_drewN ?_ _ | with_reducible refine Below.step (by with_reducible assumption) ?_ ?_ | omega | (simp <;> omega) | (simp; done)))⟩

end Go.Proofs.Ythodceeioinnoaa
