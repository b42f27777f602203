/- Slices of string: copies, comparison, sizes, marks. Written by a program (gen_one.py). -/
import Derived.Test.YtgpknnlphabpkaaGreatRows
import Derived.Test.YtgpknnlphabpkaaGreatMem4
import Derived.Test.YtgpknnlphabpkaaGreatMark
import Derived.Test.YtgpknnlphabpkaaGreatIntsH
namespace Go.Proofs.YtgpknnlphabpkaaGreat
open Go.RowKit
set_option linter.unusedVariables false

set_option maxRecDepth 100000 in
set_option maxHeartbeats 1000000 in
theorem toStringS_any (v : Value) (xs : List ByteArray) (lo hi : Nat) (w : World) (h : RdF encStr 1 w lo hi v xs) (hh : hi ≤ w.heap.size) (hm : xs.length ≤ 1048576) :
    Calls Tryz.prog 101 #[v] w fun e w' => RetV (fun v' w' => RdW encStr 1 9 w' w.heap.size w'.heap.size v' xs) w e w' := by
  obtain ⟨A, c, rfl, hc, hA⟩ := h
  obtain ⟨arr, ha, hmk⟩ := mkRow (P := Tryz.prog) 71 9 Tryz.underlying71 (.string ByteArray.empty) 1 16 (by kernel_rfl) xs.length (by omega) (by omega)
  have HR := Lib.hid ha; clear ha
  go_enter Tryz.func101, Tryz.ntmps101
  go_wp2
  clear hmk
  go_loopw [4] (fun i wr => ∃ k : Nat, k ≤ xs.length ∧ i = .int .i64 k ∧ ∃ ar : Array Value, Hid (ar.size = xs.length * 1) ∧ Hid (RowTo encStr 1 ar xs k) ∧ Blk wr w.heap.size 9 ar ∧ Below w.heap.size w wr) (fun i _ => xs.length - (intOf i).toNat)
  case atStart => exact ⟨0, Nat.zero_le _, rfl, arr, HR, RowTo.zero, Blk.new _ _ _, by (repeat (first | with_reducible assumption | with_reducible exact Below.refl _ _ | with_reducible refine Below.setCell ?_ ?_ _ | with_reducible refine Below.alloc ?_ ?_ _ | with_reducible refine Below.drew ?_ | with_reducible refine below_drewN ?_ _ | with_reducible refine Below.step (by with_reducible assumption) ?_ ?_ | omega | (simp <;> omega) | (simp; done)))⟩
  case round =>
    obtain ⟨k, hk, rfl, ar, hsz, HR2, hblk, hb⟩ := hrel
    have z0 := hb.size
    have z1 := hblk.lt
    by_cases hlt : k < xs.length
    · obtain ⟨b, off, rfl, -, hbw, hcell⟩ := hA (by omega)
      have hs : xs[k]? = some xs[k] := List.getElem?_eq_getElem hlt
      have c0 : wr.cell? ⟨b, off + k, none⟩ = _ := (hb.cell (p := ⟨b, off + k, none⟩) (by omega : b < _)).trans (by simpa using hcell k _ hs 0 _ rfl)
      clear hcell hA
      have HS := Lib.hid hs; clear hs
      generalize xs[k] = s at *
      obtain ⟨u0, f0⟩ := hblk.some_ k (by have := hsz.out; omega)
      have g0 := hblk.frozen k
      go_wp2_with fail
      go_roundw
      case rel =>
        refine ⟨k + 1, by omega, by go_num, setL ar (k * 1) (encStr s), (setL_size _ _ _).trans hsz.out, HR2.out.step HS.out (fun _ => rfl) hsz.out hlt, ?_, ?_⟩
        · have := hblk.set1 (k * 1) (.string s)
          simpa [encStr] using this
        · exact hb.setCell (Nat.le_refl _) _
      case measure => simp [intOf]; omega
    · obtain rfl : k = xs.length := by omega
      go_wp2
      go_ret
      exact ⟨_, rfl, RdW.of_row hblk hsz.out HR2.out _ _ (Nat.le_refl _) z1, hb⟩

set_option maxRecDepth 100000 in
set_option maxHeartbeats 1000000 in
theorem eqStringS_any (v v' : Value) (xs ys : List ByteArray) (lo hi lo' hi' : Nat) (w : World) (h : RdF encStr 1 w lo hi v xs) (hh : hi ≤ w.heap.size) (h' : RdF encStr 1 w lo' hi' v' ys) (hh' : hi' ≤ w.heap.size)
    (hm : xs.length ≤ 9223372036854775807) (hm' : ys.length ≤ 9223372036854775807) :
    Calls Tryz.prog 102 #[v, v'] w fun e w' => e = .returned (.bool (eqL strEq xs ys)) ∧ Below w.heap.size w w' := by
  obtain ⟨A, c, rfl, hc, hA⟩ := h
  obtain ⟨A', c', rfl, hc', hA'⟩ := h'
  by_cases hlen : xs.length = ys.length
  · have hne : ((xs.length : Int) != (ys.length : Int)) = false := by simp [hlen]
    go_enter Tryz.func102, Tryz.ntmps102
    go_wp2
    go_loopw [5] (fun i wr => ∃ k : Nat, k ≤ xs.length ∧ i = .int .i64 k ∧ Hid (eqL strEq (xs.take k) (ys.take k) = true) ∧ Below w.heap.size w wr) (fun i _ => xs.length - (intOf i).toNat)
    case atStart => exact ⟨0, Nat.zero_le _, rfl, rfl, by (repeat (first | with_reducible assumption | with_reducible exact Below.refl _ _ | with_reducible refine Below.setCell ?_ ?_ _ | with_reducible refine Below.alloc ?_ ?_ _ | with_reducible refine Below.drew ?_ | with_reducible refine below_drewN ?_ _ | with_reducible refine Below.step (by with_reducible assumption) ?_ ?_ | omega | (simp <;> omega) | (simp; done)))⟩
    case round =>
      obtain ⟨k, hk, rfl, HE, hb⟩ := hrel
      have HL := Lib.hid hlen; clear hlen
      have z0 := hb.size
      by_cases hlt : k < xs.length
      · have hlt' : k < ys.length := by rw [← HL.out]; exact hlt
        obtain ⟨b, off, rfl, -, hbw, hcell⟩ := hA (by omega)
        obtain ⟨b', off', rfl, -, hbw', hcell'⟩ := hA' (by omega)
        have hs : xs[k]? = some xs[k] := List.getElem?_eq_getElem hlt
        have hs' : ys[k]? = some ys[k] := List.getElem?_eq_getElem hlt'
        have c0 : wr.cell? ⟨b, off + k, none⟩ = _ := (hb.cell (p := ⟨b, off + k, none⟩) (by omega : b < _)).trans (by simpa using hcell k _ hs 0 _ rfl)
        have d0 : wr.cell? ⟨b', off' + k, none⟩ = _ := (hb.cell (p := ⟨b', off' + k, none⟩) (by omega : b' < _)).trans (by simpa using hcell' k _ hs' 0 _ rfl)
        clear hcell hA hcell' hA'
        have HS := Lib.hid hs; clear hs
        have HS' := Lib.hid hs'; clear hs'
        generalize xs[k] = s at *
        generalize ys[k] = s' at *
        have hki : (k : Int) < (xs.length : Int) := by omega
        have hki' : (k : Int) < (ys.length : Int) := by omega
        cases hq : strEq s s' with
        | true =>
          have HQ := Lib.hid hq
          have hq1 : (s.toList == s'.toList) = true := hq
          have hq2 : s.toList = s'.toList := by simpa using hq1
          clear hq
          go_wp2_with fail
          go_quiet (fail)
          go_wp2_with fail
          go_roundw
          case rel => exact ⟨k + 1, by omega, by go_num, eqL_succ HE.out HS.out HS'.out HQ.out, by (repeat (first | with_reducible assumption | with_reducible exact Below.refl _ _ | with_reducible refine Below.setCell ?_ ?_ _ | with_reducible refine Below.alloc ?_ ?_ _ | with_reducible refine Below.drew ?_ | with_reducible refine below_drewN ?_ _ | with_reducible refine Below.step (by with_reducible assumption) ?_ ?_ | omega | (simp <;> omega) | (simp; done)))⟩
          case measure => simp [intOf]; omega
        | false =>
          have HQ := Lib.hid hq
          have hq1 : (s.toList == s'.toList) = false := hq
          have hq2 : ¬ s.toList = s'.toList := by simpa using hq1
          clear hq
          go_wp2_with fail
          go_quiet (fail)
          go_wp2_with fail
          go_ret
          exact ⟨ret_bool (by rw [eqL_false HS.out HS'.out HQ.out]), by (repeat (first | with_reducible assumption | with_reducible exact Below.refl _ _ | with_reducible refine Below.setCell ?_ ?_ _ | with_reducible refine Below.alloc ?_ ?_ _ | with_reducible refine Below.drew ?_ | with_reducible refine below_drewN ?_ _ | with_reducible refine Below.step (by with_reducible assumption) ?_ ?_ | omega | (simp <;> omega) | (simp; done)))⟩
      · go_wp2
        go_ret
        exact ⟨ret_bool (by rw [eqL_of_take HE.out hlt HL.out]), by (repeat (first | with_reducible assumption | with_reducible exact Below.refl _ _ | with_reducible refine Below.setCell ?_ ?_ _ | with_reducible refine Below.alloc ?_ ?_ _ | with_reducible refine Below.drew ?_ | with_reducible refine below_drewN ?_ _ | with_reducible refine Below.step (by with_reducible assumption) ?_ ?_ | omega | (simp <;> omega) | (simp; done)))⟩
  · have hne : ((xs.length : Int) != (ys.length : Int)) = true := by simp; omega
    go_enter Tryz.func102, Tryz.ntmps102
    go_wp2
    go_ret
    exact ⟨ret_bool (by rw [eqL_len _ hlen]), by (repeat (first | with_reducible assumption | with_reducible exact Below.refl _ _ | with_reducible refine Below.setCell ?_ ?_ _ | with_reducible refine Below.alloc ?_ ?_ _ | with_reducible refine Below.drew ?_ | with_reducible refine below_drewN ?_ _ | with_reducible refine Below.step (by with_reducible assumption) ?_ ?_ | omega | (simp <;> omega) | (simp; done)))⟩

def StrsSz (l : Int) (xs : List ByteArray) (r : Int) : Prop := r ≤ l ∧ (0 ≤ r → r + xs.length ≤ l ∧ ∀ x ∈ xs, x.size ≤ l)
set_option maxHeartbeats 800000 in
theorem szStringS_any (v : Value) (xs : List ByteArray) (lo hi : Nat) (l : Int) (w : World) (h : RdF encStr 1 w lo hi v xs) (hh : hi ≤ w.heap.size) (hm : xs.length ≤ 9223372036854775807) (hms : ∀ x ∈ xs, x.size ≤ 9223372036854775807) (h0 : 0 ≤ l) (h1 : l ≤ 1048576) :
    Calls Tryz.prog 99 #[v, .int .i64 l] w fun e w' => RetI (StrsSz l xs) w e w' := by
  obtain ⟨A, c, rfl, hc, hA⟩ := h
  by_cases hl : l < xs.length
  · go_enter Tryz.func99, Tryz.ntmps99
    go_wp2
    go_ret
    exact ⟨_, rfl, ⟨by omega, by omega⟩, by (repeat (first | with_reducible assumption | with_reducible exact Below.refl _ _ | with_reducible refine Below.setCell ?_ ?_ _ | with_reducible refine Below.alloc ?_ ?_ _ | with_reducible refine Below.drew ?_ | with_reducible refine below_drewN ?_ _ | with_reducible refine Below.step (by with_reducible assumption) ?_ ?_ | omega | (simp <;> omega) | (simp; done)))⟩
  · go_enter Tryz.func99, Tryz.ntmps99
    go_wp2
    go_loopw [1, 5] (fun q i wr => ∃ k : Nat, k ≤ xs.length ∧ i = .int .i64 k ∧ ∃ r : Int, q = .int .i64 r ∧ 0 ≤ r ∧ r ≤ l - xs.length ∧ Hid (∀ x ∈ xs.take k, x.size ≤ l) ∧ Below w.heap.size w wr) (fun _ i _ => xs.length - (intOf i).toNat)
    case atStart => exact ⟨0, Nat.zero_le _, rfl, _, rfl, by omega, by omega, by simp [Hid], by (repeat (first | with_reducible assumption | with_reducible exact Below.refl _ _ | with_reducible refine Below.setCell ?_ ?_ _ | with_reducible refine Below.alloc ?_ ?_ _ | with_reducible refine Below.drew ?_ | with_reducible refine below_drewN ?_ _ | with_reducible refine Below.step (by with_reducible assumption) ?_ ?_ | omega | (simp <;> omega) | (simp; done)))⟩
    case round =>
      obtain ⟨k, hk, rfl, r, rfl, hr0, hr1, HA, hb⟩ := hrel
      have HM := Lib.hid hms; clear hms
      have z0 := hb.size
      by_cases hlt : k < xs.length
      · obtain ⟨b, off, rfl, -, hbw, hcell⟩ := hA (by omega)
        have hs : xs[k]? = some xs[k] := List.getElem?_eq_getElem hlt
        have c0 : wr.cell? ⟨b, off + k, none⟩ = _ := (hb.cell (p := ⟨b, off + k, none⟩) (by omega : b < _)).trans (by simpa using hcell k _ hs 0 _ rfl)
        clear hcell hA
        have HS := Lib.hid hs; clear hs
        generalize xs[k] = s at *
        have hx0 := HM.out s (List.mem_of_getElem? HS.out)
        by_cases hq : r - s.size < 0
        · go_wp2_with fail
          go_ret
          exact ⟨_, rfl, ⟨by omega, by omega⟩, by (repeat (first | with_reducible assumption | with_reducible exact Below.refl _ _ | with_reducible refine Below.setCell ?_ ?_ _ | with_reducible refine Below.alloc ?_ ?_ _ | with_reducible refine Below.drew ?_ | with_reducible refine below_drewN ?_ _ | with_reducible refine Below.step (by with_reducible assumption) ?_ ?_ | omega | (simp <;> omega) | (simp; done)))⟩
        · go_wp2_with fail
          go_roundw
          case rel => exact ⟨k + 1, by omega, by go_num, _, rfl, by omega, by omega, take_forall_succ HA.out HS.out (by omega), by (repeat (first | with_reducible assumption | with_reducible exact Below.refl _ _ | with_reducible refine Below.setCell ?_ ?_ _ | with_reducible refine Below.alloc ?_ ?_ _ | with_reducible refine Below.drew ?_ | with_reducible refine below_drewN ?_ _ | with_reducible refine Below.step (by with_reducible assumption) ?_ ?_ | omega | (simp <;> omega) | (simp; done)))⟩
          case measure => simp [intOf]; omega
      · obtain rfl : k = xs.length := by omega
        go_wp2
        go_ret
        exact ⟨_, rfl, ⟨by omega, fun _ => ⟨by omega, by have := HA.out; rwa [List.take_length] at this⟩⟩, by (repeat (first | with_reducible assumption | with_reducible exact Below.refl _ _ | with_reducible refine Below.setCell ?_ ?_ _ | with_reducible refine Below.alloc ?_ ?_ _ | with_reducible refine Below.drew ?_ | with_reducible refine below_drewN ?_ _ | with_reducible refine Below.step (by with_reducible assumption) ?_ ?_ | omega | (simp <;> omega) | (simp; done)))⟩

end Go.Proofs.YtgpknnlphabpkaaGreat
