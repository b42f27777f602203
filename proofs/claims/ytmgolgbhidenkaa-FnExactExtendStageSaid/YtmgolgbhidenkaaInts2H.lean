/- Slices of int64: copies, comparison, sizes, marks. Written by a program (gen_one.py). -/
import Derived.Test.YtmgolgbhidenkaaRows
import Derived.Test.YtmgolgbhidenkaaMem4
import Derived.Test.YtmgolgbhidenkaaMark
import Derived.Test.YtmgolgbhidenkaaIntsH
namespace Go.Proofs.Ytmgolgbhidenkaa
open Go.RowKit
set_option linter.unusedVariables false

set_option maxRecDepth 100000 in
set_option maxHeartbeats 1000000 in
theorem toInt64S_any (v : Value) (xs : List Int) (lo hi : Nat) (w : World) (h : RdF encInt 1 w lo hi v xs) (hh : hi ≤ w.heap.size) (hm : xs.length ≤ 1048576) :
    Calls Try.prog 21 #[v] w fun e w' => RetV (fun v' w' => RdW encInt 1 2 w' w.heap.size w'.heap.size v' xs) w e w' := by
  obtain ⟨A, c, rfl, hc, hA⟩ := h
  obtain ⟨arr, ha, hmk⟩ := mkRow (P := Try.prog) 23 2 Try.underlying23 (.int .i64 0) 1 8 (by kernel_rfl) xs.length (by omega) (by omega)
  have HR := Lib.hid ha; clear ha
  go_enter Try.func21, Try.ntmps21
  go_wp2
  clear hmk
  go_loopw [4] (fun i wr => ∃ k : Nat, k ≤ xs.length ∧ i = .int .i64 k ∧ ∃ ar : Array Value, Hid (ar.size = xs.length * 1) ∧ Hid (RowTo encInt 1 ar xs k) ∧ Blk wr w.heap.size 2 ar ∧ Below w.heap.size w wr) (fun i _ => xs.length - (intOf i).toNat)
  case atStart => exact ⟨0, Nat.zero_le _, rfl, arr, HR, RowTo.zero, Blk.new _ _ _, by (repeat (first | with_reducible assumption | with_reducible exact Below.refl _ _ | with_reducible refine Below.setCell ?_ ?_ _ | with_reducible refine Below.alloc ?_ ?_ _ | with_reducible refine Below.drew ?_ | with_reducible refine below_drewN ?_ _ | with_reducible refine Below.step (by with_reducible assumption) ?_ ?_ | omega | (simp <;> omega) | (simp; done)))⟩
  case round =>
    obtain ⟨k, hk, rfl, ar, hsz, HR2, hblk, hb⟩ := hrel
    have z0 := hb.size
    have z1 := hblk.lt
    by_cases hlt : k < xs.length
    · obtain ⟨b, off, rfl, -, hbw, hcell⟩ := hA (by omega)
      have hs : xs[k]? = some xs[k] := List.getElem?_eq_getElem hlt
      have c0 : wr.cell? ⟨b, off + k, none⟩ = _ := (hb.cell (p := ⟨b, off + k, none⟩) (by omega : b < _)).trans (by simpa using hcell k _ hs 0 _ rfl)
      clear hcell hA
      have HS := Lib.hid hs; clear hs
      generalize xs[k] = s at *
      obtain ⟨u0, f0⟩ := hblk.some_ k (by have := hsz.out; omega)
      have g0 := hblk.frozen k
      go_wp2_with fail
      go_roundw
      case rel =>
        refine ⟨k + 1, by omega, by go_num, setL ar (k * 1) (encInt s), (setL_size _ _ _).trans hsz.out, HR2.out.step HS.out (fun _ => rfl) hsz.out hlt, ?_, ?_⟩
        · have := hblk.set1 (k * 1) (.int .i64 s)
          simpa [encInt] using this
        · exact hb.setCell (Nat.le_refl _) _
      case measure => simp [intOf]; omega
    · obtain rfl : k = xs.length := by omega
      go_wp2
      go_ret
      exact ⟨_, rfl, RdW.of_row hblk hsz.out HR2.out _ _ (Nat.le_refl _) z1, hb⟩

set_option maxHeartbeats 400000 in
theorem szInt64S_any (v : Value) (xs : List Int) (lo hi : Nat) (l : Int) (w : World) (h : RdF encInt 1 w lo hi v xs) (_hh : hi ≤ w.heap.size) (hm : xs.length ≤ 9223372036854775807) (h0 : 0 ≤ l) (h1 : l ≤ 1048576) :
    Calls Try.prog 46 #[v, .int .i64 l] w fun e w' => RetI (SzN l xs.length) w e w' := by
  obtain ⟨A, c, rfl, hc, hA⟩ := h
  by_cases hl : l < xs.length
  · go_enter Try.func46, Try.ntmps46
    go_wp2
    go_ret
    exact ⟨_, rfl, ⟨by omega, by omega⟩, by (repeat (first | with_reducible assumption | with_reducible exact Below.refl _ _ | with_reducible refine Below.setCell ?_ ?_ _ | with_reducible refine Below.alloc ?_ ?_ _ | with_reducible refine Below.drew ?_ | with_reducible refine below_drewN ?_ _ | with_reducible refine Below.step (by with_reducible assumption) ?_ ?_ | omega | (simp <;> omega) | (simp; done)))⟩
  · go_enter Try.func46, Try.ntmps46
    go_wp2
    go_ret
    exact ⟨_, rfl, ⟨by omega, by omega⟩, by (repeat (first | with_reducible assumption | with_reducible exact Below.refl _ _ | with_reducible refine Below.setCell ?_ ?_ _ | with_reducible refine Below.alloc ?_ ?_ _ | with_reducible refine Below.drew ?_ | with_reducible refine below_drewN ?_ _ | with_reducible refine Below.step (by with_reducible assumption) ?_ ?_ | omega | (simp <;> omega) | (simp; done)))⟩

end Go.Proofs.Ytmgolgbhidenkaa
