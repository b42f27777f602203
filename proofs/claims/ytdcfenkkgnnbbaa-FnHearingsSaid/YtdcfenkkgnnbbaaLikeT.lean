/- Helpers of the draw laws: likeTexts, likeTables at equal lists, hasText. -/
import Derived.Test.YtdcfenkkgnnbbaaLike
import Derived.Test.YtdcfenkkgnnbbaaRowD
import Derived.Test.YtdcfenkkgnnbbaaStrsH
import Derived.Test.YtdcfenkkgnnbbaaPlanW
namespace Go.Proofs.Ytdcfenkkgnnbbaa
open Go.RowKit
set_option linter.unusedVariables false

set_option maxRecDepth 100000 in
set_option maxHeartbeats 1000000 in
theorem likeTexts_any (v v' : Value) (xs : List ByteArray) (lo hi lo' hi' : Nat) (w : World) (h : RdF encStr 1 w lo hi v xs) (hh : hi ≤ w.heap.size) (h' : RdF encStr 1 w lo' hi' v' xs) (hh' : hi' ≤ w.heap.size) (hm : xs.length ≤ 1048576) :
    Calls Try.prog 56 #[v, v'] w fun e w' => e = .returned (.bool true) ∧ Below w.heap.size w w' := by
  obtain ⟨A, c, rfl, hc⟩ := h.form
  obtain ⟨A', c', rfl, hc'⟩ := h'.form
  go_enter Try.func56, Try.ntmps56
  go_wp2_with fail
  go_loopw [5] (fun i wr => ∃ k : Nat, k ≤ xs.length ∧ i = .int .i64 k ∧ Below w.heap.size w wr) (fun i _ => xs.length - (intOf i).toNat)
  case atStart => exact ⟨0, Nat.zero_le _, rfl, Below.refl _ _⟩
  case round =>
    obtain ⟨k, hk, rfl, hbel⟩ := hrel
    have z0 := hbel.size
    by_cases hlt : k < xs.length
    · have hki : (k : Int) < (xs.length : Int) := by omega
      obtain ⟨x, b, off, HS, rfl, -, hbw, hcell⟩ := RdF.get h hbel hh hlt
      obtain ⟨x', b', off', HS', rfl, -, hbw', hcell'⟩ := RdF.get h' hbel hh' hlt
      obtain rfl : x' = x := by have := HS'.out; rw [HS.out] at this; injection this with this; exact this.symm
      have x1 : wr.cell? ⟨b, off + k, none⟩ = some (.string x') := by simpa [encStr] using hcell 0 _ rfl
      have x2 : wr.cell? ⟨b', off' + k, none⟩ = some (.string x') := by simpa [encStr] using hcell' 0 _ rfl
      clear hcell hcell'
      go_wp2_with fail
      go_quiet (fail)
      go_wp2_with fail
      go_roundw
      case rel => exact ⟨k + 1, by omega, by go_num, by (repeat (first | with_reducible assumption | with_reducible exact Below.refl _ _ | with_reducible refine Below.setCell ?_ ?_ _ | with_reducible refine Below.alloc ?_ ?_ _ | with_reducible refine Below.drew ?_ | with_reducible refine below_drewN ?_ _ | with_reducible refine Below.step (by with_reducible assumption) ?_ ?_ | omega | (simp <;> omega) | (simp; done)))⟩
      case measure => simp [intOf]; omega
    · go_wp2_with fail
      go_ret
      exact ⟨rfl, hbel⟩
set_option maxRecDepth 100000 in
set_option maxHeartbeats 1000000 in
theorem hasText_any (v : Value) (xs : List ByteArray) (lo hi : Nat) (z : ByteArray) (w : World) (h : RdF encStr 1 w lo hi v xs) (hh : hi ≤ w.heap.size) (hm : xs.length ≤ 1048576) :
    Calls Try.prog 60 #[v, .string z] w fun e w' => e = .returned (.bool (hasW xs z)) ∧ Below w.heap.size w w' := by
  obtain ⟨A, c, rfl, hc⟩ := h.form
  go_enter Try.func60, Try.ntmps60
  go_wp2_with fail
  go_loopw [5] (fun i wr => ∃ k : Nat, k ≤ xs.length ∧ i = .int .i64 k ∧ Hid (hasW (xs.take k) z = false) ∧ Below w.heap.size w wr) (fun i _ => xs.length - (intOf i).toNat)
  case atStart => exact ⟨0, Nat.zero_le _, rfl, by show hasW (xs.take 0) z = false; rfl, Below.refl _ _⟩
  case round =>
    obtain ⟨k, hk, rfl, HZ, hbel⟩ := hrel
    have z0 := hbel.size
    by_cases hlt : k < xs.length
    · have hki : (k : Int) < (xs.length : Int) := by omega
      obtain ⟨x, b, off, HS, rfl, -, hbw, hcell⟩ := RdF.get h hbel hh hlt
      have x1 : wr.cell? ⟨b, off + k, none⟩ = some (.string x) := by simpa [encStr] using hcell 0 _ rfl
      clear hcell
      cases hx : (x.toList == z.toList) with
      | true =>
        have HR := Lib.hid (show hasW xs z = true from any_true_of HS.out (by simpa using hx))
        have hx2 : x.toList = z.toList := by simpa using hx
        go_wp2_with fail
        go_ret
        exact ⟨ret_bool (by rw [HR.out]), hbel⟩
      | false =>
        have HN : Hid (hasW (xs.take (k + 1)) z = false) := by
          show hasW (xs.take (k + 1)) z = false
          exact any_take_succ HZ.out HS.out (by simpa using hx)
        have hx2 : ¬ x.toList = z.toList := by simpa using hx
        go_wp2_with fail
        go_roundw
        case rel => exact ⟨k + 1, by omega, by go_num, HN, hbel⟩
        case measure => simp [intOf]; omega
    · have HR := Lib.hid (show hasW xs z = false by
        have h1 := HZ.out
        rwa [List.take_of_length_le (by omega)] at h1)
      go_wp2_with fail
      go_ret
      exact ⟨ret_bool (by rw [HR.out]), hbel⟩
theorem hasText_yes (v : Value) (xs : List ByteArray) (lo hi : Nat) (z : ByteArray) (w : World) (h : RdF encStr 1 w lo hi v xs) (hh : hi ≤ w.heap.size) (hm : xs.length ≤ 1048576) (hz : z ∈ xs) :
    Calls Try.prog 60 #[v, .string z] w fun e w' => e = .returned (.bool true) ∧ Below w.heap.size w w' :=
  (hasText_any v xs lo hi z w h hh hm).mono (by
    rintro e w' ⟨h1, h2⟩
    rw [hasW_mem.2 hz] at h1
    exact ⟨h1, h2⟩)
set_option maxRecDepth 100000 in
set_option maxHeartbeats 1000000 in
theorem likeTables_any (v v' : Value) (L : List (List Int)) (lo hi lo' hi' : Nat) (w : World) (h : RdII w lo hi v L) (hh : hi ≤ w.heap.size) (h' : RdII w lo' hi' v' L) (hh' : hi' ≤ w.heap.size) (hl : L.length ≤ 1048576) (hr : totL L ≤ 1048576) :
    Calls Try.prog 55 #[v, v'] w fun e w' => e = .returned (.bool true) ∧ Below w.heap.size w w' := by
  obtain ⟨A, c, rfl, hc⟩ := h.form
  obtain ⟨A', c', rfl, hc'⟩ := h'.form
  go_enter Try.func55, Try.ntmps55
  go_wp2_with fail
  go_loopw [5] (fun i wr => ∃ k : Nat, k ≤ L.length ∧ i = .int .i64 k ∧ Below w.heap.size w wr) (fun i _ => L.length - (intOf i).toNat)
  case atStart => exact ⟨0, Nat.zero_le _, rfl, Below.refl _ _⟩
  case round =>
    obtain ⟨k, hk, rfl, hbel⟩ := hrel
    have z0 := hbel.size
    by_cases hlt : k < L.length
    · have hki : (k : Int) < (L.length : Int) := by omega
      obtain ⟨l, al, cl, b, off, HS, rfl, hbw, x1, hrl⟩ := RdII.at h hbel hh hlt
      obtain ⟨l', al', cl', b', off', HS', rfl, hbw', x1', hrl'⟩ := RdII.at h' hbel hh' hlt
      obtain rfl : l' = l := by have := HS'.out; rw [HS.out] at this; injection this with this; exact this.symm
      have hll := totL_row HS.out
      clear HS'
      go_wp2_with fail
      go_region_held3 (fun w' => w'.cell? ⟨b, off + k, none⟩ = some (.slice al l'.length cl) ∧ w'.cell? ⟨b', off' + k, none⟩ = some (.slice al' l'.length cl')) (go_keep)
        (first | (go_at_call 67; refine (likeInts_any _ _ l' _ _ _ _ _ ((hrl.rd.below (B := wr.heap.size) (Below.refl _ wr) (by omega)).below (B := wr.heap.size) (Below.refl _ wr).drew (by omega)) (by show _ ≤ wr.heap.size; omega) ((hrl'.rd.below (B := wr.heap.size) (Below.refl _ wr) (by omega)).below (B := wr.heap.size) (Below.refl _ wr).drew (by omega)) (by show _ ≤ wr.heap.size; omega) (by omega)).mono ?_; rintro e w5 ⟨rfl, b5⟩; replace b5 : Below wr.heap.size wr w5 := Below.undrew b5; have z5 := b5.size; have kq0 := (b5.cell (p := ⟨b, off + k, none⟩) (by show b < _; omega)).trans x1; have kq1 := (b5.cell (p := ⟨b', off' + k, none⟩) (by show b' < _; omega)).trans x1'))
      clear kq0 kq1
      have b5' := b5
      go_wp2_with fail
      go_roundw
      case rel => exact ⟨k + 1, by omega, by go_num, Below.step b5' z0 hbel⟩
      case measure => simp [intOf]; omega
    · go_wp2_with fail
      go_ret
      exact ⟨rfl, hbel⟩
end Go.Proofs.Ytdcfenkkgnnbbaa
