/- Booking: marks. Written by a program (gen_mark.py). -/
import Derived.Test.YtdcfenkkgnnbbaaBookingH
import Derived.Test.YtdcfenkkgnnbbaaMark
namespace Go.Proofs.Ytdcfenkkgnnbbaa
open Go.RowKit
set_option linter.unusedVariables false

def Booking.markAt (m : Int) : Booking := ⟨m, m + 1, m + 1 + 1, m + 1 + 1 + 1, markT (m + 1 + 1 + 1 + 1)⟩
def Booking.marks (m : Int) (n : Nat) : List Booking := (List.range n).map fun (i : Nat) => Booking.markAt (m + (i : Int) * 5)
theorem Booking.marks_len (m : Int) (n : Nat) : (Booking.marks m n).length = n := by simp [Booking.marks]
theorem Booking.marks_at {m : Int} {n i : Nat} (h : i < n) : (Booking.marks m n)[i]? = some (Booking.markAt (m + (i : Int) * 5)) := by simp [Booking.marks, h]
set_option maxRecDepth 100000 in
set_option maxHeartbeats 2000000 in
theorem markBookingS_any (v : Value) (xs : List Booking) (lo hi : Nat) (m : Int) (w : World) (h : RdW Booking.enc 5 105 w lo hi v xs) (hh : hi ≤ w.heap.size) (hm : xs.length ≤ 1099511627) (h0 : 0 ≤ m) (h1 : m ≤ 1099511627) :
    Calls Try.prog 47 #[v, .int .i64 m] w fun e w' => e = .returned (.int .i64 (m + xs.length * 5)) ∧ (RdW Booking.enc 5 105 w' lo hi v (Booking.marks m xs.length) ∧ Chg lo hi w w') := by
  obtain ⟨A, c, rfl, hc, hA⟩ := h
  by_cases hz : xs.length = 0
  · have hlt : ¬ ((0 : Int) < (xs.length : Int)) := by omega
    go_enter Try.func47, Try.ntmps47
    go_wp2
    refine wp_loop_rounds 1 ?_
    rw [rounds_succ]
    go_wp2_with fail
    go_ret
    refine ⟨ret_int (by omega), ⟨A, c, by rw [Booking.marks_len], by rw [Booking.marks_len]; exact hc, fun hl => ?_⟩, Chg.refl _ _ _⟩
    rw [Booking.marks_len] at hl
    omega
  · obtain ⟨g, arr, rfl, hg1, hg2, hblk, hsz, hrow⟩ := hA (by omega)
    clear hrow hA
    go_enter Try.func47, Try.ntmps47
    go_wp2
    go_loopw [1, 5] (fun q i wr => ∃ k : Nat, k ≤ xs.length ∧ i = .int .i64 k ∧ q = .int .i64 (m + (k : Int) * 5) ∧ ∃ ar : Array Value, Hid (xs.length * 5 ≤ ar.size) ∧ Hid (RowTo Booking.enc 5 ar (Booking.marks m xs.length) k) ∧ Blk wr g 105 ar ∧ Chg lo hi w wr) (fun _ i _ => xs.length - (intOf i).toNat)
    case atStart => exact ⟨0, Nat.zero_le _, rfl, by simp, arr, hsz, RowTo.zero, hblk, Chg.refl _ _ _⟩
    case round =>
      obtain ⟨k, hk, rfl, rfl, ar, hsz', HR, hb, hcg⟩ := hrel
      have z0 := hcg.size
      have zg := hb.lt
      by_cases hlt : k < xs.length
      · have hsA : k * 5 + 5 ≤ ar.size := by have := hsz'.out; omega
        obtain ⟨u0_0, f0_0⟩ := hb.some_ (k * 5) (by first | omega | (simp; omega))
        have g0_0 := hb.frozen (k * 5)
        obtain ⟨u0_1, f0_1⟩ := hb.some_ (k * 5 + 1) (by first | omega | (simp; omega))
        have g0_1 := hb.frozen (k * 5 + 1)
        obtain ⟨u0_2, f0_2⟩ := hb.some_ (k * 5 + 2) (by first | omega | (simp; omega))
        have g0_2 := hb.frozen (k * 5 + 2)
        obtain ⟨u0_3, f0_3⟩ := hb.some_ (k * 5 + 3) (by first | omega | (simp; omega))
        have g0_3 := hb.frozen (k * 5 + 3)
        obtain ⟨u0_4, f0_4⟩ := hb.some_ (k * 5 + 4) (by first | omega | (simp; omega))
        have g0_4 := hb.frozen (k * 5 + 4)
        go_wp2_with fail
        refine (markText_any (m + (k : Int) * 5 + 1 + 1 + 1 + 1) _ (by omega)).mono ?_
        rintro e w1 ⟨rfl, b1⟩
        have z1 := b1.size
        try simp only [World.heap_setCell_size] at z1
        have hk1 := ((((hb.set_ (k * 5) (.int .i64 (m + (k : Int) * 5))).set_ (k * 5 + 1) (.int .i64 (m + (k : Int) * 5 + 1))).set_ (k * 5 + 2) (.int .i64 (m + (k : Int) * 5 + 1 + 1))).set_ (k * 5 + 3) (.int .i64 (m + (k : Int) * 5 + 1 + 1 + 1))).below b1 (by simp; omega)
        have hg1' := ((((hcg.setCell (p := ⟨g, k * 5, none⟩) hg1 hg2 (.int .i64 (m + (k : Int) * 5))).setCell (p := ⟨g, k * 5 + 1, none⟩) hg1 hg2 (.int .i64 (m + (k : Int) * 5 + 1))).setCell (p := ⟨g, k * 5 + 2, none⟩) hg1 hg2 (.int .i64 (m + (k : Int) * 5 + 1 + 1))).setCell (p := ⟨g, k * 5 + 3, none⟩) hg1 hg2 (.int .i64 (m + (k : Int) * 5 + 1 + 1 + 1))).trans (Chg.of_below b1)
        clear b1
        obtain ⟨u1_4, f1_4⟩ := hk1.some_ (k * 5 + 4) (by first | omega | (simp; omega))
        have g1_4 := hk1.frozen (k * 5 + 4)
        go_wp2_with fail
        go_roundw
        case rel =>
          refine ⟨k + 1, by omega, by go_num, by go_num, setL ar (k * 5) (Booking.enc (Booking.markAt (m + (k : Int) * 5))), ?_, ?_, ?_, (hg1'.setCell (p := ⟨g, k * 5 + 4, none⟩) hg1 hg2 (.string (markT (m + (k : Int) * 5 + 1 + 1 + 1 + 1))))⟩
          · show _ ≤ _
            rw [setL_size]; exact hsz'.out
          · exact HR.out.step' (Booking.marks_at hlt) (fun _ => rfl) hsA
          · exact (hk1.set_ (k * 5 + 4) (.string (markT (m + (k : Int) * 5 + 1 + 1 + 1 + 1))))
        case measure => simp [intOf]; omega
      · have e : k = xs.length := by omega
        have HR' : Hid (RowTo Booking.enc 5 ar (Booking.marks m xs.length) xs.length) := by have h := HR.out; rw [e] at h; exact h
        have HK := Lib.hid e; clear e
        go_wp2_with fail
        go_ret
        exact ⟨ret_int (by rw [HK.out]), ⟨some ⟨g, 0, none⟩, c, by rw [Booking.marks_len], by rw [Booking.marks_len]; exact hc, fun _ => ⟨g, ar, rfl, hg1, hg2, hb, by rw [Booking.marks_len]; exact hsz'.out, by rw [Booking.marks_len]; exact HR'.out⟩⟩, hcg⟩
set_option maxRecDepth 100000 in
set_option maxHeartbeats 2000000 in
theorem heldBookingS_any (v : Value) (n : Nat) (lo hi : Nat) (m : Int) (w : World) (h : RdF Booking.enc 5 w lo hi v (Booking.marks m n)) (hh : hi ≤ w.heap.size) (hm : n ≤ 1099511627) (h0 : 0 ≤ m) (h1 : m ≤ 1099511627) :
    Calls Try.prog 48 #[v, .int .i64 m] w fun e w' => e = .returned (.int .i64 (m + n * 5)) ∧ Below w.heap.size w w' := by
  obtain ⟨A, c, rfl, hc, hA⟩ := h
  rw [Booking.marks_len] at hc hA ⊢
  go_enter Try.func48, Try.ntmps48
  go_wp2
  go_loopw [1, 5] (fun q i wr => ∃ k : Nat, k ≤ n ∧ i = .int .i64 k ∧ q = .int .i64 (m + (k : Int) * 5) ∧ Below w.heap.size w wr) (fun _ i _ => n - (intOf i).toNat)
  case atStart => exact ⟨0, Nat.zero_le _, rfl, by simp, Below.refl _ _⟩
  case round =>
    obtain ⟨k, hk, rfl, rfl, hb⟩ := hrel
    have z0 := hb.size
    by_cases hlt : k < n
    · obtain ⟨b, off, rfl, -, hbw, hcell⟩ := hA (by omega)
      have hs := Booking.marks_at (m := m) hlt
      have a0 : w.cell? ⟨b, off + k * 5, none⟩ = some (.int .i64 (m + (k : Int) * 5)) := hcell k _ hs 0 _ rfl
      have a1 : w.cell? ⟨b, off + k * 5 + 1, none⟩ = some (.int .i64 (m + (k : Int) * 5 + 1)) := hcell k _ hs 1 _ rfl
      have a2 : w.cell? ⟨b, off + k * 5 + 2, none⟩ = some (.int .i64 (m + (k : Int) * 5 + 1 + 1)) := hcell k _ hs 2 _ rfl
      have a3 : w.cell? ⟨b, off + k * 5 + 3, none⟩ = some (.int .i64 (m + (k : Int) * 5 + 1 + 1 + 1)) := hcell k _ hs 3 _ rfl
      have a4 : w.cell? ⟨b, off + k * 5 + 4, none⟩ = some (.string (markT (m + (k : Int) * 5 + 1 + 1 + 1 + 1))) := hcell k _ hs 4 _ rfl
      clear hcell hA hs
      have c0_0 := (hb.cell (p := ⟨b, off + k * 5, none⟩) (by omega : b < _)).trans a0
      have c0_1 := (hb.cell (p := ⟨b, off + k * 5 + 1, none⟩) (by omega : b < _)).trans a1
      have c0_2 := (hb.cell (p := ⟨b, off + k * 5 + 2, none⟩) (by omega : b < _)).trans a2
      have c0_3 := (hb.cell (p := ⟨b, off + k * 5 + 3, none⟩) (by omega : b < _)).trans a3
      have c0_4 := (hb.cell (p := ⟨b, off + k * 5 + 4, none⟩) (by omega : b < _)).trans a4
      go_wp2_with fail
      have zz0 : b < wr.heap.size := by omega
      have d0 : ∀ n : Cls wr.heap.size wr, _ := Cls.cell (p := ⟨b, off + k * 5 + 4, none⟩) zz0 c0_4
      refine wp_region_cls wr.heap.size wr (by kernel_rfl) (by kernel_rfl) (Below.refl _ _) ?_
      repeat (go_big_quiet_step ((first | (go_at_call 84; refine Calls.cls (Nat.le_refl _) (markText_any (m + (k : Int) * 5 + 1 + 1 + 1 + 1) _ (by omega))))))
      refine wpQuiet_nil ?_
      rintro _ ⟨⟨w1, b1⟩, rfl⟩
      clear d0
      have z1 := b1.size
      have hb1 := Below.step b1 (by omega) hb
      clear b1 c0_0 c0_1 c0_2 c0_3 c0_4
      go_wp2_with fail
      go_roundw
      case rel => exact ⟨k + 1, by omega, by go_num, by go_num, by (repeat (first | with_reducible assumption | with_reducible exact Below.refl _ _ | with_reducible refine Below.setCell ?_ ?_ _ | with_reducible refine Below.alloc ?_ ?_ _ | with_reducible refine Below.drew ?_ | with_reducible refine below_drewN ?_ _ | with_reducible refine Below.step (by with_reducible assumption) ?_ ?_ | omega | (simp <;> omega) | (simp; done)))⟩
      case measure => simp [intOf]; omega
    · have e : k = n := by omega
      have HK := Lib.hid e; clear e
      go_wp2_with fail
      go_ret
      exact ⟨ret_int (by rw [HK.out]), hb⟩
end Go.Proofs.Ytdcfenkkgnnbbaa
