/- Slot: marks. Written by a program (gen_mark.py). -/
import Derived.Test.YtdcfenkkgnnbbaaSlotH
import Derived.Test.YtdcfenkkgnnbbaaMark
namespace Go.Proofs.Ytdcfenkkgnnbbaa
open Go.RowKit
set_option linter.unusedVariables false

def Slot.markAt (m : Int) : Slot := ⟨m, m + 1, m + 1 + 1⟩
def Slot.marks (m : Int) (n : Nat) : List Slot := (List.range n).map fun (i : Nat) => Slot.markAt (m + (i : Int) * 3)
theorem Slot.marks_len (m : Int) (n : Nat) : (Slot.marks m n).length = n := by simp [Slot.marks]
theorem Slot.marks_at {m : Int} {n i : Nat} (h : i < n) : (Slot.marks m n)[i]? = some (Slot.markAt (m + (i : Int) * 3)) := by simp [Slot.marks, h]
set_option maxRecDepth 100000 in
set_option maxHeartbeats 2000000 in
theorem markSlotS_any (v : Value) (xs : List Slot) (lo hi : Nat) (m : Int) (w : World) (h : RdW Slot.enc 3 32 w lo hi v xs) (hh : hi ≤ w.heap.size) (hm : xs.length ≤ 1099511627) (h0 : 0 ≤ m) (h1 : m ≤ 1099511627) :
    Calls Try.prog 41 #[v, .int .i64 m] w fun e w' => e = .returned (.int .i64 (m + xs.length * 3)) ∧ (RdW Slot.enc 3 32 w' lo hi v (Slot.marks m xs.length) ∧ Chg lo hi w w') := by
  obtain ⟨A, c, rfl, hc, hA⟩ := h
  by_cases hz : xs.length = 0
  · have hlt : ¬ ((0 : Int) < (xs.length : Int)) := by omega
    go_enter Try.func41, Try.ntmps41
    go_wp2
    refine wp_loop_rounds 1 ?_
    rw [rounds_succ]
    go_wp2_with fail
    go_ret
    refine ⟨ret_int (by omega), ⟨A, c, by rw [Slot.marks_len], by rw [Slot.marks_len]; exact hc, fun hl => ?_⟩, Chg.refl _ _ _⟩
    rw [Slot.marks_len] at hl
    omega
  · obtain ⟨g, arr, rfl, hg1, hg2, hblk, hsz, hrow⟩ := hA (by omega)
    clear hrow hA
    go_enter Try.func41, Try.ntmps41
    go_wp2
    go_loopw [1, 5] (fun q i wr => ∃ k : Nat, k ≤ xs.length ∧ i = .int .i64 k ∧ q = .int .i64 (m + (k : Int) * 3) ∧ ∃ ar : Array Value, Hid (xs.length * 3 ≤ ar.size) ∧ Hid (RowTo Slot.enc 3 ar (Slot.marks m xs.length) k) ∧ Blk wr g 32 ar ∧ Chg lo hi w wr) (fun _ i _ => xs.length - (intOf i).toNat)
    case atStart => exact ⟨0, Nat.zero_le _, rfl, by simp, arr, hsz, RowTo.zero, hblk, Chg.refl _ _ _⟩
    case round =>
      obtain ⟨k, hk, rfl, rfl, ar, hsz', HR, hb, hcg⟩ := hrel
      have z0 := hcg.size
      have zg := hb.lt
      by_cases hlt : k < xs.length
      · have hsA : k * 3 + 3 ≤ ar.size := by have := hsz'.out; omega
        obtain ⟨u0_0, f0_0⟩ := hb.some_ (k * 3) (by first | omega | (simp; omega))
        have g0_0 := hb.frozen (k * 3)
        obtain ⟨u0_1, f0_1⟩ := hb.some_ (k * 3 + 1) (by first | omega | (simp; omega))
        have g0_1 := hb.frozen (k * 3 + 1)
        obtain ⟨u0_2, f0_2⟩ := hb.some_ (k * 3 + 2) (by first | omega | (simp; omega))
        have g0_2 := hb.frozen (k * 3 + 2)
        go_wp2_with fail
        go_roundw
        case rel =>
          refine ⟨k + 1, by omega, by go_num, by go_num, setL ar (k * 3) (Slot.enc (Slot.markAt (m + (k : Int) * 3))), ?_, ?_, ?_, (((hcg.setCell (p := ⟨g, k * 3, none⟩) hg1 hg2 (.int .i64 (m + (k : Int) * 3))).setCell (p := ⟨g, k * 3 + 1, none⟩) hg1 hg2 (.int .i64 (m + (k : Int) * 3 + 1))).setCell (p := ⟨g, k * 3 + 2, none⟩) hg1 hg2 (.int .i64 (m + (k : Int) * 3 + 1 + 1)))⟩
          · show _ ≤ _
            rw [setL_size]; exact hsz'.out
          · exact HR.out.step' (Slot.marks_at hlt) (fun _ => rfl) hsA
          · exact (((hb.set_ (k * 3) (.int .i64 (m + (k : Int) * 3))).set_ (k * 3 + 1) (.int .i64 (m + (k : Int) * 3 + 1))).set_ (k * 3 + 2) (.int .i64 (m + (k : Int) * 3 + 1 + 1)))
        case measure => simp [intOf]; omega
      · have e : k = xs.length := by omega
        have HR' : Hid (RowTo Slot.enc 3 ar (Slot.marks m xs.length) xs.length) := by have h := HR.out; rw [e] at h; exact h
        have HK := Lib.hid e; clear e
        go_wp2_with fail
        go_ret
        exact ⟨ret_int (by rw [HK.out]), ⟨some ⟨g, 0, none⟩, c, by rw [Slot.marks_len], by rw [Slot.marks_len]; exact hc, fun _ => ⟨g, ar, rfl, hg1, hg2, hb, by rw [Slot.marks_len]; exact hsz'.out, by rw [Slot.marks_len]; exact HR'.out⟩⟩, hcg⟩
end Go.Proofs.Ytdcfenkkgnnbbaa
