/- Stage: marks. Written by a program (gen_mark.py). -/
import Derived.Test.YtmgolgbhidenkaaStageH
import Derived.Test.YtmgolgbhidenkaaMark
namespace Go.Proofs.Ytmgolgbhidenkaa
open Go.RowKit
set_option linter.unusedVariables false

def Stage.markAt (m : Int) : Stage := ⟨markT (m), m + 1, m + 1 + 1⟩
def Stage.marks (m : Int) (n : Nat) : List Stage := (List.range n).map fun (i : Nat) => Stage.markAt (m + (i : Int) * 3)
theorem Stage.marks_len (m : Int) (n : Nat) : (Stage.marks m n).length = n := by simp [Stage.marks]
theorem Stage.marks_at {m : Int} {n i : Nat} (h : i < n) : (Stage.marks m n)[i]? = some (Stage.markAt (m + (i : Int) * 3)) := by simp [Stage.marks, h]
set_option maxRecDepth 100000 in
set_option maxHeartbeats 2000000 in
theorem markStageS_any (v : Value) (xs : List Stage) (lo hi : Nat) (m : Int) (w : World) (h : RdW Stage.enc 3 64 w lo hi v xs) (hh : hi ≤ w.heap.size) (hm : xs.length ≤ 1099511627) (h0 : 0 ≤ m) (h1 : m ≤ 1099511627) :
    Calls Try.prog 41 #[v, .int .i64 m] w fun e w' => e = .returned (.int .i64 (m + xs.length * 3)) ∧ (RdW Stage.enc 3 64 w' lo hi v (Stage.marks m xs.length) ∧ Chg lo hi w w') := by
  obtain ⟨A, c, rfl, hc, hA⟩ := h
  by_cases hz : xs.length = 0
  · have hlt : ¬ ((0 : Int) < (xs.length : Int)) := by omega
    go_enter Try.func41, Try.ntmps41
    go_wp2
    refine wp_loop_rounds 1 ?_
    rw [rounds_succ]
    go_wp2_with fail
    go_ret
    refine ⟨ret_int (by omega), ⟨A, c, by rw [Stage.marks_len], by rw [Stage.marks_len]; exact hc, fun hl => ?_⟩, Chg.refl _ _ _⟩
    rw [Stage.marks_len] at hl
    omega
  · obtain ⟨g, arr, rfl, hg1, hg2, hblk, hsz, hrow⟩ := hA (by omega)
    clear hrow hA
    go_enter Try.func41, Try.ntmps41
    go_wp2
    go_loopw [1, 5] (fun q i wr => ∃ k : Nat, k ≤ xs.length ∧ i = .int .i64 k ∧ q = .int .i64 (m + (k : Int) * 3) ∧ ∃ ar : Array Value, Hid (xs.length * 3 ≤ ar.size) ∧ Hid (RowTo Stage.enc 3 ar (Stage.marks m xs.length) k) ∧ Blk wr g 64 ar ∧ Chg lo hi w wr) (fun _ i _ => xs.length - (intOf i).toNat)
    case atStart => exact ⟨0, Nat.zero_le _, rfl, by simp, arr, hsz, RowTo.zero, hblk, Chg.refl _ _ _⟩
    case round =>
      obtain ⟨k, hk, rfl, rfl, ar, hsz', HR, hb, hcg⟩ := hrel
      have z0 := hcg.size
      have zg := hb.lt
      by_cases hlt : k < xs.length
      · have hsA : k * 3 + 3 ≤ ar.size := by have := hsz'.out; omega
        obtain ⟨u0_0, f0_0⟩ := hb.some_ (k * 3) (by first | omega | (simp; omega))
        have g0_0 := hb.frozen (k * 3)
        obtain ⟨u0_1, f0_1⟩ := hb.some_ (k * 3 + 1) (by first | omega | (simp; omega))
        have g0_1 := hb.frozen (k * 3 + 1)
        obtain ⟨u0_2, f0_2⟩ := hb.some_ (k * 3 + 2) (by first | omega | (simp; omega))
        have g0_2 := hb.frozen (k * 3 + 2)
        go_wp2_with fail
        refine (markText_any (m + (k : Int) * 3) _ (by omega)).mono ?_
        rintro e w1 ⟨rfl, b1⟩
        have z1 := b1.size
        try simp only [World.heap_setCell_size] at z1
        have hk1 := hb.below b1 (by first | omega | (simp; omega))
        have hg1' := hcg.trans (Chg.of_below b1)
        clear b1
        obtain ⟨u1_0, f1_0⟩ := hk1.some_ (k * 3) (by first | omega | (simp; omega))
        have g1_0 := hk1.frozen (k * 3)
        obtain ⟨u1_1, f1_1⟩ := hk1.some_ (k * 3 + 1) (by first | omega | (simp; omega))
        have g1_1 := hk1.frozen (k * 3 + 1)
        obtain ⟨u1_2, f1_2⟩ := hk1.some_ (k * 3 + 2) (by first | omega | (simp; omega))
        have g1_2 := hk1.frozen (k * 3 + 2)
        go_wp2_with fail
        go_roundw
        case rel =>
          refine ⟨k + 1, by omega, by go_num, by go_num, setL ar (k * 3) (Stage.enc (Stage.markAt (m + (k : Int) * 3))), ?_, ?_, ?_, (((hg1'.setCell (p := ⟨g, k * 3, none⟩) hg1 hg2 (.string (markT (m + (k : Int) * 3)))).setCell (p := ⟨g, k * 3 + 1, none⟩) hg1 hg2 (.int .i64 (m + (k : Int) * 3 + 1))).setCell (p := ⟨g, k * 3 + 2, none⟩) hg1 hg2 (.int .i64 (m + (k : Int) * 3 + 1 + 1)))⟩
          · show _ ≤ _
            rw [setL_size]; exact hsz'.out
          · exact HR.out.step' (Stage.marks_at hlt) (fun _ => rfl) hsA
          · exact (((hk1.set_ (k * 3) (.string (markT (m + (k : Int) * 3)))).set_ (k * 3 + 1) (.int .i64 (m + (k : Int) * 3 + 1))).set_ (k * 3 + 2) (.int .i64 (m + (k : Int) * 3 + 1 + 1)))
        case measure => simp [intOf]; omega
      · have e : k = xs.length := by omega
        have HR' : Hid (RowTo Stage.enc 3 ar (Stage.marks m xs.length) xs.length) := by have h := HR.out; rw [e] at h; exact h
        have HK := Lib.hid e; clear e
        go_wp2_with fail
        go_ret
        exact ⟨ret_int (by rw [HK.out]), ⟨some ⟨g, 0, none⟩, c, by rw [Stage.marks_len], by rw [Stage.marks_len]; exact hc, fun _ => ⟨g, ar, rfl, hg1, hg2, hb, by rw [Stage.marks_len]; exact hsz'.out, by rw [Stage.marks_len]; exact HR'.out⟩⟩, hcg⟩
end Go.Proofs.Ytmgolgbhidenkaa
