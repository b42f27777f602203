/- Marks of a slice of integers: only blocks of integers turn. -/
import Derived.Test.YtdcfenkkgnnbbaaIntsH
import Derived.Test.YtdcfenkkgnnbbaaMem4
namespace Go.Proofs.Ytdcfenkkgnnbbaa
open Go.RowKit
set_option linter.unusedVariables false

theorem RdW.mrk {α : Type} {enc : α → List Value} {sz : Nat} {t t' : TypeId} {w w' : World} {lo hi lo2 hi2 : Nat} {v : Value} {xs : List α} (h : RdW enc sz t' w lo hi v xs) (hm : Mrk t lo2 hi2 w w') (hne : t' ≠ t) : RdW enc sz t' w' lo hi v xs :=
  h.mono_blk fun g ar hb => by
    obtain ⟨ar', h1, -, h3⟩ := hm.form g t' ar hb
    rw [h3 hne] at h1
    exact h1
set_option maxRecDepth 100000 in
set_option maxHeartbeats 1000000 in
theorem markIntM_any (v : Value) (xs : List Int) (lo hi : Nat) (m : Int) (w : World) (h : RdW encInt 1 2 w lo hi v xs) (hh : hi ≤ w.heap.size) (hm : xs.length ≤ 1099511627776) (h0 : 0 ≤ m) (h1 : m ≤ 1099511627776) :
    Calls Try.prog 64 #[v, .int .i64 m] w fun e w' => e = .returned (.int .i64 (m + xs.length)) ∧ (RdW encInt 1 2 w' lo hi v (marksI m xs.length) ∧ Mrk 2 lo hi w w') := by
  obtain ⟨A, c, rfl, hc, hA⟩ := h
  by_cases hz : xs.length = 0
  · have hlt : ¬ ((0 : Int) < (xs.length : Int)) := by omega
    go_enter Try.func64, Try.ntmps64
    go_wp2
    refine wp_loop_rounds 1 ?_
    rw [rounds_succ]
    go_wp2_with fail
    go_ret
    refine ⟨ret_int (by omega), ⟨A, c, by rw [marksI_len], by rw [marksI_len]; exact hc, fun hl => ?_⟩, Mrk.refl _ _ _ _⟩
    rw [marksI_len] at hl
    omega
  · obtain ⟨g, arr, rfl, hg1, hg2, hblk, hsz, hrow⟩ := hA (by omega)
    clear hrow hA
    go_enter Try.func64, Try.ntmps64
    go_wp2
    go_loopw [1, 5] (fun q i wr => ∃ k : Nat, k ≤ xs.length ∧ i = .int .i64 k ∧ q = .int .i64 (m + (k : Int)) ∧ ∃ ar : Array Value, Hid (xs.length * 1 ≤ ar.size) ∧ Hid (RowTo encInt 1 ar (marksI m xs.length) k) ∧ Blk wr g 2 ar ∧ Mrk 2 lo hi w wr) (fun _ i _ => xs.length - (intOf i).toNat)
    case atStart => exact ⟨0, Nat.zero_le _, rfl, by simp, arr, hsz, RowTo.zero, hblk, Mrk.refl _ _ _ _⟩
    case round =>
      obtain ⟨k, hk, rfl, rfl, ar, hsz', HR, hb, hcg⟩ := hrel
      have z0 := hcg.chg.size
      by_cases hlt : k < xs.length
      · obtain ⟨u0, f0⟩ := hb.some_ k (by have := hsz'.out; omega)
        have g0 := hb.frozen k
        go_wp2_with fail
        go_roundw
        case rel =>
          refine ⟨k + 1, by omega, by go_num, by go_num, setL ar (k * 1) (encInt (m + (k : Int))), ?_, ?_, ?_, hcg.trans (Mrk.set hb hg1 hg2 k _)⟩
          · show _ ≤ _
            rw [setL_size]; exact hsz'.out
          · exact HR.out.step' (marksI_at hlt) (fun _ => rfl) (by have := hsz'.out; omega)
          · have := hb.set1 (k * 1) (.int .i64 (m + (k : Int)))
            simpa [encInt] using this
        case measure => simp [intOf]; omega
      · have e : k = xs.length := by omega
        have HR' : Hid (RowTo encInt 1 ar (marksI m xs.length) xs.length) := by have h := HR.out; rw [e] at h; exact h
        have HK := Lib.hid e; clear e
        go_wp2_with fail
        go_ret
        exact ⟨ret_int (by rw [HK.out]), ⟨some ⟨g, 0, none⟩, c, by rw [marksI_len], by rw [marksI_len]; exact hc, fun _ => ⟨g, ar, rfl, hg1, hg2, hb, by rw [marksI_len]; exact hsz'.out, by rw [marksI_len]; exact HR'.out⟩⟩, hcg⟩
end Go.Proofs.Ytdcfenkkgnnbbaa
