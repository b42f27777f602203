/- The text of a mark. -/
import Derived.Test.YtgpknnlphabpkaaGreatRows
import Derived.Test.YtgpknnlphabpkaaGreatMem
import Derived.Laws.BytesArg
namespace Go.Proofs.YtgpknnlphabpkaaGreat
open Go.RowKit
set_option linter.unusedVariables false

def dig (k : Int) : Int := 48 + k % 10
/-- The decimals of k, by fuel. -/
def decB : Nat → Int → ByteArray
  | 0, _ => ByteArray.empty
  | n + 1, k => if 0 < k then decB n (k / 10) ++ ⟨#[UInt8.ofNat (dig k).toNat]⟩ else ByteArray.empty
theorem decB_more : ∀ (n m : Nat) (k : Int), k.toNat ≤ n → k.toNat ≤ m → decB n k = decB m k
  | 0, 0, _, _, _ => rfl
  | 0, m + 1, k, h, _ => by rw [decB, decB, if_neg (by omega)]
  | n + 1, 0, k, _, h => by rw [decB, decB, if_neg (by omega)]
  | n + 1, m + 1, k, h, h' => by
    by_cases hk : 0 < k
    · rw [decB, decB, if_pos hk, if_pos hk, decB_more n m (k / 10) (by omega) (by omega)]
    · rw [decB, decB, if_neg hk, if_neg hk]
def dec (k : Int) : ByteArray := decB k.toNat k
theorem dec_step {k : Int} (hk : 0 < k) : dec k = dec (k / 10) ++ ⟨#[UInt8.ofNat (dig k).toNat]⟩ := by
  unfold dec
  obtain ⟨n, hn⟩ : ∃ n, k.toNat = n + 1 := ⟨k.toNat - 1, by omega⟩
  rw [hn, decB, if_pos hk, decB_more n (k / 10).toNat (k / 10) (by omega) (by omega)]
theorem dec_end {k : Int} (hk : ¬ 0 < k) : dec k = ByteArray.empty := by
  unfold dec
  have : k.toNat = 0 := by omega
  rw [this]; rfl
theorem dec_size : ∀ (n : Nat) (k : Int), k.toNat ≤ n → (dec k).size ≤ n
  | 0, k, h => by rw [dec_end (by omega)]; exact Nat.le_refl _
  | n + 1, k, h => by
    by_cases hk : 0 < k
    · rw [dec_step hk, ByteArray.size_append]
      have := dec_size n (k / 10) (by omega)
      have : (ByteArray.mk #[UInt8.ofNat (dig k).toNat]).size = 1 := rfl
      omega
    · rw [dec_end hk]; exact Nat.zero_le _
/-- The text of the mark k. -/
def markT (k : Int) : ByteArray := if k ≤ 0 then ⟨#[109, 48]⟩ else ⟨#[109]⟩ ++ dec k

set_option maxRecDepth 100000 in
set_option maxHeartbeats 800000 in
theorem markText_any (k : Int) (w : World) (h1 : k ≤ 1099511627776) : Calls Tryz.prog 75 #[.int .i64 k] w fun e w' => e = .returned (.string (markT k)) ∧ Below w.heap.size w w' := by
  by_cases hk : k ≤ 0
  · have HM := Lib.hid (show markT k = ⟨#[109, 48]⟩ by rw [markT, if_pos hk])
    go_enter Tryz.func75, Tryz.ntmps75
    go_wp2_with fail
    go_ret
    rw [HM.out]
    exact ⟨rfl, by (repeat (first | with_reducible assumption | with_reducible exact Below.refl _ _ | with_reducible refine Below.setCell ?_ ?_ _ | with_reducible refine Below.alloc ?_ ?_ _ | with_reducible refine Below.drew ?_ | with_reducible refine below_drewN ?_ _ | with_reducible refine Below.step (by with_reducible assumption) ?_ ?_ | omega | (simp <;> omega) | (simp; done)))⟩
  · have HM := Lib.hid (show markT k = ⟨#[109]⟩ ++ dec k by rw [markT, if_neg hk])
    go_enter Tryz.func75, Tryz.ntmps75
    go_wp2_with fail
    go_loopw [0, 3] (fun q s wr => ∃ (j : Int) (o : ByteArray), q = .int .i64 j ∧ s = .string o ∧ 0 ≤ j ∧ j ≤ 1099511627776 ∧ Hid (dec k = dec j ++ o) ∧ Below w.heap.size w wr) (fun q _ _ => (intOf q).toNat)
    case atStart => exact ⟨k, ByteArray.empty, rfl, rfl, by omega, h1, by simp [Hid], by (repeat (first | with_reducible assumption | with_reducible exact Below.refl _ _ | with_reducible refine Below.setCell ?_ ?_ _ | with_reducible refine Below.alloc ?_ ?_ _ | with_reducible refine Below.drew ?_ | with_reducible refine below_drewN ?_ _ | with_reducible refine Below.step (by with_reducible assumption) ?_ ?_ | omega | (simp <;> omega) | (simp; done)))⟩
    case round =>
      obtain ⟨j, o, rfl, rfl, h0, h2, HD, hb⟩ := hrel
      have ho : o.size ≤ k.toNat := by
        have h := dec_size k.toNat k (Nat.le_refl _)
        rw [HD.out, ByteArray.size_append] at h
        omega
      by_cases hlt : 0 < j
      · have e1 : IntKind.u8.wrap (48 + j % 10) = 48 + j % 10 := by simp [IntKind.wrap, IntKind.bits, IntKind.signed]; omega
        have hcv := run_convert_bytes_arg (P := Tryz.prog) (wr.alloc (.cells #[.int .u8 (48 + j % 10)] 5)) 22 5 Tryz.underlying22 Tryz.underlying5 wr.heap.size 0 1 1 [48 + j % 10] rfl (fun i hi => by have hi0 : i = 0 := by { omega }; subst hi0; exact (Blk.new wr 5 _).cell 0) 9 Tryz.underlying9
        have e2 : (strOfNums [48 + j % 10]).size = 1 := rfl
        go_wp2_with fail
        · go_roundw
          case rel => exact ⟨j / 10, _, rfl, rfl, by omega, by omega, (by rw [HD.out, dec_step hlt, ByteArray.append_assoc]; rfl : dec k = dec (j / 10) ++ (strOfNums [48 + j % 10] ++ o)), hb.alloc hb.size _⟩
          case measure => simp [intOf]; omega
      · go_wp2_with fail
        · go_ret
          rw [HM.out, HD.out, dec_end (show ¬ 0 < j by omega)]
          exact ⟨by simp, by (repeat (first | with_reducible assumption | with_reducible exact Below.refl _ _ | with_reducible refine Below.setCell ?_ ?_ _ | with_reducible refine Below.alloc ?_ ?_ _ | with_reducible refine Below.drew ?_ | with_reducible refine below_drewN ?_ _ | with_reducible refine Below.step (by with_reducible assumption) ?_ ?_ | omega | (simp <;> omega) | (simp; done)))⟩
end Go.Proofs.YtgpknnlphabpkaaGreat
