/- The text of a mark. -/
import Derived.Test.YtfafcicbfgdmcaaRows
import Derived.Test.YtfafcicbfgdmcaaMem
import Derived.Laws.BytesArg
namespace Go.Proofs.Ytfafcicbfgdmcaa
open Go.RowKit
set_option linter.unusedVariables false

def dig (k : Int) : Int := 48 + k % 10
/-- The decimals of k, by fuel. -/
def decB : Nat → Int → ByteArray
  | 0, _ => ByteArray.empty
  | n + 1, k => if 0 < k then decB n (k / 10) ++ ⟨#[UInt8.ofNat (dig k).toNat]⟩ else ByteArray.empty
theorem decB_more : ∀ (n m : Nat) (k : Int), k.toNat ≤ n → k.toNat ≤ m → decB n k = decB m k
  | 0, 0, _, _, _ => rfl
  | 0, m + 1, k, h, _ => by rw [decB, decB, if_neg (by omega)]
  | n + 1, 0, k, _, h => by rw [decB, decB, if_neg (by omega)]
  | n + 1, m + 1, k, h, h' => by
    by_cases hk : 0 < k
    · rw [decB, decB, if_pos hk, if_pos hk, decB_more n m (k / 10) (by omega) (by omega)]
    · rw [decB, decB, if_neg hk, if_neg hk]
def dec (k : Int) : ByteArray := decB k.toNat k
theorem dec_step {k : Int} (hk : 0 < k) : dec k = dec (k / 10) ++ ⟨#[UInt8.ofNat (dig k).toNat]⟩ := by
  unfold dec
  obtain ⟨n, hn⟩ : ∃ n, k.toNat = n + 1 := ⟨k.toNat - 1, by omega⟩
  rw [hn, decB, if_pos hk, decB_more n (k / 10).toNat (k / 10) (by omega) (by omega)]
theorem dec_end {k : Int} (hk : ¬ 0 < k) : dec k = ByteArray.empty := by
  unfold dec
  have : k.toNat = 0 := by omega
  rw [this]; rfl
theorem dec_size : ∀ (n : Nat) (k : Int), k.toNat ≤ n → (dec k).size ≤ n
  | 0, k, h => by rw [dec_end (by omega)]; exact Nat.le_refl _
  | n + 1, k, h => by
    by_cases hk : 0 < k
    · rw [dec_step hk, ByteArray.size_append]
      have := dec_size n (k / 10) (by omega)
      have : (ByteArray.mk #[UInt8.ofNat (dig k).toNat]).size = 1 := rfl
      omega
    · rw [dec_end hk]; exact Nat.zero_le _
/-- The text of the mark k. -/
def markT (k : Int) : ByteArray := if k ≤ 0 then ⟨#[109, 48]⟩ else ⟨#[109]⟩ ++ dec k

end Go.Proofs.Ytfafcicbfgdmcaa
