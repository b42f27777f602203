/- All calendars, plain. -/
import Derived.Test.YtgpknnlphabpkaaGreatCalX
namespace Go.Proofs.YtgpknnlphabpkaaGreat
open Go.RowKit
set_option linter.unusedVariables false

def calsTo (f : List Int → List (List Int)) (xs : List Hearing) (ps : List Slot) (b : List Int) : Nat → List (List Int)
  | 0 => []
  | k + 1 => calsTo f xs ps b k ++ (if calB (xs.take (b.length + 1)) ps (b ++ [(k : Int)]) then f (b ++ [(k : Int)]) else [])
def calsFrom (xs : List Hearing) (ps : List Slot) : Nat → List Int → List (List Int)
  | 0, b => [b]
  | n + 1, b => calsTo (calsFrom xs ps n) xs ps b ps.length
def cals (xs : List Hearing) (ps : List Slot) : List (List Int) := calsFrom xs ps xs.length []
theorem calsTo_yes {f : List Int → List (List Int)} {xs : List Hearing} {ps : List Slot} {b : List Int} {k : Nat} (h : calB (xs.take (b.length + 1)) ps (b ++ [(k : Int)]) = true) : calsTo f xs ps b (k + 1) = calsTo f xs ps b k ++ f (b ++ [(k : Int)]) := by rw [calsTo, if_pos h]
theorem calsTo_no {f : List Int → List (List Int)} {xs : List Hearing} {ps : List Slot} {b : List Int} {k : Nat} (h : calB (xs.take (b.length + 1)) ps (b ++ [(k : Int)]) = false) : calsTo f xs ps b (k + 1) = calsTo f xs ps b k := by rw [calsTo, if_neg (by rw [h]; simp), List.append_nil]
theorem calsTo_len {f : List Int → List (List Int)} {xs : List Hearing} {ps : List Slot} {b : List Int} {M : Nat} (hf : ∀ c, (f c).length ≤ M) : ∀ k, (calsTo f xs ps b k).length ≤ k * M
  | 0 => by simp [calsTo]
  | k + 1 => by
    have ih := calsTo_len (xs := xs) (ps := ps) (b := b) hf k
    have h1 := hf (b ++ [(k : Int)])
    rw [calsTo, List.length_append, Nat.succ_mul]
    split
    · omega
    · simp; omega
theorem calsFrom_len {xs : List Hearing} {ps : List Slot} (hp : ps.length ≤ 10) : ∀ n b, (calsFrom xs ps n b).length ≤ 10 ^ n
  | 0, b => by simp [calsFrom]
  | n + 1, b => by
    have h := calsTo_len (f := calsFrom xs ps n) (xs := xs) (ps := ps) (b := b) (fun c => calsFrom_len hp n c) ps.length
    rw [calsFrom, Nat.pow_succ, Nat.mul_comm]
    exact Nat.le_trans h (Nat.mul_le_mul_right _ hp)
theorem pow10_le {n : Nat} (h : n ≤ 5) : 10 ^ n ≤ 100000 := Nat.pow_le_pow_right (n := 10) (by omega) h
theorem calsFrom_le {xs : List Hearing} {ps : List Slot} {n : Nat} {b : List Int} (hp : ps.length ≤ 10) (h : n ≤ 5) : (calsFrom xs ps n b).length ≤ 100000 := Nat.le_trans (calsFrom_len hp n b) (pow10_le h)
theorem cals_le {xs : List Hearing} {ps : List Slot} (hp : ps.length ≤ 10) (h : xs.length ≤ 5) : (cals xs ps).length ≤ 100000 := calsFrom_le hp h
theorem calsTo_le {xs : List Hearing} {ps : List Slot} {n k : Nat} {b : List Int} (hp : ps.length ≤ 10) (h : n + 1 ≤ 5) (hk : k ≤ ps.length) : (calsTo (calsFrom xs ps n) xs ps b k).length ≤ 100000 := by
  have h1 := calsTo_len (f := calsFrom xs ps n) (xs := xs) (ps := ps) (b := b) (fun c => calsFrom_len hp n c) k
  have h2 : 10 ^ n ≤ 10000 := Nat.pow_le_pow_right (n := 10) (j := 4) (by omega) (by omega)
  have h3 : k * 10 ^ n ≤ 10 * 10000 := Nat.mul_le_mul (by omega) h2
  omega
theorem calsTo_mem {f : List Int → List (List Int)} {xs : List Hearing} {ps : List Slot} {b c : List Int} : ∀ {k : Nat}, c ∈ calsTo f xs ps b k → ∃ i, i < k ∧ calB (xs.take (b.length + 1)) ps (b ++ [(i : Int)]) = true ∧ c ∈ f (b ++ [(i : Int)])
  | 0, h => by simp [calsTo] at h
  | k + 1, h => by
    rw [calsTo, List.mem_append] at h
    rcases h with h | h
    · obtain ⟨i, h1, h2⟩ := calsTo_mem h
      exact ⟨i, by omega, h2⟩
    · split at h
      · exact ⟨k, by omega, by assumption, h⟩
      · simp at h
theorem idxOk_nat {n k : Nat} (h : k < n) : idxOk n (k : Int) = true := decide_eq_true ⟨by omega, by omega⟩
theorem all_snoc {n k : Nat} {b : List Int} (hb : b.all (idxOk n) = true) (h : k < n) : (b ++ [(k : Int)]).all (idxOk n) = true := by
  rw [List.all_append, hb]
  simp [idxOk_nat h]
theorem calsFrom_mem {xs : List Hearing} {ps : List Slot} : ∀ (n : Nat) (b c : List Int), b.all (idxOk ps.length) = true → c ∈ calsFrom xs ps n b → c.length = b.length + n ∧ c.all (idxOk ps.length) = true
  | 0, b, c, hb, h => by
    simp [calsFrom] at h
    subst h
    exact ⟨by omega, hb⟩
  | n + 1, b, c, hb, h => by
    rw [calsFrom] at h
    obtain ⟨i, hi, -, hc⟩ := calsTo_mem h
    have := calsFrom_mem n _ c (all_snoc hb hi) hc
    rw [List.length_append] at this
    exact ⟨by simp at this; omega, this.2⟩
theorem cals_mem {xs : List Hearing} {ps : List Slot} {c : List Int} (h : c ∈ cals xs ps) : c.length = xs.length ∧ c.all (idxOk ps.length) = true := by
  have := calsFrom_mem xs.length [] c rfl h
  exact ⟨by simpa using this.1, this.2⟩
end Go.Proofs.YtgpknnlphabpkaaGreat
