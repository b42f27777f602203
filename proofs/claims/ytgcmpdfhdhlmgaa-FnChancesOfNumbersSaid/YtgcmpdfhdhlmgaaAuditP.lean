/- The plain laws of the audits: binomials, their sums, fractions in lowest terms. No program stands here. -/
import Derived.Test.YtgcmpdfhdhlmgaaBase
namespace Go.Proofs.Ytgcmpdfhdhlmgaa
open Go.RowKit
set_option linter.unusedVariables false

/-- Pascal's triangle. -/
def pas : Nat → Nat → Nat
  | _, 0 => 1
  | 0, _ + 1 => 0
  | n + 1, k + 1 => pas n k + pas n (k + 1)
theorem pas_zero (n : Nat) : pas n 0 = 1 := by cases n <;> rfl
theorem pas_mul : ∀ n k, (k + 1) * pas (n + 1) (k + 1) = (n + 1) * pas n k
  | 0, 0 => by simp [pas]
  | 0, k + 1 => by simp [pas]
  | n + 1, 0 => by
    have h := pas_mul n 0
    rw [pas_zero] at h ⊢
    rw [pas, pas_zero]
    omega
  | n + 1, k + 1 => by
    have h1 := pas_mul n k
    have h2 := pas_mul n (k + 1)
    have e1 : pas (n + 2) (k + 2) = pas (n + 1) (k + 1) + pas (n + 1) (k + 2) := rfl
    have e2 : pas (n + 1) (k + 1) = pas n k + pas n (k + 1) := rfl
    rw [e1, Nat.mul_add, h2]
    have e3 : (k + 1 + 1) * pas (n + 1) (k + 1) = (k + 1) * pas (n + 1) (k + 1) + pas (n + 1) (k + 1) := by rw [Nat.succ_mul]
    rw [e3, h1]
    have e4 : (n + 1 + 1) * pas (n + 1) (k + 1) = (n + 1) * pas (n + 1) (k + 1) + pas (n + 1) (k + 1) := by rw [Nat.succ_mul]
    rw [e4]
    have e5 : (n + 1) * pas (n + 1) (k + 1) = (n + 1) * pas n k + (n + 1) * pas n (k + 1) := by rw [e2, Nat.mul_add]
    omega
theorem pas_step {n k : Nat} (h : k ≤ n) : (k + 1) * pas n (k + 1) = (n - k) * pas n k := by
  have h1 := pas_mul n k
  have e : pas (n + 1) (k + 1) = pas n k + pas n (k + 1) := rfl
  rw [e, Nat.mul_add] at h1
  have h2 : (n + 1) * pas n k = (n - k) * pas n k + (k + 1) * pas n k := by rw [← Nat.add_mul]; congr 1; omega
  omega
theorem pas_pow : ∀ n k, pas n k ≤ 2 ^ n
  | _, 0 => by rw [pas_zero]; exact Nat.one_le_two_pow
  | 0, k + 1 => by simp [pas]
  | n + 1, k + 1 => by
    have h1 := pas_pow n k
    have h2 := pas_pow n (k + 1)
    rw [pas, Nat.pow_succ]; omega
theorem pas_pos : ∀ {n k : Nat}, k ≤ n → 1 ≤ pas n k
  | _, 0, _ => by rw [pas_zero]; exact Nat.le_refl 1
  | n + 1, k + 1, h => by have := pas_pos (n := n) (k := k) (by omega); rw [pas]; omega

def chooseZ (a b : Int) : Int := if 0 ≤ b ∧ b ≤ a then (pas a.toNat b.toNat : Nat) else 0
theorem chooseZ_nonneg (a b : Int) : 0 ≤ chooseZ a b := by unfold chooseZ; split <;> omega
theorem chooseZ_pow (a b : Int) : chooseZ a b ≤ (2 ^ a.toNat : Nat) := by
  unfold chooseZ
  split
  · exact Int.ofNat_le.2 (pas_pow _ _)
  · exact Int.natCast_nonneg _
theorem chooseZ_bd {a : Int} (b : Int) (h : a ≤ 40) : chooseZ a b ≤ 1099511627776 := by
  have h1 := chooseZ_pow a b
  have h2 : 2 ^ a.toNat ≤ 2 ^ 40 := Nat.pow_le_pow_right (by omega) (by omega)
  have h3 : ((2 ^ a.toNat : Nat) : Int) ≤ ((2 ^ 40 : Nat) : Int) := Int.ofNat_le.2 h2
  have h4 : ((2 ^ 40 : Nat) : Int) = 1099511627776 := by decide
  omega
theorem chooseZ_pos {a b : Int} (h0 : 0 ≤ b) (h : b ≤ a) : 1 ≤ chooseZ a b := by
  unfold chooseZ
  rw [if_pos ⟨h0, h⟩]
  have := pas_pos (n := a.toNat) (k := b.toNat) (by omega)
  omega
/-- One number's ways. -/
def termZ (n g k x : Int) : Int := chooseZ g x * chooseZ (n - g) (k - x)
theorem termZ_bd {n g : Int} (k x : Int) (h0 : 0 ≤ g) (h1 : g ≤ n) (h2 : n ≤ 40) : 0 ≤ termZ n g k x ∧ termZ n g k x ≤ 1099511627776 := by
  have a0 := chooseZ_nonneg g x
  have b0 := chooseZ_nonneg (n - g) (k - x)
  have a1 := chooseZ_pow g x
  have b1 := chooseZ_pow (n - g) (k - x)
  refine ⟨Int.mul_nonneg a0 b0, ?_⟩
  have h3 : termZ n g k x ≤ ((2 ^ g.toNat : Nat) : Int) * ((2 ^ (n - g).toNat : Nat) : Int) := Int.mul_le_mul a1 b1 b0 (by omega)
  have h4 : ((2 ^ g.toNat : Nat) : Int) * ((2 ^ (n - g).toNat : Nat) : Int) = ((2 ^ n.toNat : Nat) : Int) := by
    rw [← Int.natCast_mul, ← Nat.pow_add]; congr 2; omega
  have h5 : 2 ^ n.toNat ≤ 2 ^ 40 := Nat.pow_le_pow_right (by omega) (by omega)
  have h6 : ((2 ^ n.toNat : Nat) : Int) ≤ ((2 ^ 40 : Nat) : Int) := Int.ofNat_le.2 h5
  have h7 : ((2 ^ 40 : Nat) : Int) = 1099511627776 := by decide
  omega
/-- The ways of m numbers from lo on. -/
def waysTo (n g k lo : Int) : Nat → Int
  | 0 => 0
  | j + 1 => waysTo n g k lo j + termZ n g k (lo + j)
theorem waysTo_bd {n g : Int} (k lo : Int) (h0 : 0 ≤ g) (h1 : g ≤ n) (h2 : n ≤ 40) : ∀ j : Nat, 0 ≤ waysTo n g k lo j ∧ waysTo n g k lo j ≤ 1099511627776 * j
  | 0 => by simp [waysTo]
  | j + 1 => by
    have h := waysTo_bd k lo h0 h1 h2 j
    have t := termZ_bd k (lo + j) h0 h1 h2
    rw [waysTo]
    omega
def waysZ (n g k lo hi : Int) : Int := waysTo n g k lo (hi + 1 - lo).toNat
theorem waysZ_bd {n g : Int} (k : Int) {lo hi : Int} (h0 : 0 ≤ g) (h1 : g ≤ n) (h2 : n ≤ 40) (hl : 0 ≤ lo) (hh : hi ≤ 40) : 0 ≤ waysZ n g k lo hi ∧ waysZ n g k lo hi ≤ 45079976738816 := by
  have := waysTo_bd k lo h0 h1 h2 (hi + 1 - lo).toNat
  unfold waysZ
  have : (hi + 1 - lo).toNat ≤ 41 := by omega
  omega

def gcdZ (a b : Int) : Int := (Nat.gcd a.toNat b.toNat : Nat)
theorem gcdZ_step {a b : Int} (ha : 0 ≤ a) (hb : 0 < b) : gcdZ b (a % b) = gcdZ a b := by
  unfold gcdZ
  have e : (a % b).toNat = a.toNat % b.toNat := by
    obtain ⟨m, rfl⟩ := Int.eq_ofNat_of_zero_le ha
    obtain ⟨n, rfl⟩ := Int.eq_ofNat_of_zero_le (by omega : 0 ≤ b)
    rw [← Int.natCast_emod, Int.toNat_natCast, Int.toNat_natCast, Int.toNat_natCast]
  rw [e, Nat.gcd_comm b.toNat, ← Nat.gcd_rec, Nat.gcd_comm]
theorem gcdZ_zero {a : Int} (ha : 0 ≤ a) : gcdZ a 0 = a := by unfold gcdZ; simp; omega
theorem gcdZ_pos {a b : Int} (hb : 1 ≤ b) : 1 ≤ gcdZ a b := by
  unfold gcdZ
  have : 0 < Nat.gcd a.toNat b.toNat := Nat.gcd_pos_of_pos_right _ (by omega)
  omega
def lowestZ (a b : Int) : Int × Int := (a / gcdZ a b, b / gcdZ a b)

def drawOk (n g k : Int) : Bool := inR n 1 40 && (inR g 0 n && inR k 0 n)
theorem drawOk_iff {n g k : Int} : drawOk n g k = true ↔ (1 ≤ n ∧ n ≤ 40) ∧ (0 ≤ g ∧ g ≤ n) ∧ (0 ≤ k ∧ k ≤ n) := by
  simp [drawOk, inR]
def chanceZ (n g k lo hi : Int) : Int × Int := lowestZ (waysZ n g k lo hi) (chooseZ n k)
def chanceIf (n g k x lo hi : Int) : Int × Int × Int := if drawOk n g k && inR x 0 40 then ((chanceZ n g k lo hi).1, (chanceZ n g k lo hi).2, 0) else (0, 0, 2)
def drawCode (n g k x : Int) : Int := if drawOk n g k && inR x 0 40 then 0 else 2

def rareZ (n g k lo hi l : Int) : Bool := decide (1000 * waysZ n g k lo hi < l * chooseZ n k)
theorem limit_bd {n l : Int} (k : Int) (hn : n ≤ 40) (h0 : 0 ≤ l) (h1 : l ≤ 1000) : 0 ≤ l * chooseZ n k ∧ l * chooseZ n k ≤ 1099511627776000 := by
  have a := chooseZ_nonneg n k
  have b := chooseZ_bd k hn
  refine ⟨Int.mul_nonneg h0 a, ?_⟩
  have : l * chooseZ n k ≤ 1000 * 1099511627776 := Int.mul_le_mul h1 b a (by omega)
  omega
def badZ (n g k l x : Int) : Bool := rareZ n g k 0 x l || rareZ n g k x 40 l
/-- The range of what is neither low nor high, number by number. -/
def normStep (bad : Nat → Bool) (s : Int × Int) (x : Nat) : Int × Int := if bad x then s else (if s.1 < 0 then (x : Int) else s.1, (x : Int))
def normTo (bad : Nat → Bool) (m : Nat) : Int × Int := (List.range m).foldl (normStep bad) (-1, -1)
theorem normTo_succ (bad : Nat → Bool) (m : Nat) : normTo bad (m + 1) = normStep bad (normTo bad m) m := by simp [normTo, List.range_succ]
def normalRange (n g k l : Int) : Int × Int × Int :=
  if drawOk n g k && inR l 0 1000 then (let s := normTo (fun x => badZ n g k l x) (n + 1).toNat; if s.1 < 0 then (0, 0, 4) else (s.1, s.2, 0)) else (0, 0, 2)
theorem ret_pair {a b c d : Int} (h : (a, b) = (c, d)) : Ending.returned (.tuple #[.int .i64 a, .int .i64 b]) = .returned (.tuple #[.int .i64 c, .int .i64 d]) := by
  cases h; rfl
theorem ret_three {a b c d e f : Int} (h : (a, b, c) = (d, e, f)) : Ending.returned (.tuple #[.int .i64 a, .int .i64 b, .int .i64 c]) = .returned (.tuple #[.int .i64 d, .int .i64 e, .int .i64 f]) := by
  cases h; rfl
end Go.Proofs.Ytgcmpdfhdhlmgaa
