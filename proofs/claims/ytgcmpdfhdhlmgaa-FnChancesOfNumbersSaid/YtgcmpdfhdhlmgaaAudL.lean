/- The plain laws of the audits: all ways add up (Vandermonde's sum), fractions told back, the likeliest number. No program stands here. -/
import Derived.Test.YtgcmpdfhdhlmgaaAuditP
namespace Go.Proofs.Ytgcmpdfhdhlmgaa
open Go.RowKit
set_option linter.unusedVariables false

theorem pas_big : ∀ {n k : Nat}, n < k → pas n k = 0
  | 0, 0, h => by omega
  | 0, k + 1, _ => rfl
  | n + 1, 0, h => by omega
  | n + 1, k + 1, h => by rw [pas, pas_big (by omega), pas_big (by omega)]
theorem pas_sym : ∀ a b : Nat, pas (a + b) a = pas (a + b) b
  | 0, 0 => rfl
  | 0, b + 1 => by
    have : ∀ n, pas n n = 1 := by
      intro n
      induction n with
      | zero => rfl
      | succ n ih => rw [pas, ih, pas_big (by omega)]
    rw [Nat.zero_add, this, pas_zero]
  | a + 1, 0 => by
    have : ∀ n, pas n n = 1 := by
      intro n
      induction n with
      | zero => rfl
      | succ n ih => rw [pas, ih, pas_big (by omega)]
    rw [Nat.add_zero, this, pas_zero]
  | a + 1, b + 1 => by
    have h1 := pas_sym a (b + 1)
    have h2 := pas_sym (a + 1) b
    have e1 : a + 1 + (b + 1) = (a + (b + 1)) + 1 := by omega
    rw [e1]
    rw [pas, pas, h1]
    have e2 : a + (b + 1) = a + 1 + b := by omega
    rw [e2, h2]
    omega
theorem chooseZ_at {a b : Int} (ha : 0 ≤ a) (hb : 0 ≤ b) : chooseZ a b = (pas a.toNat b.toNat : Nat) := by
  unfold chooseZ
  split
  · rfl
  · rw [pas_big (by omega)]; rfl
theorem chooseZ_neg {a b : Int} (hb : b < 0) : chooseZ a b = 0 := by
  unfold chooseZ
  rw [if_neg (by omega)]
theorem chooseZ_sym {a b : Int} (h0 : 0 ≤ b) (h1 : b ≤ a) : chooseZ a (a - b) = chooseZ a b := by
  rw [chooseZ_at (by omega) (by omega), chooseZ_at (by omega) h0]
  have := pas_sym b.toNat (a - b).toNat
  have e : b.toNat + (a - b).toNat = a.toNat := by omega
  rw [e] at this
  rw [this]
/-- Vandermonde's sum. -/
def conv (g h k : Nat) : Nat → Nat
  | 0 => 0
  | j + 1 => conv g h k j + pas g j * pas h (k - j)
theorem conv_grow (g h k : Nat) : ∀ j, conv (g + 1) h (k + 1) (j + 1) = conv g h (k + 1) (j + 1) + conv g h k j
  | 0 => by simp [conv, pas_zero]
  | j + 1 => by
    have ih := conv_grow g h k j
    rw [conv, ih, conv.eq_2 g h (k + 1) (j + 1), conv.eq_2 g h k j, pas, Nat.add_mul, Nat.add_sub_add_right]
    omega
theorem conv_zero (h k : Nat) : ∀ j, conv 0 h k (j + 1) = pas h k
  | 0 => by simp [conv, pas]
  | j + 1 => by rw [conv, conv_zero h k j, pas]; simp
theorem vandermonde : ∀ g h k : Nat, conv g h k (k + 1) = pas (g + h) k
  | 0, h, k => by rw [conv_zero, Nat.zero_add]
  | g + 1, h, 0 => by simp [conv, pas_zero]
  | g + 1, h, k + 1 => by
    rw [conv_grow, vandermonde g h (k + 1), vandermonde g h k]
    have e : g + 1 + h = (g + h) + 1 := by omega
    rw [e, pas]
    omega
theorem termZ_at {n g k x : Int} (h0 : 0 ≤ g) (h1 : g ≤ n) (hx : 0 ≤ x) (hk : x ≤ k) : termZ n g k x = ((pas g.toNat x.toNat * pas (n - g).toNat (k.toNat - x.toNat) : Nat) : Int) := by
  unfold termZ
  rw [chooseZ_at h0 hx, chooseZ_at (by omega) (by omega), Int.natCast_mul]
  have e : (k - x).toNat = k.toNat - x.toNat := by omega
  rw [e]
theorem termZ_out {n g k x : Int} (hk : k < x) : termZ n g k x = 0 := by
  unfold termZ
  rw [chooseZ_neg (a := n - g) (by omega), Int.mul_zero]
theorem waysTo_conv {n g k : Int} (h0 : 0 ≤ g) (h1 : g ≤ n) (hk : 0 ≤ k) : ∀ j : Nat, (j : Int) ≤ k + 1 → waysTo n g k 0 j = ((conv g.toNat (n - g).toNat k.toNat j : Nat) : Int)
  | 0, _ => rfl
  | j + 1, hj => by
    rw [waysTo, waysTo_conv h0 h1 hk j (by omega), conv, termZ_at h0 h1 (by omega) (by omega)]
    have e : (0 + (j : Int)).toNat = j := by omega
    rw [e, Int.natCast_add]
theorem waysTo_more {n g k : Int} : ∀ j i : Nat, k < j → waysTo n g k 0 (j + i) = waysTo n g k 0 j
  | j, 0, _ => rfl
  | j, i + 1, h => by
    rw [← Nat.add_assoc, waysTo, waysTo_more j i h, termZ_out (by omega), Int.add_zero]
theorem ways_all {n g k : Int} (hd : drawOk n g k = true) : waysZ n g k 0 40 = chooseZ n k := by
  obtain ⟨⟨h1, h2⟩, ⟨h3, h4⟩, h5, h6⟩ := drawOk_iff.1 hd
  unfold waysZ
  have e : ((40 : Int) + 1 - 0).toNat = (k.toNat + 1) + (40 - k.toNat) := by omega
  rw [e, waysTo_more _ _ (by omega), waysTo_conv h3 h4 h5 _ (by omega), vandermonde, chooseZ_at (by omega) h5]
  have e2 : g.toNat + (n - g).toNat = n.toNat := by omega
  rw [e2]
theorem waysTo_split (n g k lo : Int) (a : Nat) : ∀ b : Nat, waysTo n g k lo (a + b) = waysTo n g k lo a + waysTo n g k (lo + a) b
  | 0 => by simp [waysTo]
  | b + 1 => by
    rw [← Nat.add_assoc, waysTo, waysTo_split n g k lo a b, waysTo]
    have e : lo + ((a + b : Nat) : Int) = lo + (a : Int) + (b : Int) := by omega
    rw [e]; omega
theorem ways_sum {n g k x : Int} (h0 : 0 ≤ x) (h1 : x ≤ 40) : waysZ n g k 0 x + waysZ n g k x 40 = waysZ n g k 0 40 + waysZ n g k x x := by
  have s1 := waysTo_split n g k 0 x.toNat (41 - x.toNat)
  have s2 := waysTo_split n g k 0 x.toNat 1
  have e0 : (0 : Int) + (x.toNat : Int) = x := by omega
  rw [e0] at s1 s2
  unfold waysZ
  have e1 : (x + 1 - 0).toNat = x.toNat + 1 := by omega
  have e2 : ((40 : Int) + 1 - x).toNat = 41 - x.toNat := by omega
  have e3 : ((40 : Int) + 1 - 0).toNat = x.toNat + (41 - x.toNat) := by omega
  have e4 : (x + 1 - x).toNat = 1 := by omega
  rw [e1, e2, e3, e4, s1, s2]
  omega
/-- A fraction in lowest terms, told back. -/
theorem gcdZ_dvd {a b : Int} (ha : 0 ≤ a) (hb : 0 ≤ b) : ∃ u v : Int, 0 ≤ u ∧ 0 ≤ v ∧ a = u * gcdZ a b ∧ b = v * gcdZ a b := by
  obtain ⟨m, rfl⟩ := Int.eq_ofNat_of_zero_le ha
  obtain ⟨n, rfl⟩ := Int.eq_ofNat_of_zero_le hb
  obtain ⟨u, hu⟩ := Nat.gcd_dvd_left m n
  obtain ⟨v, hv⟩ := Nat.gcd_dvd_right m n
  refine ⟨u, v, Int.natCast_nonneg _, Int.natCast_nonneg _, ?_, ?_⟩
  · simp only [gcdZ, Int.toNat_natCast]
    rw [← Int.natCast_mul, Nat.mul_comm, ← hu]
  · simp only [gcdZ, Int.toNat_natCast]
    rw [← Int.natCast_mul, Nat.mul_comm, ← hv]
theorem lowest_back {a b : Int} (ha : 0 ≤ a) (hb : 1 ≤ b) : 1 ≤ (lowestZ a b).2 ∧ 0 ≤ (lowestZ a b).1 ∧ (lowestZ a b).1 ≤ a ∧ (lowestZ a b).2 ≤ b ∧ b % (lowestZ a b).2 = 0 ∧ b / (lowestZ a b).2 = gcdZ a b ∧ (lowestZ a b).1 * gcdZ a b = a ∧ 1 ≤ gcdZ a b ∧ gcdZ a b ≤ b := by
  obtain ⟨u, v, hu, hv, h1, h2⟩ := gcdZ_dvd ha (by omega : 0 ≤ b)
  have hg := gcdZ_pos (a := a) hb
  generalize hG : gcdZ a b = G at *
  have e1 : (lowestZ a b).1 = u := by
    simp only [lowestZ, hG]
    rw [h1, Int.mul_ediv_cancel _ (by omega)]
  have e2 : (lowestZ a b).2 = v := by
    simp only [lowestZ, hG]
    rw [h2, Int.mul_ediv_cancel _ (by omega)]
  have hv1 : 1 ≤ v := by
    rcases Int.lt_or_le v 1 with h | h
    · have : v = 0 := by omega
      rw [this, Int.zero_mul] at h2; omega
    · exact h
  rw [e1, e2]
  refine ⟨hv1, hu, ?_, ?_, ?_, ?_, h1.symm, hg, ?_⟩
  · have := Int.mul_le_mul_of_nonneg_left hg hu
    omega
  · have := Int.mul_le_mul_of_nonneg_left hg hv
    omega
  · rw [h2]; exact Int.mul_emod_right _ _
  · rw [h2]; exact Int.mul_ediv_cancel_left _ (by omega)
  · have := Int.mul_le_mul_of_nonneg_right hv1 (by omega : 0 ≤ G)
    omega
theorem mean_back {n g k : Int} (hg : 0 ≤ g) (hk : 0 ≤ k) (hn : 1 ≤ n) : (lowestZ (k * g) n).1 * n = k * g * (lowestZ (k * g) n).2 := by
  have h0 : 0 ≤ k * g := Int.mul_nonneg hk hg
  obtain ⟨b1, b2, b3, b4, b5, b6, b7, b8, b9⟩ := lowest_back h0 hn
  have e : n = (lowestZ (k * g) n).2 * gcdZ (k * g) n := by
    have := Int.mul_ediv_add_emod n (lowestZ (k * g) n).2
    rw [b5, b6] at this
    omega
  generalize (lowestZ (k * g) n).1 = x at *
  generalize (lowestZ (k * g) n).2 = y at *
  generalize gcdZ (k * g) n = G at *
  calc x * n = x * (y * G) := by rw [← e]
    _ = (x * G) * y := by rw [Int.mul_comm y G, Int.mul_assoc]
    _ = k * g * y := by rw [b7]
/-- The likeliest number, number by number. -/
def likeTo (n g k : Int) : Nat → Int
  | 0 => 0
  | j + 1 => if waysZ n g k (likeTo n g k j) (likeTo n g k j) < waysZ n g k (j : Int) (j : Int) then (j : Int) else likeTo n g k j
theorem likeTo_bd (n g k : Int) : ∀ j : Nat, 0 ≤ likeTo n g k j ∧ likeTo n g k j ≤ j
  | 0 => by simp [likeTo]
  | j + 1 => by
    have := likeTo_bd n g k j
    rw [likeTo]
    split <;> omega
theorem likeTo_lt (n g k : Int) : ∀ j : Nat, likeTo n g k (j + 1) ≤ j
  | 0 => by rw [likeTo]; split <;> simp [likeTo]
  | j + 1 => by
    have := likeTo_lt n g k j
    rw [likeTo]
    split <;> omega
theorem likeTo_best (n g k : Int) : ∀ j i : Nat, i < j → waysZ n g k i i ≤ waysZ n g k (likeTo n g k j) (likeTo n g k j)
  | 0, i, h => by omega
  | j + 1, i, h => by
    rw [likeTo]
    by_cases hi : i = j
    · subst hi
      split <;> omega
    · have := likeTo_best n g k j i (by omega)
      split <;> omega
def likeliest (n g k : Int) : Int × Int := if drawOk n g k then (likeTo n g k (n + 1).toNat, 0) else (0, 2)
def waysIf (a b : Int) : Int × Int := if inR a 0 40 && inR b 0 40 then (chooseZ a b, 0) else (0, 2)
def meanIf (n g k : Int) : Int × Int × Int := if drawOk n g k then ((lowestZ (k * g) n).1, (lowestZ (k * g) n).2, 0) else (0, 0, 2)
/-- The normal range: neither end is low or high. -/
theorem normTo_facts (bad : Nat → Bool) : ∀ m, ((normTo bad m).1 < 0 ∧ (normTo bad m).1 = -1 ∧ ∀ x, x < m → bad x = true) ∨ (0 ≤ (normTo bad m).1 ∧ (normTo bad m).1 ≤ (normTo bad m).2 ∧ (normTo bad m).2 < m ∧ bad (normTo bad m).1.toNat = false ∧ bad (normTo bad m).2.toNat = false)
  | 0 => .inl ⟨by simp [normTo], by simp [normTo], fun x h => by omega⟩
  | m + 1 => by
    have ih := normTo_facts bad m
    rw [normTo_succ]
    generalize normTo bad m = s at *
    unfold normStep
    cases hb : bad m with
    | true =>
      simp only [if_true]
      rcases ih with ⟨h1, h2, h3⟩ | ⟨h1, h2, h3, h4, h5⟩
      · left
        refine ⟨h1, h2, fun x hx => ?_⟩
        by_cases hm : x = m
        · rw [hm, hb]
        · exact h3 x (by omega)
      · right
        exact ⟨h1, h2, by omega, h4, h5⟩
    | false =>
      right
      simp only [Bool.false_eq_true, if_false]
      rcases ih with ⟨h1, h2, h3⟩ | ⟨h1, h2, h3, h4, h5⟩
      · rw [if_pos h1]
        simp [hb]
        omega
      · rw [if_neg (by omega)]
        simp [hb, h1, h4]; omega
end Go.Proofs.Ytgcmpdfhdhlmgaa
