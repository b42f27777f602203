/- The chances of all numbers add up to 1, and at most and at least fit each other: returns true for all arguments. No conditions. -/
import Derived.Test.YtgcmpdfhdhlmgaaAuditX
import Derived.Test.YtgcmpdfhdhlmgaaDrawAu
import Derived.Test.YtgcmpdfhdhlmgaaLike
import Derived.Test.YtgcmpdfhdhlmgaaOpenB
namespace Go.Proofs.Ytgcmpdfhdhlmgaa.chances
open Go.ChangeShapes Go.WideShapes Go.ChangeAt Go.RowKit
open Go.ChangeMaps (open_string shut_string)
set_option linter.unusedVariables false

theorem own : ownKnob Try.prog.godebug = none := by kernel_rfl
theorem laidOut : laidOutB Try.prog = true := by kernel_rfl

theorem ways_back {p q : Int} (h : (waysIf p q).2 = 0) (hqp : q ≤ p) : waysIf p q = (chooseZ p q, 0) ∧ waysIf p (p - q) = (chooseZ p q, 0) := by
  unfold waysIf at h
  split at h
  · rename_i h1
    have h2 := h1
    rw [Bool.and_eq_true, inR_iff, inR_iff] at h2
    refine ⟨by unfold waysIf; rw [if_pos h1], ?_⟩
    unfold waysIf
    rw [inR_true (by omega) (by omega), inR_true (by omega) (by omega)]
    simp only [Bool.and_self, if_true]
    rw [chooseZ_sym (by omega) hqp]
  · simp at h
theorem chances_law {n g k x : Int} (hd : drawOk n g k = true) (hx : 0 ≤ x ∧ x ≤ 40) :
    chanceIf n g k x 0 x = ((chanceZ n g k 0 x).1, (chanceZ n g k 0 x).2, 0) ∧ chanceIf n g k x x 40 = ((chanceZ n g k x 40).1, (chanceZ n g k x 40).2, 0) ∧ chanceIf n g k x x x = ((chanceZ n g k x x).1, (chanceZ n g k x x).2, 0)
    ∧ meanIf n g k = ((lowestZ (k * g) n).1, (lowestZ (k * g) n).2, 0) := by
  have hx' : inR x 0 40 = true := inR_true hx.1 hx.2
  exact ⟨by rw [chanceIf, hd, hx']; rfl, by rw [chanceIf, hd, hx']; rfl, by rw [chanceIf, hd, hx']; rfl, by rw [meanIf, hd]; rfl⟩
theorem chance_code (n g k x lo hi : Int) : (chanceIf n g k x lo hi).2.2 = drawCode n g k x := by
  unfold chanceIf drawCode
  split <;> rfl
/-- The law in numbers. -/
theorem chances_all {n g k x : Int} (hd : drawOk n g k = true) (hx : 0 ≤ x ∧ x ≤ 40) : ∃ a b c d e f m o A G1 G2 G3 W1 W2 W3 : Int,
    chanceZ n g k 0 x = (a, b) ∧ chanceZ n g k x 40 = (c, d) ∧ chanceZ n g k x x = (e, f) ∧ lowestZ (k * g) n = (m, o) ∧ waysIf n k = (A, 0)
    ∧ 1 ≤ A ∧ 1 ≤ b ∧ 1 ≤ d ∧ 1 ≤ f ∧ A % b = 0 ∧ A % d = 0 ∧ A % f = 0 ∧ A / b = G1 ∧ A / d = G2 ∧ A / f = G3 ∧ a * G1 = W1 ∧ c * G2 = W2 ∧ e * G3 = W3
    ∧ W1 + W2 = A + W3 ∧ m * n = k * g * o ∧ (A ≤ 1099511627776 ∧ (0 ≤ W1 ∧ W1 ≤ 45079976738816) ∧ (0 ≤ W2 ∧ W2 ≤ 45079976738816) ∧ (0 ≤ W3 ∧ W3 ≤ 45079976738816) ∧ (0 ≤ a ∧ 0 ≤ c ∧ 0 ≤ e ∧ 0 ≤ m ∧ 1 ≤ o) ∧ 0 ≤ k * g ∧ k * g ≤ 1600 ∧ 0 ≤ m * n ∧ m * n ≤ 64000 ∧ 0 ≤ k * g * o ∧ k * g * o ≤ 64000) := by
  obtain ⟨⟨n1, n2⟩, ⟨g1, g2⟩, k1, k2⟩ := drawOk_iff.1 hd
  have hC := chooseZ_pos k1 k2
  have hC2 := chooseZ_bd k n2
  have w1 := waysZ_bd (n := n) (g := g) k (lo := 0) (hi := x) g1 g2 n2 (by omega) hx.2
  have w2 := waysZ_bd (n := n) (g := g) k (lo := x) (hi := 40) g1 g2 n2 hx.1 (by omega)
  have w3 := waysZ_bd (n := n) (g := g) k (lo := x) (hi := x) g1 g2 n2 hx.1 hx.2
  obtain ⟨a1, a2, a3, a4, a5, a6, a7, a8, a9⟩ := lowest_back w1.1 hC
  obtain ⟨b1, b2, b3, b4, b5, b6, b7, b8, b9⟩ := lowest_back w2.1 hC
  obtain ⟨c1, c2, c3, c4, c5, c6, c7, c8, c9⟩ := lowest_back w3.1 hC
  have hkg : 0 ≤ k * g ∧ k * g ≤ 1600 := by
    refine ⟨Int.mul_nonneg k1 g1, ?_⟩
    have : k * g ≤ 40 * 40 := Int.mul_le_mul (by omega) (by omega) g1 (by omega)
    omega
  obtain ⟨d1, d2, d3, d4, -, -, -, -, -⟩ := lowest_back hkg.1 n1
  have hmean := mean_back g1 k1 n1
  have hs := ways_sum (n := n) (g := g) (k := k) hx.1 hx.2
  rw [ways_all hd] at hs
  refine ⟨(lowestZ (waysZ n g k 0 x) (chooseZ n k)).1, (lowestZ (waysZ n g k 0 x) (chooseZ n k)).2, (lowestZ (waysZ n g k x 40) (chooseZ n k)).1, (lowestZ (waysZ n g k x 40) (chooseZ n k)).2, (lowestZ (waysZ n g k x x) (chooseZ n k)).1, (lowestZ (waysZ n g k x x) (chooseZ n k)).2, (lowestZ (k * g) n).1, (lowestZ (k * g) n).2, chooseZ n k, _, _, _, _, _, _, rfl, rfl, rfl, rfl, ?_, hC, a1, b1, c1, a5, b5, c5, a6, b6, c6, a7, b7, c7, hs, hmean, hC2, w1, w2, w3, ⟨a2, b2, c2, d2, d1⟩, hkg.1, hkg.2, Int.mul_nonneg d2 (by omega), ?_, ?_, ?_⟩
  · unfold waysIf
    rw [inR_true (by omega) (by omega), inR_true k1 (by omega)]
    rfl
  · have : (lowestZ (k * g) n).1 * n ≤ 1600 * 40 := Int.mul_le_mul (by omega) (by omega) (by omega) (by omega)
    omega
  · exact Int.mul_nonneg hkg.1 (by omega)
  · have : k * g * (lowestZ (k * g) n).2 ≤ 1600 * 40 := Int.mul_le_mul (by omega) (by omega) (by omega) (by omega)
    omega

set_option maxRecDepth 100000 in
set_option maxHeartbeats 40000000 in
theorem walk (v0 : Value) (code : List Int) (w : World) (hx0 : RdF encByte 1 w 0 w.heap.size v0 code) (hl0 : code.length ≤ maxLen) (hq0 : ∀ x ∈ code, 0 ≤ x ∧ x ≤ 255) :
    Calls Try.prog 9 #[v0] w fun e w' => e = .returned (.bool true) ∧ Below w.heap.size w w' := by
  try unfold maxLen at *
  obtain ⟨A0, C0, rfl, hc0⟩ := hx0.form
  by_cases hbig : (4096 : Int) < (code.length : Int)
  · go_enter Try.func9, Try.ntmps9
    go_wp2_with fail
    refine (big_any A0 C0 code.length _).mono ?_
    rintro e w1 ⟨rfl, b1⟩
    rw [decide_eq_true hbig]
    go_wp2_with fail
    go_ret
    exact ⟨rfl, b1⟩
  go_enter Try.func9, Try.ntmps9
  have BB : Below w.heap.size w w := Below.refl _ _
  go_wp2_with fail
  refine (big_any A0 C0 code.length _).mono ?_
  rintro e w1 ⟨rfl, b1⟩
  have zb1 := b1.size
  replace hx0 := hx0.below b1 (by omega)
  replace BB := Below.step b1 (by omega) BB
  clear b1
  rw [decide_eq_false (show ¬ (4096 : Int) < (code.length : Int) by omega)]
  go_wp2_with fail
  refine (drawChance_any _ code _ _ _ hx0 (by omega) (by omega) hq0).mono ?_
  rintro e w2 ⟨n, g, k, x, rfl, hn, hg, hk, hx, b2⟩
  have zb2 := b2.size
  replace hx0 := hx0.below b2 (by omega)
  replace BB := Below.step b2 (by omega) BB
  clear b2
  go_wp2_with fail
  refine (chanceOfAtMost_any n g k x _).mono ?_
  rintro e w3 ⟨rfl, b3⟩
  have zb3 := b3.size
  replace hx0 := hx0.below b3 (by omega)
  replace BB := Below.step b3 (by omega) BB
  clear b3
  go_wp2_with fail
  refine (sChanceOfAtMost_any n g k x _).mono ?_
  rintro e w4 ⟨rfl, b4⟩
  have zb4 := b4.size
  replace hx0 := hx0.below b4 (by omega)
  replace BB := Below.step b4 (by omega) BB
  clear b4
  go_wp2_with fail
  refine (chanceOfAtLeast_any n g k x _).mono ?_
  rintro e w5 ⟨rfl, b5⟩
  have zb5 := b5.size
  replace hx0 := hx0.below b5 (by omega)
  replace BB := Below.step b5 (by omega) BB
  clear b5
  go_wp2_with fail
  refine (sChanceOfAtLeast_any n g k x _).mono ?_
  rintro e w6 ⟨rfl, b6⟩
  have zb6 := b6.size
  replace hx0 := hx0.below b6 (by omega)
  replace BB := Below.step b6 (by omega) BB
  clear b6
  go_wp2_with fail
  refine (chanceOfExactly_any n g k x _).mono ?_
  rintro e w7 ⟨rfl, b7⟩
  have zb7 := b7.size
  replace hx0 := hx0.below b7 (by omega)
  replace BB := Below.step b7 (by omega) BB
  clear b7
  go_wp2_with fail
  refine (sChanceOfExactly_any n g k x _).mono ?_
  rintro e w8 ⟨rfl, b8⟩
  have zb8 := b8.size
  replace hx0 := hx0.below b8 (by omega)
  replace BB := Below.step b8 (by omega) BB
  clear b8
  go_wp2_with fail
  refine (drawWays_any _ code _ _ _ hx0 (by omega) (by omega) hq0).mono ?_
  rintro e w9 ⟨p, q, rfl, hp, hq, b9⟩
  have zb9 := b9.size
  replace hx0 := hx0.below b9 (by omega)
  replace BB := Below.step b9 (by omega) BB
  clear b9
  go_wp2_with fail
  refine (waysToChoose_any p q _).mono ?_
  rintro e w10 ⟨rfl, b10⟩
  have zb10 := b10.size
  replace hx0 := hx0.below b10 (by omega)
  replace BB := Below.step b10 (by omega) BB
  clear b10
  go_wp2_with fail
  refine (sWaysToChoose_any p q _).mono ?_
  rintro e w11 ⟨rfl, b11⟩
  have zb11 := b11.size
  replace hx0 := hx0.below b11 (by omega)
  replace BB := Below.step b11 (by omega) BB
  clear b11
  go_wp2_with fail
  refine (expected_any n g k _).mono ?_
  rintro e w12 ⟨rfl, b12⟩
  have zb12 := b12.size
  replace hx0 := hx0.below b12 (by omega)
  replace BB := Below.step b12 (by omega) BB
  clear b12
  go_wp2_with fail
  refine (sExpected_any n g k _).mono ?_
  rintro e w13 ⟨rfl, b13⟩
  have zb13 := b13.size
  replace hx0 := hx0.below b13 (by omega)
  replace BB := Below.step b13 (by omega) BB
  clear b13
  clear hx0
  rw [chance_code n g k x 0 x, chance_code n g k x x 40, chance_code n g k x x x]
  by_cases hw : (waysIf p q).2 = 0 ∧ q ≤ p
  · obtain ⟨hw1, hw2⟩ := hw
    obtain ⟨v1, v2⟩ := ways_back hw1 hw2
    rw [v1]
    clear hw1 v1
    go_wp2_with fail
    refine (waysToChoose_any p (p - q) _).mono ?_
    rintro e w14 ⟨rfl, b14⟩
    have zb14 := b14.size
    replace BB := Below.step b14 (by omega) BB
    clear b14
    rw [v2]
    clear v2 hw2
    generalize chooseZ p q = ww at *
    by_cases hz : ¬ (drawOk n g k && inR x 0 40) = true
    · have hdc : drawCode n g k x = 2 := by unfold drawCode; rw [if_neg hz]
      rw [hdc]
      clear hdc
      generalize (chanceIf n g k x 0 x).1 = c1 at *
      generalize (chanceIf n g k x 0 x).2.1 = c2 at *
      generalize (chanceIf n g k x x 40).1 = c3 at *
      generalize (chanceIf n g k x x 40).2.1 = c4 at *
      generalize (chanceIf n g k x x x).1 = c5 at *
      generalize (chanceIf n g k x x x).2.1 = c6 at *
      generalize (meanIf n g k).1 = mm at *
      generalize (meanIf n g k).2.1 = oo at *
      generalize (meanIf n g k).2.2 = nn at *
      go_wp2_with fail
      go_ret
      exact ⟨rfl, by (repeat (first | with_reducible assumption | with_reducible exact Below.refl _ _ | with_reducible refine Below.setCell ?_ ?_ _ | with_reducible refine Below.alloc ?_ ?_ _ | with_reducible refine Below.drew ?_ | with_reducible refine below_drewN ?_ _ | with_reducible refine Below.step (by with_reducible assumption) ?_ ?_ | omega | (simp <;> omega) | (simp; done)))⟩
    · obtain ⟨hd, hx2⟩ := by simpa using hz
      obtain ⟨f1, f2, f3, f4⟩ := chances_law hd (inR_iff.1 hx2)
      have hdc : drawCode n g k x = 0 := by unfold drawCode; rw [if_pos (by simpa using hz)]
      rw [hdc, f1, f2, f3, f4]
      obtain ⟨a, b, c, d, e, f, m, o, A, G1, G2, G3, W1, W2, W3, E1, E2, E3, E4, E5, hA, hb, hdd, hff, g1, g2, g3, h1, h2, h3, w1', w2', w3', hs, hm, bd⟩ := chances_all hd (inR_iff.1 hx2)
      rw [E1, E2, E3, E4]
      clear f1 f2 f3 f4 E1 E2 E3 E4 hdc
      go_wp2_with fail
      refine (waysToChoose_any n k _).mono ?_
      rintro e w15 ⟨rfl, b15⟩
      have zb15 := b15.size
      replace BB := Below.step b15 (by omega) BB
      clear b15
      rw [E5]
      obtain ⟨⟨n1, n2⟩, ⟨n3, n4⟩, n5, n6⟩ := drawOk_iff.1 hd
      clear hd hx2 hz
      have hb0 : ¬ b = 0 := by omega
      have hd0 : ¬ d = 0 := by omega
      have hf0 : ¬ f = 0 := by omega
      have hA1 : (A % b == 0) = true := by rw [g1]; rfl
      have hA2 : (A % d == 0) = true := by rw [g2]; rfl
      have hA3 : (A % f == 0) = true := by rw [g3]; rfl
      have hs1 : (W1 + W2 == A + W3) = true := by rw [hs]; simp
      have hm1 : (m * n == k * g * o) = true := by rw [hm]; simp
      obtain ⟨bd1, bd2, bd3, bd4, bd5, bd6, bd7, bd8, bd9, bd10, bd11⟩ := bd
      obtain ⟨bd2a, bd2b⟩ := bd2
      obtain ⟨bd3a, bd3b⟩ := bd3
      obtain ⟨bd4a, bd4b⟩ := bd4
      obtain ⟨bd5a, bd5b, bd5c, bd5d, bd5e⟩ := bd5
      clear g1 g2 g3 hs hm E5 n1 n2 n3 n4 n5 n6 hn hg hk hx hp hq
      go_wp2_with fail
      go_quiet (fail)
      try go_wp2_with fail
      go_ret
      exact ⟨by first | rfl | exact ret_bool (by simp_all), by (repeat (first | with_reducible assumption | with_reducible exact Below.refl _ _ | with_reducible refine Below.setCell ?_ ?_ _ | with_reducible refine Below.alloc ?_ ?_ _ | with_reducible refine Below.drew ?_ | with_reducible refine below_drewN ?_ _ | with_reducible refine Below.step (by with_reducible assumption) ?_ ?_ | omega | (simp <;> omega) | (simp; done)))⟩
  · have hw' : ((waysIf p q).2 == 0 && decide (q ≤ p)) = false := by
      cases h1 : (waysIf p q).2 == 0
      · rfl
      · rw [Bool.true_and]
        exact decide_eq_false (fun h2 => hw ⟨by simpa using h1, h2⟩)
    by_cases h50 : (waysIf p q).2 = 0
    · have hqp : ¬ q ≤ p := fun h2 => hw ⟨h50, h2⟩
      rw [h50]
      generalize (waysIf p q).1 = ww at *
      clear hw hw'
      by_cases hz : ¬ (drawOk n g k && inR x 0 40) = true
      · have hdc : drawCode n g k x = 2 := by unfold drawCode; rw [if_neg hz]
        rw [hdc]
        clear hdc
        generalize (chanceIf n g k x 0 x).1 = c1 at *
        generalize (chanceIf n g k x 0 x).2.1 = c2 at *
        generalize (chanceIf n g k x x 40).1 = c3 at *
        generalize (chanceIf n g k x x 40).2.1 = c4 at *
        generalize (chanceIf n g k x x x).1 = c5 at *
        generalize (chanceIf n g k x x x).2.1 = c6 at *
        generalize (meanIf n g k).1 = mm at *
        generalize (meanIf n g k).2.1 = oo at *
        generalize (meanIf n g k).2.2 = nn at *
        go_wp2_with fail
        go_ret
        exact ⟨rfl, by (repeat (first | with_reducible assumption | with_reducible exact Below.refl _ _ | with_reducible refine Below.setCell ?_ ?_ _ | with_reducible refine Below.alloc ?_ ?_ _ | with_reducible refine Below.drew ?_ | with_reducible refine below_drewN ?_ _ | with_reducible refine Below.step (by with_reducible assumption) ?_ ?_ | omega | (simp <;> omega) | (simp; done)))⟩
      · obtain ⟨hd, hx2⟩ := by simpa using hz
        obtain ⟨f1, f2, f3, f4⟩ := chances_law hd (inR_iff.1 hx2)
        have hdc : drawCode n g k x = 0 := by unfold drawCode; rw [if_pos (by simpa using hz)]
        rw [hdc, f1, f2, f3, f4]
        obtain ⟨a, b, c, d, e, f, m, o, A, G1, G2, G3, W1, W2, W3, E1, E2, E3, E4, E5, hA, hb, hdd, hff, g1, g2, g3, h1, h2, h3, w1', w2', w3', hs, hm, bd⟩ := chances_all hd (inR_iff.1 hx2)
        rw [E1, E2, E3, E4]
        clear f1 f2 f3 f4 E1 E2 E3 E4 hdc
        go_wp2_with fail
        refine (waysToChoose_any n k _).mono ?_
        rintro e w14 ⟨rfl, b14⟩
        have zb14 := b14.size
        replace BB := Below.step b14 (by omega) BB
        clear b14
        rw [E5]
        obtain ⟨⟨n1, n2⟩, ⟨n3, n4⟩, n5, n6⟩ := drawOk_iff.1 hd
        clear hd hx2 hz
        have hb0 : ¬ b = 0 := by omega
        have hd0 : ¬ d = 0 := by omega
        have hf0 : ¬ f = 0 := by omega
        have hA1 : (A % b == 0) = true := by rw [g1]; rfl
        have hA2 : (A % d == 0) = true := by rw [g2]; rfl
        have hA3 : (A % f == 0) = true := by rw [g3]; rfl
        have hs1 : (W1 + W2 == A + W3) = true := by rw [hs]; simp
        have hm1 : (m * n == k * g * o) = true := by rw [hm]; simp
        obtain ⟨bd1, bd2, bd3, bd4, bd5, bd6, bd7, bd8, bd9, bd10, bd11⟩ := bd
        obtain ⟨bd2a, bd2b⟩ := bd2
        obtain ⟨bd3a, bd3b⟩ := bd3
        obtain ⟨bd4a, bd4b⟩ := bd4
        obtain ⟨bd5a, bd5b, bd5c, bd5d, bd5e⟩ := bd5
        clear g1 g2 g3 hs hm E5 n1 n2 n3 n4 n5 n6 hn hg hk hx hp hq
        go_wp2_with fail
        go_quiet (fail)
        try go_wp2_with fail
        go_ret
        exact ⟨by first | rfl | exact ret_bool (by simp_all), by (repeat (first | with_reducible assumption | with_reducible exact Below.refl _ _ | with_reducible refine Below.setCell ?_ ?_ _ | with_reducible refine Below.alloc ?_ ?_ _ | with_reducible refine Below.drew ?_ | with_reducible refine below_drewN ?_ _ | with_reducible refine Below.step (by with_reducible assumption) ?_ ?_ | omega | (simp <;> omega) | (simp; done)))⟩
    · have h51 : ((waysIf p q).2 == 0) = false := by simpa using h50
      generalize (waysIf p q).2 = five at *
      generalize (waysIf p q).1 = ww at *
      clear hw hw'
      by_cases hz : ¬ (drawOk n g k && inR x 0 40) = true
      · have hdc : drawCode n g k x = 2 := by unfold drawCode; rw [if_neg hz]
        rw [hdc]
        clear hdc
        generalize (chanceIf n g k x 0 x).1 = c1 at *
        generalize (chanceIf n g k x 0 x).2.1 = c2 at *
        generalize (chanceIf n g k x x 40).1 = c3 at *
        generalize (chanceIf n g k x x 40).2.1 = c4 at *
        generalize (chanceIf n g k x x x).1 = c5 at *
        generalize (chanceIf n g k x x x).2.1 = c6 at *
        generalize (meanIf n g k).1 = mm at *
        generalize (meanIf n g k).2.1 = oo at *
        generalize (meanIf n g k).2.2 = nn at *
        go_wp2_with fail
        go_ret
        exact ⟨rfl, by (repeat (first | with_reducible assumption | with_reducible exact Below.refl _ _ | with_reducible refine Below.setCell ?_ ?_ _ | with_reducible refine Below.alloc ?_ ?_ _ | with_reducible refine Below.drew ?_ | with_reducible refine below_drewN ?_ _ | with_reducible refine Below.step (by with_reducible assumption) ?_ ?_ | omega | (simp <;> omega) | (simp; done)))⟩
      · obtain ⟨hd, hx2⟩ := by simpa using hz
        obtain ⟨f1, f2, f3, f4⟩ := chances_law hd (inR_iff.1 hx2)
        have hdc : drawCode n g k x = 0 := by unfold drawCode; rw [if_pos (by simpa using hz)]
        rw [hdc, f1, f2, f3, f4]
        obtain ⟨a, b, c, d, e, f, m, o, A, G1, G2, G3, W1, W2, W3, E1, E2, E3, E4, E5, hA, hb, hdd, hff, g1, g2, g3, h1, h2, h3, w1', w2', w3', hs, hm, bd⟩ := chances_all hd (inR_iff.1 hx2)
        rw [E1, E2, E3, E4]
        clear f1 f2 f3 f4 E1 E2 E3 E4 hdc
        go_wp2_with fail
        refine (waysToChoose_any n k _).mono ?_
        rintro e w14 ⟨rfl, b14⟩
        have zb14 := b14.size
        replace BB := Below.step b14 (by omega) BB
        clear b14
        rw [E5]
        obtain ⟨⟨n1, n2⟩, ⟨n3, n4⟩, n5, n6⟩ := drawOk_iff.1 hd
        clear hd hx2 hz
        have hb0 : ¬ b = 0 := by omega
        have hd0 : ¬ d = 0 := by omega
        have hf0 : ¬ f = 0 := by omega
        have hA1 : (A % b == 0) = true := by rw [g1]; rfl
        have hA2 : (A % d == 0) = true := by rw [g2]; rfl
        have hA3 : (A % f == 0) = true := by rw [g3]; rfl
        have hs1 : (W1 + W2 == A + W3) = true := by rw [hs]; simp
        have hm1 : (m * n == k * g * o) = true := by rw [hm]; simp
        obtain ⟨bd1, bd2, bd3, bd4, bd5, bd6, bd7, bd8, bd9, bd10, bd11⟩ := bd
        obtain ⟨bd2a, bd2b⟩ := bd2
        obtain ⟨bd3a, bd3b⟩ := bd3
        obtain ⟨bd4a, bd4b⟩ := bd4
        obtain ⟨bd5a, bd5b, bd5c, bd5d, bd5e⟩ := bd5
        clear g1 g2 g3 hs hm E5 n1 n2 n3 n4 n5 n6 hn hg hk hx hp hq
        go_wp2_with fail
        go_quiet (fail)
        try go_wp2_with fail
        go_ret
        exact ⟨by first | rfl | exact ret_bool (by simp_all), by (repeat (first | with_reducible assumption | with_reducible exact Below.refl _ _ | with_reducible refine Below.setCell ?_ ?_ _ | with_reducible refine Below.alloc ?_ ?_ _ | with_reducible refine Below.drew ?_ | with_reducible refine below_drewN ?_ _ | with_reducible refine Below.step (by with_reducible assumption) ?_ ?_ | omega | (simp <;> omega) | (simp; done)))⟩

set_option maxRecDepth 100000 in
theorem lifted (os : Os) (started : os.Started) (H : Type) (enc : TypeId × Value → H) :
    ReturnsInHanded {} Try.checked os 9 .any (Rows.fnChancesOfNumbersSpec.pre6 enc Try.prog Try.f9 Rows.fnChancesOfNumbersRow.domain false) (Rows.fnChancesOfNumbersSpec.post enc Try.prog Try.f9 false true false false) := by
  refine returnsInHanded_of_change (C := Try.checked) own started (by kernel_rfl) Try.func9
    (ChangeSpec.witness6 (enc := enc) (C := Try.checked) false ⟨#[], #[.slice none 0 0], []⟩ 8 (by kernel_rfl) (by kernel_rfl) (by kernel_rfl) (by kernel_rfl)) ?_
  intro W base args ds gs before hval0 hW hcnd _
  have hval : ∀ (j : Nat) t v, Try.f9.params[j]? = some t → args[j]? = some v → Value.okWide Try.prog W .any base t v := hval0
  have hW' := hW
  obtain ⟨p, q, hA0, hV, rfl, hfz, hnd⟩ := hW
  have hA : DataW.TrodAll enc Try.prog W 0 (fun _ => true) true Try.f9.params.toList args.toList ds p := hA0
  rw [Try.params9] at hA hval
  obtain ⟨v0, vs0, d0, ds0, p0, q0, hargs, rfl, rfl, h0, r0⟩ := trodAll_cons hA
  obtain ⟨rfl, rfl, rfl⟩ := trodAll_nil r0
  obtain rfl : args = #[v0] := by cases args; simp_all
  obtain ⟨rfl, rfl⟩ := trodVars_none hV
  have k0 := h0
  have lt0 : ∀ x ∈ p0, x.block < W.heap.size := by obtain ⟨m, hm⟩ := k0; exact DataW.trod_lt m _ _ _ hm
  obtain ⟨code, hx0, hl0, hq0⟩ := open_bytes Try.underlying39 Try.underlying5 (by kernel_rfl) (hval 0 39 v0 rfl rfl) h0
  clear hA0 hval0
  refine (walk v0 code W hx0 hl0 hq0).mono fun e W' ⟨he, bel⟩ => ?_
  subst he
  exact ⟨_, rfl, _, _, _, [], _, [], hW', trodAll_mk1 (shut_bool Try.underlying4 _), (trodAll_cons_mk (Below.trod laidOut (by kernel_rfl) (of_decide_eq_true (by kernel_rfl)) k0 bel lt0) trodAll_mk0), rfl, bel.frame _, fun h => by cases h⟩

theorem over : Rows.fnChancesOfNumbersRow.holds Try.pinned (OpenSpec.ofChange Rows.fnChancesOfNumbersSpec) :=
  OpenClaim.holds_of_wide 9 Try.f9 rfl rfl rfl rfl rfl rfl rfl ⟨rfl, rfl, rfl, rfl, rfl⟩ rfl rfl rfl rfl rfl (by kernel_rfl) Try.func9 (by kernel_rfl)
    (of_decide_eq_true (by kernel_rfl)) (by unfold Func.isWrapper; first | (rw [if_pos (by decide +kernel)]; kernel_rfl) | (rw [if_neg (by decide +kernel)]; exact ⟨rfl, rfl⟩))
    (fun os started H enc _ => lifted os started H enc)

theorem proved : Rows.FnChancesOfNumbersSaid := over
#print axioms proved
end Go.Proofs.Ytgcmpdfhdhlmgaa.chances
