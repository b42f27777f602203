/- Walks of the audits. -/
import Derived.Test.YtgcmpdfhdhlmgaaAuditP
namespace Go.Proofs.Ytgcmpdfhdhlmgaa
open Go.RowKit
set_option linter.unusedVariables false

theorem step_choose {n k : Nat} (h : k < n) : ((pas n k : Nat) : Int) * ((n : Int) - (k : Int)) / ((k : Int) + 1) = ((pas n (k + 1) : Nat) : Int) := by
  have h1 := pas_step (n := n) (k := k) (by omega)
  have h2 : ((pas n k : Nat) : Int) * ((n : Int) - (k : Int)) = ((k : Int) + 1) * ((pas n (k + 1) : Nat) : Int) := by
    have e : (n : Int) - (k : Int) = ((n - k : Nat) : Int) := by omega
    rw [e, ← Int.natCast_mul, Nat.mul_comm, ← h1, Int.natCast_mul]
    rfl
  rw [h2, Int.mul_ediv_cancel_left _ (by omega)]
theorem step_sChoose {m k : Nat} : ((pas (m + k) k : Nat) : Int) * ((m : Int) + ((k : Int) + 1)) / ((k : Int) + 1) = ((pas (m + (k + 1)) (k + 1) : Nat) : Int) := by
  have h1 := pas_mul (m + k) k
  have h2 : ((pas (m + k) k : Nat) : Int) * ((m : Int) + ((k : Int) + 1)) = ((k : Int) + 1) * ((pas (m + (k + 1)) (k + 1) : Nat) : Int) := by
    have e : (m : Int) + ((k : Int) + 1) = ((m + k + 1 : Nat) : Int) := by omega
    have e2 : (k : Int) + 1 = ((k + 1 : Nat) : Int) := by omega
    rw [e, e2, ← Int.natCast_mul, ← Int.natCast_mul, Nat.mul_comm, ← h1]
    rfl
  rw [h2, Int.mul_ediv_cancel_left _ (by omega)]
theorem pas_bd {n : Nat} (k : Nat) (h : n ≤ 40) : ((pas n k : Nat) : Int) ≤ 1099511627776 := by
  have h1 := pas_pow n k
  have h2 : 2 ^ n ≤ 2 ^ 40 := Nat.pow_le_pow_right (by omega) h
  have h3 : (2 : Nat) ^ 40 = 1099511627776 := by decide
  omega

set_option maxHeartbeats 800000 in
theorem choose_any (a b : Int) (w : World) (h0 : 0 ≤ a) (h1 : a ≤ 40) : Calls Try.prog 77 #[.int .i64 a, .int .i64 b] w fun e w' => e = .returned (.int .i64 (chooseZ a b)) ∧ w = w' := by
  by_cases hin : 0 ≤ b ∧ b ≤ a
  · have HC := Lib.hid (show chooseZ a b = (pas a.toNat b.toNat : Nat) by rw [chooseZ, if_pos hin])
    have ht : inR b 0 a = true := inR_iff.2 hin
    obtain ⟨hb0, hb1⟩ := hin
    obtain ⟨n, rfl⟩ := Int.eq_ofNat_of_zero_le h0
    obtain ⟨m, rfl⟩ := Int.eq_ofNat_of_zero_le hb0
    go_enter Try.func77, Try.ntmps77
    go_wp2_with (go_at_call 69; refine (within_any _ _ _ _).mono ?_; rintro e w' ⟨rfl, rfl⟩; rw [ht])
    clear ht
    go_loop [5, 6, 12] (fun v _ i => ∃ k : Nat, k ≤ m ∧ i = .int .i64 k ∧ v = .int .i64 (pas n k : Nat)) (fun _ _ i => m - (intOf i).toNat)
    case atStart => exact ⟨0, Nat.zero_le _, rfl, by rw [pas_zero]; rfl⟩
    case round =>
      obtain ⟨k, hk, rfl, rfl⟩ := hrel
      by_cases hlt : k < m
      · have hki : (k : Int) < (m : Int) := by omega
        have HS := Lib.hid (step_choose (n := n) (k := k) (by omega))
        have q0 := pas_bd (n := n) k (by omega)
        have q1 : 0 ≤ ((pas n k : Nat) : Int) := Int.natCast_nonneg _
        have q2 : 0 ≤ ((pas n k : Nat) : Int) * ((n : Int) - (k : Int)) := Int.mul_nonneg q1 (by omega)
        have q3 : ((pas n k : Nat) : Int) * ((n : Int) - (k : Int)) ≤ 1099511627776 * 40 := Int.mul_le_mul q0 (by omega) (by omega) (by omega)
        have q4 : 1 ≤ (k : Int) + 1 := by omega
        generalize ((pas n k : Nat) : Int) = p at *
        go_wp2_with fail
        go_round
        case rel => exact ⟨k + 1, by omega, by go_num, by rw [HS.out]⟩
        case measure => simp [intOf]; omega
      · have e : k = m := by omega
        have HC' : Hid (chooseZ (n : Int) (m : Int) = (pas n k : Nat)) := by rw [e]; exact HC
        clear e
        go_wp2_with fail
        go_ret
        exact ⟨ret_int (by rw [HC'.out]), rfl⟩
  · have HC := Lib.hid (show chooseZ a b = 0 by rw [chooseZ, if_neg hin])
    have ht : inR b 0 a = false := by rw [← Bool.not_eq_true, inR_iff]; exact hin
    go_enter Try.func77, Try.ntmps77
    go_wp2_with (go_at_call 69; refine (within_any _ _ _ _).mono ?_; rintro e w' ⟨rfl, rfl⟩; rw [ht])
    go_ret
    exact ⟨ret_int HC.out.symm, rfl⟩

set_option maxHeartbeats 800000 in
theorem sChoose_any (a b : Int) (w : World) (h0 : 0 ≤ a) (h1 : a ≤ 40) : Calls Try.prog 78 #[.int .i64 a, .int .i64 b] w fun e w' => e = .returned (.int .i64 (chooseZ a b)) ∧ w = w' := by
  by_cases hin : 0 ≤ b ∧ b ≤ a
  · have HC := Lib.hid (show chooseZ a b = (pas a.toNat b.toNat : Nat) by rw [chooseZ, if_pos hin])
    obtain ⟨hb0, hb1⟩ := hin
    obtain ⟨n, rfl⟩ := Int.eq_ofNat_of_zero_le h0
    obtain ⟨m, rfl⟩ := Int.eq_ofNat_of_zero_le hb0
    go_enter Try.func78, Try.ntmps78
    go_wp2
    go_loop [5, 6] (fun v i => ∃ k : Nat, k ≤ m ∧ i = .int .i64 ((k : Int) + 1) ∧ v = .int .i64 (pas (n - m + k) k : Nat)) (fun _ i => m + 1 - (intOf i).toNat)
    case atStart => exact ⟨0, Nat.zero_le _, rfl, by rw [pas_zero]; rfl⟩
    case round =>
      obtain ⟨k, hk, rfl, rfl⟩ := hrel
      by_cases hlt : k < m
      · have hki : (k : Int) + 1 ≤ (m : Int) := by omega
        have HS := Lib.hid (step_sChoose (m := n - m) (k := k))
        have HE := Lib.hid (show ((n - m : Nat) : Int) = (n : Int) - (m : Int) by omega)
        have q0 := pas_bd (n := n - m + k) k (by omega)
        have q1 : 0 ≤ ((pas (n - m + k) k : Nat) : Int) := Int.natCast_nonneg _
        have q2 : 0 ≤ ((pas (n - m + k) k : Nat) : Int) * ((n : Int) - (m : Int) + ((k : Int) + 1)) := Int.mul_nonneg q1 (by omega)
        have q3 : ((pas (n - m + k) k : Nat) : Int) * ((n : Int) - (m : Int) + ((k : Int) + 1)) ≤ 1099511627776 * 40 := Int.mul_le_mul q0 (by omega) (by omega) (by omega)
        have q4 : 1 ≤ (k : Int) + 1 := by omega
        generalize ((pas (n - m + k) k : Nat) : Int) = p at *
        go_wp2_with fail
        go_round
        case rel => exact ⟨k + 1, by omega, by go_num, by rw [← HS.out, HE.out]⟩
        case measure => simp [intOf]; omega
      · have e : k = m := by omega
        have e2 : n - m + m = n := by omega
        have HC' : Hid (chooseZ (n : Int) (m : Int) = (pas (n - m + k) k : Nat)) := by rw [e, e2]; exact HC
        clear e e2
        go_wp2_with fail
        go_ret
        exact ⟨ret_int (by rw [HC'.out]), rfl⟩
  · have HC := Lib.hid (show chooseZ a b = 0 by rw [chooseZ, if_neg hin])
    by_cases hb : b < 0
    · go_enter Try.func78, Try.ntmps78
      go_wp2
      go_ret
      exact ⟨ret_int HC.out.symm, rfl⟩
    · have hb' : a < b := by omega
      go_enter Try.func78, Try.ntmps78
      go_wp2
      go_ret
      exact ⟨ret_int HC.out.symm, rfl⟩

set_option maxHeartbeats 800000 in
theorem waysOf_any (n g k lo hi : Int) (w : World) (h0 : 0 ≤ g) (h1 : g ≤ n) (h2 : n ≤ 40) (hk0 : 0 ≤ k) (hk1 : k ≤ 40) (hl : 0 ≤ lo) (hl' : lo ≤ 40) (hh : hi ≤ 40) (hh' : 0 ≤ hi) :
    Calls Try.prog 82 #[.int .i64 n, .int .i64 g, .int .i64 k, .int .i64 lo, .int .i64 hi] w fun e w' => e = .returned (.int .i64 (waysZ n g k lo hi)) ∧ w = w' := by
  go_enter Try.func82, Try.ntmps82
  go_wp2
  go_loop [11, 12] (fun v i => ∃ j : Nat, j ≤ (hi + 1 - lo).toNat ∧ i = .int .i64 (lo + (j : Int)) ∧ v = .int .i64 (waysTo n g k lo j)) (fun _ i => (hi + 1 - intOf i).toNat)
  case atStart => exact ⟨0, Nat.zero_le _, by simp, rfl⟩
  case round =>
    obtain ⟨j, hj, rfl, rfl⟩ := hrel
    by_cases hlt : lo + (j : Int) ≤ hi
    · have HS := Lib.hid (show waysTo n g k lo (j + 1) = waysTo n g k lo j + chooseZ g (lo + (j : Int)) * chooseZ (n - g) (k - (lo + (j : Int))) from rfl)
      have q0 := waysTo_bd k lo h0 h1 h2 j
      have q1 := termZ_bd k (lo + (j : Int)) h0 h1 h2
      unfold termZ at q1
      obtain ⟨q0a, q0b⟩ := q0
      obtain ⟨q1a, q1b⟩ := q1
      have q2 : waysTo n g k lo j ≤ 1099511627776 * 41 := by omega
      clear q0b
      generalize waysTo n g k lo j = p at *
      go_wp2_with fail
      refine (choose_any g _ _ h0 (by omega)).mono ?_
      rintro e w' ⟨rfl, rfl⟩
      go_wp2_with fail
      refine (choose_any _ _ _ (by omega) (by omega)).mono ?_
      rintro e w' ⟨rfl, rfl⟩
      go_wp2_with fail
      go_round
      case rel => exact ⟨j + 1, by omega, by congr 1; omega, by rw [HS.out]⟩
      case measure => simp [intOf]; omega
    · have e : (hi + 1 - lo).toNat = j := by omega
      have HS := Lib.hid (show waysZ n g k lo hi = waysTo n g k lo j by rw [waysZ, e])
      clear e
      go_wp2_with fail
      go_ret
      exact ⟨ret_int HS.out.symm, rfl⟩

set_option maxHeartbeats 800000 in
theorem l17Ways_any (n g k lo hi : Int) (w : World) (h0 : 0 ≤ g) (h1 : g ≤ n) (h2 : n ≤ 40) (hk0 : 0 ≤ k) (hk1 : k ≤ 40) (hl : 0 ≤ lo) (hl' : lo ≤ 40) (hh : hi ≤ 40) (hh' : 0 ≤ hi) :
    Calls Try.prog 61 #[.int .i64 n, .int .i64 g, .int .i64 k, .int .i64 lo, .int .i64 hi] w fun e w' => e = .returned (.int .i64 (waysZ n g k lo hi)) ∧ w = w' := by
  go_enter Try.func61, Try.ntmps61
  go_wp2
  go_loop [11, 12] (fun v i => ∃ j : Nat, j ≤ (hi + 1 - lo).toNat ∧ i = .int .i64 (lo + (j : Int)) ∧ v = .int .i64 (waysTo n g k lo j)) (fun _ i => (hi + 1 - intOf i).toNat)
  case atStart => exact ⟨0, Nat.zero_le _, by simp, rfl⟩
  case round =>
    obtain ⟨j, hj, rfl, rfl⟩ := hrel
    by_cases hlt : lo + (j : Int) ≤ hi
    · have HS := Lib.hid (show waysTo n g k lo (j + 1) = waysTo n g k lo j + chooseZ g (lo + (j : Int)) * chooseZ (n - g) (k - (lo + (j : Int))) from rfl)
      have q0 := waysTo_bd k lo h0 h1 h2 j
      have q1 := termZ_bd k (lo + (j : Int)) h0 h1 h2
      unfold termZ at q1
      obtain ⟨q0a, q0b⟩ := q0
      obtain ⟨q1a, q1b⟩ := q1
      have q2 : waysTo n g k lo j ≤ 1099511627776 * 41 := by omega
      clear q0b
      generalize waysTo n g k lo j = p at *
      go_wp2_with fail
      refine (sChoose_any g _ _ h0 (by omega)).mono ?_
      rintro e w' ⟨rfl, rfl⟩
      go_wp2_with fail
      refine (sChoose_any _ _ _ (by omega) (by omega)).mono ?_
      rintro e w' ⟨rfl, rfl⟩
      go_wp2_with fail
      go_round
      case rel => exact ⟨j + 1, by omega, by congr 1; omega, by rw [HS.out]⟩
      case measure => simp [intOf]; omega
    · have e : (hi + 1 - lo).toNat = j := by omega
      have HS := Lib.hid (show waysZ n g k lo hi = waysTo n g k lo j by rw [waysZ, e])
      clear e
      go_wp2_with fail
      go_ret
      exact ⟨ret_int HS.out.symm, rfl⟩

set_option maxHeartbeats 800000 in
theorem gcd_any (a b : Int) (w : World) (h0 : 0 ≤ a) (h1 : a ≤ 9223372036854775807) (h2 : 0 ≤ b) (h3 : b ≤ 9223372036854775807) :
    Calls Try.prog 87 #[.int .i64 a, .int .i64 b] w fun e w' => e = .returned (.int .i64 (gcdZ a b)) ∧ Below w.heap.size w w' := by
  go_enter Try.func87, Try.ntmps87
  go_wp2_with fail
  go_loopw [0, 1] (fun x y wr => ∃ p q : Int, x = .int .i64 p ∧ y = .int .i64 q ∧ 0 ≤ p ∧ p ≤ 9223372036854775807 ∧ 0 ≤ q ∧ q ≤ 9223372036854775807 ∧ Hid (gcdZ p q = gcdZ a b) ∧ Below w.heap.size w wr) (fun _ y _ => (intOf y).toNat)
  case atStart => exact ⟨a, b, rfl, rfl, h0, h1, h2, h3, rfl, Below.refl _ _⟩
  case round =>
    obtain ⟨p, q, rfl, rfl, p0, p1, q0, q1, HG, hb⟩ := hrel
    by_cases hq : q = 0
    · have hq' : (q != 0) = false := by simpa using hq
      have HE := Lib.hid (show gcdZ a b = p by rw [← HG.out, hq, gcdZ_zero p0])
      clear hq
      go_wp2_with fail
      go_ret
      exact ⟨ret_int HE.out.symm, hb⟩
    · have hq' : (q != 0) = true := by simpa using hq
      have hq1 : 1 ≤ q := by omega
      have HE := Lib.hid (gcdZ_step p0 (by omega : 0 < q))
      have r0 : 0 ≤ p % q := Int.emod_nonneg _ hq
      have r1 : p % q < q := Int.emod_lt_of_pos _ (by omega)
      have hqz : (q == 0) = false := by simpa using hq
      clear hq
      go_wp2_with fail
      go_quiet (fail)
      go_wp2_with fail
      go_roundw
      case rel => exact ⟨q, p % q, rfl, rfl, by omega, by omega, by omega, by omega, HE.out.trans HG.out, by (repeat (first | with_reducible assumption | with_reducible exact Below.refl _ _ | with_reducible refine Below.setCell ?_ ?_ _ | with_reducible refine Below.alloc ?_ ?_ _ | with_reducible refine Below.drew ?_ | with_reducible refine below_drewN ?_ _ | with_reducible refine Below.step (by with_reducible assumption) ?_ ?_ | omega | (simp <;> omega) | (simp; done)))⟩
      case measure => simp [intOf]; omega

theorem abs_pos {a : Int} (h : 0 ≤ a) : max a (-a) = a := by omega
set_option maxHeartbeats 800000 in
theorem l01Abs_any (a : Int) (w : World) (h0 : 0 ≤ a) (h1 : a ≤ 9223372036854775807) : Calls Try.prog 89 #[.int .i64 a] w fun e w' => e = .returned (.int .i64 a) ∧ w = w' := by
  go_enter Try.func89, Try.ntmps89
  go_wp2
  all_goals (go_ret; exact ⟨ret_int (by first | rfl | omega), rfl⟩)

set_option maxHeartbeats 800000 in
theorem l01Gcd_any (a b : Int) (w : World) (h0 : 0 ≤ a) (h1 : a ≤ 9223372036854775807) (h2 : 0 ≤ b) (h3 : b ≤ 9223372036854775807) :
    Calls Try.prog 88 #[.int .i64 a, .int .i64 b] w fun e w' => e = .returned (.int .i64 (gcdZ a b)) ∧ Below w.heap.size w w' := by
  go_enter Try.func88, Try.ntmps88
  go_wp2_with fail
  refine (l01Abs_any a _ h0 h1).mono ?_
  rintro e w' ⟨rfl, rfl⟩
  go_wp2_with fail
  refine (l01Abs_any b _ h2 h3).mono ?_
  rintro e w' ⟨rfl, rfl⟩
  go_wp2_with fail
  go_loopw [0, 1] (fun x y wr => ∃ p q : Int, x = .int .i64 p ∧ y = .int .i64 q ∧ 0 ≤ p ∧ p ≤ 9223372036854775807 ∧ 0 ≤ q ∧ q ≤ 9223372036854775807 ∧ Hid (gcdZ p q = gcdZ a b) ∧ Below w.heap.size w wr) (fun _ y _ => (intOf y).toNat)
  case atStart => exact ⟨a, b, rfl, rfl, h0, h1, h2, h3, rfl, Below.refl _ _⟩
  case round =>
    obtain ⟨p, q, rfl, rfl, p0, p1, q0, q1, HG, hb⟩ := hrel
    by_cases hq : q = 0
    · have hq' : (q != 0) = false := by simpa using hq
      have HE := Lib.hid (show gcdZ a b = p by rw [← HG.out, hq, gcdZ_zero p0])
      clear hq
      go_wp2_with fail
      go_ret
      exact ⟨ret_int HE.out.symm, hb⟩
    · have hq' : (q != 0) = true := by simpa using hq
      have hq1 : 1 ≤ q := by omega
      have HE := Lib.hid (gcdZ_step p0 (by omega : 0 < q))
      have r0 : 0 ≤ p % q := Int.emod_nonneg _ hq
      have r1 : p % q < q := Int.emod_lt_of_pos _ (by omega)
      have hqz : (q == 0) = false := by simpa using hq
      clear hq
      go_wp2_with fail
      go_quiet (fail)
      go_wp2_with fail
      go_roundw
      case rel => exact ⟨q, p % q, rfl, rfl, by omega, by omega, by omega, by omega, HE.out.trans HG.out, by (repeat (first | with_reducible assumption | with_reducible exact Below.refl _ _ | with_reducible refine Below.setCell ?_ ?_ _ | with_reducible refine Below.alloc ?_ ?_ _ | with_reducible refine Below.drew ?_ | with_reducible refine below_drewN ?_ _ | with_reducible refine Below.step (by with_reducible assumption) ?_ ?_ | omega | (simp <;> omega) | (simp; done)))⟩
      case measure => simp [intOf]; omega

set_option maxHeartbeats 800000 in
theorem lowest_any (a b : Int) (w : World) (h0 : 0 ≤ a) (h1 : a ≤ 9223372036854775807) (h2 : 1 ≤ b) (h3 : b ≤ 9223372036854775807) :
    Calls Try.prog 79 #[.int .i64 a, .int .i64 b] w fun e w' => e = .returned (.tuple #[.int .i64 (lowestZ a b).1, .int .i64 (lowestZ a b).2]) ∧ Below w.heap.size w w' := by
  have hg := gcdZ_pos (a := a) h2
  have HL := Lib.hid (show lowestZ a b = (a / gcdZ a b, b / gcdZ a b) from rfl)
  have hz : (gcdZ a b == 0) = false := by simp; omega
  go_enter Try.func79, Try.ntmps79
  go_wp2_with fail
  refine (gcd_any a b _ h0 h1 (by omega) h3).mono ?_
  rintro e w1 ⟨rfl, b1⟩
  have g2 : 0 ≤ a / gcdZ a b := Int.ediv_nonneg h0 (by omega)
  have g3 : a / gcdZ a b ≤ a := Int.ediv_le_self _ h0
  have g4 : 0 ≤ b / gcdZ a b := Int.ediv_nonneg (by omega) (by omega)
  have g5 : b / gcdZ a b ≤ b := Int.ediv_le_self _ (by omega)
  generalize gcdZ a b = d at *
  go_wp2_with fail
  go_quiet (fail)
  go_wp2_with fail
  go_ret2
  exact ⟨ret_pair (by rw [HL.out]), by (repeat (first | with_reducible assumption | with_reducible exact Below.refl _ _ | with_reducible refine Below.setCell ?_ ?_ _ | with_reducible refine Below.alloc ?_ ?_ _ | with_reducible refine Below.drew ?_ | with_reducible refine below_drewN ?_ _ | with_reducible refine Below.step (by with_reducible assumption) ?_ ?_ | omega | (simp <;> omega) | (simp; done)))⟩
set_option maxHeartbeats 800000 in
theorem l08Fraction_any (a b : Int) (w : World) (h0 : 0 ≤ a) (h1 : a ≤ 9223372036854775807) (h2 : 1 ≤ b) (h3 : b ≤ 9223372036854775807) :
    Calls Try.prog 80 #[.int .i64 a, .int .i64 b] w fun e w' => e = .returned (.tuple #[.int .i64 (lowestZ a b).1, .int .i64 (lowestZ a b).2]) ∧ Below w.heap.size w w' := by
  have hg := gcdZ_pos (a := a) h2
  have HL := Lib.hid (show lowestZ a b = (a / gcdZ a b, b / gcdZ a b) from rfl)
  have hz : (gcdZ a b == 0) = false := by simp; omega
  go_enter Try.func80, Try.ntmps80
  go_wp2_with fail
  refine (l01Gcd_any a b _ h0 h1 (by omega) h3).mono ?_
  rintro e w1 ⟨rfl, b1⟩
  have g2 : 0 ≤ a / gcdZ a b := Int.ediv_nonneg h0 (by omega)
  have g3 : a / gcdZ a b ≤ a := Int.ediv_le_self _ h0
  have g4 : 0 ≤ b / gcdZ a b := Int.ediv_nonneg (by omega) (by omega)
  have g5 : b / gcdZ a b ≤ b := Int.ediv_le_self _ (by omega)
  generalize gcdZ a b = d at *
  go_wp2_with fail
  go_quiet (fail)
  go_wp2_with fail
  go_ret2
  exact ⟨ret_pair (by rw [HL.out]), by (repeat (first | with_reducible assumption | with_reducible exact Below.refl _ _ | with_reducible refine Below.setCell ?_ ?_ _ | with_reducible refine Below.alloc ?_ ?_ _ | with_reducible refine Below.drew ?_ | with_reducible refine below_drewN ?_ _ | with_reducible refine Below.step (by with_reducible assumption) ?_ ?_ | omega | (simp <;> omega) | (simp; done)))⟩

set_option maxHeartbeats 800000 in
theorem isDraw_any (n g k : Int) (w : World) : Calls Try.prog 56 #[.int .i64 n, .int .i64 g, .int .i64 k] w fun e w' => e = .returned (.bool (drawOk n g k)) ∧ w = w' := by
  go_enter Try.func56, Try.ntmps56
  go_wp2_with (go_at_call 69; refine (within_any _ _ _ _).mono ?_; rintro e w' ⟨rfl, rfl⟩)
  all_goals (go_ret; exact ⟨ret_bool (by simp_all [drawOk]), rfl⟩)
set_option maxHeartbeats 800000 in
theorem isCount_any (n : Int) (w : World) : Calls Try.prog 57 #[.int .i64 n] w fun e w' => e = .returned (.bool (inR n 0 40)) ∧ w = w' := by
  go_enter Try.func57, Try.ntmps57
  go_wp2_with (go_at_call 69; refine (within_any _ _ _ _).mono ?_; rintro e w' ⟨rfl, rfl⟩)
  go_ret
  exact ⟨rfl, rfl⟩
set_option maxHeartbeats 800000 in
theorem isThousandths_any (n : Int) (w : World) : Calls Try.prog 62 #[.int .i64 n] w fun e w' => e = .returned (.bool (inR n 0 1000)) ∧ w = w' := by
  go_enter Try.func62, Try.ntmps62
  go_wp2_with (go_at_call 69; refine (within_any _ _ _ _).mono ?_; rintro e w' ⟨rfl, rfl⟩)
  go_ret
  exact ⟨rfl, rfl⟩
set_option maxHeartbeats 800000 in
theorem l17Code_any (n g k x : Int) (w : World) : Calls Try.prog 54 #[.int .i64 n, .int .i64 g, .int .i64 k, .int .i64 x] w fun e w' => e = .returned (.int .i64 (drawCode n g k x)) ∧ w = w' := by
  go_enter Try.func54, Try.ntmps54
  go_wp2_with (go_at_call 66; refine (l01In_any _ _ _ _).mono ?_; rintro e w' ⟨rfl, rfl⟩)
  all_goals (go_ret; exact ⟨ret_int (by simp_all [drawCode, drawOk]), rfl⟩)

set_option maxHeartbeats 800000 in
theorem chanceOf_any (n g k lo hi : Int) (w : World) (hd : drawOk n g k = true) (hl : 0 ≤ lo) (hl' : lo ≤ 40) (hh : hi ≤ 40) (hh' : 0 ≤ hi) :
    Calls Try.prog 58 #[.int .i64 n, .int .i64 g, .int .i64 k, .int .i64 lo, .int .i64 hi] w fun e w' => e = .returned (.tuple #[.int .i64 (chanceZ n g k lo hi).1, .int .i64 (chanceZ n g k lo hi).2]) ∧ Below w.heap.size w w' := by
  have hd' := drawOk_iff.1 hd
  have HD := Lib.hid hd; clear hd
  obtain ⟨⟨n0, n1⟩, ⟨g0, g1⟩, k0, k1⟩ := hd'
  have wb := waysZ_bd (n := n) (g := g) k (lo := lo) (hi := hi) g0 g1 n1 hl hh
  obtain ⟨wb0, wb1⟩ := wb
  have cb0 := chooseZ_pos k0 k1
  have cb1 := chooseZ_bd k n1
  go_enter Try.func58, Try.ntmps58
  go_wp2_with fail
  refine (waysOf_any n g k lo hi _ g0 g1 n1 k0 (by omega) hl hl' hh hh').mono ?_
  rintro e w' ⟨rfl, rfl⟩
  go_wp2_with fail
  refine (choose_any n k _ (by omega) n1).mono ?_
  rintro e w' ⟨rfl, rfl⟩
  go_wp2_with fail
  refine (lowest_any _ _ _ wb0 (by omega) cb0 (by omega)).mono ?_
  rintro e w1 ⟨rfl, b1⟩
  go_wp2_with fail
  go_ret2
  exact ⟨rfl, by (repeat (first | with_reducible assumption | with_reducible exact Below.refl _ _ | with_reducible refine Below.setCell ?_ ?_ _ | with_reducible refine Below.alloc ?_ ?_ _ | with_reducible refine Below.drew ?_ | with_reducible refine below_drewN ?_ _ | with_reducible refine Below.step (by with_reducible assumption) ?_ ?_ | omega | (simp <;> omega) | (simp; done)))⟩
set_option maxHeartbeats 800000 in
theorem l17Chance_any (n g k lo hi : Int) (w : World) (hd : drawOk n g k = true) (hl : 0 ≤ lo) (hl' : lo ≤ 40) (hh : hi ≤ 40) (hh' : 0 ≤ hi) :
    Calls Try.prog 55 #[.int .i64 n, .int .i64 g, .int .i64 k, .int .i64 lo, .int .i64 hi] w fun e w' => e = .returned (.tuple #[.int .i64 (chanceZ n g k lo hi).1, .int .i64 (chanceZ n g k lo hi).2]) ∧ Below w.heap.size w w' := by
  have hd' := drawOk_iff.1 hd
  have HD := Lib.hid hd; clear hd
  obtain ⟨⟨n0, n1⟩, ⟨g0, g1⟩, k0, k1⟩ := hd'
  have wb := waysZ_bd (n := n) (g := g) k (lo := lo) (hi := hi) g0 g1 n1 hl hh
  obtain ⟨wb0, wb1⟩ := wb
  have cb0 := chooseZ_pos k0 k1
  have cb1 := chooseZ_bd k n1
  go_enter Try.func55, Try.ntmps55
  go_wp2_with fail
  refine (l17Ways_any n g k lo hi _ g0 g1 n1 k0 (by omega) hl hl' hh hh').mono ?_
  rintro e w' ⟨rfl, rfl⟩
  go_wp2_with fail
  refine (sChoose_any n k _ (by omega) n1).mono ?_
  rintro e w' ⟨rfl, rfl⟩
  go_wp2_with fail
  refine (l08Fraction_any _ _ _ wb0 (by omega) cb0 (by omega)).mono ?_
  rintro e w1 ⟨rfl, b1⟩
  go_wp2_with fail
  go_ret2
  exact ⟨rfl, by (repeat (first | with_reducible assumption | with_reducible exact Below.refl _ _ | with_reducible refine Below.setCell ?_ ?_ _ | with_reducible refine Below.alloc ?_ ?_ _ | with_reducible refine Below.drew ?_ | with_reducible refine below_drewN ?_ _ | with_reducible refine Below.step (by with_reducible assumption) ?_ ?_ | omega | (simp <;> omega) | (simp; done)))⟩

set_option maxHeartbeats 800000 in
theorem chanceOfExactly_any (n g k x : Int) (w : World) : Calls Try.prog 21 #[.int .i64 n, .int .i64 g, .int .i64 k, .int .i64 x] w fun e w' => e = .returned (.tuple #[.int .i64 (chanceIf n g k x x x).1, .int .i64 (chanceIf n g k x x x).2.1, .int .i64 (chanceIf n g k x x x).2.2]) ∧ Below w.heap.size w w' := by
  cases hd : drawOk n g k with
  | false =>
    have HC := Lib.hid (show chanceIf n g k x x x = (0, 0, 2) by rw [chanceIf, hd]; rfl)
    go_enter Try.func21, Try.ntmps21
    go_wp2_with (first | (go_at_call 56; refine (isDraw_any _ _ _ _).mono ?_; rintro e w' ⟨rfl, rfl⟩; rw [hd]) | (go_at_call 57; refine (isCount_any _ _).mono ?_; rintro e w' ⟨rfl, rfl⟩))
    go_ret3
    exact ⟨ret_three (by rw [HC.out]), by (repeat (first | with_reducible assumption | with_reducible exact Below.refl _ _ | with_reducible refine Below.setCell ?_ ?_ _ | with_reducible refine Below.alloc ?_ ?_ _ | with_reducible refine Below.drew ?_ | with_reducible refine below_drewN ?_ _ | with_reducible refine Below.step (by with_reducible assumption) ?_ ?_ | omega | (simp <;> omega) | (simp; done)))⟩
  | true =>
    cases hx : inR x 0 40 with
    | false =>
      have HC := Lib.hid (show chanceIf n g k x x x = (0, 0, 2) by rw [chanceIf, hd, hx]; rfl)
      go_enter Try.func21, Try.ntmps21
      go_wp2_with (first | (go_at_call 56; refine (isDraw_any _ _ _ _).mono ?_; rintro e w' ⟨rfl, rfl⟩; rw [hd]) | (go_at_call 57; refine (isCount_any _ _).mono ?_; rintro e w' ⟨rfl, rfl⟩; rw [hx]))
      go_ret3
      exact ⟨ret_three (by rw [HC.out]), by (repeat (first | with_reducible assumption | with_reducible exact Below.refl _ _ | with_reducible refine Below.setCell ?_ ?_ _ | with_reducible refine Below.alloc ?_ ?_ _ | with_reducible refine Below.drew ?_ | with_reducible refine below_drewN ?_ _ | with_reducible refine Below.step (by with_reducible assumption) ?_ ?_ | omega | (simp <;> omega) | (simp; done)))⟩
    | true =>
      have HC := Lib.hid (show chanceIf n g k x x x = ((chanceZ n g k x x).1, (chanceZ n g k x x).2, 0) by rw [chanceIf, hd, hx]; rfl)
      have hx' := inR_iff.1 hx
      go_enter Try.func21, Try.ntmps21
      go_wp2_with (first | (go_at_call 56; refine (isDraw_any _ _ _ _).mono ?_; rintro e w' ⟨rfl, rfl⟩; rw [hd]) | (go_at_call 57; refine (isCount_any _ _).mono ?_; rintro e w' ⟨rfl, rfl⟩; rw [hx]) | (go_at_call 58; refine (chanceOf_any n g k x x _ hd (by omega) (by omega) (by omega) (by omega)).mono ?_; rintro e w1 ⟨rfl, b1⟩))
      go_ret3
      exact ⟨ret_three (by rw [HC.out]), by (repeat (first | with_reducible assumption | with_reducible exact Below.refl _ _ | with_reducible refine Below.setCell ?_ ?_ _ | with_reducible refine Below.alloc ?_ ?_ _ | with_reducible refine Below.drew ?_ | with_reducible refine below_drewN ?_ _ | with_reducible refine Below.step (by with_reducible assumption) ?_ ?_ | omega | (simp <;> omega) | (simp; done)))⟩
set_option maxHeartbeats 800000 in
theorem sChanceOfExactly_any (n g k x : Int) (w : World) : Calls Try.prog 20 #[.int .i64 n, .int .i64 g, .int .i64 k, .int .i64 x] w fun e w' => e = .returned (.tuple #[.int .i64 (chanceIf n g k x x x).1, .int .i64 (chanceIf n g k x x x).2.1, .int .i64 (chanceIf n g k x x x).2.2]) ∧ Below w.heap.size w w' := by
  cases hd : drawOk n g k && inR x 0 40 with
  | false =>
    have HC := Lib.hid (show chanceIf n g k x x x = (0, 0, 2) by rw [chanceIf, hd]; rfl)
    have HD := Lib.hid (show drawCode n g k x = 2 by rw [drawCode, hd]; rfl)
    clear hd
    go_enter Try.func20, Try.ntmps20
    go_wp2_with (go_at_call 54; refine (l17Code_any _ _ _ _ _).mono ?_; rintro e w' ⟨rfl, rfl⟩; rw [HD.out])
    go_ret3
    exact ⟨ret_three (by rw [HC.out]), by (repeat (first | with_reducible assumption | with_reducible exact Below.refl _ _ | with_reducible refine Below.setCell ?_ ?_ _ | with_reducible refine Below.alloc ?_ ?_ _ | with_reducible refine Below.drew ?_ | with_reducible refine below_drewN ?_ _ | with_reducible refine Below.step (by with_reducible assumption) ?_ ?_ | omega | (simp <;> omega) | (simp; done)))⟩
  | true =>
    have HC := Lib.hid (show chanceIf n g k x x x = ((chanceZ n g k x x).1, (chanceZ n g k x x).2, 0) by rw [chanceIf, hd]; rfl)
    have HD := Lib.hid (show drawCode n g k x = 0 by rw [drawCode, hd]; rfl)
    rw [Bool.and_eq_true] at hd
    have hx' := inR_iff.1 hd.2
    have HD' := Lib.hid hd.1
    clear hd
    go_enter Try.func20, Try.ntmps20
    go_wp2_with (first | (go_at_call 54; refine (l17Code_any _ _ _ _ _).mono ?_; rintro e w' ⟨rfl, rfl⟩; rw [HD.out]) | (go_at_call 55; refine (l17Chance_any n g k x x _ HD'.out (by omega) (by omega) (by omega) (by omega)).mono ?_; rintro e w1 ⟨rfl, b1⟩))
    go_ret3
    exact ⟨ret_three (by rw [HC.out]), by (repeat (first | with_reducible assumption | with_reducible exact Below.refl _ _ | with_reducible refine Below.setCell ?_ ?_ _ | with_reducible refine Below.alloc ?_ ?_ _ | with_reducible refine Below.drew ?_ | with_reducible refine below_drewN ?_ _ | with_reducible refine Below.step (by with_reducible assumption) ?_ ?_ | omega | (simp <;> omega) | (simp; done)))⟩

set_option maxHeartbeats 800000 in
theorem chanceOfAtMost_any (n g k x : Int) (w : World) : Calls Try.prog 19 #[.int .i64 n, .int .i64 g, .int .i64 k, .int .i64 x] w fun e w' => e = .returned (.tuple #[.int .i64 (chanceIf n g k x 0 x).1, .int .i64 (chanceIf n g k x 0 x).2.1, .int .i64 (chanceIf n g k x 0 x).2.2]) ∧ Below w.heap.size w w' := by
  cases hd : drawOk n g k with
  | false =>
    have HC := Lib.hid (show chanceIf n g k x 0 x = (0, 0, 2) by rw [chanceIf, hd]; rfl)
    go_enter Try.func19, Try.ntmps19
    go_wp2_with (first | (go_at_call 56; refine (isDraw_any _ _ _ _).mono ?_; rintro e w' ⟨rfl, rfl⟩; rw [hd]) | (go_at_call 57; refine (isCount_any _ _).mono ?_; rintro e w' ⟨rfl, rfl⟩))
    go_ret3
    exact ⟨ret_three (by rw [HC.out]), by (repeat (first | with_reducible assumption | with_reducible exact Below.refl _ _ | with_reducible refine Below.setCell ?_ ?_ _ | with_reducible refine Below.alloc ?_ ?_ _ | with_reducible refine Below.drew ?_ | with_reducible refine below_drewN ?_ _ | with_reducible refine Below.step (by with_reducible assumption) ?_ ?_ | omega | (simp <;> omega) | (simp; done)))⟩
  | true =>
    cases hx : inR x 0 40 with
    | false =>
      have HC := Lib.hid (show chanceIf n g k x 0 x = (0, 0, 2) by rw [chanceIf, hd, hx]; rfl)
      go_enter Try.func19, Try.ntmps19
      go_wp2_with (first | (go_at_call 56; refine (isDraw_any _ _ _ _).mono ?_; rintro e w' ⟨rfl, rfl⟩; rw [hd]) | (go_at_call 57; refine (isCount_any _ _).mono ?_; rintro e w' ⟨rfl, rfl⟩; rw [hx]))
      go_ret3
      exact ⟨ret_three (by rw [HC.out]), by (repeat (first | with_reducible assumption | with_reducible exact Below.refl _ _ | with_reducible refine Below.setCell ?_ ?_ _ | with_reducible refine Below.alloc ?_ ?_ _ | with_reducible refine Below.drew ?_ | with_reducible refine below_drewN ?_ _ | with_reducible refine Below.step (by with_reducible assumption) ?_ ?_ | omega | (simp <;> omega) | (simp; done)))⟩
    | true =>
      have HC := Lib.hid (show chanceIf n g k x 0 x = ((chanceZ n g k 0 x).1, (chanceZ n g k 0 x).2, 0) by rw [chanceIf, hd, hx]; rfl)
      have hx' := inR_iff.1 hx
      go_enter Try.func19, Try.ntmps19
      go_wp2_with (first | (go_at_call 56; refine (isDraw_any _ _ _ _).mono ?_; rintro e w' ⟨rfl, rfl⟩; rw [hd]) | (go_at_call 57; refine (isCount_any _ _).mono ?_; rintro e w' ⟨rfl, rfl⟩; rw [hx]) | (go_at_call 58; refine (chanceOf_any n g k 0 x _ hd (by omega) (by omega) (by omega) (by omega)).mono ?_; rintro e w1 ⟨rfl, b1⟩))
      go_ret3
      exact ⟨ret_three (by rw [HC.out]), by (repeat (first | with_reducible assumption | with_reducible exact Below.refl _ _ | with_reducible refine Below.setCell ?_ ?_ _ | with_reducible refine Below.alloc ?_ ?_ _ | with_reducible refine Below.drew ?_ | with_reducible refine below_drewN ?_ _ | with_reducible refine Below.step (by with_reducible assumption) ?_ ?_ | omega | (simp <;> omega) | (simp; done)))⟩
set_option maxHeartbeats 800000 in
theorem sChanceOfAtMost_any (n g k x : Int) (w : World) : Calls Try.prog 18 #[.int .i64 n, .int .i64 g, .int .i64 k, .int .i64 x] w fun e w' => e = .returned (.tuple #[.int .i64 (chanceIf n g k x 0 x).1, .int .i64 (chanceIf n g k x 0 x).2.1, .int .i64 (chanceIf n g k x 0 x).2.2]) ∧ Below w.heap.size w w' := by
  cases hd : drawOk n g k && inR x 0 40 with
  | false =>
    have HC := Lib.hid (show chanceIf n g k x 0 x = (0, 0, 2) by rw [chanceIf, hd]; rfl)
    have HD := Lib.hid (show drawCode n g k x = 2 by rw [drawCode, hd]; rfl)
    clear hd
    go_enter Try.func18, Try.ntmps18
    go_wp2_with (go_at_call 54; refine (l17Code_any _ _ _ _ _).mono ?_; rintro e w' ⟨rfl, rfl⟩; rw [HD.out])
    go_ret3
    exact ⟨ret_three (by rw [HC.out]), by (repeat (first | with_reducible assumption | with_reducible exact Below.refl _ _ | with_reducible refine Below.setCell ?_ ?_ _ | with_reducible refine Below.alloc ?_ ?_ _ | with_reducible refine Below.drew ?_ | with_reducible refine below_drewN ?_ _ | with_reducible refine Below.step (by with_reducible assumption) ?_ ?_ | omega | (simp <;> omega) | (simp; done)))⟩
  | true =>
    have HC := Lib.hid (show chanceIf n g k x 0 x = ((chanceZ n g k 0 x).1, (chanceZ n g k 0 x).2, 0) by rw [chanceIf, hd]; rfl)
    have HD := Lib.hid (show drawCode n g k x = 0 by rw [drawCode, hd]; rfl)
    rw [Bool.and_eq_true] at hd
    have hx' := inR_iff.1 hd.2
    have HD' := Lib.hid hd.1
    clear hd
    go_enter Try.func18, Try.ntmps18
    go_wp2_with (first | (go_at_call 54; refine (l17Code_any _ _ _ _ _).mono ?_; rintro e w' ⟨rfl, rfl⟩; rw [HD.out]) | (go_at_call 55; refine (l17Chance_any n g k 0 x _ HD'.out (by omega) (by omega) (by omega) (by omega)).mono ?_; rintro e w1 ⟨rfl, b1⟩))
    go_ret3
    exact ⟨ret_three (by rw [HC.out]), by (repeat (first | with_reducible assumption | with_reducible exact Below.refl _ _ | with_reducible refine Below.setCell ?_ ?_ _ | with_reducible refine Below.alloc ?_ ?_ _ | with_reducible refine Below.drew ?_ | with_reducible refine below_drewN ?_ _ | with_reducible refine Below.step (by with_reducible assumption) ?_ ?_ | omega | (simp <;> omega) | (simp; done)))⟩

set_option maxHeartbeats 800000 in
theorem chanceOfAtLeast_any (n g k x : Int) (w : World) : Calls Try.prog 31 #[.int .i64 n, .int .i64 g, .int .i64 k, .int .i64 x] w fun e w' => e = .returned (.tuple #[.int .i64 (chanceIf n g k x x 40).1, .int .i64 (chanceIf n g k x x 40).2.1, .int .i64 (chanceIf n g k x x 40).2.2]) ∧ Below w.heap.size w w' := by
  cases hd : drawOk n g k with
  | false =>
    have HC := Lib.hid (show chanceIf n g k x x 40 = (0, 0, 2) by rw [chanceIf, hd]; rfl)
    go_enter Try.func31, Try.ntmps31
    go_wp2_with (first | (go_at_call 56; refine (isDraw_any _ _ _ _).mono ?_; rintro e w' ⟨rfl, rfl⟩; rw [hd]) | (go_at_call 57; refine (isCount_any _ _).mono ?_; rintro e w' ⟨rfl, rfl⟩))
    go_ret3
    exact ⟨ret_three (by rw [HC.out]), by (repeat (first | with_reducible assumption | with_reducible exact Below.refl _ _ | with_reducible refine Below.setCell ?_ ?_ _ | with_reducible refine Below.alloc ?_ ?_ _ | with_reducible refine Below.drew ?_ | with_reducible refine below_drewN ?_ _ | with_reducible refine Below.step (by with_reducible assumption) ?_ ?_ | omega | (simp <;> omega) | (simp; done)))⟩
  | true =>
    cases hx : inR x 0 40 with
    | false =>
      have HC := Lib.hid (show chanceIf n g k x x 40 = (0, 0, 2) by rw [chanceIf, hd, hx]; rfl)
      go_enter Try.func31, Try.ntmps31
      go_wp2_with (first | (go_at_call 56; refine (isDraw_any _ _ _ _).mono ?_; rintro e w' ⟨rfl, rfl⟩; rw [hd]) | (go_at_call 57; refine (isCount_any _ _).mono ?_; rintro e w' ⟨rfl, rfl⟩; rw [hx]))
      go_ret3
      exact ⟨ret_three (by rw [HC.out]), by (repeat (first | with_reducible assumption | with_reducible exact Below.refl _ _ | with_reducible refine Below.setCell ?_ ?_ _ | with_reducible refine Below.alloc ?_ ?_ _ | with_reducible refine Below.drew ?_ | with_reducible refine below_drewN ?_ _ | with_reducible refine Below.step (by with_reducible assumption) ?_ ?_ | omega | (simp <;> omega) | (simp; done)))⟩
    | true =>
      have HC := Lib.hid (show chanceIf n g k x x 40 = ((chanceZ n g k x 40).1, (chanceZ n g k x 40).2, 0) by rw [chanceIf, hd, hx]; rfl)
      have hx' := inR_iff.1 hx
      go_enter Try.func31, Try.ntmps31
      go_wp2_with (first | (go_at_call 56; refine (isDraw_any _ _ _ _).mono ?_; rintro e w' ⟨rfl, rfl⟩; rw [hd]) | (go_at_call 57; refine (isCount_any _ _).mono ?_; rintro e w' ⟨rfl, rfl⟩; rw [hx]) | (go_at_call 58; refine (chanceOf_any n g k x 40 _ hd (by omega) (by omega) (by omega) (by omega)).mono ?_; rintro e w1 ⟨rfl, b1⟩))
      go_ret3
      exact ⟨ret_three (by rw [HC.out]), by (repeat (first | with_reducible assumption | with_reducible exact Below.refl _ _ | with_reducible refine Below.setCell ?_ ?_ _ | with_reducible refine Below.alloc ?_ ?_ _ | with_reducible refine Below.drew ?_ | with_reducible refine below_drewN ?_ _ | with_reducible refine Below.step (by with_reducible assumption) ?_ ?_ | omega | (simp <;> omega) | (simp; done)))⟩
set_option maxHeartbeats 800000 in
theorem sChanceOfAtLeast_any (n g k x : Int) (w : World) : Calls Try.prog 32 #[.int .i64 n, .int .i64 g, .int .i64 k, .int .i64 x] w fun e w' => e = .returned (.tuple #[.int .i64 (chanceIf n g k x x 40).1, .int .i64 (chanceIf n g k x x 40).2.1, .int .i64 (chanceIf n g k x x 40).2.2]) ∧ Below w.heap.size w w' := by
  cases hd : drawOk n g k && inR x 0 40 with
  | false =>
    have HC := Lib.hid (show chanceIf n g k x x 40 = (0, 0, 2) by rw [chanceIf, hd]; rfl)
    have HD := Lib.hid (show drawCode n g k x = 2 by rw [drawCode, hd]; rfl)
    clear hd
    go_enter Try.func32, Try.ntmps32
    go_wp2_with (go_at_call 54; refine (l17Code_any _ _ _ _ _).mono ?_; rintro e w' ⟨rfl, rfl⟩; rw [HD.out])
    go_ret3
    exact ⟨ret_three (by rw [HC.out]), by (repeat (first | with_reducible assumption | with_reducible exact Below.refl _ _ | with_reducible refine Below.setCell ?_ ?_ _ | with_reducible refine Below.alloc ?_ ?_ _ | with_reducible refine Below.drew ?_ | with_reducible refine below_drewN ?_ _ | with_reducible refine Below.step (by with_reducible assumption) ?_ ?_ | omega | (simp <;> omega) | (simp; done)))⟩
  | true =>
    have HC := Lib.hid (show chanceIf n g k x x 40 = ((chanceZ n g k x 40).1, (chanceZ n g k x 40).2, 0) by rw [chanceIf, hd]; rfl)
    have HD := Lib.hid (show drawCode n g k x = 0 by rw [drawCode, hd]; rfl)
    rw [Bool.and_eq_true] at hd
    have hx' := inR_iff.1 hd.2
    have HD' := Lib.hid hd.1
    clear hd
    go_enter Try.func32, Try.ntmps32
    go_wp2_with (first | (go_at_call 54; refine (l17Code_any _ _ _ _ _).mono ?_; rintro e w' ⟨rfl, rfl⟩; rw [HD.out]) | (go_at_call 55; refine (l17Chance_any n g k x 40 _ HD'.out (by omega) (by omega) (by omega) (by omega)).mono ?_; rintro e w1 ⟨rfl, b1⟩))
    go_ret3
    exact ⟨ret_three (by rw [HC.out]), by (repeat (first | with_reducible assumption | with_reducible exact Below.refl _ _ | with_reducible refine Below.setCell ?_ ?_ _ | with_reducible refine Below.alloc ?_ ?_ _ | with_reducible refine Below.drew ?_ | with_reducible refine below_drewN ?_ _ | with_reducible refine Below.step (by with_reducible assumption) ?_ ?_ | omega | (simp <;> omega) | (simp; done)))⟩

set_option maxHeartbeats 800000 in
theorem rare_any (n g k lo hi l : Int) (w : World) (hd : drawOk n g k = true) (hl : 0 ≤ lo) (hl' : lo ≤ 40) (hh : hi ≤ 40) (hh' : 0 ≤ hi) (h0 : 0 ≤ l) (h1 : l ≤ 1000) :
    Calls Try.prog 63 #[.int .i64 n, .int .i64 g, .int .i64 k, .int .i64 lo, .int .i64 hi, .int .i64 l] w fun e w' => e = .returned (.bool (rareZ n g k lo hi l)) ∧ w = w' := by
  have hd' := drawOk_iff.1 hd
  have HD := Lib.hid hd; clear hd
  obtain ⟨⟨n0, n1⟩, ⟨g0, g1⟩, k0, k1⟩ := hd'
  have wb := waysZ_bd (n := n) (g := g) k (lo := lo) (hi := hi) g0 g1 n1 hl hh
  obtain ⟨wb0, wb1⟩ := wb
  have lb := limit_bd k n1 h0 h1
  obtain ⟨lb0, lb1⟩ := lb
  go_enter Try.func63, Try.ntmps63
  go_wp2_with fail
  refine (waysOf_any n g k lo hi _ g0 g1 n1 k0 (by omega) hl hl' hh hh').mono ?_
  rintro e w' ⟨rfl, rfl⟩
  go_wp2_with fail
  refine (choose_any n k _ (by omega) n1).mono ?_
  rintro e w' ⟨rfl, rfl⟩
  go_wp2_with fail
  go_ret
  exact ⟨rfl, rfl⟩
set_option maxHeartbeats 800000 in
theorem l17Low_any (n g k lo hi l : Int) (w : World) (hd : drawOk n g k = true) (hl : 0 ≤ lo) (hl' : lo ≤ 40) (hh : hi ≤ 40) (hh' : 0 ≤ hi) (h0 : 0 ≤ l) (h1 : l ≤ 1000) :
    Calls Try.prog 60 #[.int .i64 n, .int .i64 k, .int .i64 (waysZ n g k lo hi), .int .i64 l] w fun e w' => e = .returned (.bool (rareZ n g k lo hi l)) ∧ w = w' := by
  have hd' := drawOk_iff.1 hd
  have HD := Lib.hid hd; clear hd
  obtain ⟨⟨n0, n1⟩, ⟨g0, g1⟩, k0, k1⟩ := hd'
  have wb := waysZ_bd (n := n) (g := g) k (lo := lo) (hi := hi) g0 g1 n1 hl hh
  obtain ⟨wb0, wb1⟩ := wb
  have lb := limit_bd k n1 h0 h1
  obtain ⟨lb0, lb1⟩ := lb
  go_enter Try.func60, Try.ntmps60
  go_wp2_with fail
  refine (sChoose_any n k _ (by omega) n1).mono ?_
  rintro e w' ⟨rfl, rfl⟩
  go_wp2_with fail
  go_ret
  exact ⟨rfl, rfl⟩
def limCode (n g k x l : Int) : Int := if inR l 0 1000 then drawCode n g k x else 2
set_option maxHeartbeats 800000 in
theorem l17Limit_any (n g k x l : Int) (w : World) : Calls Try.prog 59 #[.int .i64 n, .int .i64 g, .int .i64 k, .int .i64 x, .int .i64 l] w fun e w' => e = .returned (.int .i64 (limCode n g k x l)) ∧ w = w' := by
  go_enter Try.func59, Try.ntmps59
  go_wp2_with (first | (go_at_call 66; refine (l01In_any _ _ _ _).mono ?_; rintro e w' ⟨rfl, rfl⟩) | (go_at_call 54; refine (l17Code_any _ _ _ _ _).mono ?_; rintro e w' ⟨rfl, rfl⟩))
  all_goals (go_ret; exact ⟨ret_int (by simp_all [limCode]), rfl⟩)
theorem normTo_bd (bad : Nat → Bool) (m : Nat) : -1 ≤ (normTo bad m).1 ∧ (normTo bad m).1 < m := by
  induction m with
  | zero => simp [normTo]
  | succ m ih =>
    rw [normTo_succ]
    generalize normTo bad m = s at *
    unfold normStep
    cases bad m <;> simp <;> first | omega | (split <;> omega)

set_option maxHeartbeats 2000000 in
theorem normalRange_any (n g k l : Int) (w : World) : Calls Try.prog 23 #[.int .i64 n, .int .i64 g, .int .i64 k, .int .i64 l] w fun e w' => e = .returned (.tuple #[.int .i64 (normalRange n g k l).1, .int .i64 (normalRange n g k l).2.1, .int .i64 (normalRange n g k l).2.2]) ∧ Below w.heap.size w w' := by
  cases hd : drawOk n g k with
  | false =>
    have HC := Lib.hid (show normalRange n g k l = (0, 0, 2) by rw [normalRange, hd]; rfl)
    go_enter Try.func23, Try.ntmps23
    go_wp2_with (first | (go_at_call 56; refine (isDraw_any _ _ _ _).mono ?_; rintro e w' ⟨rfl, rfl⟩; rw [hd]) | (go_at_call 62; refine (isThousandths_any _ _).mono ?_; rintro e w' ⟨rfl, rfl⟩))
    go_ret3
    exact ⟨ret_three (by rw [HC.out]), by (repeat (first | with_reducible assumption | with_reducible exact Below.refl _ _ | with_reducible refine Below.setCell ?_ ?_ _ | with_reducible refine Below.alloc ?_ ?_ _ | with_reducible refine Below.drew ?_ | with_reducible refine below_drewN ?_ _ | with_reducible refine Below.step (by with_reducible assumption) ?_ ?_ | omega | (simp <;> omega) | (simp; done)))⟩
  | true =>
    cases hx : inR l 0 1000 with
    | false =>
      have HC := Lib.hid (show normalRange n g k l = (0, 0, 2) by rw [normalRange, hd, hx]; rfl)
      go_enter Try.func23, Try.ntmps23
      go_wp2_with (first | (go_at_call 56; refine (isDraw_any _ _ _ _).mono ?_; rintro e w' ⟨rfl, rfl⟩; rw [hd]) | (go_at_call 62; refine (isThousandths_any _ _).mono ?_; rintro e w' ⟨rfl, rfl⟩; rw [hx]))
      go_ret3
      exact ⟨ret_three (by rw [HC.out]), by (repeat (first | with_reducible assumption | with_reducible exact Below.refl _ _ | with_reducible refine Below.setCell ?_ ?_ _ | with_reducible refine Below.alloc ?_ ?_ _ | with_reducible refine Below.drew ?_ | with_reducible refine below_drewN ?_ _ | with_reducible refine Below.step (by with_reducible assumption) ?_ ?_ | omega | (simp <;> omega) | (simp; done)))⟩
    | true =>
      have HC := Lib.hid (show normalRange n g k l = (let s := normTo (fun x => badZ n g k l x) (n + 1).toNat; if s.1 < 0 then (0, 0, 4) else (s.1, s.2, 0)) by rw [normalRange, hd, hx]; rfl)
      have hx' := inR_iff.1 hx
      obtain ⟨x0, x1⟩ := hx'
      have hd' := drawOk_iff.1 hd
      obtain ⟨⟨n0, n1⟩, -, -⟩ := hd'
      go_enter Try.func23, Try.ntmps23
      go_wp2_with (first | (go_at_call 56; refine (isDraw_any _ _ _ _).mono ?_; rintro e w' ⟨rfl, rfl⟩; rw [hd]) | (go_at_call 62; refine (isThousandths_any _ _).mono ?_; rintro e w' ⟨rfl, rfl⟩; rw [hx]))
      have HD := Lib.hid hd; clear hd
      clear hx
      go_loop [11, 12, 13, 26] (fun a b _ i => ∃ m : Nat, (m : Int) ≤ n + 1 ∧ i = .int .i64 m ∧ ∃ s : Int × Int, Hid (s = normTo (fun x => badZ n g k l x) m) ∧ a = .int .i64 s.1 ∧ b = .int .i64 s.2) (fun _ _ _ i => (n + 1 - intOf i).toNat)
      case atStart => exact ⟨0, by omega, rfl, (-1, -1), rfl, rfl, rfl⟩
      case round =>
        obtain ⟨m, hm, rfl, ⟨a, b⟩, HS, rfl, rfl⟩ := hrel
        have bd := normTo_bd (fun x => badZ n g k l x) m
        rw [← HS.out] at bd
        obtain ⟨a0, a1⟩ := bd
        simp only at a0 a1
        by_cases hlt : (m : Int) < n + 1
        · have HN := Lib.hid (normTo_succ (fun x => badZ n g k l x) m)
          cases h1 : rareZ n g k 0 m l with
          | true =>
            have HB := Lib.hid (show badZ n g k l m = true by rw [badZ, h1]; rfl)
            go_wp2_with (go_at_call 63; refine (rare_any n g k 0 m l _ HD.out (by omega) (by omega) (by omega) (by omega) x0 x1).mono ?_; rintro e w' ⟨rfl, rfl⟩; rw [h1])
            go_round
            case rel => exact ⟨m + 1, by omega, by go_num, (a, b), (by show _ = _; rw [HN.out, ← HS.out]; simp [normStep, HB.out]), rfl, rfl⟩
            case measure => simp [intOf]; omega
          | false =>
            cases h2 : rareZ n g k m 40 l with
            | true =>
              have HB := Lib.hid (show badZ n g k l m = true by rw [badZ, h1, h2]; rfl)
              go_wp2_with (first | ((with_reducible refine (rare_any n g k 0 m l _ HD.out (by omega) (by omega) (by omega) (by omega) x0 x1).mono ?_); rintro e w' ⟨rfl, rfl⟩; rw [h1]) | ((with_reducible refine (rare_any n g k m 40 l _ HD.out (by omega) (by omega) (by omega) (by omega) x0 x1).mono ?_); rintro e w' ⟨rfl, rfl⟩; rw [h2]))
              go_round
              case rel => exact ⟨m + 1, by omega, by go_num, (a, b), (by show _ = _; rw [HN.out, ← HS.out]; simp [normStep, HB.out]), rfl, rfl⟩
              case measure => simp [intOf]; omega
            | false =>
              have HB := Lib.hid (show badZ n g k l m = false by rw [badZ, h1, h2]; rfl)
              by_cases ha : a < 0
              · go_wp2_with (first | ((with_reducible refine (rare_any n g k 0 m l _ HD.out (by omega) (by omega) (by omega) (by omega) x0 x1).mono ?_); rintro e w' ⟨rfl, rfl⟩; rw [h1]) | ((with_reducible refine (rare_any n g k m 40 l _ HD.out (by omega) (by omega) (by omega) (by omega) x0 x1).mono ?_); rintro e w' ⟨rfl, rfl⟩; rw [h2]))
                go_round
                case rel => exact ⟨m + 1, by omega, by go_num, ((m : Int), (m : Int)), (by show _ = _; rw [HN.out, ← HS.out]; simp [normStep, HB.out, ha]), rfl, rfl⟩
                case measure => simp [intOf]; omega
              · go_wp2_with (first | ((with_reducible refine (rare_any n g k 0 m l _ HD.out (by omega) (by omega) (by omega) (by omega) x0 x1).mono ?_); rintro e w' ⟨rfl, rfl⟩; rw [h1]) | ((with_reducible refine (rare_any n g k m 40 l _ HD.out (by omega) (by omega) (by omega) (by omega) x0 x1).mono ?_); rintro e w' ⟨rfl, rfl⟩; rw [h2]))
                go_round
                case rel => exact ⟨m + 1, by omega, by go_num, (a, (m : Int)), (by show _ = _; rw [HN.out, ← HS.out]; simp [normStep, HB.out]; omega), rfl, rfl⟩
                case measure => simp [intOf]; omega
        · have e : (n + 1).toNat = m := by omega
          have HS' : Hid ((a, b) = normTo (fun x => badZ n g k l x) (n + 1).toNat) := by rw [e]; exact HS
          clear e
          by_cases ha : a < 0
          · go_wp2_with fail
            go_ret3
            exact ⟨ret_three (by rw [HC.out, ← HS'.out]; simp [ha]), by (repeat (first | with_reducible assumption | with_reducible exact Below.refl _ _ | with_reducible refine Below.setCell ?_ ?_ _ | with_reducible refine Below.alloc ?_ ?_ _ | with_reducible refine Below.drew ?_ | with_reducible refine below_drewN ?_ _ | with_reducible refine Below.step (by with_reducible assumption) ?_ ?_ | omega | (simp <;> omega) | (simp; done)))⟩
          · go_wp2_with fail
            go_ret3
            exact ⟨ret_three (by rw [HC.out, ← HS'.out]; simp [show ¬ a < 0 by omega]), by (repeat (first | with_reducible assumption | with_reducible exact Below.refl _ _ | with_reducible refine Below.setCell ?_ ?_ _ | with_reducible refine Below.alloc ?_ ?_ _ | with_reducible refine Below.drew ?_ | with_reducible refine below_drewN ?_ _ | with_reducible refine Below.step (by with_reducible assumption) ?_ ?_ | omega | (simp <;> omega) | (simp; done)))⟩

set_option maxHeartbeats 2000000 in
theorem sNormalRange_any (n g k l : Int) (w : World) : Calls Try.prog 22 #[.int .i64 n, .int .i64 g, .int .i64 k, .int .i64 l] w fun e w' => e = .returned (.tuple #[.int .i64 (normalRange n g k l).1, .int .i64 (normalRange n g k l).2.1, .int .i64 (normalRange n g k l).2.2]) ∧ Below w.heap.size w w' := by
  by_cases hc : drawOk n g k = true ∧ inR l 0 1000 = true
  · obtain ⟨hd, hx⟩ := hc
    have HC := Lib.hid (show normalRange n g k l = (let s := normTo (fun x => badZ n g k l x) (n + 1).toNat; if s.1 < 0 then (0, 0, 4) else (s.1, s.2, 0)) by rw [normalRange, hd, hx]; rfl)
    have HL := Lib.hid (show limCode n g k 0 l = 0 by rw [limCode, hx, drawCode, hd]; rfl)
    have hx' := inR_iff.1 hx
    obtain ⟨x0, x1⟩ := hx'
    have hd' := drawOk_iff.1 hd
    obtain ⟨⟨n0, n1⟩, ⟨g0, g1⟩, k0, k1⟩ := hd'
    have HD := Lib.hid hd; clear hd hx
    go_enter Try.func22, Try.ntmps22
    go_wp2_with (go_at_call 59; refine (l17Limit_any _ _ _ _ _ _).mono ?_; rintro e w' ⟨rfl, rfl⟩; rw [HL.out])
    go_loop [12, 13, 14] (fun a b i => ∃ m : Nat, (m : Int) ≤ n + 1 ∧ i = .int .i64 m ∧ ∃ s : Int × Int, Hid (s = normTo (fun x => badZ n g k l x) m) ∧ a = .int .i64 s.1 ∧ b = .int .i64 s.2) (fun _ _ i => (n + 1 - intOf i).toNat)
    case atStart => exact ⟨0, by omega, rfl, (-1, -1), rfl, rfl, rfl⟩
    case round =>
      obtain ⟨m, hm, rfl, ⟨a, b⟩, HS, rfl, rfl⟩ := hrel
      have bd := normTo_bd (fun x => badZ n g k l x) m
      rw [← HS.out] at bd
      obtain ⟨a0, a1⟩ := bd
      simp only at a0 a1
      by_cases hlt : (m : Int) ≤ n
      · have HN := Lib.hid (normTo_succ (fun x => badZ n g k l x) m)
        cases h1 : rareZ n g k 0 m l with
        | true =>
          have HB := Lib.hid (show badZ n g k l m = true by rw [badZ, h1]; rfl)
          go_wp2_with fail
          refine (l17Ways_any n g k 0 m _ g0 g1 n1 k0 (by omega) (by omega) (by omega) (by omega) (by omega)).mono ?_
          rintro e w' ⟨rfl, rfl⟩
          go_wp2_with fail
          refine (l17Low_any n g k 0 m l _ HD.out (by omega) (by omega) (by omega) (by omega) x0 x1).mono ?_
          rintro e w' ⟨rfl, rfl⟩
          rw [h1]
          go_wp2_with fail
          go_round
          case rel => exact ⟨m + 1, by omega, by go_num, (a, b), (by show _ = _; rw [HN.out, ← HS.out]; simp [normStep, HB.out]), rfl, rfl⟩
          case measure => simp [intOf]; omega
        | false =>
          cases h2 : rareZ n g k m 40 l with
          | true =>
            have HB := Lib.hid (show badZ n g k l m = true by rw [badZ, h1, h2]; rfl)
            go_wp2_with fail
            refine (l17Ways_any n g k 0 m _ g0 g1 n1 k0 (by omega) (by omega) (by omega) (by omega) (by omega)).mono ?_
            rintro e w' ⟨rfl, rfl⟩
            go_wp2_with fail
            refine (l17Low_any n g k 0 m l _ HD.out (by omega) (by omega) (by omega) (by omega) x0 x1).mono ?_
            rintro e w' ⟨rfl, rfl⟩
            rw [h1]
            go_wp2_with fail
            refine (l17Ways_any n g k m 40 _ g0 g1 n1 k0 (by omega) (by omega) (by omega) (by omega) (by omega)).mono ?_
            rintro e w' ⟨rfl, rfl⟩
            go_wp2_with fail
            refine (l17Low_any n g k m 40 l _ HD.out (by omega) (by omega) (by omega) (by omega) x0 x1).mono ?_
            rintro e w' ⟨rfl, rfl⟩
            rw [h2]
            go_wp2_with fail
            go_round
            case rel => exact ⟨m + 1, by omega, by go_num, (a, b), (by show _ = _; rw [HN.out, ← HS.out]; simp [normStep, HB.out]), rfl, rfl⟩
            case measure => simp [intOf]; omega
          | false =>
            have HB := Lib.hid (show badZ n g k l m = false by rw [badZ, h1, h2]; rfl)
            go_wp2_with fail
            refine (l17Ways_any n g k 0 m _ g0 g1 n1 k0 (by omega) (by omega) (by omega) (by omega) (by omega)).mono ?_
            rintro e w' ⟨rfl, rfl⟩
            go_wp2_with fail
            refine (l17Low_any n g k 0 m l _ HD.out (by omega) (by omega) (by omega) (by omega) x0 x1).mono ?_
            rintro e w' ⟨rfl, rfl⟩
            rw [h1]
            go_wp2_with fail
            refine (l17Ways_any n g k m 40 _ g0 g1 n1 k0 (by omega) (by omega) (by omega) (by omega) (by omega)).mono ?_
            rintro e w' ⟨rfl, rfl⟩
            go_wp2_with fail
            refine (l17Low_any n g k m 40 l _ HD.out (by omega) (by omega) (by omega) (by omega) x0 x1).mono ?_
            rintro e w' ⟨rfl, rfl⟩
            rw [h2]
            by_cases ha : a < 0
            · go_wp2_with fail
              go_round
              case rel => exact ⟨m + 1, by omega, by go_num, ((m : Int), (m : Int)), (by show _ = _; rw [HN.out, ← HS.out]; simp [normStep, HB.out, ha]), rfl, rfl⟩
              case measure => simp [intOf]; omega
            · go_wp2_with fail
              go_round
              case rel => exact ⟨m + 1, by omega, by go_num, (a, (m : Int)), (by show _ = _; rw [HN.out, ← HS.out]; simp [normStep, HB.out]; omega), rfl, rfl⟩
              case measure => simp [intOf]; omega
      · have e : (n + 1).toNat = m := by omega
        have HS' : Hid ((a, b) = normTo (fun x => badZ n g k l x) (n + 1).toNat) := by rw [e]; exact HS
        clear e
        by_cases ha : a < 0
        · go_wp2_with fail
          go_ret3
          exact ⟨ret_three (by rw [HC.out, ← HS'.out]; simp [ha]), by (repeat (first | with_reducible assumption | with_reducible exact Below.refl _ _ | with_reducible refine Below.setCell ?_ ?_ _ | with_reducible refine Below.alloc ?_ ?_ _ | with_reducible refine Below.drew ?_ | with_reducible refine below_drewN ?_ _ | with_reducible refine Below.step (by with_reducible assumption) ?_ ?_ | omega | (simp <;> omega) | (simp; done)))⟩
        · go_wp2_with fail
          go_ret3
          exact ⟨ret_three (by rw [HC.out, ← HS'.out]; simp [show ¬ a < 0 by omega]), by (repeat (first | with_reducible assumption | with_reducible exact Below.refl _ _ | with_reducible refine Below.setCell ?_ ?_ _ | with_reducible refine Below.alloc ?_ ?_ _ | with_reducible refine Below.drew ?_ | with_reducible refine below_drewN ?_ _ | with_reducible refine Below.step (by with_reducible assumption) ?_ ?_ | omega | (simp <;> omega) | (simp; done)))⟩
  · have hc' : (drawOk n g k && inR l 0 1000) = false := by
      rw [← Bool.not_eq_true, Bool.and_eq_true]; exact hc
    have HC := Lib.hid (show normalRange n g k l = (0, 0, 2) by rw [normalRange, hc']; rfl)
    have HL := Lib.hid (show limCode n g k 0 l = 2 by
      unfold limCode drawCode
      cases hx : inR l 0 1000
      · rfl
      · rw [hx, Bool.and_true] at hc'
        rw [hc']; rfl)
    clear hc hc'
    go_enter Try.func22, Try.ntmps22
    go_wp2_with (go_at_call 59; refine (l17Limit_any _ _ _ _ _ _).mono ?_; rintro e w' ⟨rfl, rfl⟩; rw [HL.out])
    go_ret3
    exact ⟨ret_three (by rw [HC.out]), by (repeat (first | with_reducible assumption | with_reducible exact Below.refl _ _ | with_reducible refine Below.setCell ?_ ?_ _ | with_reducible refine Below.alloc ?_ ?_ _ | with_reducible refine Below.drew ?_ | with_reducible refine below_drewN ?_ _ | with_reducible refine Below.step (by with_reducible assumption) ?_ ?_ | omega | (simp <;> omega) | (simp; done)))⟩
end Go.Proofs.Ytgcmpdfhdhlmgaa
