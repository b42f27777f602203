/- Audits: ways to choose, the mean, low and high numbers. -/
import Derived.Test.YtgcmpdfhdhlmgaaAuditW
import Derived.Test.YtgcmpdfhdhlmgaaAudL
namespace Go.Proofs.Ytgcmpdfhdhlmgaa
open Go.RowKit
set_option linter.unusedVariables false

def lowIf (n g k x lo hi l : Int) : Bool × Int := if (drawOk n g k && inR x 0 40) && inR l 0 1000 then (rareZ n g k lo hi l, 0) else (false, 2)
theorem ret_bi {a b : Bool} {c d : Int} (h : (a, c) = (b, d)) : Ending.returned (.tuple #[.bool a, .int .i64 c]) = .returned (.tuple #[.bool b, .int .i64 d]) := by
  injection h with h1 h2; rw [h1, h2]
set_option maxHeartbeats 800000 in
theorem waysToChoose_any (a b : Int) (w : World) : Calls Try.prog 34 #[.int .i64 a, .int .i64 b] w fun e w' => e = .returned (.tuple #[.int .i64 (waysIf a b).1, .int .i64 (waysIf a b).2]) ∧ Below w.heap.size w w' := by
  cases ha : inR a 0 40 with
  | false =>
    have HC := Lib.hid (show waysIf a b = (0, 2) by rw [waysIf, ha]; rfl)
    go_enter Try.func34, Try.ntmps34
    go_wp2_with (go_at_call 69; refine (within_any _ _ _ _).mono ?_; rintro e w' ⟨rfl, rfl⟩; rw [ha])
    go_ret2
    exact ⟨ret_pair (by rw [HC.out]), by (repeat (first | with_reducible assumption | with_reducible exact Below.refl _ _ | with_reducible refine Below.setCell ?_ ?_ _ | with_reducible refine Below.alloc ?_ ?_ _ | with_reducible refine Below.drew ?_ | with_reducible refine below_drewN ?_ _ | with_reducible refine Below.step (by with_reducible assumption) ?_ ?_ | omega | (simp <;> omega) | (simp; done)))⟩
  | true =>
    have ha' := inR_iff.1 ha
    cases hb : inR b 0 40 with
    | false =>
      have HC := Lib.hid (show waysIf a b = (0, 2) by rw [waysIf, ha, hb]; rfl)
      go_enter Try.func34, Try.ntmps34
      go_wp2_with (first | ((with_reducible refine (within_any a _ _ _).mono ?_); rintro e w' ⟨rfl, rfl⟩; rw [ha]) | ((with_reducible refine (within_any b _ _ _).mono ?_); rintro e w' ⟨rfl, rfl⟩; rw [hb]))
      go_ret2
      exact ⟨ret_pair (by rw [HC.out]), by (repeat (first | with_reducible assumption | with_reducible exact Below.refl _ _ | with_reducible refine Below.setCell ?_ ?_ _ | with_reducible refine Below.alloc ?_ ?_ _ | with_reducible refine Below.drew ?_ | with_reducible refine below_drewN ?_ _ | with_reducible refine Below.step (by with_reducible assumption) ?_ ?_ | omega | (simp <;> omega) | (simp; done)))⟩
    | true =>
      have HC := Lib.hid (show waysIf a b = (chooseZ a b, 0) by rw [waysIf, ha, hb]; rfl)
      go_enter Try.func34, Try.ntmps34
      go_wp2_with (first | ((with_reducible refine (within_any a _ _ _).mono ?_); rintro e w' ⟨rfl, rfl⟩; rw [ha]) | ((with_reducible refine (within_any b _ _ _).mono ?_); rintro e w' ⟨rfl, rfl⟩; rw [hb]) | (go_at_call 77; refine (choose_any a b _ (by omega) (by omega)).mono ?_; rintro e w' ⟨rfl, rfl⟩))
      go_ret2
      exact ⟨ret_pair (by rw [HC.out]), by (repeat (first | with_reducible assumption | with_reducible exact Below.refl _ _ | with_reducible refine Below.setCell ?_ ?_ _ | with_reducible refine Below.alloc ?_ ?_ _ | with_reducible refine Below.drew ?_ | with_reducible refine below_drewN ?_ _ | with_reducible refine Below.step (by with_reducible assumption) ?_ ?_ | omega | (simp <;> omega) | (simp; done)))⟩
set_option maxHeartbeats 800000 in
theorem sWaysToChoose_any (a b : Int) (w : World) : Calls Try.prog 35 #[.int .i64 a, .int .i64 b] w fun e w' => e = .returned (.tuple #[.int .i64 (waysIf a b).1, .int .i64 (waysIf a b).2]) ∧ Below w.heap.size w w' := by
  cases ha : inR a 0 40 with
  | false =>
    have HC := Lib.hid (show waysIf a b = (0, 2) by rw [waysIf, ha]; rfl)
    go_enter Try.func35, Try.ntmps35
    go_wp2_with (go_at_call 66; refine (l01In_any _ _ _ _).mono ?_; rintro e w' ⟨rfl, rfl⟩; rw [ha])
    go_ret2
    exact ⟨ret_pair (by rw [HC.out]), by (repeat (first | with_reducible assumption | with_reducible exact Below.refl _ _ | with_reducible refine Below.setCell ?_ ?_ _ | with_reducible refine Below.alloc ?_ ?_ _ | with_reducible refine Below.drew ?_ | with_reducible refine below_drewN ?_ _ | with_reducible refine Below.step (by with_reducible assumption) ?_ ?_ | omega | (simp <;> omega) | (simp; done)))⟩
  | true =>
    have ha' := inR_iff.1 ha
    cases hb : inR b 0 40 with
    | false =>
      have HC := Lib.hid (show waysIf a b = (0, 2) by rw [waysIf, ha, hb]; rfl)
      go_enter Try.func35, Try.ntmps35
      go_wp2_with (first | ((with_reducible refine (l01In_any a _ _ _).mono ?_); rintro e w' ⟨rfl, rfl⟩; rw [ha]) | ((with_reducible refine (l01In_any b _ _ _).mono ?_); rintro e w' ⟨rfl, rfl⟩; rw [hb]))
      go_ret2
      exact ⟨ret_pair (by rw [HC.out]), by (repeat (first | with_reducible assumption | with_reducible exact Below.refl _ _ | with_reducible refine Below.setCell ?_ ?_ _ | with_reducible refine Below.alloc ?_ ?_ _ | with_reducible refine Below.drew ?_ | with_reducible refine below_drewN ?_ _ | with_reducible refine Below.step (by with_reducible assumption) ?_ ?_ | omega | (simp <;> omega) | (simp; done)))⟩
    | true =>
      have HC := Lib.hid (show waysIf a b = (chooseZ a b, 0) by rw [waysIf, ha, hb]; rfl)
      go_enter Try.func35, Try.ntmps35
      go_wp2_with (first | ((with_reducible refine (l01In_any a _ _ _).mono ?_); rintro e w' ⟨rfl, rfl⟩; rw [ha]) | ((with_reducible refine (l01In_any b _ _ _).mono ?_); rintro e w' ⟨rfl, rfl⟩; rw [hb]) | (go_at_call 78; refine (sChoose_any a b _ (by omega) (by omega)).mono ?_; rintro e w' ⟨rfl, rfl⟩))
      go_ret2
      exact ⟨ret_pair (by rw [HC.out]), by (repeat (first | with_reducible assumption | with_reducible exact Below.refl _ _ | with_reducible refine Below.setCell ?_ ?_ _ | with_reducible refine Below.alloc ?_ ?_ _ | with_reducible refine Below.drew ?_ | with_reducible refine below_drewN ?_ _ | with_reducible refine Below.step (by with_reducible assumption) ?_ ?_ | omega | (simp <;> omega) | (simp; done)))⟩
theorem kg_bd {n g k : Int} (hd : drawOk n g k = true) : 0 ≤ k * g ∧ k * g ≤ 1600 := by
  obtain ⟨⟨h1, h2⟩, ⟨h3, h4⟩, h5, h6⟩ := drawOk_iff.1 hd
  refine ⟨Int.mul_nonneg h5 h3, ?_⟩
  have : k * g ≤ 40 * 40 := Int.mul_le_mul (by omega) (by omega) h3 (by omega)
  omega
set_option maxHeartbeats 800000 in
theorem expected_any (n g k : Int) (w : World) : Calls Try.prog 36 #[.int .i64 n, .int .i64 g, .int .i64 k] w fun e w' => e = .returned (.tuple #[.int .i64 (meanIf n g k).1, .int .i64 (meanIf n g k).2.1, .int .i64 (meanIf n g k).2.2]) ∧ Below w.heap.size w w' := by
  cases hd : drawOk n g k with
  | false =>
    have HC := Lib.hid (show meanIf n g k = (0, 0, 2) by rw [meanIf, hd]; rfl)
    go_enter Try.func36, Try.ntmps36
    go_wp2_with (go_at_call 56; refine (isDraw_any _ _ _ _).mono ?_; rintro e w' ⟨rfl, rfl⟩; rw [hd])
    go_ret3
    exact ⟨ret_three (by rw [HC.out]), by (repeat (first | with_reducible assumption | with_reducible exact Below.refl _ _ | with_reducible refine Below.setCell ?_ ?_ _ | with_reducible refine Below.alloc ?_ ?_ _ | with_reducible refine Below.drew ?_ | with_reducible refine below_drewN ?_ _ | with_reducible refine Below.step (by with_reducible assumption) ?_ ?_ | omega | (simp <;> omega) | (simp; done)))⟩
  | true =>
    have HC := Lib.hid (show meanIf n g k = ((lowestZ (k * g) n).1, (lowestZ (k * g) n).2, 0) by rw [meanIf, hd]; rfl)
    obtain ⟨m0, m1⟩ := kg_bd hd
    obtain ⟨⟨n0, n1⟩, -, -⟩ := drawOk_iff.1 hd
    go_enter Try.func36, Try.ntmps36
    go_wp2_with (first | (go_at_call 56; refine (isDraw_any _ _ _ _).mono ?_; rintro e w' ⟨rfl, rfl⟩; rw [hd]) | (go_at_call 79; refine (lowest_any (k * g) n _ m0 (by omega) n0 (by omega)).mono ?_; rintro e w1 ⟨rfl, b1⟩))
    go_ret3
    exact ⟨ret_three (by rw [HC.out]), by (repeat (first | with_reducible assumption | with_reducible exact Below.refl _ _ | with_reducible refine Below.setCell ?_ ?_ _ | with_reducible refine Below.alloc ?_ ?_ _ | with_reducible refine Below.drew ?_ | with_reducible refine below_drewN ?_ _ | with_reducible refine Below.step (by with_reducible assumption) ?_ ?_ | omega | (simp <;> omega) | (simp; done)))⟩
set_option maxHeartbeats 800000 in
theorem sExpected_any (n g k : Int) (w : World) : Calls Try.prog 37 #[.int .i64 n, .int .i64 g, .int .i64 k] w fun e w' => e = .returned (.tuple #[.int .i64 (meanIf n g k).1, .int .i64 (meanIf n g k).2.1, .int .i64 (meanIf n g k).2.2]) ∧ Below w.heap.size w w' := by
  cases hd : drawOk n g k with
  | false =>
    have HC := Lib.hid (show meanIf n g k = (0, 0, 2) by rw [meanIf, hd]; rfl)
    have HD := Lib.hid (show drawCode n g k 0 = 2 by rw [drawCode, hd]; rfl)
    go_enter Try.func37, Try.ntmps37
    go_wp2_with (go_at_call 54; refine (l17Code_any _ _ _ _ _).mono ?_; rintro e w' ⟨rfl, rfl⟩; rw [HD.out])
    go_ret3
    exact ⟨ret_three (by rw [HC.out]), by (repeat (first | with_reducible assumption | with_reducible exact Below.refl _ _ | with_reducible refine Below.setCell ?_ ?_ _ | with_reducible refine Below.alloc ?_ ?_ _ | with_reducible refine Below.drew ?_ | with_reducible refine below_drewN ?_ _ | with_reducible refine Below.step (by with_reducible assumption) ?_ ?_ | omega | (simp <;> omega) | (simp; done)))⟩
  | true =>
    have HC := Lib.hid (show meanIf n g k = ((lowestZ (k * g) n).1, (lowestZ (k * g) n).2, 0) by rw [meanIf, hd]; rfl)
    have HD := Lib.hid (show drawCode n g k 0 = 0 by rw [drawCode, hd]; rfl)
    obtain ⟨m0, m1⟩ := kg_bd hd
    obtain ⟨⟨n0, n1⟩, -, -⟩ := drawOk_iff.1 hd
    go_enter Try.func37, Try.ntmps37
    go_wp2_with (first | (go_at_call 54; refine (l17Code_any _ _ _ _ _).mono ?_; rintro e w' ⟨rfl, rfl⟩; rw [HD.out]) | (go_at_call 80; refine (l08Fraction_any (k * g) n _ m0 (by omega) n0 (by omega)).mono ?_; rintro e w1 ⟨rfl, b1⟩))
    go_ret3
    exact ⟨ret_three (by rw [HC.out]), by (repeat (first | with_reducible assumption | with_reducible exact Below.refl _ _ | with_reducible refine Below.setCell ?_ ?_ _ | with_reducible refine Below.alloc ?_ ?_ _ | with_reducible refine Below.drew ?_ | with_reducible refine below_drewN ?_ _ | with_reducible refine Below.step (by with_reducible assumption) ?_ ?_ | omega | (simp <;> omega) | (simp; done)))⟩
set_option maxHeartbeats 800000 in
theorem isLow_any (n g k x l : Int) (w : World) : Calls Try.prog 40 #[.int .i64 n, .int .i64 g, .int .i64 k, .int .i64 x, .int .i64 l] w fun e w' => e = .returned (.tuple #[.bool (lowIf n g k x 0 x l).1, .int .i64 (lowIf n g k x 0 x l).2]) ∧ Below w.heap.size w w' := by
  cases hd : drawOk n g k with
  | false =>
    have HC := Lib.hid (show lowIf n g k x 0 x l = (false, 2) by rw [lowIf, hd]; rfl)
    go_enter Try.func40, Try.ntmps40
    go_wp2_with (first | (go_at_call 56; refine (isDraw_any _ _ _ _).mono ?_; rintro e w' ⟨rfl, rfl⟩; rw [hd]) | (go_at_call 57; refine (isCount_any _ _).mono ?_; rintro e w' ⟨rfl, rfl⟩) | (go_at_call 62; refine (isThousandths_any _ _).mono ?_; rintro e w' ⟨rfl, rfl⟩))
    go_ret2
    exact ⟨ret_bi (by rw [HC.out]), by (repeat (first | with_reducible assumption | with_reducible exact Below.refl _ _ | with_reducible refine Below.setCell ?_ ?_ _ | with_reducible refine Below.alloc ?_ ?_ _ | with_reducible refine Below.drew ?_ | with_reducible refine below_drewN ?_ _ | with_reducible refine Below.step (by with_reducible assumption) ?_ ?_ | omega | (simp <;> omega) | (simp; done)))⟩
  | true =>
    cases hx : inR x 0 40 with
    | false =>
      have HC := Lib.hid (show lowIf n g k x 0 x l = (false, 2) by rw [lowIf, hd, hx]; rfl)
      go_enter Try.func40, Try.ntmps40
      go_wp2_with (first | (go_at_call 56; refine (isDraw_any _ _ _ _).mono ?_; rintro e w' ⟨rfl, rfl⟩; rw [hd]) | (go_at_call 57; refine (isCount_any _ _).mono ?_; rintro e w' ⟨rfl, rfl⟩; rw [hx]) | (go_at_call 62; refine (isThousandths_any _ _).mono ?_; rintro e w' ⟨rfl, rfl⟩))
      go_ret2
      exact ⟨ret_bi (by rw [HC.out]), by (repeat (first | with_reducible assumption | with_reducible exact Below.refl _ _ | with_reducible refine Below.setCell ?_ ?_ _ | with_reducible refine Below.alloc ?_ ?_ _ | with_reducible refine Below.drew ?_ | with_reducible refine below_drewN ?_ _ | with_reducible refine Below.step (by with_reducible assumption) ?_ ?_ | omega | (simp <;> omega) | (simp; done)))⟩
    | true =>
      have hx' := inR_iff.1 hx
      obtain ⟨y0, y1⟩ := hx'
      cases hl : inR l 0 1000 with
      | false =>
        have HC := Lib.hid (show lowIf n g k x 0 x l = (false, 2) by rw [lowIf, hd, hx, hl]; rfl)
        go_enter Try.func40, Try.ntmps40
        go_wp2_with (first | (go_at_call 56; refine (isDraw_any _ _ _ _).mono ?_; rintro e w' ⟨rfl, rfl⟩; rw [hd]) | (go_at_call 57; refine (isCount_any _ _).mono ?_; rintro e w' ⟨rfl, rfl⟩; rw [hx]) | (go_at_call 62; refine (isThousandths_any _ _).mono ?_; rintro e w' ⟨rfl, rfl⟩; rw [hl]))
        go_ret2
        exact ⟨ret_bi (by rw [HC.out]), by (repeat (first | with_reducible assumption | with_reducible exact Below.refl _ _ | with_reducible refine Below.setCell ?_ ?_ _ | with_reducible refine Below.alloc ?_ ?_ _ | with_reducible refine Below.drew ?_ | with_reducible refine below_drewN ?_ _ | with_reducible refine Below.step (by with_reducible assumption) ?_ ?_ | omega | (simp <;> omega) | (simp; done)))⟩
      | true =>
        have hl' := inR_iff.1 hl
        obtain ⟨l0, l1⟩ := hl'
        have HC := Lib.hid (show lowIf n g k x 0 x l = (rareZ n g k 0 x l, 0) by rw [lowIf, hd, hx, hl]; rfl)
        go_enter Try.func40, Try.ntmps40
        go_wp2_with (first | (go_at_call 56; refine (isDraw_any _ _ _ _).mono ?_; rintro e w' ⟨rfl, rfl⟩; rw [hd]) | (go_at_call 57; refine (isCount_any _ _).mono ?_; rintro e w' ⟨rfl, rfl⟩; rw [hx]) | (go_at_call 62; refine (isThousandths_any _ _).mono ?_; rintro e w' ⟨rfl, rfl⟩; rw [hl]) | (go_at_call 63; refine (rare_any n g k 0 x l _ hd (by omega) (by omega) (by omega) (by omega) l0 l1).mono ?_; rintro e w' ⟨rfl, rfl⟩))
        go_ret2
        exact ⟨ret_bi (by rw [HC.out]), by (repeat (first | with_reducible assumption | with_reducible exact Below.refl _ _ | with_reducible refine Below.setCell ?_ ?_ _ | with_reducible refine Below.alloc ?_ ?_ _ | with_reducible refine Below.drew ?_ | with_reducible refine below_drewN ?_ _ | with_reducible refine Below.step (by with_reducible assumption) ?_ ?_ | omega | (simp <;> omega) | (simp; done)))⟩
set_option maxHeartbeats 800000 in
theorem sIsLow_any (n g k x l : Int) (w : World) : Calls Try.prog 41 #[.int .i64 n, .int .i64 g, .int .i64 k, .int .i64 x, .int .i64 l] w fun e w' => e = .returned (.tuple #[.bool (lowIf n g k x 0 x l).1, .int .i64 (lowIf n g k x 0 x l).2]) ∧ Below w.heap.size w w' := by
  cases hc : (drawOk n g k && inR x 0 40) && inR l 0 1000 with
  | false =>
    have HC := Lib.hid (show lowIf n g k x 0 x l = (false, 2) by rw [lowIf, hc]; rfl)
    have HD := Lib.hid (show limCode n g k x l = 2 by
      unfold limCode drawCode
      cases h1 : inR l 0 1000
      · rfl
      · rw [h1, Bool.and_true] at hc; rw [hc]; rfl)
    clear hc
    go_enter Try.func41, Try.ntmps41
    go_wp2_with (go_at_call 59; refine (l17Limit_any _ _ _ _ _ _).mono ?_; rintro e w' ⟨rfl, rfl⟩; rw [HD.out])
    go_ret2
    exact ⟨ret_bi (by rw [HC.out]), by (repeat (first | with_reducible assumption | with_reducible exact Below.refl _ _ | with_reducible refine Below.setCell ?_ ?_ _ | with_reducible refine Below.alloc ?_ ?_ _ | with_reducible refine Below.drew ?_ | with_reducible refine below_drewN ?_ _ | with_reducible refine Below.step (by with_reducible assumption) ?_ ?_ | omega | (simp <;> omega) | (simp; done)))⟩
  | true =>
    have HC := Lib.hid (show lowIf n g k x 0 x l = (rareZ n g k 0 x l, 0) by rw [lowIf, hc]; rfl)
    simp only [Bool.and_eq_true] at hc
    obtain ⟨⟨hd, hx⟩, hl⟩ := hc
    have HD := Lib.hid (show limCode n g k x l = 0 by rw [limCode, drawCode, hd, hx, hl]; rfl)
    obtain ⟨y0, y1⟩ := inR_iff.1 hx
    obtain ⟨l0, l1⟩ := inR_iff.1 hl
    obtain ⟨⟨n0, n1⟩, ⟨g0, g1⟩, k0, k1⟩ := drawOk_iff.1 hd
    have HQ := Lib.hid hd; clear hd hx hl
    go_enter Try.func41, Try.ntmps41
    go_wp2_with (first | (go_at_call 59; refine (l17Limit_any _ _ _ _ _ _).mono ?_; rintro e w' ⟨rfl, rfl⟩; rw [HD.out]) | (go_at_call 61; refine (l17Ways_any n g k 0 x _ g0 g1 n1 k0 (by omega) (by omega) (by omega) (by omega) (by omega)).mono ?_; rintro e w' ⟨rfl, rfl⟩) | (go_at_call 60; refine (l17Low_any n g k 0 x l _ HQ.out (by omega) (by omega) (by omega) (by omega) l0 l1).mono ?_; rintro e w' ⟨rfl, rfl⟩))
    go_ret2
    exact ⟨ret_bi (by rw [HC.out]), by (repeat (first | with_reducible assumption | with_reducible exact Below.refl _ _ | with_reducible refine Below.setCell ?_ ?_ _ | with_reducible refine Below.alloc ?_ ?_ _ | with_reducible refine Below.drew ?_ | with_reducible refine below_drewN ?_ _ | with_reducible refine Below.step (by with_reducible assumption) ?_ ?_ | omega | (simp <;> omega) | (simp; done)))⟩
set_option maxHeartbeats 800000 in
theorem isHigh_any (n g k x l : Int) (w : World) : Calls Try.prog 42 #[.int .i64 n, .int .i64 g, .int .i64 k, .int .i64 x, .int .i64 l] w fun e w' => e = .returned (.tuple #[.bool (lowIf n g k x x 40 l).1, .int .i64 (lowIf n g k x x 40 l).2]) ∧ Below w.heap.size w w' := by
  cases hd : drawOk n g k with
  | false =>
    have HC := Lib.hid (show lowIf n g k x x 40 l = (false, 2) by rw [lowIf, hd]; rfl)
    go_enter Try.func42, Try.ntmps42
    go_wp2_with (first | (go_at_call 56; refine (isDraw_any _ _ _ _).mono ?_; rintro e w' ⟨rfl, rfl⟩; rw [hd]) | (go_at_call 57; refine (isCount_any _ _).mono ?_; rintro e w' ⟨rfl, rfl⟩) | (go_at_call 62; refine (isThousandths_any _ _).mono ?_; rintro e w' ⟨rfl, rfl⟩))
    go_ret2
    exact ⟨ret_bi (by rw [HC.out]), by (repeat (first | with_reducible assumption | with_reducible exact Below.refl _ _ | with_reducible refine Below.setCell ?_ ?_ _ | with_reducible refine Below.alloc ?_ ?_ _ | with_reducible refine Below.drew ?_ | with_reducible refine below_drewN ?_ _ | with_reducible refine Below.step (by with_reducible assumption) ?_ ?_ | omega | (simp <;> omega) | (simp; done)))⟩
  | true =>
    cases hx : inR x 0 40 with
    | false =>
      have HC := Lib.hid (show lowIf n g k x x 40 l = (false, 2) by rw [lowIf, hd, hx]; rfl)
      go_enter Try.func42, Try.ntmps42
      go_wp2_with (first | (go_at_call 56; refine (isDraw_any _ _ _ _).mono ?_; rintro e w' ⟨rfl, rfl⟩; rw [hd]) | (go_at_call 57; refine (isCount_any _ _).mono ?_; rintro e w' ⟨rfl, rfl⟩; rw [hx]) | (go_at_call 62; refine (isThousandths_any _ _).mono ?_; rintro e w' ⟨rfl, rfl⟩))
      go_ret2
      exact ⟨ret_bi (by rw [HC.out]), by (repeat (first | with_reducible assumption | with_reducible exact Below.refl _ _ | with_reducible refine Below.setCell ?_ ?_ _ | with_reducible refine Below.alloc ?_ ?_ _ | with_reducible refine Below.drew ?_ | with_reducible refine below_drewN ?_ _ | with_reducible refine Below.step (by with_reducible assumption) ?_ ?_ | omega | (simp <;> omega) | (simp; done)))⟩
    | true =>
      have hx' := inR_iff.1 hx
      obtain ⟨y0, y1⟩ := hx'
      cases hl : inR l 0 1000 with
      | false =>
        have HC := Lib.hid (show lowIf n g k x x 40 l = (false, 2) by rw [lowIf, hd, hx, hl]; rfl)
        go_enter Try.func42, Try.ntmps42
        go_wp2_with (first | (go_at_call 56; refine (isDraw_any _ _ _ _).mono ?_; rintro e w' ⟨rfl, rfl⟩; rw [hd]) | (go_at_call 57; refine (isCount_any _ _).mono ?_; rintro e w' ⟨rfl, rfl⟩; rw [hx]) | (go_at_call 62; refine (isThousandths_any _ _).mono ?_; rintro e w' ⟨rfl, rfl⟩; rw [hl]))
        go_ret2
        exact ⟨ret_bi (by rw [HC.out]), by (repeat (first | with_reducible assumption | with_reducible exact Below.refl _ _ | with_reducible refine Below.setCell ?_ ?_ _ | with_reducible refine Below.alloc ?_ ?_ _ | with_reducible refine Below.drew ?_ | with_reducible refine below_drewN ?_ _ | with_reducible refine Below.step (by with_reducible assumption) ?_ ?_ | omega | (simp <;> omega) | (simp; done)))⟩
      | true =>
        have hl' := inR_iff.1 hl
        obtain ⟨l0, l1⟩ := hl'
        have HC := Lib.hid (show lowIf n g k x x 40 l = (rareZ n g k x 40 l, 0) by rw [lowIf, hd, hx, hl]; rfl)
        go_enter Try.func42, Try.ntmps42
        go_wp2_with (first | (go_at_call 56; refine (isDraw_any _ _ _ _).mono ?_; rintro e w' ⟨rfl, rfl⟩; rw [hd]) | (go_at_call 57; refine (isCount_any _ _).mono ?_; rintro e w' ⟨rfl, rfl⟩; rw [hx]) | (go_at_call 62; refine (isThousandths_any _ _).mono ?_; rintro e w' ⟨rfl, rfl⟩; rw [hl]) | (go_at_call 63; refine (rare_any n g k x 40 l _ hd (by omega) (by omega) (by omega) (by omega) l0 l1).mono ?_; rintro e w' ⟨rfl, rfl⟩))
        go_ret2
        exact ⟨ret_bi (by rw [HC.out]), by (repeat (first | with_reducible assumption | with_reducible exact Below.refl _ _ | with_reducible refine Below.setCell ?_ ?_ _ | with_reducible refine Below.alloc ?_ ?_ _ | with_reducible refine Below.drew ?_ | with_reducible refine below_drewN ?_ _ | with_reducible refine Below.step (by with_reducible assumption) ?_ ?_ | omega | (simp <;> omega) | (simp; done)))⟩
set_option maxHeartbeats 800000 in
theorem sIsHigh_any (n g k x l : Int) (w : World) : Calls Try.prog 43 #[.int .i64 n, .int .i64 g, .int .i64 k, .int .i64 x, .int .i64 l] w fun e w' => e = .returned (.tuple #[.bool (lowIf n g k x x 40 l).1, .int .i64 (lowIf n g k x x 40 l).2]) ∧ Below w.heap.size w w' := by
  cases hc : (drawOk n g k && inR x 0 40) && inR l 0 1000 with
  | false =>
    have HC := Lib.hid (show lowIf n g k x x 40 l = (false, 2) by rw [lowIf, hc]; rfl)
    have HD := Lib.hid (show limCode n g k x l = 2 by
      unfold limCode drawCode
      cases h1 : inR l 0 1000
      · rfl
      · rw [h1, Bool.and_true] at hc; rw [hc]; rfl)
    clear hc
    go_enter Try.func43, Try.ntmps43
    go_wp2_with (go_at_call 59; refine (l17Limit_any _ _ _ _ _ _).mono ?_; rintro e w' ⟨rfl, rfl⟩; rw [HD.out])
    go_ret2
    exact ⟨ret_bi (by rw [HC.out]), by (repeat (first | with_reducible assumption | with_reducible exact Below.refl _ _ | with_reducible refine Below.setCell ?_ ?_ _ | with_reducible refine Below.alloc ?_ ?_ _ | with_reducible refine Below.drew ?_ | with_reducible refine below_drewN ?_ _ | with_reducible refine Below.step (by with_reducible assumption) ?_ ?_ | omega | (simp <;> omega) | (simp; done)))⟩
  | true =>
    have HC := Lib.hid (show lowIf n g k x x 40 l = (rareZ n g k x 40 l, 0) by rw [lowIf, hc]; rfl)
    simp only [Bool.and_eq_true] at hc
    obtain ⟨⟨hd, hx⟩, hl⟩ := hc
    have HD := Lib.hid (show limCode n g k x l = 0 by rw [limCode, drawCode, hd, hx, hl]; rfl)
    obtain ⟨y0, y1⟩ := inR_iff.1 hx
    obtain ⟨l0, l1⟩ := inR_iff.1 hl
    obtain ⟨⟨n0, n1⟩, ⟨g0, g1⟩, k0, k1⟩ := drawOk_iff.1 hd
    have HQ := Lib.hid hd; clear hd hx hl
    go_enter Try.func43, Try.ntmps43
    go_wp2_with (first | (go_at_call 59; refine (l17Limit_any _ _ _ _ _ _).mono ?_; rintro e w' ⟨rfl, rfl⟩; rw [HD.out]) | (go_at_call 61; refine (l17Ways_any n g k x 40 _ g0 g1 n1 k0 (by omega) (by omega) (by omega) (by omega) (by omega)).mono ?_; rintro e w' ⟨rfl, rfl⟩) | (go_at_call 60; refine (l17Low_any n g k x 40 l _ HQ.out (by omega) (by omega) (by omega) (by omega) l0 l1).mono ?_; rintro e w' ⟨rfl, rfl⟩))
    go_ret2
    exact ⟨ret_bi (by rw [HC.out]), by (repeat (first | with_reducible assumption | with_reducible exact Below.refl _ _ | with_reducible refine Below.setCell ?_ ?_ _ | with_reducible refine Below.alloc ?_ ?_ _ | with_reducible refine Below.drew ?_ | with_reducible refine below_drewN ?_ _ | with_reducible refine Below.step (by with_reducible assumption) ?_ ?_ | omega | (simp <;> omega) | (simp; done)))⟩
end Go.Proofs.Ytgcmpdfhdhlmgaa
