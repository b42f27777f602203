/- The likeliest number. Written by a program (gen_audx.py). -/
import Derived.Test.YtgcmpdfhdhlmgaaAuditX
namespace Go.Proofs.Ytgcmpdfhdhlmgaa
open Go.RowKit
set_option linter.unusedVariables false

theorem ways_small {n g k x : Int} (hd : drawOk n g k = true) (h0 : 0 ≤ x) (h1 : x ≤ 40) : 0 ≤ waysZ n g k x x ∧ waysZ n g k x x ≤ 45079976738816 := by
  obtain ⟨⟨n0, n1⟩, ⟨g0, g1⟩, k0, k1⟩ := drawOk_iff.1 hd
  exact waysZ_bd k g0 g1 n1 h0 h1
set_option maxRecDepth 100000 in
set_option maxHeartbeats 4000000 in
theorem likeliest_any (n g k : Int) (w : World) : Calls Try.prog 45 #[.int .i64 n, .int .i64 g, .int .i64 k] w fun e w' => e = .returned (.tuple #[.int .i64 (likeliest n g k).1, .int .i64 (likeliest n g k).2]) ∧ Below w.heap.size w w' := by
  cases hd : drawOk n g k with
  | false =>
    have HC := Lib.hid (show likeliest n g k = (0, 2) by rw [likeliest, hd]; rfl)
    go_enter Try.func45, Try.ntmps45
    go_wp2_with (go_at_call 56; refine (isDraw_any _ _ _ _).mono ?_; rintro e w' ⟨rfl, rfl⟩; rw [hd])
    go_ret2
    exact ⟨ret_pair (by rw [HC.out]), by (repeat (first | with_reducible assumption | with_reducible exact Below.refl _ _ | with_reducible refine Below.setCell ?_ ?_ _ | with_reducible refine Below.alloc ?_ ?_ _ | with_reducible refine Below.drew ?_ | with_reducible refine below_drewN ?_ _ | with_reducible refine Below.step (by with_reducible assumption) ?_ ?_ | omega | (simp <;> omega) | (simp; done)))⟩
  | true =>
    have HC := Lib.hid (show likeliest n g k = (likeTo n g k (n + 1).toNat, 0) by rw [likeliest, hd]; rfl)
    obtain ⟨⟨n0, n1⟩, ⟨g0, g1⟩, k0, k1⟩ := drawOk_iff.1 hd
    go_enter Try.func45, Try.ntmps45
    go_wp2_with (go_at_call 56; refine (isDraw_any _ _ _ _).mono ?_; rintro e w' ⟨rfl, rfl⟩; rw [hd])
    have HQ := Lib.hid hd; clear hd
    go_loop [8, 9, 17] (fun a _ i => ∃ m : Nat, (m : Int) ≤ n + 1 ∧ i = .int .i64 m ∧ ∃ y : Int, Hid (y = likeTo n g k m) ∧ a = .int .i64 y ∧ 0 ≤ y ∧ y ≤ 40) (fun _ _ i => (n + 1 - intOf i).toNat)
    case atStart => exact ⟨0, by omega, rfl, 0, rfl, rfl, by omega, by omega⟩
    case round =>
      obtain ⟨m, hm, rfl, y, HY, rfl, y0, y1⟩ := hrel
      by_cases hlt : (m : Int) < n + 1
      · have hmn : (m : Int) ≤ n := by omega
        obtain ⟨a0, a1⟩ := ways_small HQ.out (x := (m : Int)) (by omega) (by omega)
        obtain ⟨b0, b1⟩ := ways_small HQ.out (x := y) y0 y1
        have HW := Lib.hid (show likeTo n g k (m + 1) = if waysZ n g k y y < waysZ n g k (m : Int) (m : Int) then (m : Int) else y by rw [likeTo, ← HY.out])
        go_wp2_with fail
        refine (waysOf_any n g k (m : Int) (m : Int) _ g0 g1 n1 k0 (by omega) (by omega) (by omega) (by omega) (by omega)).mono ?_
        rintro e w' ⟨rfl, rfl⟩
        go_wp2_with fail
        refine (waysOf_any n g k y y _ g0 g1 n1 k0 (by omega) (by omega) (by omega) (by omega) (by omega)).mono ?_
        rintro e w' ⟨rfl, rfl⟩
        by_cases hw : waysZ n g k y y < waysZ n g k (m : Int) (m : Int)
        · have HN : Hid ((m : Int) = likeTo n g k (m + 1)) := by show _ = _; rw [HW.out, if_pos hw]
          go_wp2_with fail
          go_round
          case rel => exact ⟨m + 1, by omega, by go_num, (m : Int), HN, rfl, by omega, by omega⟩
          case measure => simp [intOf]; omega
        · have HN : Hid (y = likeTo n g k (m + 1)) := by show _ = _; rw [HW.out, if_neg hw]
          go_wp2_with fail
          go_round
          case rel => exact ⟨m + 1, by omega, by go_num, y, HN, rfl, by omega, by omega⟩
          case measure => simp [intOf]; omega
      · have e : (n + 1).toNat = m := by omega
        have HF := Lib.hid (show (likeTo n g k (n + 1).toNat, (0 : Int)) = (y, 0) by rw [e, HY.out])
        clear e
        have hmn : ¬ (m : Int) ≤ n := by omega
        go_wp2_with fail
        go_ret2
        exact ⟨ret_pair (by rw [HC.out, HF.out]), by (repeat (first | with_reducible assumption | with_reducible exact Below.refl _ _ | with_reducible refine Below.setCell ?_ ?_ _ | with_reducible refine Below.alloc ?_ ?_ _ | with_reducible refine Below.drew ?_ | with_reducible refine below_drewN ?_ _ | with_reducible refine Below.step (by with_reducible assumption) ?_ ?_ | omega | (simp <;> omega) | (simp; done)))⟩
set_option maxRecDepth 100000 in
set_option maxHeartbeats 4000000 in
theorem sLikeliest_any (n g k : Int) (w : World) : Calls Try.prog 46 #[.int .i64 n, .int .i64 g, .int .i64 k] w fun e w' => e = .returned (.tuple #[.int .i64 (likeliest n g k).1, .int .i64 (likeliest n g k).2]) ∧ Below w.heap.size w w' := by
  cases hd : drawOk n g k with
  | false =>
    have HC := Lib.hid (show likeliest n g k = (0, 2) by rw [likeliest, hd]; rfl)
    have HD := Lib.hid (show drawCode n g k 0 = 2 by rw [drawCode, hd]; rfl)
    go_enter Try.func46, Try.ntmps46
    go_wp2_with (go_at_call 54; refine (l17Code_any _ _ _ _ _).mono ?_; rintro e w' ⟨rfl, rfl⟩; rw [HD.out])
    go_ret2
    exact ⟨ret_pair (by rw [HC.out]), by (repeat (first | with_reducible assumption | with_reducible exact Below.refl _ _ | with_reducible refine Below.setCell ?_ ?_ _ | with_reducible refine Below.alloc ?_ ?_ _ | with_reducible refine Below.drew ?_ | with_reducible refine below_drewN ?_ _ | with_reducible refine Below.step (by with_reducible assumption) ?_ ?_ | omega | (simp <;> omega) | (simp; done)))⟩
  | true =>
    have HC := Lib.hid (show likeliest n g k = (likeTo n g k (n + 1).toNat, 0) by rw [likeliest, hd]; rfl)
    have HD := Lib.hid (show drawCode n g k 0 = 0 by rw [drawCode, hd]; rfl)
    obtain ⟨⟨n0, n1⟩, ⟨g0, g1⟩, k0, k1⟩ := drawOk_iff.1 hd
    go_enter Try.func46, Try.ntmps46
    go_wp2_with (go_at_call 54; refine (l17Code_any _ _ _ _ _).mono ?_; rintro e w' ⟨rfl, rfl⟩; rw [HD.out])
    have HQ := Lib.hid hd; clear hd
    go_loop [9, 10] (fun a i => ∃ m : Nat, (m : Int) ≤ n + 1 ∧ i = .int .i64 m ∧ ∃ y : Int, Hid (y = likeTo n g k m) ∧ a = .int .i64 y ∧ 0 ≤ y ∧ y ≤ 40) (fun _ i => (n + 1 - intOf i).toNat)
    case atStart => exact ⟨0, by omega, rfl, 0, rfl, rfl, by omega, by omega⟩
    case round =>
      obtain ⟨m, hm, rfl, y, HY, rfl, y0, y1⟩ := hrel
      by_cases hlt : (m : Int) < n + 1
      · have hmn : (m : Int) ≤ n := by omega
        obtain ⟨a0, a1⟩ := ways_small HQ.out (x := (m : Int)) (by omega) (by omega)
        obtain ⟨b0, b1⟩ := ways_small HQ.out (x := y) y0 y1
        have HW := Lib.hid (show likeTo n g k (m + 1) = if waysZ n g k y y < waysZ n g k (m : Int) (m : Int) then (m : Int) else y by rw [likeTo, ← HY.out])
        go_wp2_with fail
        refine (l17Ways_any n g k (m : Int) (m : Int) _ g0 g1 n1 k0 (by omega) (by omega) (by omega) (by omega) (by omega)).mono ?_
        rintro e w' ⟨rfl, rfl⟩
        go_wp2_with fail
        refine (l17Ways_any n g k y y _ g0 g1 n1 k0 (by omega) (by omega) (by omega) (by omega) (by omega)).mono ?_
        rintro e w' ⟨rfl, rfl⟩
        by_cases hw : waysZ n g k y y < waysZ n g k (m : Int) (m : Int)
        · have HN : Hid ((m : Int) = likeTo n g k (m + 1)) := by show _ = _; rw [HW.out, if_pos hw]
          go_wp2_with fail
          go_round
          case rel => exact ⟨m + 1, by omega, by go_num, (m : Int), HN, rfl, by omega, by omega⟩
          case measure => simp [intOf]; omega
        · have HN : Hid (y = likeTo n g k (m + 1)) := by show _ = _; rw [HW.out, if_neg hw]
          go_wp2_with fail
          go_round
          case rel => exact ⟨m + 1, by omega, by go_num, y, HN, rfl, by omega, by omega⟩
          case measure => simp [intOf]; omega
      · have e : (n + 1).toNat = m := by omega
        have HF := Lib.hid (show (likeTo n g k (n + 1).toNat, (0 : Int)) = (y, 0) by rw [e, HY.out])
        clear e
        have hmn : ¬ (m : Int) ≤ n := by omega
        go_wp2_with fail
        go_ret2
        exact ⟨ret_pair (by rw [HC.out, HF.out]), by (repeat (first | with_reducible assumption | with_reducible exact Below.refl _ _ | with_reducible refine Below.setCell ?_ ?_ _ | with_reducible refine Below.alloc ?_ ?_ _ | with_reducible refine Below.drew ?_ | with_reducible refine below_drewN ?_ _ | with_reducible refine Below.step (by with_reducible assumption) ?_ ?_ | omega | (simp <;> omega) | (simp; done)))⟩
end Go.Proofs.Ytgcmpdfhdhlmgaa
