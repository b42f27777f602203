/- Walks of the small tests over integers: membership, rising lists, holidays, court days. -/
import Derived.Test.YtfafcicbfgdmcaaBase
import Derived.Test.YtfafcicbfgdmcaaMem4
import Derived.BigQuiet
import Derived.Deep.QuietTactic
import Derived.IntWalk
namespace Go.Proofs.Ytfafcicbfgdmcaa
open Go.RowKit
set_option linter.unusedVariables false

def hasI (xs : List Int) (n : Int) : Bool := xs.any fun m => m == n
theorem hasI_iff {xs : List Int} {n : Int} : hasI xs n = true ↔ n ∈ xs := by simp [hasI]

set_option maxHeartbeats 400000 in
theorem hasInt_any (v : Value) (xs : List Int) (lo hi : Nat) (p : Int) (w : World) (h : RdF encInt 1 w lo hi v xs) (hh : hi ≤ w.heap.size) (hm : xs.length ≤ 1048576) :
    Calls Try.prog 61 #[v, .int .i64 p] w fun e w' => e = .returned (.bool (hasI xs p)) ∧ w = w' := by
  obtain ⟨A, c, rfl, hc⟩ := h.form
  go_enter Try.func61, Try.ntmps61
  go_wp2
  go_loop [6, 9] (fun _ i => ∃ k : Nat, k ≤ xs.length ∧ i = .int .i64 k ∧ Hid ((xs.take k).any (fun m => m == p) = false)) (fun _ i => xs.length - (intOf i).toNat)
  case atStart => exact ⟨0, Nat.zero_le _, rfl, rfl⟩
  case round =>
    obtain ⟨k, hk, rfl, HA⟩ := hrel
    by_cases hlt : k < xs.length
    · obtain ⟨s, b, off, HS, rfl, hbw, c0⟩ := RdF.int h (Below.refl _ w) hh hlt
      by_cases hq : p = s
      · have HQ := Lib.hid (show (s == p) = true by simp [hq])
        subst hq
        go_wp2
        go_ret
        exact ⟨ret_bool (by rw [hasI, any_true_of (p := fun m : Int => m == _) HS.out HQ.out]), rfl⟩
      · have HQ := Lib.hid (show (s == p) = false by simp; exact fun e => hq e.symm)
        have hq' : (p == s) = false := by simpa using hq
        go_wp2
        go_round
        case rel => exact ⟨k + 1, by omega, by go_num, any_take_succ HA.out HS.out HQ.out⟩
        case measure => simp [intOf]; omega
    · go_wp2
      go_ret
      exact ⟨ret_bool (by rw [hasI, any_of_take HA.out hlt]), rfl⟩
set_option maxHeartbeats 400000 in
theorem l01Has_any (v : Value) (xs : List Int) (lo hi : Nat) (p : Int) (w : World) (h : RdF encInt 1 w lo hi v xs) (hh : hi ≤ w.heap.size) (hm : xs.length ≤ 1048576) :
    Calls Try.prog 62 #[v, .int .i64 p] w fun e w' => e = .returned (.bool (hasI xs p)) ∧ w = w' := by
  obtain ⟨A, c, rfl, hc⟩ := h.form
  go_enter Try.func62, Try.ntmps62
  go_wp2
  go_loop [5] (fun i => ∃ k : Nat, k ≤ xs.length ∧ i = .int .i64 k ∧ Hid ((xs.take k).any (fun m => m == p) = false)) (fun i => xs.length - (intOf i).toNat)
  case atStart => exact ⟨0, Nat.zero_le _, rfl, rfl⟩
  case round =>
    obtain ⟨k, hk, rfl, HA⟩ := hrel
    by_cases hlt : k < xs.length
    · obtain ⟨s, b, off, HS, rfl, hbw, c0⟩ := RdF.int h (Below.refl _ w) hh hlt
      by_cases hq : s = p
      · have HQ := Lib.hid (show (s == p) = true by simp [hq])
        subst hq
        go_wp2
        go_ret
        exact ⟨ret_bool (by rw [hasI, any_true_of (p := fun m : Int => m == _) HS.out HQ.out]), rfl⟩
      · have HQ := Lib.hid (show (s == p) = false by simpa using hq)
        have hq' : (s == p) = false := by simpa using hq
        go_wp2
        go_round
        case rel => exact ⟨k + 1, by omega, by go_num, any_take_succ HA.out HS.out HQ.out⟩
        case measure => simp [intOf]; omega
    · go_wp2
      go_ret
      exact ⟨ret_bool (by rw [hasI, any_of_take HA.out hlt]), rfl⟩

/-- Strictly rising from lo to hi. -/
def incrP (lo hi : Int) (before : List Int) (n : Int) : Bool := inR n lo hi && (match before.getLast? with | none => true | some m => decide (m < n))
def incr (lo hi : Int) (xs : List Int) : Bool := prefOk (incrP lo hi) xs
theorem take_last {α : Type} {xs : List α} {k : Nat} {x : α} (hx : xs[k]? = some x) : (xs.take (k + 1)).getLast? = some x := by
  rw [List.take_add_one, hx]; simp
theorem take_last0 {α : Type} (xs : List α) : (xs.take 0).getLast? = none := rfl
set_option maxHeartbeats 800000 in
theorem increasing_any (v : Value) (xs : List Int) (lo hi : Nat) (a b' : Int) (w : World) (h : RdF encInt 1 w lo hi v xs) (hh : hi ≤ w.heap.size) (hm : xs.length ≤ 1048576) :
    Calls Try.prog 64 #[v, .int .i64 a, .int .i64 b'] w fun e w' => e = .returned (.bool (incr a b' xs)) ∧ w = w' := by
  obtain ⟨A, c, rfl, hc⟩ := h.form
  go_enter Try.func64, Try.ntmps64
  go_wp2
  go_loop [7, 8, 11] (fun _ _ i => ∃ k : Nat, k ≤ xs.length ∧ i = .int .i64 k ∧ Hid (prefAll (incrP a b') xs k = true)) (fun _ _ i => xs.length - (intOf i).toNat)
  case atStart => exact ⟨0, Nat.zero_le _, rfl, rfl⟩
  case round =>
    obtain ⟨k, hk, rfl, HA⟩ := hrel
    by_cases hlt : k < xs.length
    · obtain ⟨s, b, off, HS, rfl, hbw, c0⟩ := RdF.int h (Below.refl _ w) hh hlt
      cases hr : inR s a b' with
      | false =>
        go_wp2_with (go_at_call 46; refine (within_any _ _ _ _).mono ?_; rintro e w' ⟨rfl, rfl⟩; rw [hr])
        go_ret
        exact ⟨ret_bool (by rw [incr, prefOk_false HS.out (by rw [incrP, hr]; rfl)]), rfl⟩
      | true =>
        by_cases hk0 : k = 0
        · have hkz : decide (0 < (k : Int)) = false := by simp; omega
          have hkn : ¬ (0 < (k : Int)) := by omega
          have HP := Lib.hid (show incrP a b' (xs.take k) s = true by rw [hk0, incrP, hr]; rfl)
          clear hk0
          go_wp2_with (go_at_call 46; refine (within_any _ _ _ _).mono ?_; rintro e w' ⟨rfl, rfl⟩; rw [hr])
          go_round
          case rel => exact ⟨k + 1, by omega, by go_num, prefAll_succ HA.out HS.out HP.out⟩
          case measure => simp [intOf]; omega
        · obtain ⟨t, b2, off2, HT, hA2, hbw2, c1⟩ := RdF.int h (Below.refl _ w) hh (show k - 1 < xs.length by omega)
          injection hA2 with hA2; injection hA2 with e1 e2; subst e1 e2
          have HP := Lib.hid (show incrP a b' (xs.take k) s = decide (t < s) by have e := take_last HT.out; rw [show k - 1 + 1 = k by omega] at e; rw [incrP, hr, e]; rfl)
          have hkp : 0 < (k : Int) := by omega
          clear hk0
          by_cases hts : t < s
          · go_wp2_with (go_at_call 46; refine (within_any _ _ _ _).mono ?_; rintro e w' ⟨rfl, rfl⟩; rw [hr])
            go_round
            case rel => exact ⟨k + 1, by omega, by go_num, prefAll_succ HA.out HS.out (by rw [HP.out]; simpa using hts)⟩
            case measure => simp [intOf]; omega
          · go_wp2_with (go_at_call 46; refine (within_any _ _ _ _).mono ?_; rintro e w' ⟨rfl, rfl⟩; rw [hr])
            go_ret
            exact ⟨ret_bool (by rw [incr, prefOk_false HS.out (by rw [HP.out]; simpa using hts)]), rfl⟩
    · go_wp2
      go_ret
      exact ⟨ret_bool (by rw [incr, prefOk_of HA.out hk hlt]), rfl⟩
def holidaysOk (xs : List Int) : Bool := incr 0 20000 xs && decide (xs.length ≤ 40)
set_option maxHeartbeats 400000 in
theorem areHolidays_any (v : Value) (xs : List Int) (lo hi : Nat) (w : World) (h : RdF encInt 1 w lo hi v xs) (hh : hi ≤ w.heap.size) (hm : xs.length ≤ 1048576) :
    Calls Try.prog 59 #[v] w fun e w' => e = .returned (.bool (holidaysOk xs)) ∧ w = w' := by
  have h0 := h
  obtain ⟨A, c, rfl, hc⟩ := h.form
  go_enter Try.func59, Try.ntmps59
  go_wp2_with (first | (go_at_call 63; refine (few_any _ _ _).mono ?_; rintro e w' ⟨rfl, rfl⟩) | (go_at_call 64; refine (increasing_any _ xs _ _ _ _ _ h0 hh hm).mono ?_; rintro e w' ⟨rfl, rfl⟩))
  all_goals (go_ret; exact ⟨ret_bool (by first | (simp_all [holidaysOk]; done) | (simp_all [holidaysOk] <;> omega) | (simp_all [holidaysOk] <;> intros <;> omega)), rfl⟩)
set_option maxHeartbeats 800000 in
theorem sAreHolidays_any (v : Value) (xs : List Int) (lo hi : Nat) (w : World) (h : RdF encInt 1 w lo hi v xs) (hh : hi ≤ w.heap.size) (hm : xs.length ≤ 1048576) :
    Calls Try.prog 43 #[v] w fun e w' => e = .returned (.bool (holidaysOk xs)) ∧ Below w.heap.size w w' := by
  obtain ⟨A, c, rfl, hc⟩ := h.form
  go_enter Try.func43, Try.ntmps43
  go_wp2
  go_loopw [3] (fun i wr => ∃ k : Nat, k ≤ xs.length ∧ i = .int .i64 k ∧ Hid (prefAll (incrP 0 20000) xs k = true) ∧ Below w.heap.size w wr) (fun i _ => xs.length - (intOf i).toNat)
  case atStart => exact ⟨0, Nat.zero_le _, rfl, rfl, Below.refl _ _⟩
  case round =>
    obtain ⟨k, hk, rfl, HA, hb⟩ := hrel
    have z0 := hb.size
    by_cases hlt : k < xs.length
    · obtain ⟨s, b, off, HS, rfl, hbw, c0⟩ := RdF.int h hb hh hlt
      have hki : (k : Int) < (xs.length : Int) := by omega
      cases hr : dayOk s with
      | false =>
        go_wp2_with fail
        go_quiet ((first | (go_at_call 51; exact Calls.quiet_of_same ((l02Is_any _ _).mono (by rintro e w' ⟨rfl, rfl⟩; exact ⟨by rw [hr], rfl⟩)))))
        go_wp2_with fail
        go_ret
        exact ⟨ret_bool (by rw [holidaysOk, incr, prefOk_false HS.out (by rw [incrP, show inR s 0 20000 = false from hr]; rfl)]; rfl), by (repeat (first | with_reducible assumption | with_reducible exact Below.refl _ _ | with_reducible refine Below.setCell ?_ ?_ _ | with_reducible refine Below.alloc ?_ ?_ _ | with_reducible refine Below.drew ?_ | with_reducible refine below_drewN ?_ _ | with_reducible refine Below.step (by with_reducible assumption) ?_ ?_ | omega | (simp <;> omega) | (simp; done)))⟩
      | true =>
        by_cases hk0 : k = 0
        · have hkz : decide (0 < k) = false := by simp; omega
          have HP := Lib.hid (show incrP 0 20000 (xs.take k) s = true by rw [hk0, incrP, show inR s 0 20000 = true from hr]; rfl)
          clear hk0
          go_wp2_with fail
          go_quiet ((first | (go_at_call 51; exact Calls.quiet_of_same ((l02Is_any _ _).mono (by rintro e w' ⟨rfl, rfl⟩; exact ⟨by rw [hr], rfl⟩)))))
          go_wp2_with fail
          go_roundw
          case rel => exact ⟨k + 1, by omega, by go_num, prefAll_succ HA.out HS.out HP.out, by (repeat (first | with_reducible assumption | with_reducible exact Below.refl _ _ | with_reducible refine Below.setCell ?_ ?_ _ | with_reducible refine Below.alloc ?_ ?_ _ | with_reducible refine Below.drew ?_ | with_reducible refine below_drewN ?_ _ | with_reducible refine Below.step (by with_reducible assumption) ?_ ?_ | omega | (simp <;> omega) | (simp; done)))⟩
          case measure => simp [intOf]; omega
        · obtain ⟨t, b2, off2, HT, hA2, hbw2, c1⟩ := RdF.int h hb hh (show k - 1 < xs.length by omega)
          injection hA2 with hA2; injection hA2 with e1 e2; subst e1 e2
          have HP := Lib.hid (show incrP 0 20000 (xs.take k) s = decide (t < s) by have e := take_last HT.out; rw [show k - 1 + 1 = k by omega] at e; rw [incrP, show inR s 0 20000 = true from hr, e]; rfl)
          have hkp : 1 ≤ (k : Int) := by omega
          have hkq : decide (0 < (k : Int)) = true := by simp; omega
          have hkr : decide (0 < k) = true := by simp; omega
          have hks : 0 < k := by omega
          have hkw : IntKind.i64.wrap ((k : Int) - 1) = (k : Int) - 1 := IntWalk.i64_in _ (by omega)
          have hk1 : 0 ≤ (k : Int) - 1 := by omega
          have hk2 : (k : Int) - 1 < (xs.length : Int) := by omega
          have hk3 : ((k : Int) - 1).toNat = k - 1 := by omega
          clear hk0
          by_cases hts : t < s
          · have ht1 : decide (s ≤ t) = false := by simpa using hts
            go_wp2_with fail
            go_quiet ((first | (go_at_call 51; exact Calls.quiet_of_same ((l02Is_any _ _).mono (by rintro e w' ⟨rfl, rfl⟩; exact ⟨by rw [hr], rfl⟩)))))
            clear hkw hk3
            go_wp2_with fail
            go_roundw
            case rel => exact ⟨k + 1, by omega, by go_num, prefAll_succ HA.out HS.out (by rw [HP.out]; simpa using hts), by (repeat (first | with_reducible assumption | with_reducible exact Below.refl _ _ | with_reducible refine Below.setCell ?_ ?_ _ | with_reducible refine Below.alloc ?_ ?_ _ | with_reducible refine Below.drew ?_ | with_reducible refine below_drewN ?_ _ | with_reducible refine Below.step (by with_reducible assumption) ?_ ?_ | omega | (simp <;> omega) | (simp; done)))⟩
            case measure => simp [intOf]; omega
          · have ht1 : decide (s ≤ t) = true := by simp; omega
            go_wp2_with fail
            go_quiet ((first | (go_at_call 51; exact Calls.quiet_of_same ((l02Is_any _ _).mono (by rintro e w' ⟨rfl, rfl⟩; exact ⟨by rw [hr], rfl⟩)))))
            clear hkw hk3
            go_wp2_with fail
            go_ret
            exact ⟨ret_bool (by rw [holidaysOk, incr, prefOk_false HS.out (by rw [HP.out]; simpa using hts)]; rfl), by (repeat (first | with_reducible assumption | with_reducible exact Below.refl _ _ | with_reducible refine Below.setCell ?_ ?_ _ | with_reducible refine Below.alloc ?_ ?_ _ | with_reducible refine Below.drew ?_ | with_reducible refine below_drewN ?_ _ | with_reducible refine Below.step (by with_reducible assumption) ?_ ?_ | omega | (simp <;> omega) | (simp; done)))⟩
    · go_wp2_with fail
      go_ret
      exact ⟨ret_bool (by rw [holidaysOk, incr, prefOk_of HA.out hk hlt, Bool.eq_iff_iff]; simp <;> omega), by (repeat (first | with_reducible assumption | with_reducible exact Below.refl _ _ | with_reducible refine Below.setCell ?_ ?_ _ | with_reducible refine Below.alloc ?_ ?_ _ | with_reducible refine Below.drew ?_ | with_reducible refine below_drewN ?_ _ | with_reducible refine Below.step (by with_reducible assumption) ?_ ?_ | omega | (simp <;> omega) | (simp; done)))⟩
def court (hol : List Int) (d : Int) : Bool := decide (d % 7 < 5) && !hasI hol d
set_option maxHeartbeats 400000 in
theorem isCourtDay_any (v : Value) (xs : List Int) (lo hi : Nat) (d : Int) (w : World) (h : RdF encInt 1 w lo hi v xs) (hh : hi ≤ w.heap.size) (hm : xs.length ≤ 1048576) (hd : 0 ≤ d) :
    Calls Try.prog 54 #[v, .int .i64 d] w fun e w' => e = .returned (.bool (court xs d)) ∧ w = w' := by
  go_enter Try.func54, Try.ntmps54
  go_wp2_with (go_at_call 61; refine (hasInt_any _ xs _ _ _ _ h hh hm).mono ?_; rintro e w' ⟨rfl, rfl⟩)
  all_goals (go_ret; exact ⟨ret_bool (by first | (simp_all [court]; done) | (simp_all [court] <;> omega) | (simp_all [court] <;> intros <;> omega)), rfl⟩)
set_option maxHeartbeats 400000 in
theorem l02Court_any (v : Value) (xs : List Int) (lo hi : Nat) (d : Int) (w : World) (h : RdF encInt 1 w lo hi v xs) (hh : hi ≤ w.heap.size) (hm : xs.length ≤ 1048576) (hd : 0 ≤ d) :
    Calls Try.prog 55 #[v, .int .i64 d] w fun e w' => e = .returned (.bool (court xs d)) ∧ w = w' := by
  go_enter Try.func55, Try.ntmps55
  go_wp2_with (go_at_call 62; refine (l01Has_any _ xs _ _ _ _ h hh hm).mono ?_; rintro e w' ⟨rfl, rfl⟩)
  all_goals (go_ret; exact ⟨ret_bool (by first | (simp_all [court]; done) | (simp_all [court] <;> omega) | (simp_all [court] <;> intros <;> omega)), rfl⟩)
end Go.Proofs.Ytfafcicbfgdmcaa
