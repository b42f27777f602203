/- Walks of the small tests over integers: membership, rising lists, holidays, court days. -/
import Derived.Test.YtmgdkblleljdaaaGreatBase
import Derived.Test.YtmgdkblleljdaaaGreatMem4
import Derived.BigQuiet
import Derived.Deep.QuietTactic
import Derived.IntWalk
namespace Go.Proofs.YtmgdkblleljdaaaGreat
open Go.RowKit
set_option linter.unusedVariables false

def hasI (xs : List Int) (n : Int) : Bool := xs.any fun m => m == n
theorem hasI_iff {xs : List Int} {n : Int} : hasI xs n = true ↔ n ∈ xs := by simp [hasI]

set_option maxHeartbeats 400000 in
theorem hasInt_any (v : Value) (xs : List Int) (lo hi : Nat) (p : Int) (w : World) (h : RdF encInt 1 w lo hi v xs) (hh : hi ≤ w.heap.size) (hm : xs.length ≤ 1048576) :
    Calls Tryz.prog 52 #[v, .int .i64 p] w fun e w' => e = .returned (.bool (hasI xs p)) ∧ w = w' := by
  obtain ⟨A, c, rfl, hc⟩ := h.form
  go_enter Tryz.func52, Tryz.ntmps52
  go_wp2
  go_loop [6, 9] (fun _ i => ∃ k : Nat, k ≤ xs.length ∧ i = .int .i64 k ∧ Hid ((xs.take k).any (fun m => m == p) = false)) (fun _ i => xs.length - (intOf i).toNat)
  case atStart => exact ⟨0, Nat.zero_le _, rfl, rfl⟩
  case round =>
    obtain ⟨k, hk, rfl, HA⟩ := hrel
    by_cases hlt : k < xs.length
    · obtain ⟨s, b, off, HS, rfl, hbw, c0⟩ := RdF.int h (Below.refl _ w) hh hlt
      by_cases hq : p = s
      · have HQ := Lib.hid (show (s == p) = true by simp [hq])
        subst hq
        go_wp2
        go_ret
        exact ⟨ret_bool (by rw [hasI, any_true_of (p := fun m : Int => m == _) HS.out HQ.out]), rfl⟩
      · have HQ := Lib.hid (show (s == p) = false by simp; exact fun e => hq e.symm)
        have hq' : (p == s) = false := by simpa using hq
        go_wp2
        go_round
        case rel => exact ⟨k + 1, by omega, by go_num, any_take_succ HA.out HS.out HQ.out⟩
        case measure => simp [intOf]; omega
    · go_wp2
      go_ret
      exact ⟨ret_bool (by rw [hasI, any_of_take HA.out hlt]), rfl⟩
set_option maxHeartbeats 400000 in
theorem l01Has_any (v : Value) (xs : List Int) (lo hi : Nat) (p : Int) (w : World) (h : RdF encInt 1 w lo hi v xs) (hh : hi ≤ w.heap.size) (hm : xs.length ≤ 1048576) :
    Calls Tryz.prog 55 #[v, .int .i64 p] w fun e w' => e = .returned (.bool (hasI xs p)) ∧ w = w' := by
  obtain ⟨A, c, rfl, hc⟩ := h.form
  go_enter Tryz.func55, Tryz.ntmps55
  go_wp2
  go_loop [5] (fun i => ∃ k : Nat, k ≤ xs.length ∧ i = .int .i64 k ∧ Hid ((xs.take k).any (fun m => m == p) = false)) (fun i => xs.length - (intOf i).toNat)
  case atStart => exact ⟨0, Nat.zero_le _, rfl, rfl⟩
  case round =>
    obtain ⟨k, hk, rfl, HA⟩ := hrel
    by_cases hlt : k < xs.length
    · obtain ⟨s, b, off, HS, rfl, hbw, c0⟩ := RdF.int h (Below.refl _ w) hh hlt
      by_cases hq : s = p
      · have HQ := Lib.hid (show (s == p) = true by simp [hq])
        subst hq
        go_wp2
        go_ret
        exact ⟨ret_bool (by rw [hasI, any_true_of (p := fun m : Int => m == _) HS.out HQ.out]), rfl⟩
      · have HQ := Lib.hid (show (s == p) = false by simpa using hq)
        have hq' : (s == p) = false := by simpa using hq
        go_wp2
        go_round
        case rel => exact ⟨k + 1, by omega, by go_num, any_take_succ HA.out HS.out HQ.out⟩
        case measure => simp [intOf]; omega
    · go_wp2
      go_ret
      exact ⟨ret_bool (by rw [hasI, any_of_take HA.out hlt]), rfl⟩

/-- Strictly rising from lo to hi. -/
def incrP (lo hi : Int) (before : List Int) (n : Int) : Bool := inR n lo hi && (match before.getLast? with | none => true | some m => decide (m < n))
def incr (lo hi : Int) (xs : List Int) : Bool := prefOk (incrP lo hi) xs
theorem take_last {α : Type} {xs : List α} {k : Nat} {x : α} (hx : xs[k]? = some x) : (xs.take (k + 1)).getLast? = some x := by
  rw [List.take_add_one, hx]; simp
theorem take_last0 {α : Type} (xs : List α) : (xs.take 0).getLast? = none := rfl
def holidaysOk (xs : List Int) : Bool := incr 0 20000 xs && decide (xs.length ≤ 40)
def court (hol : List Int) (d : Int) : Bool := decide (d % 7 < 5) && !hasI hol d
end Go.Proofs.YtmgdkblleljdaaaGreat
