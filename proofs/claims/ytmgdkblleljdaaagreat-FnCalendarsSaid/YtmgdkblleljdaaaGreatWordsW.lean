/- Walks of the small tests over words. -/
import Derived.Test.YtmgdkblleljdaaaGreatBase
import Derived.Test.YtmgdkblleljdaaaGreatStrsH
namespace Go.Proofs.YtmgdkblleljdaaaGreat
open Go.RowKit
set_option linter.unusedVariables false

def hasW (xs : List ByteArray) (p : ByteArray) : Bool := xs.any fun q => q.toList == p.toList
theorem hasW_iff {xs : List ByteArray} {p : ByteArray} : hasW xs p = true ↔ p ∈ xs := by
  simp [hasW, toList_inj]
theorem prefOk_and {α : Type} (p : α → Bool) (q : List α → α → Bool) (xs : List α) : prefOk (fun b x => p x && q b x) xs = (xs.all p && prefOk q xs) := by
  have h : ∀ k, k ≤ xs.length → prefAll (fun b x => p x && q b x) xs k = ((xs.take k).all p && prefAll q xs k) := by
    intro k
    induction k with
    | zero => intro _; rfl
    | succ k ih =>
      intro hk
      have hx : xs[k]? = some xs[k] := List.getElem?_eq_getElem (by omega)
      have e : (xs.take (k + 1)).all p = ((xs.take k).all p && p xs[k]) := by rw [List.take_add_one, hx]; simp only [List.all_append, Option.toList_some, List.all_cons, List.all_nil, Bool.and_true]
      rw [prefAll, prefAll, ih (by omega), e]
      simp only [hx]
      cases (xs.take k).all p <;> cases p xs[k] <;> cases prefAll q xs k <;> cases q (xs.take k) xs[k] <;> rfl
  have := h xs.length (Nat.le_refl _)
  rwa [List.take_length] at this

set_option maxHeartbeats 400000 in
theorem hasStr_any (v : Value) (xs : List ByteArray) (lo hi : Nat) (p : ByteArray) (w : World) (h : RdF encStr 1 w lo hi v xs) (hh : hi ≤ w.heap.size) (hm : xs.length ≤ 1048576) :
    Calls Tryz.prog 76 #[v, .string p] w fun e w' => e = .returned (.bool (hasW xs p)) ∧ w = w' := by
  obtain ⟨A, c, rfl, hc⟩ := h.form
  go_enter Tryz.func76, Tryz.ntmps76
  go_wp2
  go_loop [6, 9] (fun _ i => ∃ k : Nat, k ≤ xs.length ∧ i = .int .i64 k ∧ Hid ((xs.take k).any (fun q => q.toList == p.toList) = false)) (fun _ i => xs.length - (intOf i).toNat)
  case atStart => exact ⟨0, Nat.zero_le _, rfl, rfl⟩
  case round =>
    obtain ⟨k, hk, rfl, HA⟩ := hrel
    by_cases hlt : k < xs.length
    · obtain ⟨s, b, off, HS, rfl, hbw, c0⟩ := RdF.str h (Below.refl _ w) hh hlt
      cases hq : (p.toList == s.toList) with
      | true =>
        have HQ := Lib.hid (show (s.toList == p.toList) = true by have := hq; simp at this ⊢; exact this.symm)
        go_wp2
        go_ret
        exact ⟨ret_bool (by rw [hasW, any_true_of HS.out HQ.out]), rfl⟩
      | false =>
        have HQ := Lib.hid (show (s.toList == p.toList) = false by have := hq; simp at this ⊢; exact fun e => this e.symm)
        go_wp2
        go_round
        case rel => exact ⟨k + 1, by omega, by go_num, any_take_succ HA.out HS.out HQ.out⟩
        case measure => simp [intOf]; omega
    · go_wp2
      go_ret
      exact ⟨ret_bool (by rw [hasW, any_of_take HA.out hlt]), rfl⟩
set_option maxHeartbeats 400000 in
theorem l13Word_any (v : Value) (xs : List ByteArray) (lo hi : Nat) (p : ByteArray) (w : World) (h : RdF encStr 1 w lo hi v xs) (hh : hi ≤ w.heap.size) (hm : xs.length ≤ 1048576) :
    Calls Tryz.prog 81 #[v, .string p] w fun e w' => e = .returned (.bool (hasW xs p)) ∧ w = w' := by
  obtain ⟨A, c, rfl, hc⟩ := h.form
  go_enter Tryz.func81, Tryz.ntmps81
  go_wp2
  go_loop [5] (fun i => ∃ k : Nat, k ≤ xs.length ∧ i = .int .i64 k ∧ Hid ((xs.take k).any (fun q => q.toList == p.toList) = false)) (fun i => xs.length - (intOf i).toNat)
  case atStart => exact ⟨0, Nat.zero_le _, rfl, rfl⟩
  case round =>
    obtain ⟨k, hk, rfl, HA⟩ := hrel
    by_cases hlt : k < xs.length
    · obtain ⟨s, b, off, HS, rfl, hbw, c0⟩ := RdF.str h (Below.refl _ w) hh hlt
      cases hq : (s.toList == p.toList) with
      | true =>
        have HQ := Lib.hid hq
        go_wp2
        go_ret
        exact ⟨ret_bool (by rw [hasW, any_true_of HS.out HQ.out]), rfl⟩
      | false =>
        have HQ := Lib.hid hq
        go_wp2
        go_round
        case rel => exact ⟨k + 1, by omega, by go_num, any_take_succ HA.out HS.out HQ.out⟩
        case measure => simp [intOf]; omega
    · go_wp2
      go_ret
      exact ⟨ret_bool (by rw [hasW, any_of_take HA.out hlt]), rfl⟩
set_option maxHeartbeats 400000 in
theorem areWords_any (v : Value) (xs : List ByteArray) (lo hi : Nat) (w : World) (h : RdF encStr 1 w lo hi v xs) (hh : hi ≤ w.heap.size) (hm : xs.length ≤ 1048576) (hms : ∀ x ∈ xs, x.size ≤ 1048576) :
    Calls Tryz.prog 78 #[v] w fun e w' => e = .returned (.bool (xs.all wordOk)) ∧ w = w' := by
  obtain ⟨A, c, rfl, hc⟩ := h.form
  have HM := Lib.hid hms; clear hms
  go_enter Tryz.func78, Tryz.ntmps78
  go_wp2
  go_loop [4, 7] (fun _ i => ∃ k : Nat, k ≤ xs.length ∧ i = .int .i64 k ∧ Hid ((xs.take k).all wordOk = true)) (fun _ i => xs.length - (intOf i).toNat)
  case atStart => exact ⟨0, Nat.zero_le _, rfl, rfl⟩
  case round =>
    obtain ⟨k, hk, rfl, HA⟩ := hrel
    by_cases hlt : k < xs.length
    · obtain ⟨s, b, off, HS, rfl, hbw, c0⟩ := RdF.str h (Below.refl _ w) hh hlt
      have hsm := HM.out s (List.mem_of_getElem? HS.out)
      go_wp2_with (go_at_call 77; refine (IsWord_any _ _ (by omega)).mono ?_; rintro e w' ⟨rfl, rfl⟩)
      · have hf : (!wordOk s) = true := by assumption
        go_ret
        exact ⟨ret_bool (by rw [all_false_of HS.out (by simpa using hf)]), rfl⟩
      · have hf : (!wordOk s) = false := by assumption
        go_round
        case rel => exact ⟨k + 1, by omega, by go_num, take_all_succ HA.out HS.out (by simpa using hf)⟩
        case measure => simp [intOf]; omega
    · go_wp2
      go_ret
      exact ⟨ret_bool (by rw [all_of_take HA.out hlt]), rfl⟩
end Go.Proofs.YtmgdkblleljdaaaGreat
