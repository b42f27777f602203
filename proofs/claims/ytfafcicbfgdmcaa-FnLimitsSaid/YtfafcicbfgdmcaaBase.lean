/- The small tests: ranges, words, days. -/
import Derived.Test.YtfafcicbfgdmcaaRows
import Derived.Test.YtfafcicbfgdmcaaMem
namespace Go.Proofs.Ytfafcicbfgdmcaa
open Go.RowKit

set_option maxHeartbeats 400000 in
theorem within_any (n a b : Int) (w : World) : Calls Try.prog 46 #[.int .i64 n, .int .i64 a, .int .i64 b] w fun e w' => e = .returned (.bool (inR n a b)) ∧ w = w' := by
  go_enter Try.func46, Try.ntmps46
  go_wp2
  all_goals (go_ret; exact ⟨ret_bool (by rw [Bool.eq_iff_iff]; simp [inR] <;> omega), rfl⟩)

set_option maxHeartbeats 400000 in
theorem l01In_any (n a b : Int) (w : World) : Calls Try.prog 40 #[.int .i64 n, .int .i64 a, .int .i64 b] w fun e w' => e = .returned (.bool (inR n a b)) ∧ w = w' := by
  go_enter Try.func40, Try.ntmps40
  go_wp2
  all_goals (go_ret; exact ⟨ret_bool (by rw [Bool.eq_iff_iff]; simp [inR] <;> omega), rfl⟩)

set_option maxHeartbeats 400000 in
theorem few_any (n : Nat) (m : Int) (w : World) : Calls Try.prog 63 #[.int .i64 (n : Int), .int .i64 m] w fun e w' => e = .returned (.bool (decide ((n : Int) ≤ m))) ∧ w = w' := by
  go_enter Try.func63, Try.ntmps63
  go_wp2
  go_ret
  exact ⟨rfl, rfl⟩

def dayOk (d : Int) : Bool := inR d 0 20000
def roomOk (r : Int) : Bool := inR r 0 5

set_option maxHeartbeats 400000 in
theorem isDay_any (n : Int) (w : World) : Calls Try.prog 50 #[.int .i64 n] w fun e w' => e = .returned (.bool (dayOk n)) ∧ w = w' := by
  go_enter Try.func50, Try.ntmps50
  go_wp2_with (go_at_call 46; refine (within_any _ _ _ _).mono ?_; rintro e w' ⟨rfl, rfl⟩)
  go_ret
  exact ⟨rfl, rfl⟩
set_option maxHeartbeats 400000 in
theorem l02Is_any (n : Int) (w : World) : Calls Try.prog 51 #[.int .i64 n] w fun e w' => e = .returned (.bool (dayOk n)) ∧ w = w' := by
  go_enter Try.func51, Try.ntmps51
  go_wp2_with (go_at_call 40; refine (l01In_any _ _ _ _).mono ?_; rintro e w' ⟨rfl, rfl⟩)
  go_ret
  exact ⟨rfl, rfl⟩

/-- A letter of a word. -/
def lowB (c : UInt8) : Bool := decide (97 ≤ (c.toNat : Int)) && decide ((c.toNat : Int) ≤ 122)
def lettersB (l : List UInt8) : Bool := l.all lowB
/-- A word. -/
def wordOk (s : ByteArray) : Bool := lettersB s.data.toList && inR s.size 1 16
theorem byte_at (s : ByteArray) (k : Nat) (h : k < s.size) : s.data.toList[k]? = some s[k] := by
  have hl : k < s.data.toList.length := by rw [Array.length_toList]; exact h
  rw [List.getElem?_eq_getElem hl]
  rfl
theorem size_data (s : ByteArray) : s.data.toList.length = s.size := by rw [Array.length_toList]; rfl
theorem wordOk_size {s : ByteArray} (h : wordOk s = true) : 1 ≤ s.size ∧ s.size ≤ 16 := by
  simp only [wordOk, Bool.and_eq_true, inR_iff] at h; omega

set_option maxHeartbeats 400000 in
theorem IsWord_any (s : ByteArray) (w : World) (hs : s.size ≤ 9223372036854775807) : Calls Try.prog 45 #[.string s] w fun e w' => e = .returned (.bool (wordOk s)) ∧ w = w' := by
  go_enter Try.func45, Try.ntmps45
  go_wp2
  go_loop [3] (fun i => ∃ k : Nat, k ≤ s.size ∧ i = .int .i64 k ∧ Hid (lettersB (s.data.toList.take k) = true)) (fun i => s.size - (intOf i).toNat)
  case atStart => exact ⟨0, Nat.zero_le _, rfl, rfl⟩
  case round =>
    obtain ⟨k, hk, rfl, HA⟩ := hrel
    by_cases hlt : k < s.size
    · have HS := Lib.hid (byte_at s k hlt)
      go_wp2
      · go_ret
        exact ⟨ret_bool (by rw [wordOk, lettersB, all_false_of HS.out (by simp [lowB]; omega)]; rfl), rfl⟩
      · go_round
        case rel => exact ⟨k + 1, by omega, by go_num, take_all_succ HA.out HS.out (by simp [lowB]; omega)⟩
        case measure => simp [intOf]; omega
      · go_ret
        exact ⟨ret_bool (by rw [wordOk, lettersB, all_false_of HS.out (by simp [lowB]; omega)]; rfl), rfl⟩
    · have HF := Lib.hid (all_of_take (p := lowB) (xs := s.data.toList) HA.out (by rw [size_data]; exact hlt))
      go_wp2_with (go_at_call 46; refine (within_any _ _ _ _).mono ?_; rintro e w' ⟨rfl, rfl⟩)
      go_ret
      exact ⟨ret_bool (by rw [wordOk, lettersB, HF.out]; rfl), rfl⟩
set_option maxHeartbeats 400000 in
theorem sIsWord_any (s : ByteArray) (w : World) (hs : s.size ≤ 9223372036854775807) : Calls Try.prog 49 #[.string s] w fun e w' => e = .returned (.bool (wordOk s)) ∧ w = w' := by
  go_enter Try.func49, Try.ntmps49
  go_wp2
  go_loop [3] (fun i => ∃ k : Nat, k ≤ s.size ∧ i = .int .i64 k ∧ Hid (lettersB (s.data.toList.take k) = true)) (fun i => s.size - (intOf i).toNat)
  case atStart => exact ⟨0, Nat.zero_le _, rfl, rfl⟩
  case round =>
    obtain ⟨k, hk, rfl, HA⟩ := hrel
    by_cases hlt : k < s.size
    · have HS := Lib.hid (byte_at s k hlt)
      go_wp2
      · go_ret
        exact ⟨ret_bool (by rw [wordOk, lettersB, all_false_of HS.out (by simp [lowB]; omega)]; rfl), rfl⟩
      · go_round
        case rel => exact ⟨k + 1, by omega, by go_num, take_all_succ HA.out HS.out (by simp [lowB]; omega)⟩
        case measure => simp [intOf]; omega
      · go_ret
        exact ⟨ret_bool (by rw [wordOk, lettersB, all_false_of HS.out (by simp [lowB]; omega)]; rfl), rfl⟩
    · have HF := Lib.hid (all_of_take (p := lowB) (xs := s.data.toList) HA.out (by rw [size_data]; exact hlt))
      go_wp2_with (go_at_call 40; refine (l01In_any _ _ _ _).mono ?_; rintro e w' ⟨rfl, rfl⟩)
      go_ret
      exact ⟨ret_bool (by rw [wordOk, lettersB, HF.out]; rfl), rfl⟩
end Go.Proofs.Ytfafcicbfgdmcaa
