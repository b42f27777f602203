/- Walks of the reference's booking texts: signed numbers, lists of numbers, a booking's text, reading it. -/
import Derived.Test.YtmfidoahdkipmaaDoorTextW
import Derived.Test.YtmfidoahdkipmaaDoorBookTextP
import Derived.Deep.Cut
import Derived.BigRegion
import Derived.RegionTactic
namespace Go.Proofs.YtmfidoahdkipmaaDoor
open Go.RowKit
set_option linter.unusedVariables false

theorem head_tail (s : ByteArray) (h : 0 < s.size) : s.data.toList = s[0] :: (s.extract 1 s.size).data.toList := by
  have hb := byte_at s 0 h
  have hl := size_data s
  rw [extract_data]
  cases hs : s.data.toList with
  | nil => rw [hs] at hl; simp at hl; omega
  | cons c r =>
    rw [hs] at hb hl
    simp at hb
    rw [hb]
    simp at hl
    rw [List.drop_one, List.tail_cons, List.take_of_length_le (by omega)]
theorem signed_minus {s : ByteArray} (h : 0 < s.size) (hc : s[0] = 45) : signedB s.data.toList = (-(valueB (s.extract 1 s.size).data.toList).1, (valueB (s.extract 1 s.size).data.toList).2 && decide (0 < (valueB (s.extract 1 s.size).data.toList).1)) := by
  rw [head_tail s h]
  show (if s[0] = 45 then _ else _) = _
  rw [if_pos hc]
theorem signed_plain {s : ByteArray} (h : 0 < s.size) (hc : ¬ s[0] = 45) : signedB s.data.toList = valueB s.data.toList := by
  have e := head_tail s h
  rw [e]
  show (if s[0] = 45 then _ else _) = _
  rw [if_neg hc]
theorem valueB_in (l : List UInt8) : 0 ≤ (valueB l).1 ∧ (valueB l).1 ≤ 10000000000000 := by
  unfold valueB
  split
  · next h =>
    split
    · next h1 =>
      have := valOf_lt l h1
      have hp : 10 ^ l.length ≤ 10 ^ 13 := Nat.pow_le_pow_right (by omega) h.2
      have e : (10 : Nat) ^ 13 = 10000000000000 := by decide
      simp only
      omega
    · simp
  · simp
theorem extract_size (s : ByteArray) (h : 0 < s.size) : (s.extract 1 s.size).size = s.size - 1 := by
  have := size_data (s.extract 1 s.size)
  rw [extract_data, List.length_take, List.length_drop, size_data] at this
  omega
set_option maxRecDepth 100000 in
set_option maxHeartbeats 2000000 in
theorem l01Signed_any (s : ByteArray) (w : World) (hs : s.size ≤ 1048576) :
    Calls Tryd.prog 43 #[.string s] w fun e w' => e = .returned (.tuple #[.int .i64 (signedB s.data.toList).1, .bool (signedB s.data.toList).2]) ∧ Below w.heap.size w w' := by
  by_cases h0 : s.size = 0
  · have HV := Lib.hid (show signedB s.data.toList = valueB s.data.toList by
      have hn : s.data.toList = [] := List.eq_nil_of_length_eq_zero (by rw [size_data]; exact h0)
      rw [hn]; rfl)
    have h0i : ¬ (0 : Int) < (s.size : Int) := by omega
    clear h0
    go_enter Tryd.func43, Tryd.ntmps43
    go_wp2_with fail
    refine (l01Value_any s _ hs).mono ?_
    rintro e w1 ⟨rfl, b1⟩
    go_wp2_with fail
    go_ret2
    exact ⟨by rw [HV.out] <;> rfl, b1⟩
  have hp : 0 < s.size := by omega
  have h0i : (0 : Int) < (s.size : Int) := by omega
  cases hq : (((s[0].toNat : Nat) : Int) == 45) with
  | true =>
    have HV := Lib.hid (signed_minus hp (by
      have h1 : s[0].toNat = 45 := by have := beq_iff_eq.1 hq; omega
      exact UInt8.toNat_inj.1 (by rw [h1]; rfl)))
    have hz := extract_size s hp
    have h1i : (1 : Int) ≤ (s.size : Int) := by omega
    have hin := valueB_in (s.extract 1 s.size).data.toList
    obtain ⟨hin0, hin1⟩ := hin
    go_enter Tryd.func43, Tryd.ntmps43
    go_wp2_with fail
    refine (l01Value_any _ _ (by omega)).mono ?_
    rintro e w1 ⟨rfl, b1⟩
    generalize (valueB (s.extract 1 s.size).data.toList).1 = n at *
    generalize (valueB (s.extract 1 s.size).data.toList).2 = ok at *
    cases ok with
    | true =>
      go_wp2_with fail
      go_ret2
      exact ⟨by rw [HV.out]; simp, b1⟩
    | false =>
      go_wp2_with fail
      go_ret2
      exact ⟨by rw [HV.out]; simp, b1⟩
  | false =>
    have HV := Lib.hid (signed_plain hp (by
      intro e
      rw [e] at hq
      simp at hq))
    go_enter Tryd.func43, Tryd.ntmps43
    go_wp2_with fail
    refine (l01Value_any s _ hs).mono ?_
    rintro e w1 ⟨rfl, b1⟩
    go_wp2_with fail
    go_ret2
    exact ⟨by rw [HV.out] <;> rfl, b1⟩
theorem readSig_some {s : ByteArray} (h : (signedB s.data.toList).2 = true) : readSig s = some (signedB s.data.toList).1 := by rw [readSig, if_pos h]
theorem readSig_none {s : ByteArray} (h : (signedB s.data.toList).2 = false) : readSig s = none := by rw [readSig, if_neg (by rw [h]; simp)]
theorem encInt_unit1 (n : Int) : ∀ u ∈ encInt n, u.oneCell' = true := encInt_unit n
set_option maxRecDepth 100000 in
set_option maxHeartbeats 2000000 in
theorem l01Numbers_any (v : Value) (xs : List ByteArray) (lo hi : Nat) (w : World) (h : RdF encStr 1 w lo hi v xs) (hh : hi ≤ w.heap.size) (hm : xs.length ≤ 1048576) (hb : ∀ x ∈ xs, x.size ≤ 1048576) :
    Calls Tryd.prog 22 #[v] w fun e w' => ∃ v' : Value, e = .returned (.tuple #[v', .bool (numsOf readSig xs).isSome]) ∧ OwnL encInt 1 2 w' w.heap.size v' ((numsOf readSig xs).getD []) ∧ Below w.heap.size w w' := by
  obtain ⟨A, c, rfl, hc⟩ := h.form
  have HB := Lib.hid hb; clear hb
  go_enter Tryd.func22, Tryd.ntmps22
  go_wp2_with fail
  go_loopw [4, 5] (fun o i wr => ∃ (k : Nat) (ns : List Int), k ≤ xs.length ∧ i = .int .i64 k ∧ ns.length = k ∧ Hid (numsOf readSig (xs.take k) = some ns) ∧ OwnL encInt 1 2 wr w.heap.size o ns ∧ Below w.heap.size w wr) (fun _ i _ => xs.length - (intOf i).toNat)
  case atStart => exact ⟨0, [], Nat.zero_le _, rfl, rfl, rfl, OwnL.emptyAt rfl (Nat.le_refl _), (Below.refl _ _).alloc (Nat.le_refl _) _⟩
  case round =>
    obtain ⟨k, ns, hk, rfl, hn, HN, ho, hbel⟩ := hrel
    have z0 := hbel.size
    by_cases hlt : k < xs.length
    · have hki : (k : Int) < (xs.length : Int) := by omega
      obtain ⟨x, b, off, HS, rfl, -, hbw, hcell⟩ := RdF.get h hbel hh hlt
      have x1 : wr.cell? ⟨b, off + k, none⟩ = some (.string x) := by simpa [encStr] using hcell 0 _ rfl
      clear hcell
      have hx := HB.out x (List.mem_of_getElem? HS.out)
      go_wp2_with fail
      refine (l01Signed_any x _ hx).mono ?_
      rintro e w1 ⟨rfl, b1⟩
      have z1 := b1.size
      have ho1 := ho.below b1
      have hbel1 : Below w.heap.size w w1 := Below.step b1 (by omega) hbel
      cases hok : (signedB x.data.toList).2 with
      | true =>
        have HT := Lib.hid (numsOf_take HN.out HS.out (readSig_some hok))
        go_wp2_with (at_builtin; refine wpList_push (enc := encInt) _ _ (by first | rfl | simp) rfl (.tmp 25) (.tmp 27) 44 rfl w.heap.size 2 _ (.int .i64 0) 1 8 Tryd.underlying44 (by kernel_rfl) rfl (by omega) _ ns _ _ rfl rfl (encInt_unit _) rfl rfl ho1 (by omega) (by omega) (by (first | omega | (simp; omega) | (simp; done))) ?_; intro v9 w9 hown9 hg9 hk9)
        go_roundw
        case rel => exact ⟨k + 1, _, by omega, by go_num, by simp; omega, HT.out, hown9, hk9 _ _ (Nat.le_refl _) hbel1⟩
        case measure => simp [intOf] <;> omega
      | false =>
        have HT := Lib.hid (numsOf_bad (f := readSig) (List.mem_of_getElem? HS.out) (readSig_none hok))
        go_wp2_with fail
        go_ret2
        exact ⟨.slice none 0 0, by rw [HT.out] <;> rfl, by rw [HT.out]; exact ⟨rfl, .inl ⟨rfl, rfl⟩⟩, hbel1⟩
    · have HT : Hid (numsOf readSig xs = some ns) := Lib.hid (by
        have e := HN.out
        rw [List.take_of_length_le (by omega)] at e
        exact e)
      go_wp2_with fail
      go_ret2
      exact ⟨_, by rw [HT.out] <;> rfl, by rw [HT.out]; exact ho, hbel⟩
end Go.Proofs.YtmfidoahdkipmaaDoor
