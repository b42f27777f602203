/- The plain law of the gaps: the longest gap is free, no free run is longer, the kept quarters lie outside. No program stands here. -/
import Derived.Test.YthodceeioinnoaaRoomsV
namespace Go.Proofs.Ythodceeioinnoaa
open Go.RowKit
set_option linter.unusedVariables false

/-- What the gaps tell at quarter k. -/
structure GapInv (free : Nat → Bool) (k : Nat) (b m l : Int) : Prop where
  tail : ∀ q : Nat, (k : Int) - l ≤ q → q < k → free q = true
  stop : l < k → ∃ q : Nat, (q : Int) + l + 1 = k ∧ free q = false
  run : ∀ q : Nat, b ≤ q → (q : Int) < b + m → free q = true
  best : ∀ j n : Nat, 0 < n → j + n ≤ k → (∀ q, j ≤ q → q < j + n → free q = true) → (n : Int) ≤ m ∧ ((n : Int) = m → b ≤ j)
  bd : 0 ≤ m ∧ 0 ≤ l ∧ l ≤ k ∧ 0 ≤ b ∧ b + m ≤ k
theorem GapInv.init (free : Nat → Bool) : GapInv free 0 0 0 0 :=
  ⟨fun q h1 h2 => by omega, fun h => by simp at h, fun q h1 h2 => by omega, fun j n h1 h2 => by omega, by simp⟩
theorem GapInv.next {free : Nat → Bool} {k : Nat} {b m l : Int} (h : GapInv free k b m l) : GapInv free (k + 1) (gapStep free (b, m, l) k).1 (gapStep free (b, m, l) k).2.1 (gapStep free (b, m, l) k).2.2 := by
  obtain ⟨h1, h2, h3, h4, h5⟩ := h
  cases hf : free k with
  | false =>
    have e : gapStep free (b, m, l) k = (b, m, 0) := by
      simp only [gapStep, hf]
      simp
      intro h
      omega
    rw [e]
    refine ⟨fun q a c => by simp at a; omega, fun _ => ⟨k, by simp, hf⟩, h3, fun j n hn hk hr => ?_, by simp; omega⟩
    by_cases hj : j + n ≤ k
    · exact h4 j n hn hj hr
    · have := hr k (by omega) (by omega)
      rw [hf] at this; cases this
  | true =>
    have ht : ∀ q : Nat, ((k + 1 : Nat) : Int) - (l + 1) ≤ q → q < k + 1 → free q = true := by
      intro q a c
      by_cases hq : q = k
      · rw [hq, hf]
      · exact h1 q (by omega) (by omega)
    have hs : l + 1 < ((k + 1 : Nat) : Int) → ∃ q : Nat, (q : Int) + (l + 1) + 1 = ((k + 1 : Nat) : Int) ∧ free q = false := by
      intro a
      obtain ⟨q, c, d⟩ := h2 (by omega)
      exact ⟨q, by omega, d⟩
    have hlong : ∀ j n : Nat, 0 < n → j + n = k + 1 → (∀ q, j ≤ q → q < j + n → free q = true) → (n : Int) ≤ l + 1 := by
      intro j n hn hk hr
      by_cases hl : l < k
      · obtain ⟨q, c, d⟩ := h2 hl
        by_cases hjq : j ≤ q
        · have := hr q hjq (by omega)
          rw [d] at this; cases this
        · omega
      · omega
    by_cases hm : m < l + 1
    · have e : gapStep free (b, m, l) k = ((k : Int) - (l + 1) + 1, l + 1, l + 1) := by
        simp only [gapStep, hf]
        simp [hm]
      rw [e]
      refine ⟨ht, hs, fun q a c => ht q (by simp at a; omega) (by simp at c; omega), fun j n hn hk hr => ?_, by simp; omega⟩
      by_cases hj : j + n ≤ k
      · have := h4 j n hn hj hr
        exact ⟨by simp; omega, fun hh => by simp at hh; omega⟩
      · have := hlong j n hn (by omega) hr
        exact ⟨by simp; omega, fun hh => by simp at hh ⊢; omega⟩
    · have e : gapStep free (b, m, l) k = (b, m, l + 1) := by
        simp only [gapStep, hf]
        simp [hm]
      rw [e]
      refine ⟨ht, hs, h3, fun j n hn hk hr => ?_, by simp; omega⟩
      by_cases hj : j + n ≤ k
      · exact h4 j n hn hj hr
      · have := hlong j n hn (by omega) hr
        exact ⟨by simp; omega, fun hh => by simp at hh ⊢; omega⟩
theorem gapTo_inv (free : Nat → Bool) (k : Nat) : GapInv free k (gapTo free k).1 (gapTo free k).2.1 (gapTo free k).2.2 := by
  induction k with
  | zero => exact GapInv.init free
  | succ k ih => rw [gapTo_succ]; exact ih.next
/-- Before and behind the longest gap nothing is free; it is the first of its length. -/
theorem gap_before {free : Nat → Bool} {k : Nat} {b m l : Int} (h : GapInv free k b m l) (hm : 0 < m) (hb : 0 < b) : free (b.toNat - 1) = false := by
  obtain ⟨h1, h2, h3, h4, h5⟩ := h
  cases hf : free (b.toNat - 1) with
  | false => rfl
  | true =>
    have := (h4 (b.toNat - 1) (m.toNat + 1) (by omega) (by omega) (fun q a c => by
      by_cases hq : q = b.toNat - 1
      · rw [hq, hf]
      · exact h3 q (by omega) (by omega))).1
    omega
theorem gap_behind {free : Nat → Bool} {k : Nat} {b m l : Int} (h : GapInv free k b m l) (hm : 0 < m) (hb : b + m < k) : free (b + m).toNat = false := by
  obtain ⟨h1, h2, h3, h4, h5⟩ := h
  cases hf : free (b + m).toNat with
  | false => rfl
  | true =>
    have := (h4 b.toNat (m.toNat + 1) (by omega) (by omega) (fun q a c => by
      by_cases hq : q = (b + m).toNat
      · rw [hq, hf]
      · exact h3 q (by omega) (by omega))).1
    omega
theorem filter_gap (p : Nat → Bool) (b m : Nat) (h : ∀ q, b ≤ q → q < b + m → p q = false) : ∀ n, ((List.range n).filter p).length + (min n (b + m) - min n b) ≤ n
  | 0 => by simp
  | n + 1 => by
    have ih := filter_gap p b m h n
    rw [List.range_succ, List.filter_append, List.length_append]
    cases hp : p n with
    | false => simp [hp]; omega
    | true =>
      have : ¬ (b ≤ n ∧ n < b + m) := fun ⟨a, c⟩ => by have := h n a c; rw [hp] at this; cases this
      simp [hp]; omega
theorem freeAt_iff {xs : List Booking} (hx : ∀ b ∈ xs, b.ok = true) (r d : Int) (l : Nat) (hl : 0 < l) (q : Nat) : freeAt xs r d l q = true ↔ ∀ i : Nat, q ≤ i → i < q + l → freeAt xs r d 1 i = true := by
  simp only [freeAt, freeB, Bool.not_eq_true', List.any_eq_false]
  constructor
  · intro h i h1 h2 b hb
    have := h b hb
    have ht := ok_time (hx b hb)
    simp only [meetB, Bool.and_eq_true, beq_iff_eq, decide_eq_true_eq] at this ⊢
    intro hc
    exact this ⟨hc.1, hc.2.1, by omega, by omega⟩
  · intro h b hb
    have ht := ok_time (hx b hb)
    simp only [meetB, Bool.and_eq_true, beq_iff_eq, decide_eq_true_eq]
    intro hc
    have h1 := h (max q b.frm.toNat) (by omega) (by omega) b hb
    simp only [meetB, Bool.and_eq_true, beq_iff_eq, decide_eq_true_eq] at h1
    exact h1 ⟨hc.1, hc.2.1, by omega, by omega⟩
theorem mem_roomsTo (xs : List Booking) (d f t r : Int) (hr : roomOk r = true) : decide (r ∈ roomsTo xs d f t 6) = freeB xs r d f t := by
  have hr' : 0 ≤ r ∧ r ≤ 5 := by simpa [roomOk, inR_iff] using hr
  obtain ⟨k, rfl⟩ : ∃ k : Nat, r = (k : Int) := ⟨r.toNat, by omega⟩
  rw [Bool.eq_iff_iff, decide_eq_true_iff]
  simp only [roomsTo, List.mem_map, List.mem_filter, List.mem_range]
  constructor
  · rintro ⟨a, ⟨_, h2⟩, h3⟩
    obtain rfl : a = k := by omega
    exact h2
  · exact fun h => ⟨k, ⟨by omega, h⟩, rfl⟩
theorem roomCode_zero {xs : List Booking} {r d : Int} (h : roomCode xs r d = 0) : bookingsOk xs = true ∧ roomOk r = true ∧ dayOk d = true := by
  have h1 := roomCode_ok h
  unfold roomCode at h
  rw [if_pos h1] at h
  split at h
  · rename_i h2; simp only [Bool.and_eq_true] at h2; exact ⟨h1, h2⟩
  · simp at h
theorem roomCode_mk {xs : List Booking} {r d : Int} (h1 : bookingsOk xs = true) (h2 : roomOk r = true) (h3 : dayOk d = true) : roomCode xs r d = 0 := by
  unfold roomCode; rw [if_pos h1, h2, h3]; rfl
/-- The law in words of the results. -/
theorem gaps_none {xs : List Booking} {r d : Int} (h : (longestGap xs r d).2.2 ≠ 0) : (longestGap xs r d).2.2 ≠ 4 ∨ (quartersKept xs r d).1 = 36 := by
  by_cases hc : roomCode xs r d = 0
  · right
    have hx := (roomCode_zero hc).1
    simp only [longestGap, if_pos hc] at h
    by_cases hm : (gapTo (freeAt xs r d 1) 36).2.1 = 0
    · have I := gapTo_inv (freeAt xs r d 1) 36
      have : ∀ q, q < 36 → freeAt xs r d 1 q = false := by
        intro q hq
        cases hf : freeAt xs r d 1 q with
        | false => rfl
        | true =>
          have := (I.best q 1 (by omega) (by omega) (fun q' a c => by obtain rfl : q' = q := by omega
                                                                      exact hf)).1
          omega
      simp only [quartersKept, if_pos hc, keptTo]
      rw [List.filter_eq_self.2]
      · simp
      · intro q hq
        simp [this q (by simpa using hq)]
    · simp [hm] at h
  · left
    simp only [longestGap, if_neg hc]
    unfold roomCode
    split
    · split <;> simp
    · simp
theorem gaps_some {xs : List Booking} {r d : Int} (h : (longestGap xs r d).2.2 = 0) :
    roomOk r = true ∧ dayOk d = true ∧ bookingsOk xs = true ∧ 0 < (longestGap xs r d).2.1 ∧ 0 ≤ (longestGap xs r d).1 ∧ (longestGap xs r d).1 + (longestGap xs r d).2.1 ≤ 36
    ∧ (quartersKept xs r d).2 = 0 ∧ 0 ≤ (quartersKept xs r d).1 ∧ (quartersKept xs r d).1 + (longestGap xs r d).2.1 ≤ 36
    ∧ firstFree xs r d (longestGap xs r d).2.1 = ((longestGap xs r d).1, 0)
    ∧ (0 < (longestGap xs r d).1 → (roomsFree xs d ((longestGap xs r d).1 - 1) (longestGap xs r d).1).2 = 0 ∧ decide (r ∈ (roomsFree xs d ((longestGap xs r d).1 - 1) (longestGap xs r d).1).1) = false)
    ∧ ((longestGap xs r d).1 + (longestGap xs r d).2.1 < 36 → (roomsFree xs d ((longestGap xs r d).1 + (longestGap xs r d).2.1) ((longestGap xs r d).1 + (longestGap xs r d).2.1 + 1)).2 = 0 ∧ decide (r ∈ (roomsFree xs d ((longestGap xs r d).1 + (longestGap xs r d).2.1) ((longestGap xs r d).1 + (longestGap xs r d).2.1 + 1)).1) = false) := by
  have hc : roomCode xs r d = 0 := by
    by_cases hc : roomCode xs r d = 0
    · exact hc
    · simp only [longestGap, if_neg hc] at h; exact absurd h hc
  obtain ⟨hx, hr, hd⟩ := roomCode_zero hc
  have hc0 : roomCode xs 0 d = 0 := roomCode_mk hx (by decide) hd
  have hok := bookingsOk_all hx
  have I := gapTo_inv (freeAt xs r d 1) 36
  have hm : (gapTo (freeAt xs r d 1) 36).2.1 ≠ 0 := by
    intro hm
    simp [longestGap, if_pos hc, hm] at h
  have e : longestGap xs r d = ((gapTo (freeAt xs r d 1) 36).1, (gapTo (freeAt xs r d 1) 36).2.1, 0) := by
    simp [longestGap, if_pos hc, hm]
  rw [e]
  simp only
  generalize (gapTo (freeAt xs r d 1) 36).1 = b at *
  generalize (gapTo (freeAt xs r d 1) 36).2.1 = m at *
  generalize (gapTo (freeAt xs r d 1) 36).2.2 = l at *
  have hb := I.bd
  have hm0 : 0 < m := by omega
  obtain ⟨b', rfl⟩ : ∃ k : Nat, b = (k : Int) := ⟨b.toNat, by omega⟩
  obtain ⟨m', rfl⟩ : ∃ k : Nat, m = (k : Int) := ⟨m.toNat, by omega⟩
  have hb36 : b' + m' ≤ 36 := by omega
  have hm' : 0 < m' := by omega
  refine ⟨hr, hd, hx, hm0, by omega, by omega, by simp [quartersKept, if_pos hc], by simp [quartersKept, if_pos hc], ?_, ?_, ?_, ?_⟩
  · simp only [quartersKept, if_pos hc]
    have := filter_gap (fun q => !freeAt xs r d 1 q) b' m' (fun q a c => by simp [I.run q (by omega) (by omega)]) 36
    unfold keptTo
    have h1 : min 36 (b' + m') = b' + m' := by omega
    have h2 : min 36 b' = b' := by omega
    rw [h1, h2] at this
    omega
  · have hl : inR (m' : Int) 1 36 = true := inR_true (by omega) (by omega)
    simp only [firstFree, if_pos hc, hl, if_true]
    rw [firstQ_some (k := b')]
    · rfl
    · intro q hq
      cases hf : freeAt xs r d m' q with
      | false => rfl
      | true =>
        have := (freeAt_iff hok r d m' hm' q).1 hf
        have := (I.best q m' hm' (by omega) this).2 rfl
        omega
    · exact (freeAt_iff hok r d m' hm' b').2 (fun i h1 h2 => I.run i (by omega) (by omega))
    · omega
  · intro h0
    have ht : timeOk ((b' : Int) - 1) b' = true := by simp [timeOk]; omega
    have e1 : roomsFree xs d ((b' : Int) - 1) b' = (roomsTo xs d ((b' : Int) - 1) b' 6, 0) := by simp [roomsFree, hc0, ht]
    rw [e1]
    refine ⟨rfl, ?_⟩
    rw [mem_roomsTo _ _ _ _ _ hr]
    have := gap_before I hm0 h0
    simp only [freeAt] at this
    have e2 : (((b' : Int).toNat - 1 : Nat) : Int) = (b' : Int) - 1 := by omega
    rw [e2] at this
    have e3 : (b' : Int) - 1 + 1 = b' := by omega
    rwa [e3] at this
  · intro h0
    have ht : timeOk ((b' : Int) + m') ((b' : Int) + m' + 1) = true := by simp [timeOk]; omega
    have e1 : roomsFree xs d ((b' : Int) + m') ((b' : Int) + m' + 1) = (roomsTo xs d ((b' : Int) + m') ((b' : Int) + m' + 1) 6, 0) := by simp [roomsFree, hc0, ht]
    rw [e1]
    refine ⟨rfl, ?_⟩
    rw [mem_roomsTo _ _ _ _ _ hr]
    have := gap_behind I hm0 h0
    simp only [freeAt] at this
    have e2 : (((b' : Int) + (m' : Int)).toNat : Int) = (b' : Int) + m' := by omega
    rwa [e2] at this
end Go.Proofs.Ythodceeioinnoaa
