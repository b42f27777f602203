/- The plain law of the rooms: a free time can be booked, and its room is free. No program stands here. -/
import Derived.Test.YthodceeioinnoaaRoomsA
import Derived.Test.YthodceeioinnoaaGapP
namespace Go.Proofs.Ythodceeioinnoaa
open Go.RowKit
set_option linter.unusedVariables false

theorem addBooking_yes {xs : List Booking} {b : Booking} (h : (addBooking xs b).2 = 0) : bookingsOk (addBooking xs b).1 = true ∧ (addBooking xs b).1.length = xs.length + 1 := by
  unfold addBooking at h ⊢
  split at h
  · rename_i h1
    simp only [Bool.and_eq_true] at h1
    rw [if_pos (by simp [h1])]
    split at h
    · simp at h
    · rename_i h2
      rw [if_neg h2]
      split at h
      · rename_i h3
        rw [if_pos h3]
        exact ⟨(bookingsOk_snoc h1.1 h1.2 h2).trans h3, by simp⟩
      · simp at h
  · simp at h
theorem firstFree_yes {xs : List Booking} {r d l : Int} {u : ByteArray} (h : (firstFree xs r d l).2 = 0) (hu : wordOk u = true) :
    0 ≤ (firstFree xs r d l).1 ∧ 1 ≤ l ∧ (firstFree xs r d l).1 + l ≤ 36
    ∧ ((addBooking xs ⟨r, d, (firstFree xs r d l).1, (firstFree xs r d l).1 + l, u⟩).2 = 3 ∨ (addBooking xs ⟨r, d, (firstFree xs r d l).1, (firstFree xs r d l).1 + l, u⟩).2 = 0 ∧ (addBooking xs ⟨r, d, (firstFree xs r d l).1, (firstFree xs r d l).1 + l, u⟩).1.length = xs.length + 1)
    ∧ (roomsFree xs d (firstFree xs r d l).1 ((firstFree xs r d l).1 + l)).2 = 0 ∧ decide (r ∈ (roomsFree xs d (firstFree xs r d l).1 ((firstFree xs r d l).1 + l)).1) = true := by
  have hc : roomCode xs r d = 0 := by
    by_cases hc : roomCode xs r d = 0
    · exact hc
    · simp only [firstFree, if_neg hc] at h; exact absurd h hc
  obtain ⟨hx, hr, hd⟩ := roomCode_zero hc
  have hc0 : roomCode xs 0 d = 0 := roomCode_mk hx (by decide) hd
  have hl : inR l 1 36 = true := by
    cases hl : inR l 1 36 with
    | true => rfl
    | false => simp [firstFree, if_pos hc, hl] at h
  have hl' := inR_iff.1 hl
  cases hq : firstQ (freeAt xs r d l) (37 - l.toNat) with
  | none => simp [firstFree, if_pos hc, hl, hq, orNone] at h
  | some q =>
    have e : firstFree xs r d l = ((q : Int), 0) := by simp [firstFree, if_pos hc, hl, hq, orNone]
    have hf : freeAt xs r d l q = true ∧ q < 37 - l.toNat := by
      unfold firstQ at hq
      exact ⟨List.find?_some hq, by simpa using List.mem_of_find?_eq_some hq⟩
    have hF : freeB xs r d q (q + l) = true := hf.1
    rw [e]
    simp only
    have ht : timeOk (q : Int) ((q : Int) + l) = true := by simp [timeOk]; omega
    refine ⟨by omega, by omega, by omega, ?_, ?_⟩
    · have hb : Booking.ok ⟨r, d, (q : Int), (q : Int) + l, u⟩ = true := by simp [Booking.ok, hr, hd, ht, hu]
      unfold addBooking
      rw [if_pos (by simp [hx, hb])]
      by_cases h20 : xs.length = 20
      · left; rw [if_pos h20]
      · right
        rw [if_neg h20, if_pos hF]
        exact ⟨rfl, by simp⟩
    · have e1 : roomsFree xs d (q : Int) ((q : Int) + l) = (roomsTo xs d (q : Int) ((q : Int) + l) 6, 0) := by simp [roomsFree, hc0, ht]
      rw [e1]
      exact ⟨rfl, (mem_roomsTo _ _ _ _ _ hr).trans hF⟩
theorem mem_idxTo {α : Type} {p : α → Bool} {xs : List α} {i : Int} : ∀ {k : Nat}, i ∈ idxTo p xs k → ∃ (n : Nat) (x : α), i = n ∧ xs[n]? = some x ∧ p x = true
  | 0, h => by simp [idxTo] at h
  | k + 1, h => by
    rw [idxTo, List.mem_append] at h
    rcases h with h | h
    · exact mem_idxTo h
    · cases hx : xs[k]? with
      | none => simp [hx] at h
      | some x =>
        cases hp : p x with
        | false => simp [hx, hp] at h
        | true => simp [hx, hp] at h; exact ⟨k, x, h, hx, hp⟩
theorem mem_bookingsFor {xs : List Booking} {u : ByteArray} {i : Int} (h : i ∈ (bookingsFor xs u).1) : ∃ (n : Nat) (x : Booking), i = n ∧ xs[n]? = some x ∧ useIs u x = true := by
  unfold bookingsFor at h
  split at h
  · exact mem_idxTo h
  · simp at h
end Go.Proofs.Ythodceeioinnoaa
