/- The plain laws of the rooms: what is free, kept, the longest gap. No program stands here. -/
import Derived.Test.YthodceeioinnoaaBookingW
namespace Go.Proofs.Ythodceeioinnoaa
open Go.RowKit
set_option linter.unusedVariables false

theorem ret_pair {a b c d : Int} (h : (a, b) = (c, d)) : Ending.returned (.tuple #[.int .i64 a, .int .i64 b]) = .returned (.tuple #[.int .i64 c, .int .i64 d]) := by
  cases h; rfl
theorem ret_three {a b c d e f : Int} (h : (a, b, c) = (d, e, f)) : Ending.returned (.tuple #[.int .i64 a, .int .i64 b, .int .i64 c]) = .returned (.tuple #[.int .i64 d, .int .i64 e, .int .i64 f]) := by
  cases h; rfl

def roomCode (xs : List Booking) (r d : Int) : Int := if bookingsOk xs then (if roomOk r && dayOk d then 0 else 2) else 1
theorem roomCode_ok {xs : List Booking} {r d : Int} (h : roomCode xs r d = 0) : bookingsOk xs = true := by
  unfold roomCode at h
  split at h
  · assumption
  · simp at h

/-- The first place below n at which p holds. -/
def firstQ (p : Nat → Bool) (n : Nat) : Option Nat := (List.range n).find? p
theorem firstQ_some {p : Nat → Bool} {n k : Nat} (h : ∀ q, q < k → p q = false) (hk : p k = true) (hn : k < n) : firstQ p n = some k := by
  unfold firstQ
  rw [List.find?_range_eq_some]
  exact ⟨hk, by simpa using hn, fun j hj => by simp [h j hj]⟩
theorem firstQ_none {p : Nat → Bool} {n : Nat} (h : ∀ q, q < n → p q = false) : firstQ p n = none := by
  unfold firstQ
  rw [List.find?_eq_none]
  intro q hq
  simp [h q (by simpa using hq)]

def freeAt (xs : List Booking) (r d l : Int) (q : Nat) : Bool := freeB xs r d q (q + l)
def orNone (o : Option Nat) : Int × Int := match o with | some q => ((q : Int), 0) | none => (0, 4)
def firstFree (xs : List Booking) (r d l : Int) : Int × Int :=
  if roomCode xs r d = 0 then
    (if inR l 1 36 then orNone (firstQ (freeAt xs r d l) (37 - l.toNat)) else (0, 2))
  else (0, roomCode xs r d)

/-- The gaps, quarter by quarter: where the longest one begins, its length, the present one's. -/
def gapStep (free : Nat → Bool) (s : Int × Int × Int) (q : Nat) : Int × Int × Int :=
  let l := if free q then s.2.2 + 1 else 0
  if s.2.1 < l then ((q : Int) - l + 1, l, l) else (s.1, s.2.1, l)
def gapTo (free : Nat → Bool) (k : Nat) : Int × Int × Int := (List.range k).foldl (gapStep free) (0, 0, 0)
theorem gapTo_succ (free : Nat → Bool) (k : Nat) : gapTo free (k + 1) = gapStep free (gapTo free k) k := by
  simp [gapTo, List.range_succ]
theorem gapTo_bd (free : Nat → Bool) (k : Nat) : 0 ≤ (gapTo free k).2.1 ∧ (gapTo free k).2.1 ≤ k ∧ 0 ≤ (gapTo free k).2.2 ∧ (gapTo free k).2.2 ≤ k ∧ 0 ≤ (gapTo free k).1 ∧ (gapTo free k).1 + (gapTo free k).2.1 ≤ k := by
  induction k with
  | zero => simp [gapTo]
  | succ k ih =>
    rw [gapTo_succ]
    generalize gapTo free k = s at *
    unfold gapStep
    simp only
    cases free k <;> simp <;> split <;> simp <;> omega
def longestGap (xs : List Booking) (r d : Int) : Int × Int × Int :=
  if roomCode xs r d = 0 then
    (let s := gapTo (freeAt xs r d 1) 36; if s.2.1 = 0 then (0, 0, 4) else (s.1, s.2.1, 0))
  else (0, 0, roomCode xs r d)

/-- The kept quarters: counted quarter by quarter, and added up over the bookings. -/
def keptTo (xs : List Booking) (r d : Int) (k : Nat) : Nat := ((List.range k).filter fun q => !freeAt xs r d 1 q).length
theorem keptTo_succ (xs : List Booking) (r d : Int) (k : Nat) : keptTo xs r d (k + 1) = keptTo xs r d k + (if freeAt xs r d 1 k then 0 else 1) := by
  unfold keptTo
  rw [List.range_succ, List.filter_append, List.length_append]
  cases h : freeAt xs r d 1 k <;> simp [h]
theorem keptTo_le (xs : List Booking) (r d : Int) (k : Nat) : keptTo xs r d k ≤ k := by
  unfold keptTo
  exact Nat.le_trans (List.length_filter_le _ _) (by simp)
def mine (r d : Int) (b : Booking) : Bool := (b.room == r) && (b.day == d)
def spanOf (r d : Int) (b : Booking) : Int := if mine r d b then b.to_ - b.frm else 0
def keptSum (xs : List Booking) (r d : Int) : Int := (xs.map (spanOf r d)).sum
theorem keptSum_snoc (xs : List Booking) (b : Booking) (r d : Int) : keptSum (xs ++ [b]) r d = keptSum xs r d + spanOf r d b := by
  simp [keptSum]
def covers (r d : Int) (b : Booking) (q : Nat) : Bool := meetB r d q (q + 1) b
theorem covers_count (r d : Int) (b : Booking) (hb : b.ok = true) : ((((List.range 36).filter (covers r d b)).length : Nat) : Int) = spanOf r d b := by
  have ht := ok_time hb
  by_cases hm : mine r d b = true
  · have hm' : b.room = r ∧ b.day = d := by simpa [mine] using hm
    have hc : ∀ q : Nat, covers r d b q = (decide (b.frm.toNat ≤ q) && decide (q < b.to_.toNat)) := by
      intro q
      rw [Bool.eq_iff_iff]; simp [covers, meetB, hm'.1, hm'.2]; omega
    have hcount : ∀ n : Nat, n ≤ 36 → ((List.range n).filter (covers r d b)).length = min n b.to_.toNat - min n b.frm.toNat := by
      intro n
      induction n with
      | zero => simp
      | succ n ih =>
        intro hn
        rw [List.range_succ, List.filter_append, List.length_append, ih (by omega)]
        simp only [List.filter_cons, List.filter_nil, hc]
        by_cases h1 : b.frm.toNat ≤ n <;> by_cases h2 : n < b.to_.toNat <;> simp [h1, h2] <;> omega
    rw [hcount 36 (by omega), spanOf, if_pos hm]
    omega
  · have hc : ∀ q : Nat, covers r d b q = false := by
      intro q
      rw [Bool.not_eq_true] at hm
      simp only [mine, Bool.and_eq_false_iff, beq_eq_false_iff_ne] at hm
      simp only [covers, meetB, Bool.and_eq_false_iff, beq_eq_false_iff_ne]
      rcases hm with h | h
      · exact .inl h
      · exact .inr (.inl h)
    rw [spanOf, if_neg hm]
    simp [hc]
theorem filter_or_disjoint {α : Type} (l : List α) (p q : α → Bool) (h : ∀ x ∈ l, ¬ (p x = true ∧ q x = true)) : (l.filter fun x => p x || q x).length = (l.filter p).length + (l.filter q).length := by
  induction l with
  | nil => rfl
  | cons x l ih =>
    have ih' := ih (fun y hy => h y (List.mem_cons_of_mem _ hy))
    have hx := h x List.mem_cons_self
    simp only [List.filter_cons]
    cases hp : p x <;> cases hq : q x <;> simp_all <;> omega
theorem kept_take {xs : List Booking} (hx : prefOk bookPref xs = true) (r d : Int) : ∀ k, k ≤ xs.length → ((keptTo (xs.take k) r d 36 : Nat) : Int) = keptSum (xs.take k) r d
  | 0, _ => by
    have : ∀ q, freeAt [] r d 1 q = true := fun q => by simp [freeAt, freeB]
    simp [keptTo, keptSum, this]
  | k + 1, hk => by
    have ih := kept_take hx r d k (by omega)
    have hs : xs[k]? = some (xs[k]'(by omega)) := List.getElem?_eq_getElem (by omega)
    have hp := prefOk_at hx hs
    generalize xs[k]'(by omega) = b at *
    simp only [bookPref, Bool.and_eq_true] at hp
    have he : xs.take (k + 1) = xs.take k ++ [b] := by rw [List.take_add_one, hs]; rfl
    rw [he, keptSum_snoc, ← ih]
    have hf : ∀ q : Nat, (!freeAt (xs.take k ++ [b]) r d 1 q) = ((!freeAt (xs.take k) r d 1 q) || covers r d b q) := by
      intro q; simp [freeAt, freeB, covers]
    unfold keptTo
    simp only [hf]
    rw [filter_or_disjoint]
    · have := covers_count r d b hp.1
      omega
    · rintro q hq ⟨h1, h2⟩
      have h3 : (xs.take k).any (meetB r d q (q + 1)) = true := by simpa [freeAt, freeB] using h1
      obtain ⟨c, hc, hm⟩ := List.any_eq_true.1 h3
      have h4 : freeB (xs.take k) b.room b.day b.frm b.to_ = true := hp.2
      have h5 : meetB b.room b.day b.frm b.to_ c = false := by
        have : (xs.take k).any (meetB b.room b.day b.frm b.to_) = false := by simpa [freeB] using h4
        rw [List.any_eq_false] at this
        simpa using this c hc
      have ht := ok_time hp.1
      simp only [covers] at h2
      simp only [meetB, Bool.and_eq_true, beq_iff_eq, decide_eq_true_eq] at h2 hm
      simp only [meetB, Bool.and_eq_false_iff, beq_eq_false_iff_ne, decide_eq_false_iff_not] at h5
      rcases h5 with h | h | h | h
      · exact h (by omega)
      · exact h (by omega)
      · omega
      · omega
theorem kept_eq {xs : List Booking} (hx : bookingsOk xs = true) (r d : Int) : ((keptTo xs r d 36 : Nat) : Int) = keptSum xs r d := by
  simp only [bookingsOk, Bool.and_eq_true] at hx
  have := kept_take hx.1 r d xs.length (Nat.le_refl _)
  rwa [List.take_length] at this
theorem keptSum_bd {xs : List Booking} (h : ∀ b ∈ xs, b.ok = true) (r d : Int) : 0 ≤ keptSum xs r d ∧ keptSum xs r d ≤ 36 * xs.length := by
  induction xs with
  | nil => simp [keptSum]
  | cons b xs ih =>
    have ih' := ih (fun c hc => h c (List.mem_cons_of_mem _ hc))
    have ht := ok_time (h b List.mem_cons_self)
    simp only [keptSum, List.map_cons, List.sum_cons, List.length_cons] at ih' ⊢
    have : 0 ≤ spanOf r d b ∧ spanOf r d b ≤ 36 := by unfold spanOf; split <;> omega
    omega
def quartersKept (xs : List Booking) (r d : Int) : Int × Int := if roomCode xs r d = 0 then ((keptTo xs r d 36 : Nat), 0) else (0, roomCode xs r d)
end Go.Proofs.Ythodceeioinnoaa
