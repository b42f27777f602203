/- Walks of AddBooking. -/
import Derived.Test.YthodceeioinnoaaRoomsW
import Derived.Test.YthodceeioinnoaaMem3
import Derived.Test.YthodceeioinnoaaMem4
import Derived.Deep.RegionHeld3
namespace Go.Proofs.Ythodceeioinnoaa
open Go.RowKit
set_option linter.unusedVariables false

theorem prefAll_append {α : Type} {p : List α → α → Bool} (xs ys : List α) : ∀ k, k ≤ xs.length → prefAll p (xs ++ ys) k = prefAll p xs k
  | 0, _ => rfl
  | k + 1, h => by
    rw [prefAll, prefAll, prefAll_append xs ys k (by omega), List.getElem?_append_left (by omega), List.take_append_of_le_length (by omega)]
theorem prefOk_snoc {α : Type} {p : List α → α → Bool} (xs : List α) (x : α) : prefOk p (xs ++ [x]) = (prefOk p xs && p xs x) := by
  unfold prefOk
  rw [List.length_append, List.length_singleton, prefAll, prefAll_append xs [x] _ (Nat.le_refl _)]
  simp
def addBooking (xs : List Booking) (b : Booking) : List Booking × Int :=
  if bookingsOk xs && b.ok then (if xs.length = 20 then ([], 3) else if freeB xs b.room b.day b.frm b.to_ then (xs ++ [b], 0) else ([], 5)) else ([], 1)
theorem bookingsOk_len {xs : List Booking} (h : bookingsOk xs = true) : xs.length ≤ 20 := by
  simp only [bookingsOk, Bool.and_eq_true, decide_eq_true_eq] at h
  exact h.2
theorem addBooking_len (xs : List Booking) (b : Booking) : (addBooking xs b).1.length ≤ 1048576 := by
  unfold addBooking
  split
  · rename_i h
    simp only [Bool.and_eq_true] at h
    have := bookingsOk_len h.1
    split
    · simp
    · split
      · simp; omega
      · simp
  · simp
theorem bookingsOk_snoc {xs : List Booking} {b : Booking} (h : bookingsOk xs = true) (hb : b.ok = true) (hn : xs.length ≠ 20) : bookingsOk (xs ++ [b]) = freeB xs b.room b.day b.frm b.to_ := by
  simp only [bookingsOk, Bool.and_eq_true, decide_eq_true_eq] at h
  have : decide ((xs ++ [b]).length ≤ 20) = true := by simp; omega
  rw [bookingsOk, prefOk_snoc, this, h.1, bookPref, hb]
  simp
theorem enc_one (b : Booking) : ∀ u ∈ Booking.enc b, u.oneCell' = true := by
  intro u hu
  simp [Booking.enc] at hu
  rcases hu with rfl | rfl | rfl | rfl | rfl <;> rfl

set_option maxRecDepth 100000 in
set_option maxHeartbeats 800000 in
theorem cloneBooking_any (v : Value) (xs : List Booking) (lo hi : Nat) (w : World) (h : RdF Booking.enc 5 w lo hi v xs) (hh : hi ≤ w.heap.size) (hm : xs.length ≤ 1048576) :
    Calls Try.prog 71 #[v] w fun e w' => RetV (fun v' w' => OwnL Booking.enc 5 41 w' w.heap.size v' xs) w e w' := by
  have h0 := h
  obtain ⟨A, c, rfl, hc, hA⟩ := h
  clear hA
  obtain ⟨arr, hmk, hown⟩ := mkCap (P := Try.prog) (enc := Booking.enc) 25 41 Try.underlying25 (.agg #[.int .i64 0, .int .i64 0, .int .i64 0, .int .i64 0, .string ByteArray.empty]) 5 48 (by kernel_rfl) rfl xs.length (by omega) (by unfold maxLen; omega)
  have hw := hown w w.heap.size (Nat.le_refl _)
  have hx := h0.below ((Below.refl w.heap.size w).alloc (Nat.le_refl _) (.cells arr 41)) hh
  go_enter Try.func71, Try.ntmps71
  go_wp2_with (at_builtin; refine wpList_app (enc := Booking.enc) _ rfl _ _ _ rfl w.heap.size 41 (.agg #[.int .i64 0, .int .i64 0, .int .i64 0, .int .i64 0, .string ByteArray.empty]) 5 48 Try.underlying25 (by kernel_rfl) rfl (by omega) (fun _ => rfl) enc_one (by omega) _ _ [] xs lo hi (by rfl) (by rfl) hw hx (by simp) (by simp; omega) ?_; intro v2 w2 hown2 hg2 hk2)
  go_ret
  exact ⟨_, rfl, by simpa using hown2, hk2 _ _ (Nat.le_refl _) ((Below.refl _ _).alloc (Nat.le_refl _) _)⟩
theorem Blk.five {w : World} {g : Nat} {t : TypeId} {a b c d e : Value} (h : Blk w g t #[a, b, c, d, e]) : w.cell? ⟨g, 0, none⟩ = some a ∧ w.cell? ⟨g, 1, none⟩ = some b ∧ w.cell? ⟨g, 2, none⟩ = some c ∧ w.cell? ⟨g, 3, none⟩ = some d ∧ w.cell? ⟨g, 4, none⟩ = some e :=
  ⟨h.cell 0, h.cell 1, h.cell 2, h.cell 3, h.cell 4⟩
set_option maxRecDepth 100000 in
set_option maxHeartbeats 4000000 in
theorem addBooking_any (v : Value) (xs : List Booking) (lo hi : Nat) (b : Booking) (w : World) (h : RdF Booking.enc 5 w lo hi v xs) (hh : hi ≤ w.heap.size) (hm : xs.length ≤ 1048576) (hms : ∀ x ∈ xs, Booking.small x) (hb : Booking.small b) :
    Calls Try.prog 29 #[v, .agg #[.int .i64 b.room, .int .i64 b.day, .int .i64 b.frm, .int .i64 b.to_, .string b.use]] w fun e w' => RetVC (fun v' w' => RdW Booking.enc 5 41 w' w.heap.size w'.heap.size v' (addBooking xs b).1) (addBooking xs b).2 w e w' := by
  have hbu : b.use.size ≤ 1048576 := hb
  cases hz : bookingsOk xs with
  | false =>
    have HF := Lib.hid (show addBooking xs b = ([], 1) by rw [addBooking, hz]; rfl)
    go_enter Try.func29, Try.ntmps29
    go_wp2_with fail
    refine (areBookings_any v xs _ _ _ (h.below ((Below.refl w.heap.size w).alloc (Nat.le_refl _) _) hh) (by simp; omega) hm hms).mono ?_
    rintro e w1 ⟨rfl, b1⟩
    rw [hz]
    go_wp2_with fail
    go_ret2
    rw [HF.out]
    exact ⟨_, rfl, RdW.nil, by (repeat (first | with_reducible assumption | with_reducible exact Below.refl _ _ | with_reducible refine Below.setCell ?_ ?_ _ | with_reducible refine Below.alloc ?_ ?_ _ | with_reducible refine Below.drew ?_ | with_reducible refine below_drewN ?_ _ | with_reducible refine Below.step (by with_reducible assumption) ?_ ?_ | omega | (simp <;> omega) | (simp; done)))⟩
  | true =>
    have h0 := h.below ((Below.refl w.heap.size w).alloc (Nat.le_refl _) (.cells #[.int .i64 b.room, .int .i64 b.day, .int .i64 b.frm, .int .i64 b.to_, .string b.use] 41)) hh
    cases ho : b.ok with
    | false =>
      have HF := Lib.hid (show addBooking xs b = ([], 1) by rw [addBooking, hz, ho]; rfl)
      go_enter Try.func29, Try.ntmps29
      go_wp2_with fail
      refine (areBookings_any v xs _ _ _ h0 (by simp; omega) hm hms).mono ?_
      rintro e w1 ⟨rfl, b1⟩
      rw [hz]
      have z1 : w.heap.size + 1 ≤ w1.heap.size := by simpa using b1.size
      obtain ⟨q0, q1, q2, q3, q4⟩ := ((Blk.new w 41 #[.int .i64 b.room, .int .i64 b.day, .int .i64 b.frm, .int .i64 b.to_, .string b.use]).below b1 (by simp)).five
      go_wp2_with (go_at_call 62; refine (isBooking_any b _ (by omega)).mono ?_; rintro e w2 ⟨rfl, b2⟩; rw [ho])
      go_ret2
      rw [HF.out]
      exact ⟨_, rfl, RdW.nil, by (repeat (first | with_reducible assumption | with_reducible exact Below.refl _ _ | with_reducible refine Below.setCell ?_ ?_ _ | with_reducible refine Below.alloc ?_ ?_ _ | with_reducible refine Below.drew ?_ | with_reducible refine below_drewN ?_ _ | with_reducible refine Below.step (by with_reducible assumption) ?_ ?_ | omega | (simp <;> omega) | (simp; done)))⟩
    | true =>
      by_cases hn : xs.length = 20
      · have HF := Lib.hid (show addBooking xs b = ([], 3) by rw [addBooking, hz, ho, if_pos hn]; rfl)
        have HN := Lib.hid hn; clear hn
        obtain ⟨A, c, rfl, hc, hA⟩ := h
        clear hA
        go_enter Try.func29, Try.ntmps29
        go_wp2_with fail
        refine (areBookings_any _ xs _ _ _ h0 (by simp; omega) hm hms).mono ?_
        rintro e w1 ⟨rfl, b1⟩
        rw [hz]
        have z1 : w.heap.size + 1 ≤ w1.heap.size := by simpa using b1.size
        obtain ⟨q0, q1, q2, q3, q4⟩ := ((Blk.new w 41 #[.int .i64 b.room, .int .i64 b.day, .int .i64 b.frm, .int .i64 b.to_, .string b.use]).below b1 (by simp)).five
        go_wp2_with fail
        refine (isBooking_any b _ (by omega)).mono ?_
        rintro e w2 ⟨rfl, b2⟩
        rw [ho]
        have hn' : (xs.length : Int) = 20 := by have := HN.out; omega
        go_wp2_with fail
        go_ret2
        rw [HF.out]
        exact ⟨_, rfl, RdW.nil, by (repeat (first | with_reducible assumption | with_reducible exact Below.refl _ _ | with_reducible refine Below.setCell ?_ ?_ _ | with_reducible refine Below.alloc ?_ ?_ _ | with_reducible refine Below.drew ?_ | with_reducible refine below_drewN ?_ _ | with_reducible refine Below.step (by with_reducible assumption) ?_ ?_ | omega | (simp <;> omega) | (simp; done)))⟩
      · have hall := bookingsOk_all hz
        have hlt := (ok_time ho).2.1
        have HK := Lib.hid (freeK_eq (xs := xs) (r := b.room) (d := b.day) (f := b.frm) (t := b.to_) hall hlt)
        clear hall
        have h0' := h0
        obtain ⟨A, c, rfl, hc, hA⟩ := h
        clear hA
        cases hf : freeB xs b.room b.day b.frm b.to_ with
        | false =>
          have HF := Lib.hid (show addBooking xs b = ([], 5) by rw [addBooking, hz, ho, if_neg hn, hf]; rfl)
          go_enter Try.func29, Try.ntmps29
          go_wp2_with fail
          refine (areBookings_any _ xs _ _ _ h0 (by simp; omega) hm hms).mono ?_
          rintro e w1 ⟨rfl, b1⟩
          rw [hz]
          have hB1 := (Blk.new w 41 #[.int .i64 b.room, .int .i64 b.day, .int .i64 b.frm, .int .i64 b.to_, .string b.use]).below b1 (by simp)
          obtain ⟨q0, q1, q2, q3, q4⟩ := hB1.five
          have hn' : ¬ (xs.length : Int) = 20 := by omega
          have z1 : w.heap.size + 1 ≤ w1.heap.size := by simpa using b1.size
          have h1 := h0.below b1 (by simp; omega)
          go_wp2_with fail
          refine (isBooking_any b _ (by omega)).mono ?_
          rintro e w2 ⟨rfl, b2⟩
          rw [ho]
          have hB2 := hB1.below b2 (by omega)
          obtain ⟨s0, s1, s2, s3, s4⟩ := hB2.five
          have z2 := b2.size
          have h2 := h1.below b2 (by omega)
          go_wp2_with fail
          refine (isFree_any _ xs _ _ b.room b.day b.frm b.to_ _ h2 (by omega) hm).mono ?_
          rintro e w3 ⟨rfl, b3⟩
          rw [HK.out, hf]
          go_wp2_with fail
          go_ret2
          rw [HF.out]
          exact ⟨_, rfl, RdW.nil, by (repeat (first | with_reducible assumption | with_reducible exact Below.refl _ _ | with_reducible refine Below.setCell ?_ ?_ _ | with_reducible refine Below.alloc ?_ ?_ _ | with_reducible refine Below.drew ?_ | with_reducible refine below_drewN ?_ _ | with_reducible refine Below.step (by with_reducible assumption) ?_ ?_ | omega | (simp <;> omega) | (simp; done)))⟩
        | true =>
          have HF := Lib.hid (show addBooking xs b = (xs ++ [b], 0) by rw [addBooking, hz, ho, if_neg hn, hf]; rfl)
          go_enter Try.func29, Try.ntmps29
          go_wp2_with fail
          refine (areBookings_any _ xs _ _ _ h0 (by simp; omega) hm hms).mono ?_
          rintro e w1 ⟨rfl, b1⟩
          rw [hz]
          have hB1 := (Blk.new w 41 #[.int .i64 b.room, .int .i64 b.day, .int .i64 b.frm, .int .i64 b.to_, .string b.use]).below b1 (by simp)
          obtain ⟨q0, q1, q2, q3, q4⟩ := hB1.five
          have hn' : ¬ (xs.length : Int) = 20 := by omega
          have z1 : w.heap.size + 1 ≤ w1.heap.size := by simpa using b1.size
          have h1 := h0.below b1 (by simp; omega)
          go_wp2_with fail
          refine (isBooking_any b _ (by omega)).mono ?_
          rintro e w2 ⟨rfl, b2⟩
          rw [ho]
          have hB2 := hB1.below b2 (by omega)
          clear q0 q1 q2 q3 q4
          obtain ⟨s0, s1, s2, s3, s4⟩ := hB2.five
          have z2 := b2.size
          have h2 := h1.below b2 (by omega)
          go_wp2_with fail
          refine (isFree_any _ xs _ _ b.room b.day b.frm b.to_ _ h2 (by omega) hm).mono ?_
          rintro e w3 ⟨rfl, b3⟩
          rw [HK.out, hf]
          have hB3 := hB2.below b3 (by omega)
          clear s0 s1 s2 s3 s4
          obtain ⟨t0, t1, t2, t3, t4⟩ := hB3.five
          have z3 := b3.size
          have h3 := h2.below b3 (by omega)
          go_wp2_with fail
          have zB := hB3.lt
          go_region_held3 (fun w' => w'.cell? ⟨w.heap.size, 0, none⟩ = some (.int .i64 b.room) ∧ w'.cell? ⟨w.heap.size, 1, none⟩ = some (.int .i64 b.day) ∧ w'.cell? ⟨w.heap.size, 2, none⟩ = some (.int .i64 b.frm) ∧ w'.cell? ⟨w.heap.size, 3, none⟩ = some (.int .i64 b.to_) ∧ w'.cell? ⟨w.heap.size, 4, none⟩ = some (.string b.use)) (go_keep)
            (first
              | (go_at_call 71
                 refine (cloneBooking_any _ xs lo hi _ (RdF.below h3 (B := w3.heap.size) (by (repeat (first | with_reducible assumption | with_reducible exact Below.refl _ _ | with_reducible refine Below.setCell ?_ ?_ _ | with_reducible refine Below.alloc ?_ ?_ _ | with_reducible refine Below.drew ?_ | with_reducible refine below_drewN ?_ _ | with_reducible refine Below.step (by with_reducible assumption) ?_ ?_ | omega | (simp <;> omega) | (simp; done)))) (by omega)) (by simp; omega) hm).mono ?_
                 rintro e w4 ⟨v4, rfl, hown4, b4⟩
                 have z4 : w3.heap.size ≤ w4.heap.size := by have := b4.size; simp at this; omega
                 have b34 : Below w3.heap.size w3 w4 := by (repeat (first | with_reducible assumption | with_reducible exact Below.refl _ _ | with_reducible refine Below.setCell ?_ ?_ _ | with_reducible refine Below.alloc ?_ ?_ _ | with_reducible refine Below.drew ?_ | with_reducible refine below_drewN ?_ _ | with_reducible refine Below.step (by with_reducible assumption) ?_ ?_ | omega | (simp <;> omega) | (simp; done)))
                 obtain ⟨t0, t1, t2, t3, t4⟩ := (hB3.below b34 (by omega)).five)
              | (rw [if_pos (by rfl)]; refine wp_app (enc := Booking.enc) _ _ _ _ (by rfl) w3.heap.size 41 (.agg #[.int .i64 0, .int .i64 0, .int .i64 0, .int .i64 0, .string ByteArray.empty]) 5 48 Try.underlying25 (by kernel_rfl) rfl (by omega) (fun _ => rfl) enc_one (by omega) _ _ xs [b] 0 (w4.heap.size + 1) (by rfl) (by rfl) (by first | exact hown4.mono (by first | exact Nat.le_refl _ | simp) | exact (hown4.mono (by first | exact Nat.le_refl _ | simp)).alloc _) (by first | exact RdF.one (enc := Booking.enc) (sz := 5) (x := b) (lo := 0) (hi := w4.heap.size + 1) (b := w4.heap.size) (Blk.new w4 41 #[.int .i64 b.room, .int .i64 b.day, .int .i64 b.frm, .int .i64 b.to_, .string b.use]) rfl (Nat.zero_le _) (Nat.lt_succ_self _) | exact RdF.one (enc := Booking.enc) (sz := 5) (x := b) (lo := 0) (hi := w4.heap.size + 1) (b := w3.heap.size) (Blk.below (B := w3.heap.size + 1) (Blk.drew (Blk.new w3 41 #[.int .i64 b.room, .int .i64 b.day, .int .i64 b.frm, .int .i64 b.to_, .string b.use])) (by simpa using b4) (Nat.lt_succ_self _)) rfl (Nat.zero_le _) (Nat.lt_succ_of_le z4)) (by (first | omega | (simp; omega) | (simp; done))) (by (first | omega | (simp; omega) | (simp; done))) ?_; intro v5 w5 hown5 hg5 hk5; have b35 : Below w3.heap.size w3 w5 := hk5 _ _ (Nat.le_refl _) (by (repeat (first | with_reducible assumption | with_reducible exact Below.refl _ _ | with_reducible refine Below.setCell ?_ ?_ _ | with_reducible refine Below.alloc ?_ ?_ _ | with_reducible refine Below.drew ?_ | with_reducible refine below_drewN ?_ _ | with_reducible refine Below.step (by with_reducible assumption) ?_ ?_ | omega | (simp <;> omega) | (simp; done)))); obtain ⟨t0, t1, t2, t3, t4⟩ := (hB3.below b35 (by omega)).five))
          all_goals (go_wp2_with fail; go_ret2; rw [HF.out]; exact ⟨_, rfl, (hown5.rdw (fun _ => rfl)).wide (by omega) (Nat.le_refl _), by (repeat (first | with_reducible assumption | with_reducible exact Below.refl _ _ | with_reducible refine Below.setCell ?_ ?_ _ | with_reducible refine Below.alloc ?_ ?_ _ | with_reducible refine Below.drew ?_ | with_reducible refine below_drewN ?_ _ | with_reducible refine Below.step (by with_reducible assumption) ?_ ?_ | omega | (simp <;> omega) | (simp; done)))⟩)
set_option maxRecDepth 100000 in
set_option maxHeartbeats 4000000 in
theorem sAddBookingO_any (v : Value) (xs : List Booking) (lo hi : Nat) (b : Booking) (w : World) (h : RdF Booking.enc 5 w lo hi v xs) (hh : hi ≤ w.heap.size) (hm : xs.length ≤ 1048576) (hms : ∀ x ∈ xs, Booking.small x) (hb : Booking.small b) :
    Calls Try.prog 27 #[v, .agg #[.int .i64 b.room, .int .i64 b.day, .int .i64 b.frm, .int .i64 b.to_, .string b.use]] w fun e w' => RetVC (fun v' w' => OwnL Booking.enc 5 41 w' w.heap.size v' (addBooking xs b).1) (addBooking xs b).2 w e w' := by
  have hbu : b.use.size ≤ 1048576 := hb
  cases hz : bookingsOk xs with
  | false =>
    have HF := Lib.hid (show addBooking xs b = ([], 1) by rw [addBooking, hz]; rfl)
    go_enter Try.func27, Try.ntmps27
    go_wp2_with fail
    refine (sAreBookings_any v xs _ _ _ (h.below ((Below.refl w.heap.size w).alloc (Nat.le_refl _) _) hh) (by simp; omega) hm hms).mono ?_
    rintro e w1 ⟨rfl, b1⟩
    rw [hz]
    go_wp2_with fail
    go_ret2
    rw [HF.out]
    exact ⟨_, rfl, OwnL.nil, by (repeat (first | with_reducible assumption | with_reducible exact Below.refl _ _ | with_reducible refine Below.setCell ?_ ?_ _ | with_reducible refine Below.alloc ?_ ?_ _ | with_reducible refine Below.drew ?_ | with_reducible refine below_drewN ?_ _ | with_reducible refine Below.step (by with_reducible assumption) ?_ ?_ | omega | (simp <;> omega) | (simp; done)))⟩
  | true =>
    have h0 := h.below ((Below.refl w.heap.size w).alloc (Nat.le_refl _) (.cells #[.int .i64 b.room, .int .i64 b.day, .int .i64 b.frm, .int .i64 b.to_, .string b.use] 41)) hh
    cases ho : b.ok with
    | false =>
      have HF := Lib.hid (show addBooking xs b = ([], 1) by rw [addBooking, hz, ho]; rfl)
      go_enter Try.func27, Try.ntmps27
      go_wp2_with fail
      refine (sAreBookings_any v xs _ _ _ h0 (by simp; omega) hm hms).mono ?_
      rintro e w1 ⟨rfl, b1⟩
      rw [hz]
      have z1 : w.heap.size + 1 ≤ w1.heap.size := by simpa using b1.size
      obtain ⟨q0, q1, q2, q3, q4⟩ := ((Blk.new w 41 #[.int .i64 b.room, .int .i64 b.day, .int .i64 b.frm, .int .i64 b.to_, .string b.use]).below b1 (by simp)).five
      go_wp2_with (go_at_call 60; refine (l18Is_any b _ (by omega)).mono ?_; rintro e w2 ⟨rfl, b2⟩; rw [ho])
      go_ret2
      rw [HF.out]
      exact ⟨_, rfl, OwnL.nil, by (repeat (first | with_reducible assumption | with_reducible exact Below.refl _ _ | with_reducible refine Below.setCell ?_ ?_ _ | with_reducible refine Below.alloc ?_ ?_ _ | with_reducible refine Below.drew ?_ | with_reducible refine below_drewN ?_ _ | with_reducible refine Below.step (by with_reducible assumption) ?_ ?_ | omega | (simp <;> omega) | (simp; done)))⟩
    | true =>
      by_cases hn : xs.length = 20
      · have HF := Lib.hid (show addBooking xs b = ([], 3) by rw [addBooking, hz, ho, if_pos hn]; rfl)
        have HN := Lib.hid hn; clear hn
        obtain ⟨A, c, rfl, hc, hA⟩ := h
        clear hA
        go_enter Try.func27, Try.ntmps27
        go_wp2_with fail
        refine (sAreBookings_any _ xs _ _ _ h0 (by simp; omega) hm hms).mono ?_
        rintro e w1 ⟨rfl, b1⟩
        rw [hz]
        have z1 : w.heap.size + 1 ≤ w1.heap.size := by simpa using b1.size
        obtain ⟨q0, q1, q2, q3, q4⟩ := ((Blk.new w 41 #[.int .i64 b.room, .int .i64 b.day, .int .i64 b.frm, .int .i64 b.to_, .string b.use]).below b1 (by simp)).five
        go_wp2_with fail
        refine (l18Is_any b _ (by omega)).mono ?_
        rintro e w2 ⟨rfl, b2⟩
        rw [ho]
        have hn' : (xs.length : Int) = 20 := by have := HN.out; omega
        go_wp2_with fail
        go_ret2
        rw [HF.out]
        exact ⟨_, rfl, OwnL.nil, by (repeat (first | with_reducible assumption | with_reducible exact Below.refl _ _ | with_reducible refine Below.setCell ?_ ?_ _ | with_reducible refine Below.alloc ?_ ?_ _ | with_reducible refine Below.drew ?_ | with_reducible refine below_drewN ?_ _ | with_reducible refine Below.step (by with_reducible assumption) ?_ ?_ | omega | (simp <;> omega) | (simp; done)))⟩
      · have hall := bookingsOk_all hz
        have hlt := (ok_time ho).2.1
        have HK := Lib.hid (freeK_eq (xs := xs) (r := b.room) (d := b.day) (f := b.frm) (t := b.to_) hall hlt)
        clear hall
        have h0' := h0
        obtain ⟨A, c, rfl, hc, hA⟩ := h
        clear hA
        have hms2 : ∀ x ∈ xs ++ [b], Booking.small x := fun x hx => by
          rcases List.mem_append.1 hx with h | h
          · exact hms x h
          · simp at h; rw [h]; exact hb
        have hl20 : xs.length ≤ 20 := by
          have h := hz
          simp only [bookingsOk, Bool.and_eq_true, decide_eq_true_eq] at h
          exact h.2
        clear HK hlt
        cases hf : freeB xs b.room b.day b.frm b.to_ with
        | false =>
          have HF := Lib.hid (show addBooking xs b = ([], 5) by rw [addBooking, hz, ho, if_neg hn, hf]; rfl)
          have HS := Lib.hid ((bookingsOk_snoc hz ho hn).trans hf)
          go_enter Try.func27, Try.ntmps27
          go_wp2_with fail
          refine (sAreBookings_any _ xs _ _ _ h0 (by simp; omega) hm hms).mono ?_
          rintro e w1 ⟨rfl, b1⟩
          rw [hz]
          have hB1 := (Blk.new w 41 #[.int .i64 b.room, .int .i64 b.day, .int .i64 b.frm, .int .i64 b.to_, .string b.use]).below b1 (by simp)
          obtain ⟨q0, q1, q2, q3, q4⟩ := hB1.five
          have hn' : ¬ (xs.length : Int) = 20 := by omega
          have z1 : w.heap.size + 1 ≤ w1.heap.size := by simpa using b1.size
          have h1 := h0.below b1 (by simp; omega)
          go_wp2_with fail
          refine (l18Is_any b _ (by omega)).mono ?_
          rintro e w3 ⟨rfl, b3⟩
          rw [ho]
          have hB3 := hB1.below b3 (by omega)
          clear q0 q1 q2 q3 q4
          obtain ⟨t0, t1, t2, t3, t4⟩ := hB3.five
          have z3 := b3.size
          have h3 := h1.below b3 (by omega)
          go_wp2_with fail
          have zB := hB3.lt
          go_region_held3 (fun w' => w'.cell? ⟨w.heap.size, 0, none⟩ = some (.int .i64 b.room) ∧ w'.cell? ⟨w.heap.size, 1, none⟩ = some (.int .i64 b.day) ∧ w'.cell? ⟨w.heap.size, 2, none⟩ = some (.int .i64 b.frm) ∧ w'.cell? ⟨w.heap.size, 3, none⟩ = some (.int .i64 b.to_) ∧ w'.cell? ⟨w.heap.size, 4, none⟩ = some (.string b.use)) (go_keep)
            (first
              | (rw [if_pos (by rfl)]; refine wp_app (enc := Booking.enc) _ (.tmp 18) (.tmp 19) _ (by rfl) w3.heap.size 41 (.agg #[.int .i64 0, .int .i64 0, .int .i64 0, .int .i64 0, .string ByteArray.empty]) 5 48 Try.underlying25 (by kernel_rfl) rfl (by omega) (fun _ => rfl) enc_one (by omega) _ _ [] xs lo hi (by rfl) (by rfl) (by first | exact OwnL.empty _ _ (by (first | omega | (simp; omega) | (simp; done))) | exact (OwnL.empty _ _ (by (first | omega | (simp; omega) | (simp; done)))).alloc _ | exact OwnL.emptyAt (w := w3.alloc (.cells #[.int .i64 b.room, .int .i64 b.day, .int .i64 b.frm, .int .i64 b.to_, .string b.use] 41)) (n := w3.heap.size + 1) (by simp) (by (first | omega | (simp; omega) | (simp; done)))) (RdF.below h3 (B := w3.heap.size) (by (repeat (first | with_reducible assumption | with_reducible exact Below.refl _ _ | with_reducible refine Below.setCell ?_ ?_ _ | with_reducible refine Below.alloc ?_ ?_ _ | with_reducible refine Below.drew ?_ | with_reducible refine below_drewN ?_ _ | with_reducible refine Below.step (by with_reducible assumption) ?_ ?_ | omega | (simp <;> omega) | (simp; done)))) (by omega)) (by (first | omega | (simp; omega) | (simp; done))) (by (first | omega | (simp; omega) | (simp; done))) ?_; intro v4 w4 hown4 hg4 hk4; have b34 : Below w3.heap.size w3 w4 := hk4 _ _ (Nat.le_refl _) (by (repeat (first | with_reducible assumption | with_reducible exact Below.refl _ _ | with_reducible refine Below.setCell ?_ ?_ _ | with_reducible refine Below.alloc ?_ ?_ _ | with_reducible refine Below.drew ?_ | with_reducible refine below_drewN ?_ _ | with_reducible refine Below.step (by with_reducible assumption) ?_ ?_ | omega | (simp <;> omega) | (simp; done)))); obtain ⟨t0, t1, t2, t3, t4⟩ := (hB3.below b34 (by omega)).five; have z4 := b34.size; have hs4 := hg4.size)
              | (rw [if_pos (by rfl)]; refine wp_app (enc := Booking.enc) _ (.tmp 20) (.tmp 22) _ (by rfl) w3.heap.size 41 (.agg #[.int .i64 0, .int .i64 0, .int .i64 0, .int .i64 0, .string ByteArray.empty]) 5 48 Try.underlying25 (by kernel_rfl) rfl (by omega) (fun _ => rfl) enc_one (by omega) _ _ _ [b] 0 (w4.heap.size + 1) (by rfl) (by rfl) (by first | exact hown4 | exact hown4.alloc _) (by first | exact RdF.one (enc := Booking.enc) (sz := 5) (x := b) (lo := 0) (hi := w4.heap.size + 1) (b := w4.heap.size) (Blk.new w4 41 #[.int .i64 b.room, .int .i64 b.day, .int .i64 b.frm, .int .i64 b.to_, .string b.use]) rfl (Nat.zero_le _) (Nat.lt_succ_self _) | exact RdF.one (enc := Booking.enc) (sz := 5) (x := b) (lo := 0) (hi := w4.heap.size + 1) (b := w3.heap.size + 1) (Blk.grown hg4 (Blk.drew (Blk.newAt (w := w3.alloc (.cells #[] 41)) (cs := #[.int .i64 b.room, .int .i64 b.day, .int .i64 b.frm, .int .i64 b.to_, .string b.use]) (by simp))) (fun h => by have h2 : (some (w3.heap.size + 1) : Option Nat) = some w3.heap.size := h; simp at h2)) rfl (Nat.zero_le _) (by simp at hs4; omega) | exact RdF.one (enc := Booking.enc) (sz := 5) (x := b) (lo := 0) (hi := w4.heap.size + 1) (b := w3.heap.size) (Blk.grown hg4 (Blk.drew (Blk.alloc (Blk.new w3 41 #[.int .i64 b.room, .int .i64 b.day, .int .i64 b.frm, .int .i64 b.to_, .string b.use]) _)) (fun h => by have h2 : (some w3.heap.size : Option Nat) = some (w3.heap.size + 1) := h; simp at h2)) rfl (Nat.zero_le _) (by simp at hs4; omega)) (by (first | omega | (simp; omega) | (simp; done))) (by (first | omega | (simp; omega) | (simp; done))) ?_; intro v5 w5 hown5 hg5 hk5; have b35 : Below w3.heap.size w3 w5 := hk5 _ _ (Nat.le_refl _) (by (repeat (first | with_reducible assumption | with_reducible exact Below.refl _ _ | with_reducible refine Below.setCell ?_ ?_ _ | with_reducible refine Below.alloc ?_ ?_ _ | with_reducible refine Below.drew ?_ | with_reducible refine below_drewN ?_ _ | with_reducible refine Below.step (by with_reducible assumption) ?_ ?_ | omega | (simp <;> omega) | (simp; done)))); obtain ⟨t0, t1, t2, t3, t4⟩ := (hB3.below b35 (by omega)).five))
          all_goals
            have z5 := b35.size
            have hr5 : RdF Booking.enc 5 w5 w3.heap.size w5.heap.size v5 (xs ++ [b]) := (hown5.rdw (fun _ => rfl)).rd
            go_wp2_with fail
            refine (sAreBookings_any _ (xs ++ [b]) _ _ _ hr5 (by omega) (by simp; omega) hms2).mono ?_
            rintro e w6 ⟨rfl, b6⟩
            rw [HS.out]
            go_wp2_with fail
            go_ret2
            rw [HF.out]
            exact ⟨_, rfl, OwnL.nil, by (repeat (first | with_reducible assumption | with_reducible exact Below.refl _ _ | with_reducible refine Below.setCell ?_ ?_ _ | with_reducible refine Below.alloc ?_ ?_ _ | with_reducible refine Below.drew ?_ | with_reducible refine below_drewN ?_ _ | with_reducible refine Below.step (by with_reducible assumption) ?_ ?_ | omega | (simp <;> omega) | (simp; done)))⟩
        | true =>
          have HF := Lib.hid (show addBooking xs b = (xs ++ [b], 0) by rw [addBooking, hz, ho, if_neg hn, hf]; rfl)
          have HS := Lib.hid ((bookingsOk_snoc hz ho hn).trans hf)
          go_enter Try.func27, Try.ntmps27
          go_wp2_with fail
          refine (sAreBookings_any _ xs _ _ _ h0 (by simp; omega) hm hms).mono ?_
          rintro e w1 ⟨rfl, b1⟩
          rw [hz]
          have hB1 := (Blk.new w 41 #[.int .i64 b.room, .int .i64 b.day, .int .i64 b.frm, .int .i64 b.to_, .string b.use]).below b1 (by simp)
          obtain ⟨q0, q1, q2, q3, q4⟩ := hB1.five
          have hn' : ¬ (xs.length : Int) = 20 := by omega
          have z1 : w.heap.size + 1 ≤ w1.heap.size := by simpa using b1.size
          have h1 := h0.below b1 (by simp; omega)
          go_wp2_with fail
          refine (l18Is_any b _ (by omega)).mono ?_
          rintro e w3 ⟨rfl, b3⟩
          rw [ho]
          have hB3 := hB1.below b3 (by omega)
          clear q0 q1 q2 q3 q4
          obtain ⟨t0, t1, t2, t3, t4⟩ := hB3.five
          have z3 := b3.size
          have h3 := h1.below b3 (by omega)
          go_wp2_with fail
          have zB := hB3.lt
          go_region_held3 (fun w' => w'.cell? ⟨w.heap.size, 0, none⟩ = some (.int .i64 b.room) ∧ w'.cell? ⟨w.heap.size, 1, none⟩ = some (.int .i64 b.day) ∧ w'.cell? ⟨w.heap.size, 2, none⟩ = some (.int .i64 b.frm) ∧ w'.cell? ⟨w.heap.size, 3, none⟩ = some (.int .i64 b.to_) ∧ w'.cell? ⟨w.heap.size, 4, none⟩ = some (.string b.use)) (go_keep)
            (first
              | (rw [if_pos (by rfl)]; refine wp_app (enc := Booking.enc) _ (.tmp 18) (.tmp 19) _ (by rfl) w3.heap.size 41 (.agg #[.int .i64 0, .int .i64 0, .int .i64 0, .int .i64 0, .string ByteArray.empty]) 5 48 Try.underlying25 (by kernel_rfl) rfl (by omega) (fun _ => rfl) enc_one (by omega) _ _ [] xs lo hi (by rfl) (by rfl) (by first | exact OwnL.empty _ _ (by (first | omega | (simp; omega) | (simp; done))) | exact (OwnL.empty _ _ (by (first | omega | (simp; omega) | (simp; done)))).alloc _ | exact OwnL.emptyAt (w := w3.alloc (.cells #[.int .i64 b.room, .int .i64 b.day, .int .i64 b.frm, .int .i64 b.to_, .string b.use] 41)) (n := w3.heap.size + 1) (by simp) (by (first | omega | (simp; omega) | (simp; done)))) (RdF.below h3 (B := w3.heap.size) (by (repeat (first | with_reducible assumption | with_reducible exact Below.refl _ _ | with_reducible refine Below.setCell ?_ ?_ _ | with_reducible refine Below.alloc ?_ ?_ _ | with_reducible refine Below.drew ?_ | with_reducible refine below_drewN ?_ _ | with_reducible refine Below.step (by with_reducible assumption) ?_ ?_ | omega | (simp <;> omega) | (simp; done)))) (by omega)) (by (first | omega | (simp; omega) | (simp; done))) (by (first | omega | (simp; omega) | (simp; done))) ?_; intro v4 w4 hown4 hg4 hk4; have b34 : Below w3.heap.size w3 w4 := hk4 _ _ (Nat.le_refl _) (by (repeat (first | with_reducible assumption | with_reducible exact Below.refl _ _ | with_reducible refine Below.setCell ?_ ?_ _ | with_reducible refine Below.alloc ?_ ?_ _ | with_reducible refine Below.drew ?_ | with_reducible refine below_drewN ?_ _ | with_reducible refine Below.step (by with_reducible assumption) ?_ ?_ | omega | (simp <;> omega) | (simp; done)))); obtain ⟨t0, t1, t2, t3, t4⟩ := (hB3.below b34 (by omega)).five; have z4 := b34.size; have hs4 := hg4.size)
              | (rw [if_pos (by rfl)]; refine wp_app (enc := Booking.enc) _ (.tmp 20) (.tmp 22) _ (by rfl) w3.heap.size 41 (.agg #[.int .i64 0, .int .i64 0, .int .i64 0, .int .i64 0, .string ByteArray.empty]) 5 48 Try.underlying25 (by kernel_rfl) rfl (by omega) (fun _ => rfl) enc_one (by omega) _ _ _ [b] 0 (w4.heap.size + 1) (by rfl) (by rfl) (by first | exact hown4 | exact hown4.alloc _) (by first | exact RdF.one (enc := Booking.enc) (sz := 5) (x := b) (lo := 0) (hi := w4.heap.size + 1) (b := w4.heap.size) (Blk.new w4 41 #[.int .i64 b.room, .int .i64 b.day, .int .i64 b.frm, .int .i64 b.to_, .string b.use]) rfl (Nat.zero_le _) (Nat.lt_succ_self _) | exact RdF.one (enc := Booking.enc) (sz := 5) (x := b) (lo := 0) (hi := w4.heap.size + 1) (b := w3.heap.size + 1) (Blk.grown hg4 (Blk.drew (Blk.newAt (w := w3.alloc (.cells #[] 41)) (cs := #[.int .i64 b.room, .int .i64 b.day, .int .i64 b.frm, .int .i64 b.to_, .string b.use]) (by simp))) (fun h => by have h2 : (some (w3.heap.size + 1) : Option Nat) = some w3.heap.size := h; simp at h2)) rfl (Nat.zero_le _) (by simp at hs4; omega) | exact RdF.one (enc := Booking.enc) (sz := 5) (x := b) (lo := 0) (hi := w4.heap.size + 1) (b := w3.heap.size) (Blk.grown hg4 (Blk.drew (Blk.alloc (Blk.new w3 41 #[.int .i64 b.room, .int .i64 b.day, .int .i64 b.frm, .int .i64 b.to_, .string b.use]) _)) (fun h => by have h2 : (some w3.heap.size : Option Nat) = some (w3.heap.size + 1) := h; simp at h2)) rfl (Nat.zero_le _) (by simp at hs4; omega)) (by (first | omega | (simp; omega) | (simp; done))) (by (first | omega | (simp; omega) | (simp; done))) ?_; intro v5 w5 hown5 hg5 hk5; have b35 : Below w3.heap.size w3 w5 := hk5 _ _ (Nat.le_refl _) (by (repeat (first | with_reducible assumption | with_reducible exact Below.refl _ _ | with_reducible refine Below.setCell ?_ ?_ _ | with_reducible refine Below.alloc ?_ ?_ _ | with_reducible refine Below.drew ?_ | with_reducible refine below_drewN ?_ _ | with_reducible refine Below.step (by with_reducible assumption) ?_ ?_ | omega | (simp <;> omega) | (simp; done)))); obtain ⟨t0, t1, t2, t3, t4⟩ := (hB3.below b35 (by omega)).five))
          all_goals
            have z5 := b35.size
            have hr5 : RdF Booking.enc 5 w5 w3.heap.size w5.heap.size v5 (xs ++ [b]) := (hown5.rdw (fun _ => rfl)).rd
            go_wp2_with fail
            refine (sAreBookings_any _ (xs ++ [b]) _ _ _ hr5 (by omega) (by simp; omega) hms2).mono ?_
            rintro e w6 ⟨rfl, b6⟩
            rw [HS.out]
            go_wp2_with fail
            go_ret2
            rw [HF.out]
            exact ⟨_, rfl, (hown5.below b6).mono (by omega), by (repeat (first | with_reducible assumption | with_reducible exact Below.refl _ _ | with_reducible refine Below.setCell ?_ ?_ _ | with_reducible refine Below.alloc ?_ ?_ _ | with_reducible refine Below.drew ?_ | with_reducible refine below_drewN ?_ _ | with_reducible refine Below.step (by with_reducible assumption) ?_ ?_ | omega | (simp <;> omega) | (simp; done)))⟩
theorem sAddBooking_any (v : Value) (xs : List Booking) (lo hi : Nat) (b : Booking) (w : World) (h : RdF Booking.enc 5 w lo hi v xs) (hh : hi ≤ w.heap.size) (hm : xs.length ≤ 1048576) (hms : ∀ x ∈ xs, Booking.small x) (hb : Booking.small b) :
    Calls Try.prog 27 #[v, .agg #[.int .i64 b.room, .int .i64 b.day, .int .i64 b.frm, .int .i64 b.to_, .string b.use]] w fun e w' => RetVC (fun v' w' => RdW Booking.enc 5 41 w' w.heap.size w'.heap.size v' (addBooking xs b).1) (addBooking xs b).2 w e w' :=
  (sAddBookingO_any v xs lo hi b w h hh hm hms hb).mono (by
    rintro e w' ⟨v', he, ho, hb⟩
    exact ⟨v', he, ho.rdw (fun _ => rfl), hb⟩)
end Go.Proofs.Ythodceeioinnoaa
