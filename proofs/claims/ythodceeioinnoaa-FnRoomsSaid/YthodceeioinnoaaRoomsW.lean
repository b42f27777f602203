/- Walks of the rooms' functions that return numbers. -/
import Derived.Test.YthodceeioinnoaaRoomsP
namespace Go.Proofs.Ythodceeioinnoaa
open Go.RowKit
set_option linter.unusedVariables false

set_option maxHeartbeats 800000 in
theorem roomCode_any (v : Value) (xs : List Booking) (lo hi : Nat) (r d : Int) (w : World) (h : RdF Booking.enc 5 w lo hi v xs) (hh : hi ≤ w.heap.size) (hm : xs.length ≤ 1048576) (hms : ∀ x ∈ xs, Booking.small x) :
    Calls Try.prog 68 #[v, .int .i64 r, .int .i64 d] w fun e w' => e = .returned (.int .i64 (roomCode xs r d)) ∧ Below w.heap.size w w' := by
  have H := Lib.hid (fun W hb hz => areBookings_any v xs lo hi W (h.below (w' := W) hb hh) hz hm hms)
  clear h
  go_enter Try.func68, Try.ntmps68
  go_wp2_with (first | (go_at_call 18; refine (H.out _ (Below.refl _ _) hh).mono ?_; rintro e w1 ⟨rfl, b1⟩) | (go_at_call 96; refine (isCourtRoom_any _ _).mono ?_; rintro e w' ⟨rfl, rfl⟩) | (go_at_call 88; refine (isDay_any _ _).mono ?_; rintro e w' ⟨rfl, rfl⟩))
  all_goals (go_ret; exact ⟨ret_int (by simp_all [roomCode]), by (repeat (first | with_reducible assumption | with_reducible exact Below.refl _ _ | with_reducible refine Below.setCell ?_ ?_ _ | with_reducible refine Below.alloc ?_ ?_ _ | with_reducible refine Below.drew ?_ | with_reducible refine below_drewN ?_ _ | with_reducible refine Below.step (by with_reducible assumption) ?_ ?_ | omega | (simp <;> omega) | (simp; done)))⟩)
set_option maxHeartbeats 800000 in
theorem l18Code_any (v : Value) (xs : List Booking) (lo hi : Nat) (r d : Int) (w : World) (h : RdF Booking.enc 5 w lo hi v xs) (hh : hi ≤ w.heap.size) (hm : xs.length ≤ 1048576) (hms : ∀ x ∈ xs, Booking.small x) :
    Calls Try.prog 66 #[v, .int .i64 r, .int .i64 d] w fun e w' => e = .returned (.int .i64 (roomCode xs r d)) ∧ Below w.heap.size w w' := by
  have H := Lib.hid (fun W hb hz => sAreBookings_any v xs lo hi W (h.below (w' := W) hb hh) hz hm hms)
  clear h
  go_enter Try.func66, Try.ntmps66
  go_wp2_with (first | (go_at_call 16; refine (H.out _ (Below.refl _ _) hh).mono ?_; rintro e w1 ⟨rfl, b1⟩) | (go_at_call 69; refine (l01In_any _ _ _ _).mono ?_; rintro e w' ⟨rfl, rfl⟩) | (go_at_call 85; refine (l02Is_any _ _).mono ?_; rintro e w' ⟨rfl, rfl⟩))
  all_goals (go_ret; exact ⟨ret_int (by simp_all [roomCode, roomOk]), by (repeat (first | with_reducible assumption | with_reducible exact Below.refl _ _ | with_reducible refine Below.setCell ?_ ?_ _ | with_reducible refine Below.alloc ?_ ?_ _ | with_reducible refine Below.drew ?_ | with_reducible refine below_drewN ?_ _ | with_reducible refine Below.step (by with_reducible assumption) ?_ ?_ | omega | (simp <;> omega) | (simp; done)))⟩)

set_option maxHeartbeats 1000000 in
theorem firstFree_any (v : Value) (xs : List Booking) (lo hi : Nat) (r d l : Int) (w : World) (h : RdF Booking.enc 5 w lo hi v xs) (hh : hi ≤ w.heap.size) (hm : xs.length ≤ 1048576) (hms : ∀ x ∈ xs, Booking.small x) :
    Calls Try.prog 23 #[v, .int .i64 r, .int .i64 d, .int .i64 l] w fun e w' => e = .returned (.tuple #[.int .i64 (firstFree xs r d l).1, .int .i64 (firstFree xs r d l).2]) ∧ Below w.heap.size w w' := by
  by_cases hz : roomCode xs r d = 0
  · have hall := bookingsOk_all (roomCode_ok hz)
    cases hl : inR l 1 36 with
    | false =>
      have HF := Lib.hid (show firstFree xs r d l = (0, 2) by rw [firstFree, if_pos hz, hl]; rfl)
      have HZ := Lib.hid hz; clear hz
      go_enter Try.func23, Try.ntmps23
      go_wp2_with fail
      refine (roomCode_any v xs _ _ r d _ h hh hm hms).mono ?_
      rintro e w1 ⟨rfl, b1⟩
      rw [HZ.out]
      go_wp2_with (go_at_call 70; refine (within_any _ _ _ _).mono ?_; rintro e w' ⟨rfl, rfl⟩)
      go_ret2
      exact ⟨ret_pair (by rw [HF.out]), by (repeat (first | with_reducible assumption | with_reducible exact Below.refl _ _ | with_reducible refine Below.setCell ?_ ?_ _ | with_reducible refine Below.alloc ?_ ?_ _ | with_reducible refine Below.drew ?_ | with_reducible refine below_drewN ?_ _ | with_reducible refine Below.step (by with_reducible assumption) ?_ ?_ | omega | (simp <;> omega) | (simp; done)))⟩
    | true =>
      have hl' := inR_iff.1 hl
      have HL := Lib.hid (show firstFree xs r d l = orNone (firstQ (freeAt xs r d l) (37 - l.toNat)) by rw [firstFree, if_pos hz, if_pos hl])
      have HZ := Lib.hid hz; clear hz
      have HK := Lib.hid (fun (q : Int) => freeK_eq (xs := xs) (r := r) (d := d) (f := q) (t := q + l) hall (by omega))
      clear hall
      go_enter Try.func23, Try.ntmps23
      go_wp2_with fail
      refine (roomCode_any v xs _ _ r d _ h hh hm hms).mono ?_
      rintro e w1 ⟨rfl, b1⟩
      have z1 := b1.size
      have h1 := h.below b1 hh
      clear h
      rw [HZ.out]
      go_wp2_with (go_at_call 70; refine (within_any _ _ _ _).mono ?_; rintro e w' ⟨rfl, rfl⟩; rw [hl])
      go_loopw [11] (fun i wr => ∃ k : Nat, (k : Int) ≤ 37 - l ∧ i = .int .i64 k ∧ Hid (∀ q, q < k → freeAt xs r d l q = false) ∧ Below w1.heap.size w1 wr) (fun i _ => 37 - (intOf i).toNat)
      case atStart => exact ⟨0, by omega, rfl, fun q hq => by omega, Below.refl _ _⟩
      case round =>
        obtain ⟨k, hk, rfl, HA, hb⟩ := hrel
        have z2 := hb.size
        by_cases hlt : (k : Int) + l ≤ 36
        · cases hf : freeAt xs r d l k with
          | true =>
            have hf' := (HK.out k).trans hf
            go_wp2_with (go_at_call 63; refine (isFree_any v xs _ _ r d _ _ _ (h1.below hb (by omega)) (by omega) hm).mono ?_; rintro e w2 ⟨rfl, b2⟩; rw [hf'])
            go_ret2
            exact ⟨ret_pair (by rw [HL.out, firstQ_some HA.out hf (by omega), orNone]), by (repeat (first | with_reducible assumption | with_reducible exact Below.refl _ _ | with_reducible refine Below.setCell ?_ ?_ _ | with_reducible refine Below.alloc ?_ ?_ _ | with_reducible refine Below.drew ?_ | with_reducible refine below_drewN ?_ _ | with_reducible refine Below.step (by with_reducible assumption) ?_ ?_ | omega | (simp <;> omega) | (simp; done)))⟩
          | false =>
            have hf' := (HK.out k).trans hf
            go_wp2_with (go_at_call 63; refine (isFree_any v xs _ _ r d _ _ _ (h1.below hb (by omega)) (by omega) hm).mono ?_; rintro e w2 ⟨rfl, b2⟩; rw [hf'])
            go_roundw
            case rel => exact ⟨k + 1, by omega, by go_num, (fun q hq => by rcases Nat.lt_succ_iff_lt_or_eq.1 hq with h | h; exact HA.out q h; rw [h]; exact hf), by (repeat (first | with_reducible assumption | with_reducible exact Below.refl _ _ | with_reducible refine Below.setCell ?_ ?_ _ | with_reducible refine Below.alloc ?_ ?_ _ | with_reducible refine Below.drew ?_ | with_reducible refine below_drewN ?_ _ | with_reducible refine Below.step (by with_reducible assumption) ?_ ?_ | omega | (simp <;> omega) | (simp; done)))⟩
            case measure => simp [intOf]; omega
        · go_wp2_with fail
          go_ret2
          exact ⟨ret_pair (by rw [HL.out, firstQ_none (fun q hq => HA.out q (by omega)), orNone]), by (repeat (first | with_reducible assumption | with_reducible exact Below.refl _ _ | with_reducible refine Below.setCell ?_ ?_ _ | with_reducible refine Below.alloc ?_ ?_ _ | with_reducible refine Below.drew ?_ | with_reducible refine below_drewN ?_ _ | with_reducible refine Below.step (by with_reducible assumption) ?_ ?_ | omega | (simp <;> omega) | (simp; done)))⟩
  · have HF := Lib.hid (show firstFree xs r d l = (0, roomCode xs r d) by rw [firstFree, if_neg hz])
    have hne : (roomCode xs r d != 0) = true := by simpa using hz
    generalize hc : roomCode xs r d = c at *
    have HC := Lib.hid hc; clear hc
    go_enter Try.func23, Try.ntmps23
    go_wp2_with fail
    refine (roomCode_any v xs _ _ r d _ h hh hm hms).mono ?_
    rintro e w1 ⟨rfl, b1⟩
    rw [HC.out]
    go_wp2_with fail
    go_ret2
    exact ⟨ret_pair (by rw [HF.out]), by (repeat (first | with_reducible assumption | with_reducible exact Below.refl _ _ | with_reducible refine Below.setCell ?_ ?_ _ | with_reducible refine Below.alloc ?_ ?_ _ | with_reducible refine Below.drew ?_ | with_reducible refine below_drewN ?_ _ | with_reducible refine Below.step (by with_reducible assumption) ?_ ?_ | omega | (simp <;> omega) | (simp; done)))⟩
set_option maxHeartbeats 1000000 in
theorem sFirstFree_any (v : Value) (xs : List Booking) (lo hi : Nat) (r d l : Int) (w : World) (h : RdF Booking.enc 5 w lo hi v xs) (hh : hi ≤ w.heap.size) (hm : xs.length ≤ 1048576) (hms : ∀ x ∈ xs, Booking.small x) :
    Calls Try.prog 22 #[v, .int .i64 r, .int .i64 d, .int .i64 l] w fun e w' => e = .returned (.tuple #[.int .i64 (firstFree xs r d l).1, .int .i64 (firstFree xs r d l).2]) ∧ Below w.heap.size w w' := by
  by_cases hz : roomCode xs r d = 0
  · have hall := bookingsOk_all (roomCode_ok hz)
    cases hl : inR l 1 36 with
    | false =>
      have HF := Lib.hid (show firstFree xs r d l = (0, 2) by rw [firstFree, if_pos hz, hl]; rfl)
      have HZ := Lib.hid hz; clear hz
      go_enter Try.func22, Try.ntmps22
      go_wp2_with fail
      refine (l18Code_any v xs _ _ r d _ h hh hm hms).mono ?_
      rintro e w1 ⟨rfl, b1⟩
      rw [HZ.out]
      go_wp2_with (go_at_call 69; refine (l01In_any _ _ _ _).mono ?_; rintro e w' ⟨rfl, rfl⟩)
      go_ret2
      exact ⟨ret_pair (by rw [HF.out]), by (repeat (first | with_reducible assumption | with_reducible exact Below.refl _ _ | with_reducible refine Below.setCell ?_ ?_ _ | with_reducible refine Below.alloc ?_ ?_ _ | with_reducible refine Below.drew ?_ | with_reducible refine below_drewN ?_ _ | with_reducible refine Below.step (by with_reducible assumption) ?_ ?_ | omega | (simp <;> omega) | (simp; done)))⟩
    | true =>
      have hl' := inR_iff.1 hl
      have HL := Lib.hid (show firstFree xs r d l = orNone (firstQ (freeAt xs r d l) (37 - l.toNat)) by rw [firstFree, if_pos hz, if_pos hl])
      have HZ := Lib.hid hz; clear hz
      have HK := Lib.hid (fun (q : Int) => freeK_eq (xs := xs) (r := r) (d := d) (f := q) (t := q + l) hall (by omega))
      clear hall
      go_enter Try.func22, Try.ntmps22
      go_wp2_with fail
      refine (l18Code_any v xs _ _ r d _ h hh hm hms).mono ?_
      rintro e w1 ⟨rfl, b1⟩
      have z1 := b1.size
      have h1 := h.below b1 hh
      clear h
      rw [HZ.out]
      go_wp2_with (go_at_call 69; refine (l01In_any _ _ _ _).mono ?_; rintro e w' ⟨rfl, rfl⟩; rw [hl])
      go_loopw [11] (fun i wr => ∃ k : Nat, (k : Int) ≤ 37 - l ∧ i = .int .i64 k ∧ Hid (∀ q, q < k → freeAt xs r d l q = false) ∧ Below w1.heap.size w1 wr) (fun i _ => 37 - (intOf i).toNat)
      case atStart => exact ⟨0, by omega, rfl, fun q hq => by omega, Below.refl _ _⟩
      case round =>
        obtain ⟨k, hk, rfl, HA, hb⟩ := hrel
        have z2 := hb.size
        by_cases hlt : (k : Int) + l ≤ 36
        · cases hf : freeAt xs r d l k with
          | true =>
            have hf' : freeB xs r d (k : Int) ((k : Int) + l) = _ := hf
            go_wp2_with (go_at_call 67; refine (l18Free_any v xs _ _ r d _ _ _ (h1.below hb (by omega)) (by omega) hm).mono ?_; rintro e w2 ⟨rfl, b2⟩; rw [hf'])
            go_ret2
            exact ⟨ret_pair (by rw [HL.out, firstQ_some HA.out hf (by omega), orNone]), by (repeat (first | with_reducible assumption | with_reducible exact Below.refl _ _ | with_reducible refine Below.setCell ?_ ?_ _ | with_reducible refine Below.alloc ?_ ?_ _ | with_reducible refine Below.drew ?_ | with_reducible refine below_drewN ?_ _ | with_reducible refine Below.step (by with_reducible assumption) ?_ ?_ | omega | (simp <;> omega) | (simp; done)))⟩
          | false =>
            have hf' : freeB xs r d (k : Int) ((k : Int) + l) = _ := hf
            go_wp2_with (go_at_call 67; refine (l18Free_any v xs _ _ r d _ _ _ (h1.below hb (by omega)) (by omega) hm).mono ?_; rintro e w2 ⟨rfl, b2⟩; rw [hf'])
            go_roundw
            case rel => exact ⟨k + 1, by omega, by go_num, (fun q hq => by rcases Nat.lt_succ_iff_lt_or_eq.1 hq with h | h; exact HA.out q h; rw [h]; exact hf), by (repeat (first | with_reducible assumption | with_reducible exact Below.refl _ _ | with_reducible refine Below.setCell ?_ ?_ _ | with_reducible refine Below.alloc ?_ ?_ _ | with_reducible refine Below.drew ?_ | with_reducible refine below_drewN ?_ _ | with_reducible refine Below.step (by with_reducible assumption) ?_ ?_ | omega | (simp <;> omega) | (simp; done)))⟩
            case measure => simp [intOf]; omega
        · go_wp2_with fail
          go_ret2
          exact ⟨ret_pair (by rw [HL.out, firstQ_none (fun q hq => HA.out q (by omega)), orNone]), by (repeat (first | with_reducible assumption | with_reducible exact Below.refl _ _ | with_reducible refine Below.setCell ?_ ?_ _ | with_reducible refine Below.alloc ?_ ?_ _ | with_reducible refine Below.drew ?_ | with_reducible refine below_drewN ?_ _ | with_reducible refine Below.step (by with_reducible assumption) ?_ ?_ | omega | (simp <;> omega) | (simp; done)))⟩
  · have HF := Lib.hid (show firstFree xs r d l = (0, roomCode xs r d) by rw [firstFree, if_neg hz])
    have hne : (roomCode xs r d != 0) = true := by simpa using hz
    generalize hc : roomCode xs r d = c at *
    have HC := Lib.hid hc; clear hc
    go_enter Try.func22, Try.ntmps22
    go_wp2_with fail
    refine (l18Code_any v xs _ _ r d _ h hh hm hms).mono ?_
    rintro e w1 ⟨rfl, b1⟩
    rw [HC.out]
    go_wp2_with fail
    go_ret2
    exact ⟨ret_pair (by rw [HF.out]), by (repeat (first | with_reducible assumption | with_reducible exact Below.refl _ _ | with_reducible refine Below.setCell ?_ ?_ _ | with_reducible refine Below.alloc ?_ ?_ _ | with_reducible refine Below.drew ?_ | with_reducible refine below_drewN ?_ _ | with_reducible refine Below.step (by with_reducible assumption) ?_ ?_ | omega | (simp <;> omega) | (simp; done)))⟩
set_option maxHeartbeats 1000000 in
theorem longestGap_any (v : Value) (xs : List Booking) (lo hi : Nat) (r d : Int) (w : World) (h : RdF Booking.enc 5 w lo hi v xs) (hh : hi ≤ w.heap.size) (hm : xs.length ≤ 1048576) (hms : ∀ x ∈ xs, Booking.small x) :
    Calls Try.prog 25 #[v, .int .i64 r, .int .i64 d] w fun e w' => e = .returned (.tuple #[.int .i64 (longestGap xs r d).1, .int .i64 (longestGap xs r d).2.1, .int .i64 (longestGap xs r d).2.2]) ∧ Below w.heap.size w w' := by
  by_cases hz : roomCode xs r d = 0
  · have hall := bookingsOk_all (roomCode_ok hz)
    have HL := Lib.hid (show longestGap xs r d = (let s := gapTo (freeAt xs r d 1) 36; if s.2.1 = 0 then (0, 0, 4) else (s.1, s.2.1, 0)) by rw [longestGap, if_pos hz])
    have HZ := Lib.hid hz; clear hz
    have HK := Lib.hid (fun (q : Int) => freeK_eq (xs := xs) (r := r) (d := d) (f := q) (t := q + 1) hall (by omega))
    clear hall
    go_enter Try.func25, Try.ntmps25
    go_wp2_with fail
    refine (roomCode_any v xs _ _ r d _ h hh hm hms).mono ?_
    rintro e w1 ⟨rfl, b1⟩
    have z1 := b1.size
    have h1 := h.below b1 hh
    clear h
    rw [HZ.out]
    go_wp2_with fail
    go_loopw [10, 11, 12, 13, 21] (fun f m l _ i wr => ∃ k : Nat, k ≤ 36 ∧ i = .int .i64 k ∧ ∃ s : Int × Int × Int, Hid (s = gapTo (freeAt xs r d 1) k) ∧ f = .int .i64 s.1 ∧ m = .int .i64 s.2.1 ∧ l = .int .i64 s.2.2 ∧ Below w1.heap.size w1 wr) (fun _ _ _ _ i _ => 36 - (intOf i).toNat)
    case atStart => exact ⟨0, by omega, rfl, (0, 0, 0), rfl, rfl, rfl, rfl, Below.refl _ _⟩
    case round =>
      obtain ⟨k, hk, rfl, ⟨f, m, l⟩, HS, rfl, rfl, rfl, hb⟩ := hrel
      have z2 := hb.size
      have bd := gapTo_bd (freeAt xs r d 1) k
      rw [← HS.out] at bd
      obtain ⟨q1, q2, q3, q4, q5, q6⟩ := bd
      simp only at q1 q2 q3 q4 q5 q6
      by_cases hlt : k < 36
      · have hk36 : (k : Int) < 36 := by omega
        have HN := Lib.hid (gapTo_succ (freeAt xs r d 1) k)
        cases hf : freeAt xs r d 1 k with
        | true =>
          have hf' : freeK xs r d (k : Int) ((k : Int) + 1) = true := (HK.out k).trans hf
          have HF := Lib.hid hf; clear hf
          by_cases hg : m < l + 1
          · go_wp2_with (go_at_call 63; refine (isFree_any v xs _ _ r d _ _ _ (h1.below hb (by omega)) (by omega) hm).mono ?_; rintro e w2 ⟨rfl, b2⟩; rw [hf'])
            go_roundw
            case rel => exact ⟨k + 1, by omega, by go_num, ((k : Int) - (l + 1) + 1, l + 1, l + 1), (by show _ = _; rw [HN.out, ← HS.out]; simp [gapStep, HF.out, hg]), by go_num, rfl, rfl, by (repeat (first | with_reducible assumption | with_reducible exact Below.refl _ _ | with_reducible refine Below.setCell ?_ ?_ _ | with_reducible refine Below.alloc ?_ ?_ _ | with_reducible refine Below.drew ?_ | with_reducible refine below_drewN ?_ _ | with_reducible refine Below.step (by with_reducible assumption) ?_ ?_ | omega | (simp <;> omega) | (simp; done)))⟩
            case measure => simp [intOf]; omega
          · go_wp2_with (go_at_call 63; refine (isFree_any v xs _ _ r d _ _ _ (h1.below hb (by omega)) (by omega) hm).mono ?_; rintro e w2 ⟨rfl, b2⟩; rw [hf'])
            go_roundw
            case rel => exact ⟨k + 1, by omega, by go_num, (f, m, l + 1), (by show _ = _; rw [HN.out, ← HS.out]; simp [gapStep, HF.out]; omega), rfl, rfl, rfl, by (repeat (first | with_reducible assumption | with_reducible exact Below.refl _ _ | with_reducible refine Below.setCell ?_ ?_ _ | with_reducible refine Below.alloc ?_ ?_ _ | with_reducible refine Below.drew ?_ | with_reducible refine below_drewN ?_ _ | with_reducible refine Below.step (by with_reducible assumption) ?_ ?_ | omega | (simp <;> omega) | (simp; done)))⟩
            case measure => simp [intOf]; omega
        | false =>
          have hf' : freeK xs r d (k : Int) ((k : Int) + 1) = false := (HK.out k).trans hf
          have HF := Lib.hid hf; clear hf
          go_wp2_with (go_at_call 63; refine (isFree_any v xs _ _ r d _ _ _ (h1.below hb (by omega)) (by omega) hm).mono ?_; rintro e w2 ⟨rfl, b2⟩; rw [hf'])
          go_roundw
          case rel => exact ⟨k + 1, by omega, by go_num, (f, m, 0), (by show _ = _; rw [HN.out, ← HS.out]; simp [gapStep, HF.out]; omega), rfl, rfl, rfl, by (repeat (first | with_reducible assumption | with_reducible exact Below.refl _ _ | with_reducible refine Below.setCell ?_ ?_ _ | with_reducible refine Below.alloc ?_ ?_ _ | with_reducible refine Below.drew ?_ | with_reducible refine below_drewN ?_ _ | with_reducible refine Below.step (by with_reducible assumption) ?_ ?_ | omega | (simp <;> omega) | (simp; done)))⟩
          case measure => simp [intOf]; omega
      · have HS' : Hid ((f, m, l) = gapTo (freeAt xs r d 1) 36) := by
          have e : k = 36 := by omega
          rw [← e]; exact HS
        by_cases hm0 : m = 0
        · subst hm0
          go_wp2_with fail
          go_ret3
          exact ⟨ret_three (by rw [HL.out, ← HS'.out]; rfl), by (repeat (first | with_reducible assumption | with_reducible exact Below.refl _ _ | with_reducible refine Below.setCell ?_ ?_ _ | with_reducible refine Below.alloc ?_ ?_ _ | with_reducible refine Below.drew ?_ | with_reducible refine below_drewN ?_ _ | with_reducible refine Below.step (by with_reducible assumption) ?_ ?_ | omega | (simp <;> omega) | (simp; done)))⟩
        · have hne : (m == 0) = false := by simpa using hm0
          go_wp2_with fail
          go_ret3
          exact ⟨ret_three (by rw [HL.out, ← HS'.out]; simp [hm0]), by (repeat (first | with_reducible assumption | with_reducible exact Below.refl _ _ | with_reducible refine Below.setCell ?_ ?_ _ | with_reducible refine Below.alloc ?_ ?_ _ | with_reducible refine Below.drew ?_ | with_reducible refine below_drewN ?_ _ | with_reducible refine Below.step (by with_reducible assumption) ?_ ?_ | omega | (simp <;> omega) | (simp; done)))⟩
  · have HF := Lib.hid (show longestGap xs r d = (0, 0, roomCode xs r d) by rw [longestGap, if_neg hz])
    have hne : (roomCode xs r d != 0) = true := by simpa using hz
    generalize hc : roomCode xs r d = c at *
    have HC := Lib.hid hc; clear hc
    go_enter Try.func25, Try.ntmps25
    go_wp2_with fail
    refine (roomCode_any v xs _ _ r d _ h hh hm hms).mono ?_
    rintro e w1 ⟨rfl, b1⟩
    rw [HC.out]
    go_wp2_with fail
    go_ret3
    exact ⟨ret_three (by rw [HF.out]), by (repeat (first | with_reducible assumption | with_reducible exact Below.refl _ _ | with_reducible refine Below.setCell ?_ ?_ _ | with_reducible refine Below.alloc ?_ ?_ _ | with_reducible refine Below.drew ?_ | with_reducible refine below_drewN ?_ _ | with_reducible refine Below.step (by with_reducible assumption) ?_ ?_ | omega | (simp <;> omega) | (simp; done)))⟩
set_option maxHeartbeats 1000000 in
theorem sLongestGap_any (v : Value) (xs : List Booking) (lo hi : Nat) (r d : Int) (w : World) (h : RdF Booking.enc 5 w lo hi v xs) (hh : hi ≤ w.heap.size) (hm : xs.length ≤ 1048576) (hms : ∀ x ∈ xs, Booking.small x) :
    Calls Try.prog 24 #[v, .int .i64 r, .int .i64 d] w fun e w' => e = .returned (.tuple #[.int .i64 (longestGap xs r d).1, .int .i64 (longestGap xs r d).2.1, .int .i64 (longestGap xs r d).2.2]) ∧ Below w.heap.size w w' := by
  by_cases hz : roomCode xs r d = 0
  · have hall := bookingsOk_all (roomCode_ok hz)
    have HL := Lib.hid (show longestGap xs r d = (let s := gapTo (freeAt xs r d 1) 36; if s.2.1 = 0 then (0, 0, 4) else (s.1, s.2.1, 0)) by rw [longestGap, if_pos hz])
    have HZ := Lib.hid hz; clear hz
    have HK := Lib.hid (fun (q : Int) => freeK_eq (xs := xs) (r := r) (d := d) (f := q) (t := q + 1) hall (by omega))
    clear hall
    go_enter Try.func24, Try.ntmps24
    go_wp2_with fail
    refine (l18Code_any v xs _ _ r d _ h hh hm hms).mono ?_
    rintro e w1 ⟨rfl, b1⟩
    have z1 := b1.size
    have h1 := h.below b1 hh
    clear h
    rw [HZ.out]
    go_wp2_with fail
    go_loopw [10, 11, 12, 13] (fun f m l i wr => ∃ k : Nat, k ≤ 36 ∧ i = .int .i64 k ∧ ∃ s : Int × Int × Int, Hid (s = gapTo (freeAt xs r d 1) k) ∧ f = .int .i64 s.1 ∧ m = .int .i64 s.2.1 ∧ l = .int .i64 s.2.2 ∧ Below w1.heap.size w1 wr) (fun _ _ _ i _ => 36 - (intOf i).toNat)
    case atStart => exact ⟨0, by omega, rfl, (0, 0, 0), rfl, rfl, rfl, rfl, Below.refl _ _⟩
    case round =>
      obtain ⟨k, hk, rfl, ⟨f, m, l⟩, HS, rfl, rfl, rfl, hb⟩ := hrel
      have z2 := hb.size
      have bd := gapTo_bd (freeAt xs r d 1) k
      rw [← HS.out] at bd
      obtain ⟨q1, q2, q3, q4, q5, q6⟩ := bd
      simp only at q1 q2 q3 q4 q5 q6
      by_cases hlt : k < 36
      · have hk36 : (k : Int) < 36 := by omega
        have HN := Lib.hid (gapTo_succ (freeAt xs r d 1) k)
        cases hf : freeAt xs r d 1 k with
        | true =>
          have hf' : freeB xs r d (k : Int) ((k : Int) + 1) = true := hf
          have HF := Lib.hid hf; clear hf
          by_cases hg : m < l + 1
          · go_wp2_with (go_at_call 67; refine (l18Free_any v xs _ _ r d _ _ _ (h1.below hb (by omega)) (by omega) hm).mono ?_; rintro e w2 ⟨rfl, b2⟩; rw [hf'])
            go_roundw
            case rel => exact ⟨k + 1, by omega, by go_num, ((k : Int) - (l + 1) + 1, l + 1, l + 1), (by show _ = _; rw [HN.out, ← HS.out]; simp [gapStep, HF.out, hg]), by go_num, rfl, rfl, by (repeat (first | with_reducible assumption | with_reducible exact Below.refl _ _ | with_reducible refine Below.setCell ?_ ?_ _ | with_reducible refine Below.alloc ?_ ?_ _ | with_reducible refine Below.drew ?_ | with_reducible refine below_drewN ?_ _ | with_reducible refine Below.step (by with_reducible assumption) ?_ ?_ | omega | (simp <;> omega) | (simp; done)))⟩
            case measure => simp [intOf]; omega
          · go_wp2_with (go_at_call 67; refine (l18Free_any v xs _ _ r d _ _ _ (h1.below hb (by omega)) (by omega) hm).mono ?_; rintro e w2 ⟨rfl, b2⟩; rw [hf'])
            go_roundw
            case rel => exact ⟨k + 1, by omega, by go_num, (f, m, l + 1), (by show _ = _; rw [HN.out, ← HS.out]; simp [gapStep, HF.out]; omega), rfl, rfl, rfl, by (repeat (first | with_reducible assumption | with_reducible exact Below.refl _ _ | with_reducible refine Below.setCell ?_ ?_ _ | with_reducible refine Below.alloc ?_ ?_ _ | with_reducible refine Below.drew ?_ | with_reducible refine below_drewN ?_ _ | with_reducible refine Below.step (by with_reducible assumption) ?_ ?_ | omega | (simp <;> omega) | (simp; done)))⟩
            case measure => simp [intOf]; omega
        | false =>
          have hf' : freeB xs r d (k : Int) ((k : Int) + 1) = false := hf
          have HF := Lib.hid hf; clear hf
          go_wp2_with (go_at_call 67; refine (l18Free_any v xs _ _ r d _ _ _ (h1.below hb (by omega)) (by omega) hm).mono ?_; rintro e w2 ⟨rfl, b2⟩; rw [hf'])
          go_roundw
          case rel => exact ⟨k + 1, by omega, by go_num, (f, m, 0), (by show _ = _; rw [HN.out, ← HS.out]; simp [gapStep, HF.out]; omega), rfl, rfl, rfl, by (repeat (first | with_reducible assumption | with_reducible exact Below.refl _ _ | with_reducible refine Below.setCell ?_ ?_ _ | with_reducible refine Below.alloc ?_ ?_ _ | with_reducible refine Below.drew ?_ | with_reducible refine below_drewN ?_ _ | with_reducible refine Below.step (by with_reducible assumption) ?_ ?_ | omega | (simp <;> omega) | (simp; done)))⟩
          case measure => simp [intOf]; omega
      · have HS' : Hid ((f, m, l) = gapTo (freeAt xs r d 1) 36) := by
          have e : k = 36 := by omega
          rw [← e]; exact HS
        by_cases hm0 : m = 0
        · subst hm0
          go_wp2_with fail
          go_ret3
          exact ⟨ret_three (by rw [HL.out, ← HS'.out]; rfl), by (repeat (first | with_reducible assumption | with_reducible exact Below.refl _ _ | with_reducible refine Below.setCell ?_ ?_ _ | with_reducible refine Below.alloc ?_ ?_ _ | with_reducible refine Below.drew ?_ | with_reducible refine below_drewN ?_ _ | with_reducible refine Below.step (by with_reducible assumption) ?_ ?_ | omega | (simp <;> omega) | (simp; done)))⟩
        · have hne : (m == 0) = false := by simpa using hm0
          go_wp2_with fail
          go_ret3
          exact ⟨ret_three (by rw [HL.out, ← HS'.out]; simp [hm0]), by (repeat (first | with_reducible assumption | with_reducible exact Below.refl _ _ | with_reducible refine Below.setCell ?_ ?_ _ | with_reducible refine Below.alloc ?_ ?_ _ | with_reducible refine Below.drew ?_ | with_reducible refine below_drewN ?_ _ | with_reducible refine Below.step (by with_reducible assumption) ?_ ?_ | omega | (simp <;> omega) | (simp; done)))⟩
  · have HF := Lib.hid (show longestGap xs r d = (0, 0, roomCode xs r d) by rw [longestGap, if_neg hz])
    have hne : (roomCode xs r d != 0) = true := by simpa using hz
    generalize hc : roomCode xs r d = c at *
    have HC := Lib.hid hc; clear hc
    go_enter Try.func24, Try.ntmps24
    go_wp2_with fail
    refine (l18Code_any v xs _ _ r d _ h hh hm hms).mono ?_
    rintro e w1 ⟨rfl, b1⟩
    rw [HC.out]
    go_wp2_with fail
    go_ret3
    exact ⟨ret_three (by rw [HF.out]), by (repeat (first | with_reducible assumption | with_reducible exact Below.refl _ _ | with_reducible refine Below.setCell ?_ ?_ _ | with_reducible refine Below.alloc ?_ ?_ _ | with_reducible refine Below.drew ?_ | with_reducible refine below_drewN ?_ _ | with_reducible refine Below.step (by with_reducible assumption) ?_ ?_ | omega | (simp <;> omega) | (simp; done)))⟩
set_option maxHeartbeats 1000000 in
theorem sQuartersKept_any (v : Value) (xs : List Booking) (lo hi : Nat) (r d : Int) (w : World) (h : RdF Booking.enc 5 w lo hi v xs) (hh : hi ≤ w.heap.size) (hm : xs.length ≤ 1048576) (hms : ∀ x ∈ xs, Booking.small x) :
    Calls Try.prog 20 #[v, .int .i64 r, .int .i64 d] w fun e w' => e = .returned (.tuple #[.int .i64 (quartersKept xs r d).1, .int .i64 (quartersKept xs r d).2]) ∧ Below w.heap.size w w' := by
  by_cases hz : roomCode xs r d = 0
  · have HL := Lib.hid (show quartersKept xs r d = (((keptTo xs r d 36 : Nat) : Int), 0) by rw [quartersKept, if_pos hz])
    have HZ := Lib.hid hz; clear hz
    go_enter Try.func20, Try.ntmps20
    go_wp2_with fail
    refine (l18Code_any v xs _ _ r d _ h hh hm hms).mono ?_
    rintro e w1 ⟨rfl, b1⟩
    have z1 := b1.size
    have h1 := h.below b1 hh
    clear h
    rw [HZ.out]
    go_wp2_with fail
    go_loopw [9, 10] (fun n i wr => ∃ k : Nat, k ≤ 36 ∧ i = .int .i64 k ∧ n = .int .i64 (keptTo xs r d k : Nat) ∧ Below w1.heap.size w1 wr) (fun _ i _ => 36 - (intOf i).toNat)
    case atStart => exact ⟨0, by omega, rfl, rfl, Below.refl _ _⟩
    case round =>
      obtain ⟨k, hk, rfl, rfl, hb⟩ := hrel
      have z2 := hb.size
      have q1 := keptTo_le xs r d k
      by_cases hlt : k < 36
      · have hk36 : (k : Int) < 36 := by omega
        have HN := Lib.hid (keptTo_succ xs r d k)
        cases hf : freeAt xs r d 1 k with
        | true =>
          have hf' : freeB xs r d (k : Int) ((k : Int) + 1) = true := hf
          rw [hf] at HN
          clear hf
          go_wp2_with (go_at_call 67; refine (l18Free_any v xs _ _ r d _ _ _ (h1.below hb (by omega)) (by omega) hm).mono ?_; rintro e w2 ⟨rfl, b2⟩; rw [hf'])
          go_roundw
          case rel => exact ⟨k + 1, by omega, by go_num, (by rw [HN.out]; simp), by (repeat (first | with_reducible assumption | with_reducible exact Below.refl _ _ | with_reducible refine Below.setCell ?_ ?_ _ | with_reducible refine Below.alloc ?_ ?_ _ | with_reducible refine Below.drew ?_ | with_reducible refine below_drewN ?_ _ | with_reducible refine Below.step (by with_reducible assumption) ?_ ?_ | omega | (simp <;> omega) | (simp; done)))⟩
          case measure => simp [intOf]; omega
        | false =>
          have hf' : freeB xs r d (k : Int) ((k : Int) + 1) = false := hf
          rw [hf] at HN
          clear hf
          go_wp2_with (go_at_call 67; refine (l18Free_any v xs _ _ r d _ _ _ (h1.below hb (by omega)) (by omega) hm).mono ?_; rintro e w2 ⟨rfl, b2⟩; rw [hf'])
          go_roundw
          case rel => exact ⟨k + 1, by omega, by go_num, (by rw [HN.out]; simp), by (repeat (first | with_reducible assumption | with_reducible exact Below.refl _ _ | with_reducible refine Below.setCell ?_ ?_ _ | with_reducible refine Below.alloc ?_ ?_ _ | with_reducible refine Below.drew ?_ | with_reducible refine below_drewN ?_ _ | with_reducible refine Below.step (by with_reducible assumption) ?_ ?_ | omega | (simp <;> omega) | (simp; done)))⟩
          case measure => simp [intOf]; omega
      · have e : k = 36 := by omega
        have HL' : Hid (quartersKept xs r d = (((keptTo xs r d k : Nat) : Int), 0)) := by rw [e]; exact HL
        clear e
        go_wp2_with fail
        go_ret2
        exact ⟨ret_pair (by rw [HL'.out]), by (repeat (first | with_reducible assumption | with_reducible exact Below.refl _ _ | with_reducible refine Below.setCell ?_ ?_ _ | with_reducible refine Below.alloc ?_ ?_ _ | with_reducible refine Below.drew ?_ | with_reducible refine below_drewN ?_ _ | with_reducible refine Below.step (by with_reducible assumption) ?_ ?_ | omega | (simp <;> omega) | (simp; done)))⟩
  · have HF := Lib.hid (show quartersKept xs r d = (0, roomCode xs r d) by rw [quartersKept, if_neg hz])
    have hne : (roomCode xs r d != 0) = true := by simpa using hz
    generalize hc : roomCode xs r d = c at *
    have HC := Lib.hid hc; clear hc
    go_enter Try.func20, Try.ntmps20
    go_wp2_with fail
    refine (l18Code_any v xs _ _ r d _ h hh hm hms).mono ?_
    rintro e w1 ⟨rfl, b1⟩
    rw [HC.out]
    go_wp2_with fail
    go_ret2
    exact ⟨ret_pair (by rw [HF.out]), by (repeat (first | with_reducible assumption | with_reducible exact Below.refl _ _ | with_reducible refine Below.setCell ?_ ?_ _ | with_reducible refine Below.alloc ?_ ?_ _ | with_reducible refine Below.drew ?_ | with_reducible refine below_drewN ?_ _ | with_reducible refine Below.step (by with_reducible assumption) ?_ ?_ | omega | (simp <;> omega) | (simp; done)))⟩
set_option maxHeartbeats 1000000 in
theorem quartersKept_any (v : Value) (xs : List Booking) (lo hi : Nat) (r d : Int) (w : World) (h : RdF Booking.enc 5 w lo hi v xs) (hh : hi ≤ w.heap.size) (hm : xs.length ≤ 1048576) (hms : ∀ x ∈ xs, Booking.small x) :
    Calls Try.prog 21 #[v, .int .i64 r, .int .i64 d] w fun e w' => e = .returned (.tuple #[.int .i64 (quartersKept xs r d).1, .int .i64 (quartersKept xs r d).2]) ∧ Below w.heap.size w w' := by
  by_cases hz : roomCode xs r d = 0
  · have hok := roomCode_ok hz
    have HOK := Lib.hid (bookingsOk_all hok)
    have HL := Lib.hid (show quartersKept xs r d = (keptSum xs r d, 0) by rw [quartersKept, if_pos hz, kept_eq hok])
    have HZ := Lib.hid hz; clear hz hok
    have h0 := h
    obtain ⟨A, c, rfl, hc, hA⟩ := h
    go_enter Try.func21, Try.ntmps21
    go_wp2_with fail
    refine (roomCode_any _ xs _ _ r d _ h0 hh hm hms).mono ?_
    rintro e w1 ⟨rfl, b1⟩
    have z1 := b1.size
    clear h0 hms
    rw [HZ.out]
    go_wp2_with fail
    go_loopw [9, 11, 21] (fun n _ i wr => ∃ k : Nat, k ≤ xs.length ∧ i = .int .i64 k ∧ n = .int .i64 (keptSum (xs.take k) r d) ∧ Below w.heap.size w wr) (fun _ _ i _ => xs.length - (intOf i).toNat)
    case atStart => exact ⟨0, by omega, rfl, rfl, by (repeat (first | with_reducible assumption | with_reducible exact Below.refl _ _ | with_reducible refine Below.setCell ?_ ?_ _ | with_reducible refine Below.alloc ?_ ?_ _ | with_reducible refine Below.drew ?_ | with_reducible refine below_drewN ?_ _ | with_reducible refine Below.step (by with_reducible assumption) ?_ ?_ | omega | (simp <;> omega) | (simp; done)))⟩
    case round =>
      obtain ⟨k, hk, rfl, rfl, hb⟩ := hrel
      have z2 := hb.size
      have q1 := keptSum_bd (xs := xs.take k) (fun b hb => HOK.out b (List.mem_of_mem_take hb)) r d
      have q2 : (xs.take k).length ≤ 1048576 := by simp; omega
      obtain ⟨q3, q4⟩ := q1
      have q5 : keptSum (xs.take k) r d ≤ 37748736 := by omega
      clear q4 q2
      by_cases hlt : k < xs.length
      · obtain ⟨b, off, rfl, -, hbw, hcell⟩ := hA (by omega)
        have hs : xs[k]? = some xs[k] := List.getElem?_eq_getElem hlt
        have c0 : wr.cell? ⟨b, off + k * 5, none⟩ = _ := (hb.cell (p := ⟨b, off + k * 5, none⟩) (by omega : b < _)).trans (hcell k _ hs 0 _ rfl)
        have c1 := (hb.cell (p := ⟨b, off + k * 5 + 1, none⟩) (by omega : b < _)).trans (hcell k _ hs 1 _ rfl)
        have c2 := (hb.cell (p := ⟨b, off + k * 5 + 2, none⟩) (by omega : b < _)).trans (hcell k _ hs 2 _ rfl)
        have c3 := (hb.cell (p := ⟨b, off + k * 5 + 3, none⟩) (by omega : b < _)).trans (hcell k _ hs 3 _ rfl)
        have c4 := (hb.cell (p := ⟨b, off + k * 5 + 4, none⟩) (by omega : b < _)).trans (hcell k _ hs 4 _ rfl)
        clear hcell hA
        have HN := Lib.hid (show keptSum (xs.take (k + 1)) r d = keptSum (xs.take k) r d + spanOf r d xs[k] by rw [List.take_add_one, hs]; exact keptSum_snoc _ _ _ _)
        have ht := ok_time (HOK.out _ (List.mem_of_getElem? hs))
        clear hs
        generalize xs[k] = s at *
        obtain ⟨t1, t2, t3⟩ := ht
        by_cases hmine : s.room = r ∧ s.day = d
        · obtain ⟨e1, e2⟩ := hmine
          have HP := Lib.hid (show spanOf r d s = s.to_ - s.frm by simp [spanOf, mine, e1, e2])
          have g1 : (s.room == r) = true := by simpa using e1
          have g2 : (s.day == d) = true := by simpa using e2
          clear e1 e2
          go_wp2_with fail
          go_roundw
          case rel => exact ⟨k + 1, by omega, by go_num, (by rw [HN.out, HP.out]), by (repeat (first | with_reducible assumption | with_reducible exact Below.refl _ _ | with_reducible refine Below.setCell ?_ ?_ _ | with_reducible refine Below.alloc ?_ ?_ _ | with_reducible refine Below.drew ?_ | with_reducible refine below_drewN ?_ _ | with_reducible refine Below.step (by with_reducible assumption) ?_ ?_ | omega | (simp <;> omega) | (simp; done)))⟩
          case measure => simp [intOf]; omega
        · have HP := Lib.hid (show spanOf r d s = 0 by simp [spanOf, mine]; intro a b; exact absurd ⟨a, b⟩ hmine)
          by_cases e1 : s.room = r
          · have g1 : (s.room == r) = true := by simpa using e1
            have g2 : (s.day == d) = false := by simpa using fun e2 => hmine ⟨e1, e2⟩
            clear e1 hmine
            go_wp2_with fail
            go_roundw
            case rel => exact ⟨k + 1, by omega, by go_num, (by rw [HN.out, HP.out]; simp), by (repeat (first | with_reducible assumption | with_reducible exact Below.refl _ _ | with_reducible refine Below.setCell ?_ ?_ _ | with_reducible refine Below.alloc ?_ ?_ _ | with_reducible refine Below.drew ?_ | with_reducible refine below_drewN ?_ _ | with_reducible refine Below.step (by with_reducible assumption) ?_ ?_ | omega | (simp <;> omega) | (simp; done)))⟩
            case measure => simp [intOf]; omega
          · have g1 : (s.room == r) = false := by simpa using e1
            clear e1 hmine
            go_wp2_with fail
            go_roundw
            case rel => exact ⟨k + 1, by omega, by go_num, (by rw [HN.out, HP.out]; simp), by (repeat (first | with_reducible assumption | with_reducible exact Below.refl _ _ | with_reducible refine Below.setCell ?_ ?_ _ | with_reducible refine Below.alloc ?_ ?_ _ | with_reducible refine Below.drew ?_ | with_reducible refine below_drewN ?_ _ | with_reducible refine Below.step (by with_reducible assumption) ?_ ?_ | omega | (simp <;> omega) | (simp; done)))⟩
            case measure => simp [intOf]; omega
      · have HL' : Hid (quartersKept xs r d = (keptSum (xs.take k) r d, 0)) := by rw [List.take_of_length_le (by omega)]; exact HL
        go_wp2_with fail
        go_ret2
        exact ⟨ret_pair (by rw [HL'.out]), by (repeat (first | with_reducible assumption | with_reducible exact Below.refl _ _ | with_reducible refine Below.setCell ?_ ?_ _ | with_reducible refine Below.alloc ?_ ?_ _ | with_reducible refine Below.drew ?_ | with_reducible refine below_drewN ?_ _ | with_reducible refine Below.step (by with_reducible assumption) ?_ ?_ | omega | (simp <;> omega) | (simp; done)))⟩
  · have HF := Lib.hid (show quartersKept xs r d = (0, roomCode xs r d) by rw [quartersKept, if_neg hz])
    have hne : (roomCode xs r d != 0) = true := by simpa using hz
    generalize hc : roomCode xs r d = c at *
    have HC := Lib.hid hc; clear hc
    go_enter Try.func21, Try.ntmps21
    go_wp2_with fail
    refine (roomCode_any v xs _ _ r d _ h hh hm hms).mono ?_
    rintro e w1 ⟨rfl, b1⟩
    rw [HC.out]
    go_wp2_with fail
    go_ret2
    exact ⟨ret_pair (by rw [HF.out]), by (repeat (first | with_reducible assumption | with_reducible exact Below.refl _ _ | with_reducible refine Below.setCell ?_ ?_ _ | with_reducible refine Below.alloc ?_ ?_ _ | with_reducible refine Below.drew ?_ | with_reducible refine below_drewN ?_ _ | with_reducible refine Below.step (by with_reducible assumption) ?_ ?_ | omega | (simp <;> omega) | (simp; done)))⟩
end Go.Proofs.Ythodceeioinnoaa
