/- Walks of the rooms' functions that return slices. -/
import Derived.Test.YthodceeioinnoaaRoomsW
import Derived.Test.YthodceeioinnoaaIntsH
import Derived.Test.YthodceeioinnoaaMem2
namespace Go.Proofs.Ythodceeioinnoaa
open Go.RowKit
set_option linter.unusedVariables false

def roomsTo (xs : List Booking) (d f t : Int) (k : Nat) : List Int := ((List.range k).filter fun (r : Nat) => freeB xs (r : Int) d f t).map fun (r : Nat) => (r : Int)
theorem roomsTo_succ (xs : List Booking) (d f t : Int) (k : Nat) : roomsTo xs d f t (k + 1) = roomsTo xs d f t k ++ (if freeB xs k d f t then [(k : Int)] else []) := by
  unfold roomsTo
  rw [List.range_succ, List.filter_append, List.map_append]
  cases h : freeB xs k d f t <;> simp [h]
theorem roomsTo_len (xs : List Booking) (d f t : Int) (k : Nat) : (roomsTo xs d f t k).length ≤ k := by
  unfold roomsTo
  rw [List.length_map]
  exact Nat.le_trans (List.length_filter_le _ _) (Nat.le_of_eq List.length_range)
def roomsFree (xs : List Booking) (d f t : Int) : List Int × Int := if roomCode xs 0 d = 0 then (if timeOk f t then (roomsTo xs d f t 6, 0) else ([], 2)) else ([], roomCode xs 0 d)
theorem roomsFree_len (xs : List Booking) (d f t : Int) : (roomsFree xs d f t).1.length ≤ 1048576 := by
  unfold roomsFree
  split
  · split
    · have := roomsTo_len xs d f t 6; simp only; omega
    · simp
  · simp
set_option maxRecDepth 100000 in
set_option maxHeartbeats 2000000 in
theorem roomsFree_any (v : Value) (xs : List Booking) (lo hi : Nat) (d f t : Int) (w : World) (h : RdF Booking.enc 5 w lo hi v xs) (hh : hi ≤ w.heap.size) (hm : xs.length ≤ 1048576) (hms : ∀ x ∈ xs, Booking.small x) :
    Calls Try.prog 38 #[v, .int .i64 d, .int .i64 f, .int .i64 t] w fun e w' => RetVC (fun v' w' => RdW encInt 1 2 w' w.heap.size w'.heap.size v' (roomsFree xs d f t).1) (roomsFree xs d f t).2 w e w' := by
  by_cases hz : roomCode xs 0 d = 0
  · have hall := bookingsOk_all (roomCode_ok hz)
    cases ht : timeOk f t with
    | false =>
      have HF := Lib.hid (show roomsFree xs d f t = ([], 2) by rw [roomsFree, if_pos hz, ht]; rfl)
      have HZ := Lib.hid hz; clear hz
      go_enter Try.func38, Try.ntmps38
      go_wp2_with fail
      refine (roomCode_any v xs _ _ 0 d _ h hh hm hms).mono ?_
      rintro e w1 ⟨rfl, b1⟩
      rw [HZ.out]
      go_wp2_with (go_at_call 76; refine (isTime_any _ _ _).mono ?_; rintro e w' ⟨rfl, rfl⟩; rw [ht])
      go_ret2
      rw [HF.out]
      exact ⟨_, rfl, RdW.nil, by (repeat (first | with_reducible assumption | with_reducible exact Below.refl _ _ | with_reducible refine Below.setCell ?_ ?_ _ | with_reducible refine Below.alloc ?_ ?_ _ | with_reducible refine Below.drew ?_ | with_reducible refine below_drewN ?_ _ | with_reducible refine Below.step (by with_reducible assumption) ?_ ?_ | omega | (simp <;> omega) | (simp; done)))⟩
    | true =>
      have ht' : f < t := by have := ht; simp [timeOk] at this; omega
      have HL := Lib.hid (show roomsFree xs d f t = (roomsTo xs d f t 6, 0) by rw [roomsFree, if_pos hz, ht]; rfl)
      have HZ := Lib.hid hz; clear hz
      have HK := Lib.hid (fun (r : Int) => freeK_eq (xs := xs) (r := r) (d := d) (f := f) (t := t) hall ht')
      clear hall
      go_enter Try.func38, Try.ntmps38
      go_wp2_with fail
      refine (roomCode_any v xs _ _ 0 d _ h hh hm hms).mono ?_
      rintro e w1 ⟨rfl, b1⟩
      have z1 := b1.size
      have h1 := h.below b1 hh
      clear h
      rw [HZ.out]
      go_wp2_with (go_at_call 76; refine (isTime_any _ _ _).mono ?_; rintro e w' ⟨rfl, rfl⟩; rw [ht])
      clear ht
      go_loopw [11, 12, 24] (fun v' _ i wr => ∃ k : Nat, k ≤ 6 ∧ i = .int .i64 k ∧ OwnL encInt 1 2 wr w1.heap.size v' (roomsTo xs d f t k) ∧ Below w1.heap.size w1 wr) (fun _ _ i _ => 6 - (intOf i).toNat)
      case atStart => exact ⟨0, by omega, rfl, OwnL.empty w1 _ (Nat.le_refl _), (Below.refl _ _).alloc (Nat.le_refl _) _⟩
      case round =>
        obtain ⟨k, hk, rfl, hown, hb⟩ := hrel
        have z2 := hb.size
        by_cases hlt : k < 6
        · have hk6 : (k : Int) < 6 := by omega
          have HN := Lib.hid (roomsTo_succ xs d f t k)
          have hlen := roomsTo_len xs d f t k
          cases hf : freeB xs k d f t with
          | true =>
            rw [hf] at HN
            have hf' := (HK.out k).trans hf
            go_wp2_with fail
            refine (isFree_any v xs _ _ _ d f t _ (h1.below hb (by omega)) (by omega) hm).mono ?_
            rintro e w2 ⟨rfl, b2⟩
            rw [hf']
            have z3 := b2.size
            have hown2 := hown.below b2
            go_wp2_with (at_builtin; refine wpList_push (enc := encInt) w2 _ rfl rfl (.tmp 33) (.tmp 35) 45 rfl w1.heap.size 2 _ (.int .i64 0) 1 8 Try.underlying45 (by kernel_rfl) rfl (by omega) _ (roomsTo xs d f t k) (k : Int) _ rfl rfl (by intro u hu; simp [encInt] at hu; subst hu; rfl) rfl rfl hown2 (by omega) (by omega) (by omega) ?_; intro v2 w3 hown3 hg3 hk3)
            go_roundw
            case rel => exact ⟨k + 1, by omega, by go_num, (by rw [HN.out]; exact hown3), hk3 _ _ (Nat.le_refl _) (by (repeat (first | with_reducible assumption | with_reducible exact Below.refl _ _ | with_reducible refine Below.setCell ?_ ?_ _ | with_reducible refine Below.alloc ?_ ?_ _ | with_reducible refine Below.drew ?_ | with_reducible refine below_drewN ?_ _ | with_reducible refine Below.step (by with_reducible assumption) ?_ ?_ | omega | (simp <;> omega) | (simp; done))))⟩
            case measure => simp [intOf]; omega
          | false =>
            rw [hf] at HN
            have hf' := (HK.out k).trans hf
            go_wp2_with fail
            refine (isFree_any v xs _ _ _ d f t _ (h1.below hb (by omega)) (by omega) hm).mono ?_
            rintro e w2 ⟨rfl, b2⟩
            rw [hf']
            have z3 := b2.size
            have hown2 := hown.below b2
            go_wp2_with fail
            go_roundw
            case rel => exact ⟨k + 1, by omega, by go_num, (by rw [HN.out]; simpa using hown2), by (repeat (first | with_reducible assumption | with_reducible exact Below.refl _ _ | with_reducible refine Below.setCell ?_ ?_ _ | with_reducible refine Below.alloc ?_ ?_ _ | with_reducible refine Below.drew ?_ | with_reducible refine below_drewN ?_ _ | with_reducible refine Below.step (by with_reducible assumption) ?_ ?_ | omega | (simp <;> omega) | (simp; done)))⟩
            case measure => simp [intOf]; omega
        · have e : k = 6 := by omega
          have hown' : OwnL encInt 1 2 wr w1.heap.size u11 (roomsTo xs d f t 6) := by rw [← e]; exact hown
          go_wp2_with fail
          go_ret2
          rw [HL.out]
          exact ⟨_, rfl, (hown'.rdw (fun _ => rfl)).wide z1 (Nat.le_refl _), by (repeat (first | with_reducible assumption | with_reducible exact Below.refl _ _ | with_reducible refine Below.setCell ?_ ?_ _ | with_reducible refine Below.alloc ?_ ?_ _ | with_reducible refine Below.drew ?_ | with_reducible refine below_drewN ?_ _ | with_reducible refine Below.step (by with_reducible assumption) ?_ ?_ | omega | (simp <;> omega) | (simp; done)))⟩
  · have HF := Lib.hid (show roomsFree xs d f t = ([], roomCode xs 0 d) by rw [roomsFree, if_neg hz])
    have hne : (roomCode xs 0 d != 0) = true := by simpa using hz
    have hne' : (roomCode xs 0 d == 0) = false := by simpa using hz
    generalize hc : roomCode xs 0 d = c at *
    have HC := Lib.hid hc; clear hc
    go_enter Try.func38, Try.ntmps38
    go_wp2_with fail
    refine (roomCode_any v xs _ _ 0 d _ h hh hm hms).mono ?_
    rintro e w1 ⟨rfl, b1⟩
    rw [HC.out]
    go_wp2_with fail
    go_ret2
    rw [HF.out]
    exact ⟨_, rfl, RdW.nil, by (repeat (first | with_reducible assumption | with_reducible exact Below.refl _ _ | with_reducible refine Below.setCell ?_ ?_ _ | with_reducible refine Below.alloc ?_ ?_ _ | with_reducible refine Below.drew ?_ | with_reducible refine below_drewN ?_ _ | with_reducible refine Below.step (by with_reducible assumption) ?_ ?_ | omega | (simp <;> omega) | (simp; done)))⟩
set_option maxRecDepth 100000 in
set_option maxHeartbeats 2000000 in
theorem sRoomsFree_any (v : Value) (xs : List Booking) (lo hi : Nat) (d f t : Int) (w : World) (h : RdF Booking.enc 5 w lo hi v xs) (hh : hi ≤ w.heap.size) (hm : xs.length ≤ 1048576) (hms : ∀ x ∈ xs, Booking.small x) :
    Calls Try.prog 37 #[v, .int .i64 d, .int .i64 f, .int .i64 t] w fun e w' => RetVC (fun v' w' => RdW encInt 1 2 w' w.heap.size w'.heap.size v' (roomsFree xs d f t).1) (roomsFree xs d f t).2 w e w' := by
  by_cases hz : roomCode xs 0 d = 0
  · have hall := bookingsOk_all (roomCode_ok hz)
    cases ht : timeOk f t with
    | false =>
      have HF := Lib.hid (show roomsFree xs d f t = ([], 2) by rw [roomsFree, if_pos hz, ht]; rfl)
      have HZ := Lib.hid hz; clear hz
      go_enter Try.func37, Try.ntmps37
      go_wp2_with fail
      refine (l18Code_any v xs _ _ 0 d _ h hh hm hms).mono ?_
      rintro e w1 ⟨rfl, b1⟩
      rw [HZ.out]
      go_wp2_with (go_at_call 75; refine (l18Time_any _ _ _).mono ?_; rintro e w' ⟨rfl, rfl⟩; rw [ht])
      go_ret2
      rw [HF.out]
      exact ⟨_, rfl, RdW.nil, by (repeat (first | with_reducible assumption | with_reducible exact Below.refl _ _ | with_reducible refine Below.setCell ?_ ?_ _ | with_reducible refine Below.alloc ?_ ?_ _ | with_reducible refine Below.drew ?_ | with_reducible refine below_drewN ?_ _ | with_reducible refine Below.step (by with_reducible assumption) ?_ ?_ | omega | (simp <;> omega) | (simp; done)))⟩
    | true =>
      have ht' : f < t := by have := ht; simp [timeOk] at this; omega
      have HL := Lib.hid (show roomsFree xs d f t = (roomsTo xs d f t 6, 0) by rw [roomsFree, if_pos hz, ht]; rfl)
      have HZ := Lib.hid hz; clear hz
      have HK := Lib.hid (fun (r : Int) => freeK_eq (xs := xs) (r := r) (d := d) (f := f) (t := t) hall ht')
      clear hall
      go_enter Try.func37, Try.ntmps37
      go_wp2_with fail
      refine (l18Code_any v xs _ _ 0 d _ h hh hm hms).mono ?_
      rintro e w1 ⟨rfl, b1⟩
      have z1 := b1.size
      have h1 := h.below b1 hh
      clear h
      rw [HZ.out]
      go_wp2_with (go_at_call 75; refine (l18Time_any _ _ _).mono ?_; rintro e w' ⟨rfl, rfl⟩; rw [ht])
      clear ht
      go_loopw [11, 12] (fun v' i wr => ∃ k : Nat, k ≤ 6 ∧ i = .int .i64 k ∧ OwnL encInt 1 2 wr w1.heap.size v' (roomsTo xs d f t k) ∧ Below w1.heap.size w1 wr) (fun _ i _ => 6 - (intOf i).toNat)
      case atStart => exact ⟨0, by omega, rfl, OwnL.empty w1 _ (Nat.le_refl _), (Below.refl _ _).alloc (Nat.le_refl _) _⟩
      case round =>
        obtain ⟨k, hk, rfl, hown, hb⟩ := hrel
        have z2 := hb.size
        by_cases hlt : k < 6
        · have hk6 : (k : Int) < 6 := by omega
          have HN := Lib.hid (roomsTo_succ xs d f t k)
          have hlen := roomsTo_len xs d f t k
          cases hf : freeB xs k d f t with
          | true =>
            rw [hf] at HN
            have hf' := (HK.out k).trans hf
            go_wp2_with fail
            refine (l18Free_any v xs _ _ _ d f t _ (h1.below hb (by omega)) (by omega) hm).mono ?_
            rintro e w2 ⟨rfl, b2⟩
            rw [hf]
            have z3 := b2.size
            have hown2 := hown.below b2
            go_wp2_with (at_builtin; refine wpList_push (enc := encInt) w2 _ rfl rfl (.tmp 38) (.tmp 40) 45 rfl w1.heap.size 2 _ (.int .i64 0) 1 8 Try.underlying45 (by kernel_rfl) rfl (by omega) _ (roomsTo xs d f t k) (k : Int) _ rfl rfl (by intro u hu; simp [encInt] at hu; subst hu; rfl) rfl rfl hown2 (by omega) (by omega) (by omega) ?_; intro v2 w3 hown3 hg3 hk3)
            go_roundw
            case rel => exact ⟨k + 1, by omega, by go_num, (by rw [HN.out]; exact hown3), hk3 _ _ (Nat.le_refl _) (by (repeat (first | with_reducible assumption | with_reducible exact Below.refl _ _ | with_reducible refine Below.setCell ?_ ?_ _ | with_reducible refine Below.alloc ?_ ?_ _ | with_reducible refine Below.drew ?_ | with_reducible refine below_drewN ?_ _ | with_reducible refine Below.step (by with_reducible assumption) ?_ ?_ | omega | (simp <;> omega) | (simp; done))))⟩
            case measure => simp [intOf]; omega
          | false =>
            rw [hf] at HN
            have hf' := (HK.out k).trans hf
            go_wp2_with fail
            refine (l18Free_any v xs _ _ _ d f t _ (h1.below hb (by omega)) (by omega) hm).mono ?_
            rintro e w2 ⟨rfl, b2⟩
            rw [hf]
            have z3 := b2.size
            have hown2 := hown.below b2
            go_wp2_with fail
            go_roundw
            case rel => exact ⟨k + 1, by omega, by go_num, (by rw [HN.out]; simpa using hown2), by (repeat (first | with_reducible assumption | with_reducible exact Below.refl _ _ | with_reducible refine Below.setCell ?_ ?_ _ | with_reducible refine Below.alloc ?_ ?_ _ | with_reducible refine Below.drew ?_ | with_reducible refine below_drewN ?_ _ | with_reducible refine Below.step (by with_reducible assumption) ?_ ?_ | omega | (simp <;> omega) | (simp; done)))⟩
            case measure => simp [intOf]; omega
        · have e : k = 6 := by omega
          have hown' : OwnL encInt 1 2 wr w1.heap.size u11 (roomsTo xs d f t 6) := by rw [← e]; exact hown
          go_wp2_with fail
          go_ret2
          rw [HL.out]
          exact ⟨_, rfl, (hown'.rdw (fun _ => rfl)).wide z1 (Nat.le_refl _), by (repeat (first | with_reducible assumption | with_reducible exact Below.refl _ _ | with_reducible refine Below.setCell ?_ ?_ _ | with_reducible refine Below.alloc ?_ ?_ _ | with_reducible refine Below.drew ?_ | with_reducible refine below_drewN ?_ _ | with_reducible refine Below.step (by with_reducible assumption) ?_ ?_ | omega | (simp <;> omega) | (simp; done)))⟩
  · have HF := Lib.hid (show roomsFree xs d f t = ([], roomCode xs 0 d) by rw [roomsFree, if_neg hz])
    have hne : (roomCode xs 0 d != 0) = true := by simpa using hz
    have hne' : (roomCode xs 0 d == 0) = false := by simpa using hz
    generalize hc : roomCode xs 0 d = c at *
    have HC := Lib.hid hc; clear hc
    go_enter Try.func37, Try.ntmps37
    go_wp2_with fail
    refine (l18Code_any v xs _ _ 0 d _ h hh hm hms).mono ?_
    rintro e w1 ⟨rfl, b1⟩
    rw [HC.out]
    go_wp2_with fail
    go_ret2
    rw [HF.out]
    exact ⟨_, rfl, RdW.nil, by (repeat (first | with_reducible assumption | with_reducible exact Below.refl _ _ | with_reducible refine Below.setCell ?_ ?_ _ | with_reducible refine Below.alloc ?_ ?_ _ | with_reducible refine Below.drew ?_ | with_reducible refine below_drewN ?_ _ | with_reducible refine Below.step (by with_reducible assumption) ?_ ?_ | omega | (simp <;> omega) | (simp; done)))⟩

def useIs (u : ByteArray) (b : Booking) : Bool := b.use.toList == u.toList
def bookingsFor (xs : List Booking) (u : ByteArray) : List Int × Int := if bookingsOk xs && wordOk u then (idxTo (useIs u) xs xs.length, 0) else ([], 1)
theorem bookingsFor_len {xs : List Booking} {u : ByteArray} (hm : xs.length ≤ 1048576) : (bookingsFor xs u).1.length ≤ 1048576 := by
  unfold bookingsFor
  split
  · have := idxTo_len (useIs u) xs xs.length; simp only; omega
  · simp
set_option maxRecDepth 100000 in
set_option maxHeartbeats 2000000 in
theorem bookingsFor_any (v : Value) (xs : List Booking) (lo hi : Nat) (u : ByteArray) (w : World) (h : RdF Booking.enc 5 w lo hi v xs) (hh : hi ≤ w.heap.size) (hm : xs.length ≤ 1048576) (hms : ∀ x ∈ xs, Booking.small x) (hu : u.size ≤ 1048576) :
    Calls Try.prog 33 #[v, .string u] w fun e w' => RetVC (fun v' w' => RdW encInt 1 2 w' w.heap.size w'.heap.size v' (bookingsFor xs u).1) (bookingsFor xs u).2 w e w' := by
  cases hz : bookingsOk xs with
  | false =>
    have HF := Lib.hid (show bookingsFor xs u = ([], 1) by rw [bookingsFor, hz]; rfl)
    go_enter Try.func33, Try.ntmps33
    go_wp2_with fail
    refine (areBookings_any v xs _ _ _ h hh hm hms).mono ?_
    rintro e w1 ⟨rfl, b1⟩
    rw [hz]
    go_wp2_with fail
    go_ret2
    rw [HF.out]
    exact ⟨_, rfl, RdW.nil, by (repeat (first | with_reducible assumption | with_reducible exact Below.refl _ _ | with_reducible refine Below.setCell ?_ ?_ _ | with_reducible refine Below.alloc ?_ ?_ _ | with_reducible refine Below.drew ?_ | with_reducible refine below_drewN ?_ _ | with_reducible refine Below.step (by with_reducible assumption) ?_ ?_ | omega | (simp <;> omega) | (simp; done)))⟩
  | true =>
    cases ht : wordOk u with
    | false =>
      have HF := Lib.hid (show bookingsFor xs u = ([], 1) by rw [bookingsFor, hz, ht]; rfl)
      go_enter Try.func33, Try.ntmps33
      go_wp2_with fail
      refine (areBookings_any v xs _ _ _ h hh hm hms).mono ?_
      rintro e w1 ⟨rfl, b1⟩
      rw [hz]
      go_wp2_with (go_at_call 74; refine (IsWord_any _ _ (by omega)).mono ?_; rintro e w' ⟨rfl, rfl⟩; rw [ht])
      go_ret2
      rw [HF.out]
      exact ⟨_, rfl, RdW.nil, by (repeat (first | with_reducible assumption | with_reducible exact Below.refl _ _ | with_reducible refine Below.setCell ?_ ?_ _ | with_reducible refine Below.alloc ?_ ?_ _ | with_reducible refine Below.drew ?_ | with_reducible refine below_drewN ?_ _ | with_reducible refine Below.step (by with_reducible assumption) ?_ ?_ | omega | (simp <;> omega) | (simp; done)))⟩
    | true =>
      have HL := Lib.hid (show bookingsFor xs u = (idxTo (useIs u) xs xs.length, 0) by rw [bookingsFor, hz, ht]; rfl)
      have h0 := h
      obtain ⟨A, c, rfl, hc, hA⟩ := h
      go_enter Try.func33, Try.ntmps33
      go_wp2_with fail
      refine (areBookings_any _ xs _ _ _ h0 hh hm hms).mono ?_
      rintro e w1 ⟨rfl, b1⟩
      have z1 := b1.size
      clear h0 hms
      rw [hz]
      go_wp2_with (go_at_call 74; refine (IsWord_any _ _ (by omega)).mono ?_; rintro e w' ⟨rfl, rfl⟩; rw [ht])
      clear ht hz
      go_loopw [6, 7, 8, 20] (fun v' _ _ i wr => ∃ k : Nat, k ≤ xs.length ∧ i = .int .i64 k ∧ OwnL encInt 1 2 wr w1.heap.size v' (idxTo (useIs u) xs k) ∧ Below w1.heap.size w1 wr) (fun _ _ _ i _ => xs.length - (intOf i).toNat)
      case atStart => exact ⟨0, by omega, rfl, OwnL.empty w1 _ (Nat.le_refl _), (Below.refl _ _).alloc (Nat.le_refl _) _⟩
      case round =>
        obtain ⟨k, hk, rfl, hown, hb1⟩ := hrel
        have hb : Below w.heap.size w wr := by (repeat (first | with_reducible assumption | with_reducible exact Below.refl _ _ | with_reducible refine Below.setCell ?_ ?_ _ | with_reducible refine Below.alloc ?_ ?_ _ | with_reducible refine Below.drew ?_ | with_reducible refine below_drewN ?_ _ | with_reducible refine Below.step (by with_reducible assumption) ?_ ?_ | omega | (simp <;> omega) | (simp; done)))
        have z2 := hb1.size
        by_cases hlt : k < xs.length
        · obtain ⟨b, off, rfl, -, hbw, hcell⟩ := hA (by omega)
          have hs : xs[k]? = some xs[k] := List.getElem?_eq_getElem hlt
          have c0 : wr.cell? ⟨b, off + k * 5, none⟩ = _ := (hb.cell (p := ⟨b, off + k * 5, none⟩) (by omega : b < _)).trans (hcell k _ hs 0 _ rfl)
          have c1 := (hb.cell (p := ⟨b, off + k * 5 + 1, none⟩) (by omega : b < _)).trans (hcell k _ hs 1 _ rfl)
          have c2 := (hb.cell (p := ⟨b, off + k * 5 + 2, none⟩) (by omega : b < _)).trans (hcell k _ hs 2 _ rfl)
          have c3 := (hb.cell (p := ⟨b, off + k * 5 + 3, none⟩) (by omega : b < _)).trans (hcell k _ hs 3 _ rfl)
          have c4 := (hb.cell (p := ⟨b, off + k * 5 + 4, none⟩) (by omega : b < _)).trans (hcell k _ hs 4 _ rfl)
          clear hcell hA
          have HS := Lib.hid hs; clear hs
          generalize xs[k] = s at *
          have hlen := idxTo_len (useIs u) xs k
          have hki : (k : Int) < (xs.length : Int) := by omega
          cases hf : useIs u s with
          | true =>
            have HN := Lib.hid (idxTo_yes HS.out hf)
            have hf' : (s.use.toList == u.toList) = true := hf
            clear hf
            have hb2 : Below w1.heap.size w1 (wr.alloc (.cells #[.int .i64 s.room, .int .i64 s.day, .int .i64 s.frm, .int .i64 s.to_, .string s.use] 41)) := by (repeat (first | with_reducible assumption | with_reducible exact Below.refl _ _ | with_reducible refine Below.setCell ?_ ?_ _ | with_reducible refine Below.alloc ?_ ?_ _ | with_reducible refine Below.drew ?_ | with_reducible refine below_drewN ?_ _ | with_reducible refine Below.step (by with_reducible assumption) ?_ ?_ | omega | (simp <;> omega) | (simp; done)))
            have hown2 : OwnL encInt 1 2 (wr.alloc (.cells #[.int .i64 s.room, .int .i64 s.day, .int .i64 s.frm, .int .i64 s.to_, .string s.use] 41)) w1.heap.size u6 (idxTo (useIs u) xs k) := by first | exact hown | exact hown.alloc _
            have z3 : w1.heap.size ≤ (wr.alloc (.cells #[.int .i64 s.room, .int .i64 s.day, .int .i64 s.frm, .int .i64 s.to_, .string s.use] 41)).heap.size := hb2.size
            go_wp2_with (at_builtin; refine wpList_push (enc := encInt) _ _ (by first | rfl | simp) rfl (.tmp 29) (.tmp 31) 45 rfl w1.heap.size 2 _ (.int .i64 0) 1 8 Try.underlying45 (by kernel_rfl) rfl (by omega) _ (idxTo (useIs u) xs k) (k : Int) _ rfl rfl (by intro u hu; simp [encInt] at hu; subst hu; rfl) rfl rfl hown2 (by omega) (by omega) (by omega) ?_; intro v2 w3 hown3 hg3 hk3)
            go_roundw
            case rel => exact ⟨k + 1, by omega, by go_num, (by rw [HN.out]; exact hown3), hk3 _ _ (Nat.le_refl _) hb2⟩
            case measure => simp [intOf]; omega
          | false =>
            have HN := Lib.hid (idxTo_no HS.out hf)
            have hf' : (s.use.toList == u.toList) = false := hf
            clear hf
            have hown2 : OwnL encInt 1 2 (wr.alloc (.cells #[.int .i64 s.room, .int .i64 s.day, .int .i64 s.frm, .int .i64 s.to_, .string s.use] 41)) w1.heap.size u6 (idxTo (useIs u) xs k) := by first | exact hown | exact hown.alloc _
            go_wp2_with fail
            go_roundw
            case rel => exact ⟨k + 1, by omega, by go_num, (by rw [HN.out]; exact hown2), by (repeat (first | with_reducible assumption | with_reducible exact Below.refl _ _ | with_reducible refine Below.setCell ?_ ?_ _ | with_reducible refine Below.alloc ?_ ?_ _ | with_reducible refine Below.drew ?_ | with_reducible refine below_drewN ?_ _ | with_reducible refine Below.step (by with_reducible assumption) ?_ ?_ | omega | (simp <;> omega) | (simp; done)))⟩
            case measure => simp [intOf]; omega
        · have e : k = xs.length := by omega
          have hown' : OwnL encInt 1 2 wr w1.heap.size u6 (idxTo (useIs u) xs xs.length) := by rw [← e]; exact hown
          clear e
          go_wp2_with fail
          go_ret2
          rw [HL.out]
          exact ⟨_, rfl, (hown'.rdw (fun _ => rfl)).wide z1 (Nat.le_refl _), by (repeat (first | with_reducible assumption | with_reducible exact Below.refl _ _ | with_reducible refine Below.setCell ?_ ?_ _ | with_reducible refine Below.alloc ?_ ?_ _ | with_reducible refine Below.drew ?_ | with_reducible refine below_drewN ?_ _ | with_reducible refine Below.step (by with_reducible assumption) ?_ ?_ | omega | (simp <;> omega) | (simp; done)))⟩
set_option maxRecDepth 100000 in
set_option maxHeartbeats 2000000 in
theorem sBookingsFor_any (v : Value) (xs : List Booking) (lo hi : Nat) (u : ByteArray) (w : World) (h : RdF Booking.enc 5 w lo hi v xs) (hh : hi ≤ w.heap.size) (hm : xs.length ≤ 1048576) (hms : ∀ x ∈ xs, Booking.small x) (hu : u.size ≤ 1048576) :
    Calls Try.prog 32 #[v, .string u] w fun e w' => RetVC (fun v' w' => RdW encInt 1 2 w' w.heap.size w'.heap.size v' (bookingsFor xs u).1) (bookingsFor xs u).2 w e w' := by
  cases hz : bookingsOk xs with
  | false =>
    have HF := Lib.hid (show bookingsFor xs u = ([], 1) by rw [bookingsFor, hz]; rfl)
    go_enter Try.func32, Try.ntmps32
    go_wp2_with fail
    refine (sAreBookings_any v xs _ _ _ h hh hm hms).mono ?_
    rintro e w1 ⟨rfl, b1⟩
    rw [hz]
    go_wp2_with fail
    go_ret2
    rw [HF.out]
    exact ⟨_, rfl, RdW.nil, by (repeat (first | with_reducible assumption | with_reducible exact Below.refl _ _ | with_reducible refine Below.setCell ?_ ?_ _ | with_reducible refine Below.alloc ?_ ?_ _ | with_reducible refine Below.drew ?_ | with_reducible refine below_drewN ?_ _ | with_reducible refine Below.step (by with_reducible assumption) ?_ ?_ | omega | (simp <;> omega) | (simp; done)))⟩
  | true =>
    cases ht : wordOk u with
    | false =>
      have HF := Lib.hid (show bookingsFor xs u = ([], 1) by rw [bookingsFor, hz, ht]; rfl)
      go_enter Try.func32, Try.ntmps32
      go_wp2_with fail
      refine (sAreBookings_any v xs _ _ _ h hh hm hms).mono ?_
      rintro e w1 ⟨rfl, b1⟩
      rw [hz]
      go_wp2_with (go_at_call 73; refine (sIsWord_any _ _ (by omega)).mono ?_; rintro e w' ⟨rfl, rfl⟩; rw [ht])
      go_ret2
      rw [HF.out]
      exact ⟨_, rfl, RdW.nil, by (repeat (first | with_reducible assumption | with_reducible exact Below.refl _ _ | with_reducible refine Below.setCell ?_ ?_ _ | with_reducible refine Below.alloc ?_ ?_ _ | with_reducible refine Below.drew ?_ | with_reducible refine below_drewN ?_ _ | with_reducible refine Below.step (by with_reducible assumption) ?_ ?_ | omega | (simp <;> omega) | (simp; done)))⟩
    | true =>
      have HL := Lib.hid (show bookingsFor xs u = (idxTo (useIs u) xs xs.length, 0) by rw [bookingsFor, hz, ht]; rfl)
      have h0 := h
      obtain ⟨A, c, rfl, hc, hA⟩ := h
      go_enter Try.func32, Try.ntmps32
      go_wp2_with fail
      refine (sAreBookings_any _ xs _ _ _ h0 hh hm hms).mono ?_
      rintro e w1 ⟨rfl, b1⟩
      have z1 := b1.size
      clear h0 hms
      rw [hz]
      go_wp2_with (go_at_call 73; refine (sIsWord_any _ _ (by omega)).mono ?_; rintro e w' ⟨rfl, rfl⟩; rw [ht])
      clear ht hz
      go_loopw [6, 7] (fun v' i wr => ∃ k : Nat, k ≤ xs.length ∧ i = .int .i64 k ∧ OwnL encInt 1 2 wr w1.heap.size v' (idxTo (useIs u) xs k) ∧ Below w1.heap.size w1 wr) (fun _ i _ => xs.length - (intOf i).toNat)
      case atStart => exact ⟨0, by omega, rfl, OwnL.empty w1 _ (Nat.le_refl _), (Below.refl _ _).alloc (Nat.le_refl _) _⟩
      case round =>
        obtain ⟨k, hk, rfl, hown, hb1⟩ := hrel
        have hb : Below w.heap.size w wr := by (repeat (first | with_reducible assumption | with_reducible exact Below.refl _ _ | with_reducible refine Below.setCell ?_ ?_ _ | with_reducible refine Below.alloc ?_ ?_ _ | with_reducible refine Below.drew ?_ | with_reducible refine below_drewN ?_ _ | with_reducible refine Below.step (by with_reducible assumption) ?_ ?_ | omega | (simp <;> omega) | (simp; done)))
        have z2 := hb1.size
        by_cases hlt : k < xs.length
        · obtain ⟨b, off, rfl, -, hbw, hcell⟩ := hA (by omega)
          have hs : xs[k]? = some xs[k] := List.getElem?_eq_getElem hlt
          have c0 : wr.cell? ⟨b, off + k * 5, none⟩ = _ := (hb.cell (p := ⟨b, off + k * 5, none⟩) (by omega : b < _)).trans (hcell k _ hs 0 _ rfl)
          have c1 := (hb.cell (p := ⟨b, off + k * 5 + 1, none⟩) (by omega : b < _)).trans (hcell k _ hs 1 _ rfl)
          have c2 := (hb.cell (p := ⟨b, off + k * 5 + 2, none⟩) (by omega : b < _)).trans (hcell k _ hs 2 _ rfl)
          have c3 := (hb.cell (p := ⟨b, off + k * 5 + 3, none⟩) (by omega : b < _)).trans (hcell k _ hs 3 _ rfl)
          have c4 := (hb.cell (p := ⟨b, off + k * 5 + 4, none⟩) (by omega : b < _)).trans (hcell k _ hs 4 _ rfl)
          clear hcell hA
          have HS := Lib.hid hs; clear hs
          generalize xs[k] = s at *
          have hlen := idxTo_len (useIs u) xs k
          have hki : (k : Int) < (xs.length : Int) := by omega
          cases hf : useIs u s with
          | true =>
            have HN := Lib.hid (idxTo_yes HS.out hf)
            have hf' : (s.use.toList == u.toList) = true := hf
            clear hf
            have hb2 : Below w1.heap.size w1 wr := by (repeat (first | with_reducible assumption | with_reducible exact Below.refl _ _ | with_reducible refine Below.setCell ?_ ?_ _ | with_reducible refine Below.alloc ?_ ?_ _ | with_reducible refine Below.drew ?_ | with_reducible refine below_drewN ?_ _ | with_reducible refine Below.step (by with_reducible assumption) ?_ ?_ | omega | (simp <;> omega) | (simp; done)))
            have hown2 : OwnL encInt 1 2 wr w1.heap.size u6 (idxTo (useIs u) xs k) := by first | exact hown | exact hown.alloc _
            have z3 : w1.heap.size ≤ wr.heap.size := hb2.size
            go_wp2_with (at_builtin; refine wpList_push (enc := encInt) _ _ (by first | rfl | simp) rfl (.tmp 30) (.tmp 32) 45 rfl w1.heap.size 2 _ (.int .i64 0) 1 8 Try.underlying45 (by kernel_rfl) rfl (by omega) _ (idxTo (useIs u) xs k) (k : Int) _ rfl rfl (by intro u hu; simp [encInt] at hu; subst hu; rfl) rfl rfl hown2 (by omega) (by omega) (by omega) ?_; intro v2 w3 hown3 hg3 hk3)
            go_roundw
            case rel => exact ⟨k + 1, by omega, by go_num, (by rw [HN.out]; exact hown3), hk3 _ _ (Nat.le_refl _) hb2⟩
            case measure => simp [intOf]; omega
          | false =>
            have HN := Lib.hid (idxTo_no HS.out hf)
            have hf' : (s.use.toList == u.toList) = false := hf
            clear hf
            have hown2 : OwnL encInt 1 2 wr w1.heap.size u6 (idxTo (useIs u) xs k) := by first | exact hown | exact hown.alloc _
            go_wp2_with fail
            go_roundw
            case rel => exact ⟨k + 1, by omega, by go_num, (by rw [HN.out]; exact hown2), by (repeat (first | with_reducible assumption | with_reducible exact Below.refl _ _ | with_reducible refine Below.setCell ?_ ?_ _ | with_reducible refine Below.alloc ?_ ?_ _ | with_reducible refine Below.drew ?_ | with_reducible refine below_drewN ?_ _ | with_reducible refine Below.step (by with_reducible assumption) ?_ ?_ | omega | (simp <;> omega) | (simp; done)))⟩
            case measure => simp [intOf]; omega
        · have e : k = xs.length := by omega
          have hown' : OwnL encInt 1 2 wr w1.heap.size u6 (idxTo (useIs u) xs xs.length) := by rw [← e]; exact hown
          clear e
          go_wp2_with fail
          go_ret2
          rw [HL.out]
          exact ⟨_, rfl, (hown'.rdw (fun _ => rfl)).wide z1 (Nat.le_refl _), by (repeat (first | with_reducible assumption | with_reducible exact Below.refl _ _ | with_reducible refine Below.setCell ?_ ?_ _ | with_reducible refine Below.alloc ?_ ?_ _ | with_reducible refine Below.drew ?_ | with_reducible refine below_drewN ?_ _ | with_reducible refine Below.step (by with_reducible assumption) ?_ ?_ | omega | (simp <;> omega) | (simp; done)))⟩
end Go.Proofs.Ythodceeioinnoaa
