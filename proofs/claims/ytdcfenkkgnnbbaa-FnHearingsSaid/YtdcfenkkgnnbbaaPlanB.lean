/- Walks: BookPlan. Written by a program (gen_book.py). -/
import Derived.Test.YtdcfenkkgnnbbaaPlanX
import Derived.Test.YtdcfenkkgnnbbaaBookingA
import Derived.Test.YtdcfenkkgnnbbaaMem3
import Derived.Deep.RegionHeld3
namespace Go.Proofs.Ytdcfenkkgnnbbaa
open Go.RowKit
set_option linter.unusedVariables false

def bookOf (a : Hearing) (s : Slot) : Booking := { room := s.room, day := s.day, frm := s.frm, to_ := s.frm + a.len, use := a.code }
def bookL (xs : List Hearing) (ps : List Slot) : List Booking := List.zipWith bookOf xs ps
def bookPlan (xs : List Hearing) (ps : List Slot) : List Booking × Int := if hearingsOk xs && slotsOk ps then (if planB xs ps then (bookL xs ps, 0) else ([], 5)) else ([], 1)
theorem bookL_step {xs : List Hearing} {ps : List Slot} {k : Nat} {a : Hearing} {s : Slot} (h1 : xs[k]? = some a) (h2 : ps[k]? = some s) : (bookL xs ps).take (k + 1) = (bookL xs ps).take k ++ [bookOf a s] := by
  have h : (bookL xs ps)[k]? = some (bookOf a s) := by unfold bookL; rw [List.getElem?_zipWith, h1, h2]
  rw [List.take_add_one, h]; rfl
theorem bookL_len {xs : List Hearing} {ps : List Slot} (h : ps.length = xs.length) : (bookL xs ps).length = xs.length := by unfold bookL; rw [List.length_zipWith, h]; omega
theorem planB_lens {xs : List Hearing} {ps : List Slot} (h : planB xs ps = true) : ps.length = xs.length := by
  unfold planB at h
  rw [Bool.and_eq_true] at h
  exact of_decide_eq_true h.1
theorem bookPlan_len {xs : List Hearing} {ps : List Slot} (h : xs.length ≤ 1048576) : (bookPlan xs ps).1.length ≤ 1048576 := by
  unfold bookPlan
  split
  · split
    · simp only [bookL, List.length_zipWith]; omega
    · simp
  · simp

set_option maxRecDepth 100000 in
set_option maxHeartbeats 4000000 in
theorem bookPlan_any (v : Value) (xs : List Hearing) (lo hi : Nat) (v2 : Value) (ps : List Slot) (lo2 hi2 : Nat) (w : World) (h : RdHearing w lo hi v xs) (hh : hi ≤ w.heap.size) (hm : xs.length ≤ 1048576) (hms : ∀ x ∈ xs, Hearing.small x) (h2 : RdF Slot.enc 3 w lo2 hi2 v2 ps) (hh2 : hi2 ≤ w.heap.size) (hm2 : ps.length ≤ 1048576) :
    Calls Try.prog 45 #[v, v2] w fun e w' => RetVC (fun v' w' => RdW Booking.enc 5 105 w' w.heap.size w'.heap.size v' (bookPlan xs ps).1) (bookPlan xs ps).2 w e w' := by
  have hbk : Below w.heap.size w w := Below.refl _ _
  obtain ⟨A2, c2, rfl, hcap2⟩ := h2.form
  obtain ⟨A1, c1, rfl, hcap1⟩ : ∃ A c, v = .slice A xs.length c ∧ xs.length ≤ c := by
    obtain ⟨rs, rfl, hR, -⟩ := h
    obtain ⟨A, c, hv, hc⟩ := hR.form
    exact ⟨A, c, by rw [hv, List.length_map], by rw [List.length_map]; exact hc⟩
  go_enter Try.func45, Try.ntmps45
  go_wp2_with fail
  refine (planOk_any _ xs lo hi _ ps lo2 hi2 _ h hh hm hms h2 hh2 hm2).mono ?_
  rintro e w1 ⟨rfl, b1⟩
  have zb1 := b1.size
  replace h := h.below b1 (by omega)
  replace h2 := h2.below b1 (by omega)
  replace hbk := Below.step b1 (by omega) hbk
  clear b1
  cases hc : (hearingsOk xs && slotsOk ps) with
  | false =>
    have HF := Lib.hid (show bookPlan xs ps = ([], 1) by unfold bookPlan; rw [hc]; rfl)
    go_wp2_with fail
    go_ret2
    rw [HF.out]
    exact ⟨_, rfl, ⟨none, 0, rfl, Nat.le_refl _, fun h => absurd h (by simp)⟩, by (repeat (first | with_reducible assumption | with_reducible exact Below.refl _ _ | with_reducible refine Below.setCell ?_ ?_ _ | with_reducible refine Below.alloc ?_ ?_ _ | with_reducible refine Below.drew ?_ | with_reducible refine below_drewN ?_ _ | with_reducible refine Below.step (by with_reducible assumption) ?_ ?_ | omega | (simp <;> omega) | (simp; done)))⟩
  | true =>
    have hc1 : hearingsOk xs = true := by rw [Bool.and_eq_true] at hc; exact hc.1
    have hc2 : slotsOk ps = true := by rw [Bool.and_eq_true] at hc; exact hc.2
    clear hc
    have hlen := hearingsOk_len hc1
    have hba := hearingsOk_all hc1
    have hsl := slotsOk_all hc2
    go_wp2_with fail
    refine (isPlan_any _ xs lo hi _ ps lo2 hi2 _ h (by omega) (by omega) hms h2 (by omega) hba hsl).mono ?_
    rintro e w3 ⟨rfl, b3⟩
    have zb3 := b3.size
    replace h := h.below b3 (by omega)
    replace h2 := h2.below b3 (by omega)
    replace hbk := Below.step b3 (by omega) hbk
    clear b3
    cases hpb : planB xs ps with
    | false =>
      have HF := Lib.hid (show bookPlan xs ps = ([], 5) by unfold bookPlan; rw [hc1, hc2, hpb]; rfl)
      go_wp2_with fail
      go_ret2
      rw [HF.out]
      exact ⟨_, rfl, ⟨none, 0, rfl, Nat.le_refl _, fun h => absurd h (by simp)⟩, by (repeat (first | with_reducible assumption | with_reducible exact Below.refl _ _ | with_reducible refine Below.setCell ?_ ?_ _ | with_reducible refine Below.alloc ?_ ?_ _ | with_reducible refine Below.drew ?_ | with_reducible refine below_drewN ?_ _ | with_reducible refine Below.step (by with_reducible assumption) ?_ ?_ | omega | (simp <;> omega) | (simp; done)))⟩
    | true =>
      have HF := Lib.hid (show bookPlan xs ps = (bookL xs ps, 0) by unfold bookPlan; rw [hc1, hc2, hpb]; rfl)
      have hl := planB_lens hpb
      have hbl := bookL_len hl
      clear hpb hc1 hc2
      obtain ⟨rs, hxs, hR, hP⟩ := h
      have hnx : xs.length = rs.length := by rw [← hxs]; simp
      have HM := Lib.hid hms; clear hms
      have HP := Lib.hid hP; clear hP
      have HB := Lib.hid hba; clear hba
      have HL := Lib.hid hsl; clear hsl
      obtain ⟨A, c, hv, hc⟩ := hR.form
      injection hv with e1 e2 e3
      subst e1 e3
      clear e2
      rw [hnx] at hcap1
      have HE : ∀ (n : Nat), n = xs.length → n = rs.length := fun n h => by omega
      rw [hl, hnx]
      go_wp2_with fail
      go_loopw [6, 7, 8, 9, 21] (fun u _ _ _ i wr => ∃ k : Nat, k ≤ rs.length ∧ i = .int .i64 k ∧ OwnL Booking.enc 5 105 wr w3.heap.size u ((bookL xs ps).take k) ∧ Below w3.heap.size w3 wr) (fun _ _ _ _ i _ => rs.length - (intOf i).toNat)
      case atStart => exact ⟨0, Nat.zero_le _, rfl, OwnL.emptyAt (w := w3) rfl (Nat.le_refl _), by (repeat (first | with_reducible assumption | with_reducible exact Below.refl _ _ | with_reducible refine Below.setCell ?_ ?_ _ | with_reducible refine Below.alloc ?_ ?_ _ | with_reducible refine Below.drew ?_ | with_reducible refine below_drewN ?_ _ | with_reducible refine Below.step (by with_reducible assumption) ?_ ?_ | omega | (simp <;> omega) | (simp; done)))⟩
      case round =>
        obtain ⟨k, hk, rfl, hown, hbel⟩ := hrel
        have z9 := hbel.size
        have hkl : ((bookL xs ps).take k).length ≤ 1000 := by simp; omega
        by_cases hlt : k < rs.length
        · have hki : (k : Int) < (rs.length : Int) := by omega
          obtain ⟨r0, b0, off0, HS0, rfl, -, hbw0, a0_0, a0_1, a0_2, a0_3⟩ := RdHearing.at hR hbel (by omega) hlt
          have HX0 := Lib.hid (show xs[k]? = some r0.h by rw [← hxs]; exact map_at (f := HearingR.h) rfl HS0.out)
          have hs0 := HM.out r0.h (List.mem_of_getElem? HX0.out)
          have HO0 := Lib.hid (HB.out r0.h (List.mem_of_getElem? HX0.out))
          have ho0 := r0.h.ok_bounds HO0.out
          have HPr0 := Lib.hid (HP.out r0 (List.mem_of_getElem? HS0.out))
          obtain ⟨P0, C0, hpe0, hpc0⟩ := (HPr0.out).form
          have HG0 : RdF encStr 1 w3 lo hi (.slice P0 r0.h.people.length C0) r0.h.people := hpe0 ▸ HPr0.out
          rw [hpe0] at a0_2
          have HQ0 := Lib.hid hpe0
          clear hpe0 HPr0
          have bX := Below.step ((Below.refl wr.heap.size wr).alloc (Nat.le_refl _) (.cells #[.string r0.h.code, .int .i64 r0.h.len, .slice P0 r0.h.people.length C0, .int .i64 r0.h.last] 30)) z9 hbel
          obtain ⟨s0, d0, of0, HT0, rfl, -, hdw0, c0_0, c0_1, c0_2⟩ := Slot.at h2 bX (by omega) (show k < ps.length by omega)
          have ht0 := s0.ok_bounds (HL.out s0 (List.mem_of_getElem? HT0.out))
          have HN := Lib.hid (bookL_step HX0.out HT0.out)
          go_wp2_with (at_builtin; refine wpList_push (enc := Booking.enc) _ _ (by first | rfl | simp) rfl (.tmp 30) (.tmp 45) 65 rfl w3.heap.size 105 _ (.agg #[.int .i64 0, .int .i64 0, .int .i64 0, .int .i64 0, .string ByteArray.empty]) 5 48 Try.underlying65 (by kernel_rfl) rfl (by omega) _ ((bookL xs ps).take k) (bookOf r0.h s0) _ rfl rfl (Booking.one' _) rfl rfl ((hown.alloc _).alloc _) (by omega) (by omega) (by (first | omega | (simp; omega) | (simp; done))) ?_; intro v9 w9 hown9 hg9 hk9)
          go_roundw
          case rel => exact ⟨k + 1, by omega, by go_num, (by rw [HN.out]; exact hown9), hk9 _ _ (Nat.le_refl _) (by (repeat (first | with_reducible assumption | with_reducible exact Below.refl _ _ | with_reducible refine Below.setCell ?_ ?_ _ | with_reducible refine Below.alloc ?_ ?_ _ | with_reducible refine Below.drew ?_ | with_reducible refine below_drewN ?_ _ | with_reducible refine Below.step (by with_reducible assumption) ?_ ?_ | omega | (simp <;> omega) | (simp; done))))⟩
          case measure => simp [intOf]; omega
        · have hkn : k = rs.length := by omega
          have hown2 := hown
          rw [hkn, ← hnx, ← hbl, List.take_length] at hown2
          have hrw := hown2.rdw (fun _ => rfl)
          obtain ⟨A9, C9, hv9, hc9⟩ := RdF.form hrw.rd
          clear hown
          go_wp2_with fail
          go_ret2
          rw [HF.out]
          exact ⟨_, rfl, hrw.wide (by omega) (Nat.le_refl _), by (repeat (first | with_reducible assumption | with_reducible exact Below.refl _ _ | with_reducible refine Below.setCell ?_ ?_ _ | with_reducible refine Below.alloc ?_ ?_ _ | with_reducible refine Below.drew ?_ | with_reducible refine below_drewN ?_ _ | with_reducible refine Below.step (by with_reducible assumption) ?_ ?_ | omega | (simp <;> omega) | (simp; done)))⟩
set_option maxRecDepth 100000 in
set_option maxHeartbeats 4000000 in
theorem sBookPlan_any (v : Value) (xs : List Hearing) (lo hi : Nat) (v2 : Value) (ps : List Slot) (lo2 hi2 : Nat) (w : World) (h : RdHearing w lo hi v xs) (hh : hi ≤ w.heap.size) (hm : xs.length ≤ 1048576) (hms : ∀ x ∈ xs, Hearing.small x) (h2 : RdF Slot.enc 3 w lo2 hi2 v2 ps) (hh2 : hi2 ≤ w.heap.size) (hm2 : ps.length ≤ 1048576) :
    Calls Try.prog 44 #[v, v2] w fun e w' => RetVC (fun v' w' => RdW Booking.enc 5 105 w' w.heap.size w'.heap.size v' (bookPlan xs ps).1) (bookPlan xs ps).2 w e w' := by
  have hbk : Below w.heap.size w w := Below.refl _ _
  obtain ⟨A2, c2, rfl, hcap2⟩ := h2.form
  obtain ⟨A1, c1, rfl, hcap1⟩ : ∃ A c, v = .slice A xs.length c ∧ xs.length ≤ c := by
    obtain ⟨rs, rfl, hR, -⟩ := h
    obtain ⟨A, c, hv, hc⟩ := hR.form
    exact ⟨A, c, by rw [hv, List.length_map], by rw [List.length_map]; exact hc⟩
  go_enter Try.func44, Try.ntmps44
  go_wp2_with fail
  refine (sAreHearings_any _ xs lo hi _ h hh hm hms).mono ?_
  rintro e w1 ⟨rfl, b1⟩
  have zb1 := b1.size
  replace h := h.below b1 (by omega)
  replace h2 := h2.below b1 (by omega)
  replace hbk := Below.step b1 (by omega) hbk
  clear b1
  cases hc1 : hearingsOk xs with
  | false =>
    have HF := Lib.hid (show bookPlan xs ps = ([], 1) by unfold bookPlan; rw [hc1]; rfl)
    go_wp2_with fail
    go_ret2
    rw [HF.out]
    exact ⟨_, rfl, ⟨none, 0, rfl, Nat.le_refl _, fun h => absurd h (by simp)⟩, by (repeat (first | with_reducible assumption | with_reducible exact Below.refl _ _ | with_reducible refine Below.setCell ?_ ?_ _ | with_reducible refine Below.alloc ?_ ?_ _ | with_reducible refine Below.drew ?_ | with_reducible refine below_drewN ?_ _ | with_reducible refine Below.step (by with_reducible assumption) ?_ ?_ | omega | (simp <;> omega) | (simp; done)))⟩
  | true =>
    go_wp2_with fail
    refine (sAreSlots_any _ ps lo2 hi2 _ h2 (by omega) hm2).mono ?_
    rintro e w2 ⟨rfl, b2⟩
    have zb2 := b2.size
    replace h := h.below b2 (by omega)
    replace h2 := h2.below b2 (by omega)
    replace hbk := Below.step b2 (by omega) hbk
    clear b2
    cases hc2 : slotsOk ps with
    | false =>
      have HF := Lib.hid (show bookPlan xs ps = ([], 1) by unfold bookPlan; rw [hc1, hc2]; rfl)
      go_wp2_with fail
      go_ret2
      rw [HF.out]
      exact ⟨_, rfl, ⟨none, 0, rfl, Nat.le_refl _, fun h => absurd h (by simp)⟩, by (repeat (first | with_reducible assumption | with_reducible exact Below.refl _ _ | with_reducible refine Below.setCell ?_ ?_ _ | with_reducible refine Below.alloc ?_ ?_ _ | with_reducible refine Below.drew ?_ | with_reducible refine below_drewN ?_ _ | with_reducible refine Below.step (by with_reducible assumption) ?_ ?_ | omega | (simp <;> omega) | (simp; done)))⟩
    | true =>
      have hlen := hearingsOk_len hc1
      have hba := hearingsOk_all hc1
      have hsl := slotsOk_all hc2
      go_wp2_with fail
      refine (l19Plan_any _ xs lo hi _ ps lo2 hi2 _ h (by omega) (by omega) hms h2 (by omega) hba hsl).mono ?_
      rintro e w3 ⟨rfl, b3⟩
      have zb3 := b3.size
      replace h := h.below b3 (by omega)
      replace h2 := h2.below b3 (by omega)
      replace hbk := Below.step b3 (by omega) hbk
      clear b3
      cases hpb : planB xs ps with
      | false =>
        have HF := Lib.hid (show bookPlan xs ps = ([], 5) by unfold bookPlan; rw [hc1, hc2, hpb]; rfl)
        go_wp2_with fail
        go_ret2
        rw [HF.out]
        exact ⟨_, rfl, ⟨none, 0, rfl, Nat.le_refl _, fun h => absurd h (by simp)⟩, by (repeat (first | with_reducible assumption | with_reducible exact Below.refl _ _ | with_reducible refine Below.setCell ?_ ?_ _ | with_reducible refine Below.alloc ?_ ?_ _ | with_reducible refine Below.drew ?_ | with_reducible refine below_drewN ?_ _ | with_reducible refine Below.step (by with_reducible assumption) ?_ ?_ | omega | (simp <;> omega) | (simp; done)))⟩
      | true =>
        have HF := Lib.hid (show bookPlan xs ps = (bookL xs ps, 0) by unfold bookPlan; rw [hc1, hc2, hpb]; rfl)
        have hl := planB_lens hpb
        have hbl := bookL_len hl
        clear hpb hc1 hc2
        obtain ⟨rs, hxs, hR, hP⟩ := h
        have hnx : xs.length = rs.length := by rw [← hxs]; simp
        have HM := Lib.hid hms; clear hms
        have HP := Lib.hid hP; clear hP
        have HB := Lib.hid hba; clear hba
        have HL := Lib.hid hsl; clear hsl
        obtain ⟨A, c, hv, hc⟩ := hR.form
        injection hv with e1 e2 e3
        subst e1 e3
        clear e2
        rw [hnx] at hcap1
        have HE : ∀ (n : Nat), n = xs.length → n = rs.length := fun n h => by omega
        rw [hl, hnx]
        go_wp2_with fail
        go_loopw [6, 7] (fun u i wr => ∃ k : Nat, k ≤ rs.length ∧ i = .int .i64 k ∧ OwnL Booking.enc 5 105 wr w3.heap.size u ((bookL xs ps).take k) ∧ Below w3.heap.size w3 wr) (fun _ i _ => rs.length - (intOf i).toNat)
        case atStart => exact ⟨0, Nat.zero_le _, rfl, OwnL.emptyAt (w := w3) rfl (Nat.le_refl _), by (repeat (first | with_reducible assumption | with_reducible exact Below.refl _ _ | with_reducible refine Below.setCell ?_ ?_ _ | with_reducible refine Below.alloc ?_ ?_ _ | with_reducible refine Below.drew ?_ | with_reducible refine below_drewN ?_ _ | with_reducible refine Below.step (by with_reducible assumption) ?_ ?_ | omega | (simp <;> omega) | (simp; done)))⟩
        case round =>
          obtain ⟨k, hk, rfl, hown, hbel⟩ := hrel
          have z9 := hbel.size
          have hkl : ((bookL xs ps).take k).length ≤ 1000 := by simp; omega
          by_cases hlt : k < rs.length
          · have hki : (k : Int) < (rs.length : Int) := by omega
            obtain ⟨r0, b0, off0, HS0, rfl, -, hbw0, a0_0, a0_1, a0_2, a0_3⟩ := RdHearing.at hR hbel (by omega) hlt
            have HX0 := Lib.hid (show xs[k]? = some r0.h by rw [← hxs]; exact map_at (f := HearingR.h) rfl HS0.out)
            have hs0 := HM.out r0.h (List.mem_of_getElem? HX0.out)
            have HO0 := Lib.hid (HB.out r0.h (List.mem_of_getElem? HX0.out))
            have ho0 := r0.h.ok_bounds HO0.out
            have HPr0 := Lib.hid (HP.out r0 (List.mem_of_getElem? HS0.out))
            obtain ⟨P0, C0, hpe0, hpc0⟩ := (HPr0.out).form
            have HG0 : RdF encStr 1 w3 lo hi (.slice P0 r0.h.people.length C0) r0.h.people := hpe0 ▸ HPr0.out
            rw [hpe0] at a0_2
            have HQ0 := Lib.hid hpe0
            clear hpe0 HPr0
            obtain ⟨s0, d0, of0, HT0, rfl, -, hdw0, c0_0, c0_1, c0_2⟩ := Slot.at h2 hbel (by omega) (show k < ps.length by omega)
            have ht0 := s0.ok_bounds (HL.out s0 (List.mem_of_getElem? HT0.out))
            have HN := Lib.hid (bookL_step HX0.out HT0.out)
            have hwr : IntKind.i64.wrap (s0.frm + r0.h.len) = s0.frm + r0.h.len := IntWalk.i64_in _ (by omega)
            go_wp2_with fail
            go_region_held3 (fun w' => w'.cell? ⟨b0, off0 + k * 4, none⟩ = some (.string r0.h.code) ∧ w'.cell? ⟨b0, off0 + k * 4 + 1, none⟩ = some (.int .i64 r0.h.len) ∧ w'.cell? ⟨b0, off0 + k * 4 + 2, none⟩ = some (.slice P0 r0.h.people.length C0) ∧ w'.cell? ⟨b0, off0 + k * 4 + 3, none⟩ = some (.int .i64 r0.h.last) ∧ w'.cell? ⟨d0, of0 + k * 3, none⟩ = some (.int .i64 s0.room) ∧ w'.cell? ⟨d0, of0 + k * 3 + 1, none⟩ = some (.int .i64 s0.day) ∧ w'.cell? ⟨d0, of0 + k * 3 + 2, none⟩ = some (.int .i64 s0.frm)) (go_keep)
              (first | (rw [if_pos (by rfl)]; refine wp_app (enc := Booking.enc) _ (.tmp 27) (.tmp 60) _ (by rfl) w3.heap.size 105 (.agg #[.int .i64 0, .int .i64 0, .int .i64 0, .int .i64 0, .string ByteArray.empty]) 5 48 Try.underlying65 (by kernel_rfl) rfl (by omega) (fun _ => rfl) Booking.one' (by omega) _ _ ((bookL xs ps).take k) [bookOf r0.h s0] 0 (wr.heap.size + 1) (by rfl) (by rfl) (by first | exact hown | exact hown.alloc _ | exact (OwnL.drew hown).alloc _ | exact OwnL.drew (hown.alloc _)) (RdF.one (enc := Booking.enc) (sz := 5) (x := bookOf r0.h s0) (lo := 0) (hi := wr.heap.size + 1) (b := wr.heap.size) (t := 105) (cs := #[.int .i64 s0.room, .int .i64 s0.day, .int .i64 s0.frm, .int .i64 (s0.frm + r0.h.len), .string r0.h.code]) (by first | exact Blk.new wr _ _ | exact Blk.new wr.drew _ _ | exact Blk.newAt rfl | exact Blk.drew (Blk.newAt rfl) | exact Blk.drew (Blk.newAt (by simp)) | exact Blk.newAt (by simp)) rfl (Nat.zero_le _) (Nat.lt_succ_self _)) (Nat.le_trans z9 (Below.size (show Below w3.heap.size wr _ from (by (repeat (first | with_reducible assumption | with_reducible exact Below.refl _ _ | with_reducible refine Below.setCell ?_ ?_ _ | with_reducible refine Below.alloc ?_ ?_ _ | with_reducible refine Below.drew ?_ | with_reducible refine below_drewN ?_ _ | with_reducible refine Below.step (by with_reducible assumption) ?_ ?_ | omega | (simp <;> omega) | (simp; done))))))) (by first | (simp; omega) | (simp; done) | omega) ?_; intro v9 w9 hown9 hg9 hk9; have bq : Below w3.heap.size wr w9 := hk9 _ _ (Nat.le_refl _) (by (repeat (first | with_reducible assumption | with_reducible exact Below.refl _ _ | with_reducible refine Below.setCell ?_ ?_ _ | with_reducible refine Below.alloc ?_ ?_ _ | with_reducible refine Below.drew ?_ | with_reducible refine below_drewN ?_ _ | with_reducible refine Below.step (by with_reducible assumption) ?_ ?_ | omega | (simp <;> omega) | (simp; done)))); have kq0 := (bq.cell (p := ⟨b0, off0 + k * 4, none⟩) (by show b0 < _; omega)).trans a0_0; have kq1 := (bq.cell (p := ⟨b0, off0 + k * 4 + 1, none⟩) (by show b0 < _; omega)).trans a0_1; have kq2 := (bq.cell (p := ⟨b0, off0 + k * 4 + 2, none⟩) (by show b0 < _; omega)).trans a0_2; have kq3 := (bq.cell (p := ⟨b0, off0 + k * 4 + 3, none⟩) (by show b0 < _; omega)).trans a0_3; have kq4 := (bq.cell (p := ⟨d0, of0 + k * 3, none⟩) (by show d0 < _; omega)).trans c0_0; have kq5 := (bq.cell (p := ⟨d0, of0 + k * 3 + 1, none⟩) (by show d0 < _; omega)).trans c0_1; have kq6 := (bq.cell (p := ⟨d0, of0 + k * 3 + 2, none⟩) (by show d0 < _; omega)).trans c0_2))
            go_wp2_with fail
            go_roundw
            case rel => exact ⟨k + 1, by omega, by go_num, (by rw [HN.out]; exact hown9), hbel.trans bq⟩
            case measure => simp [intOf]; omega
          · have hkn : k = rs.length := by omega
            have hown2 := hown
            rw [hkn, ← hnx, ← hbl, List.take_length] at hown2
            have hrw := hown2.rdw (fun _ => rfl)
            obtain ⟨A9, C9, hv9, hc9⟩ := RdF.form hrw.rd
            clear hown
            go_wp2_with fail
            go_ret2
            rw [HF.out]
            exact ⟨_, rfl, hrw.wide (by omega) (Nat.le_refl _), by (repeat (first | with_reducible assumption | with_reducible exact Below.refl _ _ | with_reducible refine Below.setCell ?_ ?_ _ | with_reducible refine Below.alloc ?_ ?_ _ | with_reducible refine Below.drew ?_ | with_reducible refine below_drewN ?_ _ | with_reducible refine Below.step (by with_reducible assumption) ?_ ?_ | omega | (simp <;> omega) | (simp; done)))⟩
end Go.Proofs.Ytdcfenkkgnnbbaa
