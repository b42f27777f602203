/- Walks: the demands that a calendar keeps. Written by a program (gen_keptx.py). -/
import Derived.Test.YtgpknnlphabpkaaGreatKeptW
import Derived.Test.YtgpknnlphabpkaaGreatRowI
namespace Go.Proofs.YtgpknnlphabpkaaGreat
open Go.RowKit
set_option linter.unusedVariables false

theorem keptBy_bad {xs : List Hearing} {ps : List Slot} {ds : List Demand} {cal : List Int} (h : areDemands xs ps ds = false) : keptBy xs ps ds cal = ([], 1) := by unfold keptBy; rw [h]; rfl
theorem keptBy_code {xs : List Hearing} {ps : List Slot} {ds : List Demand} {cal : List Int} (h : areDemands xs ps ds = true) (hc : ¬ calCode xs ps cal = 0) : keptBy xs ps ds cal = ([], calCode xs ps cal) := by unfold keptBy; rw [if_pos h, if_neg hc]
theorem keptBy_ok {xs : List Hearing} {ps : List Slot} {ds : List Demand} {cal : List Int} (h : areDemands xs ps ds = true) (hc : calCode xs ps cal = 0) : keptBy xs ps ds cal = (keptIdx ps cal ds ds.length, 0) := by unfold keptBy; rw [if_pos h, if_pos hc]
theorem areDemands_len {xs : List Hearing} {ps : List Slot} {ds : List Demand} (h : areDemands xs ps ds = true) : ds.length ≤ 8 := by
  unfold areDemands at h
  rw [Bool.and_eq_true, Bool.and_eq_true] at h
  exact of_decide_eq_true h.2.2
theorem areDemands_both {xs : List Hearing} {ps : List Slot} {ds : List Demand} (h : areDemands xs ps ds = true) : bothOk xs ps = true := by
  unfold areDemands at h
  rw [Bool.and_eq_true] at h
  exact h.1

set_option maxRecDepth 100000 in
set_option maxHeartbeats 4000000 in
theorem keptByL_any (v : Value) (ps : List Slot) (lo hi : Nat) (v3 : Value) (ds : List Demand) (lo3 hi3 : Nat) (v2 : Value) (cal : List Int) (lo2 hi2 : Nat) (w : World) (h : RdF Slot.enc 3 w lo hi v ps) (hh : hi ≤ w.heap.size) (hm : ps.length ≤ 1048576) (h3 : RdF Demand.enc 3 w lo3 hi3 v3 ds) (hh3 : hi3 ≤ w.heap.size) (hm3 : ds.length ≤ 1048576) (h2 : RdF encInt 1 w lo2 hi2 v2 cal) (hh2 : hi2 ≤ w.heap.size) (hm2 : cal.length ≤ 1048576) (hix : cal.all (idxOk ps.length) = true) (hd : ∀ d ∈ ds, d.okFor cal.length ps.length = true) :
    Calls Tryz.prog 60 #[v, v3, v2] w fun e w' => RetV (fun v' w' => OwnL encInt 1 2 w' w.heap.size v' (keptIdx ps cal ds ds.length)) w e w' := by
  obtain ⟨A, c, rfl, hcap⟩ := h.form
  obtain ⟨A2, c2, rfl, hcap2⟩ := h2.form
  obtain ⟨A3, c3, rfl, hcap3⟩ := h3.form
  have HI := Lib.hid hix; clear hix
  have HD := Lib.hid hd; clear hd
  go_enter Tryz.func60, Tryz.ntmps60
  go_wp2_with fail
  go_loopw [7, 8, 9, 13] (fun u _ _ j wr => ∃ k : Nat, k ≤ ds.length ∧ j = .int .i64 k ∧ OwnL encInt 1 2 wr w.heap.size u (keptIdx ps cal ds k) ∧ Below w.heap.size w wr) (fun _ _ _ j _ => ds.length - (intOf j).toNat)
  case atStart => exact ⟨0, Nat.zero_le _, rfl, OwnL.emptyAt rfl (Nat.le_refl _), by (repeat (first | with_reducible assumption | with_reducible exact Below.refl _ _ | with_reducible refine Below.setCell ?_ ?_ _ | with_reducible refine Below.alloc ?_ ?_ _ | with_reducible refine Below.drew ?_ | with_reducible refine below_drewN ?_ _ | with_reducible refine Below.step (by with_reducible assumption) ?_ ?_ | omega | (simp <;> omega) | (simp; done)))⟩
  case round =>
    obtain ⟨k, hk, rfl, hown, hbel⟩ := hrel
    have z0 := hbel.size
    have hkl := keptIdx_len ps cal ds k
    by_cases hlt : k < ds.length
    · have hki : (k : Int) < (ds.length : Int) := by omega
      obtain ⟨d, b, off, HS, rfl, -, hbw, d0, d1, d2⟩ := Demand.at h3 hbel hh3 hlt
      have HDd := Lib.hid (HD.out d (List.mem_of_getElem? HS.out))
      go_wp2_with fail
      refine (kept_any _ ps lo hi d _ cal lo2 hi2 _ (h.below (B := w.heap.size) (by (repeat (first | with_reducible assumption | with_reducible exact Below.refl _ _ | with_reducible refine Below.setCell ?_ ?_ _ | with_reducible refine Below.alloc ?_ ?_ _ | with_reducible refine Below.drew ?_ | with_reducible refine below_drewN ?_ _ | with_reducible refine Below.step (by with_reducible assumption) ?_ ?_ | omega | (simp <;> omega) | (simp; done)))) hh) (by first | omega | (simp; omega)) hm (h2.below (B := w.heap.size) (by (repeat (first | with_reducible assumption | with_reducible exact Below.refl _ _ | with_reducible refine Below.setCell ?_ ?_ _ | with_reducible refine Below.alloc ?_ ?_ _ | with_reducible refine Below.drew ?_ | with_reducible refine below_drewN ?_ _ | with_reducible refine Below.step (by with_reducible assumption) ?_ ?_ | omega | (simp <;> omega) | (simp; done)))) hh2) (by first | omega | (simp; omega)) hm2 HI.out HDd.out).mono ?_
      rintro e w5 ⟨rfl, b5⟩
      have b5' : Below wr.heap.size wr w5 := by (repeat (first | with_reducible assumption | with_reducible exact Below.refl _ _ | with_reducible refine Below.setCell ?_ ?_ _ | with_reducible refine Below.alloc ?_ ?_ _ | with_reducible refine Below.drew ?_ | with_reducible refine below_drewN ?_ _ | with_reducible refine Below.step (by with_reducible assumption) ?_ ?_ | omega | (simp <;> omega) | (simp; done)))
      have z5 := b5'.size
      replace hown := hown.below b5'
      replace hbel := Below.step b5' z0 hbel
      clear b5 b5' d0 d1 d2
      cases hkb : keptB ps cal d with
      | false =>
        have HN := Lib.hid (keptIdx_no HS.out hkb)
        clear hkb
        go_wp2_with fail
        go_roundw
        case rel => exact ⟨k + 1, by omega, by go_num, (by rw [HN.out]; exact hown), hbel⟩
        case measure => simp [intOf]; omega
      | true =>
        have HN := Lib.hid (keptIdx_yes HS.out hkb)
        clear hkb
        go_wp2_with (at_builtin; refine wpList_push (enc := encInt) _ _ (by first | rfl | simp) rfl (.tmp 22) (.tmp 24) 29 rfl w.heap.size 2 _ (.int .i64 0) 1 8 Tryz.underlying29 (by kernel_rfl) rfl (by omega) _ (keptIdx ps cal ds k) (k : Int) _ rfl rfl (encInt_one _) rfl rfl hown (by omega) (by omega) (by (first | omega | (simp; omega) | (simp; done))) ?_; intro v9 w9 hown9 hg9 hk9)
        go_roundw
        case rel => exact ⟨k + 1, by omega, by go_num, (by rw [HN.out]; exact hown9), hk9 _ _ (Nat.le_refl _) hbel⟩
        case measure => simp [intOf]; omega
    · have hkn : k = ds.length := by omega
      subst hkn
      go_wp2_with fail
      go_ret
      exact ⟨_, rfl, hown, hbel⟩
set_option maxRecDepth 100000 in
set_option maxHeartbeats 4000000 in
theorem l22Kept_any (v : Value) (ps : List Slot) (lo hi : Nat) (v3 : Value) (ds : List Demand) (lo3 hi3 : Nat) (v2 : Value) (cal : List Int) (lo2 hi2 : Nat) (w : World) (h : RdF Slot.enc 3 w lo hi v ps) (hh : hi ≤ w.heap.size) (hm : ps.length ≤ 1048576) (h3 : RdF Demand.enc 3 w lo3 hi3 v3 ds) (hh3 : hi3 ≤ w.heap.size) (hm3 : ds.length ≤ 1048576) (h2 : RdF encInt 1 w lo2 hi2 v2 cal) (hh2 : hi2 ≤ w.heap.size) (hm2 : cal.length ≤ 1048576) (hix : cal.all (idxOk ps.length) = true) (hd : ∀ d ∈ ds, d.okFor cal.length ps.length = true) :
    Calls Tryz.prog 62 #[v, v3, v2] w fun e w' => RetV (fun v' w' => OwnL encInt 1 2 w' w.heap.size v' (keptIdx ps cal ds ds.length)) w e w' := by
  obtain ⟨A, c, rfl, hcap⟩ := h.form
  obtain ⟨A2, c2, rfl, hcap2⟩ := h2.form
  obtain ⟨A3, c3, rfl, hcap3⟩ := h3.form
  have HI := Lib.hid hix; clear hix
  have HD := Lib.hid hd; clear hd
  go_enter Tryz.func62, Tryz.ntmps62
  go_wp2_with fail
  go_loopw [7, 8] (fun u j wr => ∃ k : Nat, k ≤ ds.length ∧ j = .int .i64 k ∧ OwnL encInt 1 2 wr w.heap.size u (keptIdx ps cal ds k) ∧ Below w.heap.size w wr) (fun _ j _ => ds.length - (intOf j).toNat)
  case atStart => exact ⟨0, Nat.zero_le _, rfl, OwnL.emptyAt rfl (Nat.le_refl _), by (repeat (first | with_reducible assumption | with_reducible exact Below.refl _ _ | with_reducible refine Below.setCell ?_ ?_ _ | with_reducible refine Below.alloc ?_ ?_ _ | with_reducible refine Below.drew ?_ | with_reducible refine below_drewN ?_ _ | with_reducible refine Below.step (by with_reducible assumption) ?_ ?_ | omega | (simp <;> omega) | (simp; done)))⟩
  case round =>
    obtain ⟨k, hk, rfl, hown, hbel⟩ := hrel
    have z0 := hbel.size
    have hkl := keptIdx_len ps cal ds k
    by_cases hlt : k < ds.length
    · have hki : (k : Int) < (ds.length : Int) := by omega
      obtain ⟨d, b, off, HS, rfl, -, hbw, d0, d1, d2⟩ := Demand.at h3 hbel hh3 hlt
      have HDd := Lib.hid (HD.out d (List.mem_of_getElem? HS.out))
      go_wp2_with fail
      refine (l22Keeps_any _ ps lo hi d _ cal lo2 hi2 _ (h.below (B := w.heap.size) (by (repeat (first | with_reducible assumption | with_reducible exact Below.refl _ _ | with_reducible refine Below.setCell ?_ ?_ _ | with_reducible refine Below.alloc ?_ ?_ _ | with_reducible refine Below.drew ?_ | with_reducible refine below_drewN ?_ _ | with_reducible refine Below.step (by with_reducible assumption) ?_ ?_ | omega | (simp <;> omega) | (simp; done)))) hh) (by first | omega | (simp; omega)) hm (h2.below (B := w.heap.size) (by (repeat (first | with_reducible assumption | with_reducible exact Below.refl _ _ | with_reducible refine Below.setCell ?_ ?_ _ | with_reducible refine Below.alloc ?_ ?_ _ | with_reducible refine Below.drew ?_ | with_reducible refine below_drewN ?_ _ | with_reducible refine Below.step (by with_reducible assumption) ?_ ?_ | omega | (simp <;> omega) | (simp; done)))) hh2) (by first | omega | (simp; omega)) hm2 HI.out HDd.out).mono ?_
      rintro e w5 ⟨rfl, b5⟩
      have b5' : Below wr.heap.size wr w5 := by (repeat (first | with_reducible assumption | with_reducible exact Below.refl _ _ | with_reducible refine Below.setCell ?_ ?_ _ | with_reducible refine Below.alloc ?_ ?_ _ | with_reducible refine Below.drew ?_ | with_reducible refine below_drewN ?_ _ | with_reducible refine Below.step (by with_reducible assumption) ?_ ?_ | omega | (simp <;> omega) | (simp; done)))
      have z5 := b5'.size
      replace hown := hown.below b5'
      replace hbel := Below.step b5' z0 hbel
      clear b5 b5' d0 d1 d2
      cases hkb : keptB ps cal d with
      | false =>
        have HN := Lib.hid (keptIdx_no HS.out hkb)
        clear hkb
        go_wp2_with fail
        go_roundw
        case rel => exact ⟨k + 1, by omega, by go_num, (by rw [HN.out]; exact hown), hbel⟩
        case measure => simp [intOf]; omega
      | true =>
        have HN := Lib.hid (keptIdx_yes HS.out hkb)
        clear hkb
        go_wp2_with (at_builtin; refine wpList_push (enc := encInt) _ _ (by first | rfl | simp) rfl (.tmp 23) (.tmp 25) 29 rfl w.heap.size 2 _ (.int .i64 0) 1 8 Tryz.underlying29 (by kernel_rfl) rfl (by omega) _ (keptIdx ps cal ds k) (k : Int) _ rfl rfl (encInt_one _) rfl rfl hown (by omega) (by omega) (by (first | omega | (simp; omega) | (simp; done))) ?_; intro v9 w9 hown9 hg9 hk9)
        go_roundw
        case rel => exact ⟨k + 1, by omega, by go_num, (by rw [HN.out]; exact hown9), hk9 _ _ (Nat.le_refl _) hbel⟩
        case measure => simp [intOf]; omega
    · have hkn : k = ds.length := by omega
      subst hkn
      go_wp2_with fail
      go_ret
      exact ⟨_, rfl, hown, hbel⟩
set_option maxRecDepth 100000 in
set_option maxHeartbeats 4000000 in
theorem impKeptBy_any (v : Value) (xs : List Hearing) (lo hi : Nat) (v2 : Value) (ps : List Slot) (lo2 hi2 : Nat) (v3 : Value) (ds : List Demand) (lo3 hi3 : Nat) (v4 : Value) (cal : List Int) (lo4 hi4 : Nat) (w : World) (h : RdHearing w lo hi v xs) (hh : hi ≤ w.heap.size) (hm : xs.length ≤ 1048576) (hms : ∀ x ∈ xs, Hearing.small x) (h2 : RdF Slot.enc 3 w lo2 hi2 v2 ps) (hh2 : hi2 ≤ w.heap.size) (hm2 : ps.length ≤ 1048576) (h3 : RdF Demand.enc 3 w lo3 hi3 v3 ds) (hh3 : hi3 ≤ w.heap.size) (hm3 : ds.length ≤ 1048576) (h4 : RdF encInt 1 w lo4 hi4 v4 cal) (hh4 : hi4 ≤ w.heap.size) (hm4 : cal.length ≤ 1048576) :
    Calls Tryz.prog 18 #[v, v2, v3, v4] w fun e w' => RetVC (fun v' w' => RdW encInt 1 2 w' w.heap.size w'.heap.size v' (keptBy xs ps ds cal).1) (keptBy xs ps ds cal).2 w e w' := by
  go_enter Tryz.func18, Tryz.ntmps18
  go_wp2_with fail
  refine (areDemands_any _ xs lo hi _ ps lo2 hi2 _ ds lo3 hi3 _ h hh hm hms h2 hh2 hm2 h3 hh3 hm3).mono ?_
  rintro e w1 ⟨rfl, b1⟩
  have z1 := b1.size
  replace h := h.below b1 (by omega)
  replace h2 := h2.below b1 (by omega)
  replace h3 := h3.below b1 (by omega)
  replace h4 := h4.below b1 (by omega)
  cases hc : areDemands xs ps ds with
  | false =>
    have HF := Lib.hid (keptBy_bad (cal := cal) hc)
    go_wp2_with fail
    go_ret2
    rw [HF.out]
    exact ⟨_, rfl, RdW.nil, b1⟩
  | true =>
    go_wp2_with fail
    refine (calendarCode_any _ xs lo hi _ ps lo2 hi2 _ cal lo4 hi4 _ h (by omega) hm hms h2 (by omega) hm2 h4 (by omega) hm4).mono ?_
    rintro e w2 ⟨rfl, b2⟩
    have z2 := b2.size
    replace h2 := h2.below b2 (by omega)
    replace h3 := h3.below b2 (by omega)
    replace h4 := h4.below b2 (by omega)
    have hbk := Below.step b2 z1 b1
    by_cases hz : calCode xs ps cal = 0
    · have HF := Lib.hid (keptBy_ok hc hz)
      have hz2 := calCode_zero hz
      have HD := Lib.hid (areDemands_parts hc)
      have HL := Lib.hid hz2.2.1
      have HI := Lib.hid hz2.2.2
      clear hz2 hc
      rw [hz]
      clear hz
      go_wp2_with fail
      refine (keptByL_any _ ps lo2 hi2 _ ds lo3 hi3 _ cal lo4 hi4 _ h2 (by omega) hm2 h3 (by omega) hm3 h4 (by omega) hm4 HI.out (by rw [HL.out]; exact HD.out)).mono ?_
      rintro e w3 ⟨y3, rfl, ho, b3⟩
      have z3 := b3.size
      go_wp2_with fail
      go_ret2
      rw [HF.out]
      exact ⟨_, rfl, (ho.rdw (fun _ => rfl)).wide (by omega) (Nat.le_refl _), Below.step b3 (by omega) hbk⟩
    · have HF := Lib.hid (keptBy_code hc hz)
      have hne : (calCode xs ps cal != 0) = true := by simpa using hz
      generalize calCode xs ps cal = cd at *
      go_wp2_with fail
      go_ret2
      rw [HF.out]
      exact ⟨_, rfl, RdW.nil, hbk⟩
set_option maxRecDepth 100000 in
set_option maxHeartbeats 4000000 in
theorem sKeptBy_any (v : Value) (xs : List Hearing) (lo hi : Nat) (v2 : Value) (ps : List Slot) (lo2 hi2 : Nat) (v3 : Value) (ds : List Demand) (lo3 hi3 : Nat) (v4 : Value) (cal : List Int) (lo4 hi4 : Nat) (w : World) (h : RdHearing w lo hi v xs) (hh : hi ≤ w.heap.size) (hm : xs.length ≤ 1048576) (hms : ∀ x ∈ xs, Hearing.small x) (h2 : RdF Slot.enc 3 w lo2 hi2 v2 ps) (hh2 : hi2 ≤ w.heap.size) (hm2 : ps.length ≤ 1048576) (h3 : RdF Demand.enc 3 w lo3 hi3 v3 ds) (hh3 : hi3 ≤ w.heap.size) (hm3 : ds.length ≤ 1048576) (h4 : RdF encInt 1 w lo4 hi4 v4 cal) (hh4 : hi4 ≤ w.heap.size) (hm4 : cal.length ≤ 1048576) :
    Calls Tryz.prog 19 #[v, v2, v3, v4] w fun e w' => RetVC (fun v' w' => RdW encInt 1 2 w' w.heap.size w'.heap.size v' (keptBy xs ps ds cal).1) (keptBy xs ps ds cal).2 w e w' := by
  go_enter Tryz.func19, Tryz.ntmps19
  go_wp2_with fail
  refine (sAreDemands_any _ xs lo hi _ ps lo2 hi2 _ ds lo3 hi3 _ h hh hm hms h2 hh2 hm2 h3 hh3 hm3).mono ?_
  rintro e w1 ⟨rfl, b1⟩
  have z1 := b1.size
  replace h := h.below b1 (by omega)
  replace h2 := h2.below b1 (by omega)
  replace h3 := h3.below b1 (by omega)
  replace h4 := h4.below b1 (by omega)
  cases hc : areDemands xs ps ds with
  | false =>
    have HF := Lib.hid (keptBy_bad (cal := cal) hc)
    go_wp2_with fail
    go_ret2
    rw [HF.out]
    exact ⟨_, rfl, RdW.nil, b1⟩
  | true =>
    go_wp2_with fail
    refine (l21List_any _ xs lo hi _ ps lo2 hi2 _ cal lo4 hi4 _ h (by omega) hm hms h2 (by omega) hm2 h4 (by omega) hm4).mono ?_
    rintro e w2 ⟨rfl, b2⟩
    have z2 := b2.size
    replace h2 := h2.below b2 (by omega)
    replace h3 := h3.below b2 (by omega)
    replace h4 := h4.below b2 (by omega)
    have hbk := Below.step b2 z1 b1
    by_cases hz : calCode xs ps cal = 0
    · have HF := Lib.hid (keptBy_ok hc hz)
      have hz2 := calCode_zero hz
      have HD := Lib.hid (areDemands_parts hc)
      have HL := Lib.hid hz2.2.1
      have HI := Lib.hid hz2.2.2
      clear hz2 hc
      rw [hz]
      clear hz
      go_wp2_with fail
      refine (l22Kept_any _ ps lo2 hi2 _ ds lo3 hi3 _ cal lo4 hi4 _ h2 (by omega) hm2 h3 (by omega) hm3 h4 (by omega) hm4 HI.out (by rw [HL.out]; exact HD.out)).mono ?_
      rintro e w3 ⟨y3, rfl, ho, b3⟩
      have z3 := b3.size
      go_wp2_with fail
      go_ret2
      rw [HF.out]
      exact ⟨_, rfl, (ho.rdw (fun _ => rfl)).wide (by omega) (Nat.le_refl _), Below.step b3 (by omega) hbk⟩
    · have HF := Lib.hid (keptBy_code hc hz)
      have hne : (calCode xs ps cal != 0) = true := by simpa using hz
      generalize calCode xs ps cal = cd at *
      go_wp2_with fail
      go_ret2
      rw [HF.out]
      exact ⟨_, rfl, RdW.nil, hbk⟩
end Go.Proofs.YtgpknnlphabpkaaGreat
