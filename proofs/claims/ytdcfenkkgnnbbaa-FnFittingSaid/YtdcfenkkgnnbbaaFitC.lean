/- Walks: the choices into which a hearing fits. -/
import Derived.Test.YtdcfenkkgnnbbaaBothW
import Derived.Test.YtdcfenkkgnnbbaaFitW
import Derived.Test.YtdcfenkkgnnbbaaIntsW
import Derived.Test.YtdcfenkkgnnbbaaMem3
import Derived.Deep.RegionHeld3
namespace Go.Proofs.Ytdcfenkkgnnbbaa
open Go.RowKit
set_option linter.unusedVariables false

def fitI (h : Hearing) (ps : List Slot) (i : Nat) : Bool := match ps[i]? with
  | some s => fitB h s
  | none => false
def fitIdx (h : Hearing) (ps : List Slot) (k : Nat) : List Int := ((List.range k).filter (fitI h ps)).map fun (i : Nat) => (i : Int)
def fittingAt (xs : List Hearing) (ps : List Slot) (i : Nat) : List Int × Int := match xs[i]? with
  | some h => (fitIdx h ps ps.length, 0)
  | none => ([], 2)
def fittingChoices (xs : List Hearing) (ps : List Slot) (index : Int) : List Int × Int :=
  if bothOk xs ps then (if 0 ≤ index then fittingAt xs ps index.toNat else ([], 2)) else ([], 1)
theorem fitIdx_yes {h : Hearing} {ps : List Slot} {k : Nat} {s : Slot} (hs : ps[k]? = some s) (hf : fitB h s = true) : fitIdx h ps (k + 1) = fitIdx h ps k ++ [(k : Int)] := by
  unfold fitIdx
  rw [List.range_succ, List.filter_append, List.map_append]
  simp [fitI, hs, hf]
theorem fitIdx_no {h : Hearing} {ps : List Slot} {k : Nat} {s : Slot} (hs : ps[k]? = some s) (hf : fitB h s = false) : fitIdx h ps (k + 1) = fitIdx h ps k := by
  unfold fitIdx
  rw [List.range_succ, List.filter_append, List.map_append]
  simp [fitI, hs, hf]
theorem fitIdx_len (h : Hearing) (ps : List Slot) (k : Nat) : (fitIdx h ps k).length ≤ k := by
  unfold fitIdx
  rw [List.length_map]
  exact Nat.le_trans (List.length_filter_le _ _) (by simp)
theorem fittingChoices_len {xs : List Hearing} {ps : List Slot} {index : Int} (h : ps.length ≤ 1048576) : (fittingChoices xs ps index).1.length ≤ 1048576 := by
  unfold fittingChoices fittingAt
  split
  · split
    · split
      · exact Nat.le_trans (fitIdx_len _ _ _) h
      · simp
    · simp
  · simp
theorem fitting_bad {xs : List Hearing} {ps : List Slot} {index : Int} (h : bothOk xs ps = false) : fittingChoices xs ps index = ([], 1) := by unfold fittingChoices; rw [h]; rfl
theorem fitting_neg {xs : List Hearing} {ps : List Slot} {index : Int} (h : bothOk xs ps = true) (hi : ¬ 0 ≤ index) : fittingChoices xs ps index = ([], 2) := by unfold fittingChoices; rw [if_pos h, if_neg hi]
theorem fitting_big {xs : List Hearing} {ps : List Slot} {i : Nat} (h : bothOk xs ps = true) (hi : ¬ i < xs.length) : fittingChoices xs ps (i : Int) = ([], 2) := by
  unfold fittingChoices fittingAt
  rw [if_pos h, if_pos (show (0 : Int) ≤ (i : Int) by omega)]
  simp [List.getElem?_eq_none (show xs.length ≤ i by omega)]
theorem fitting_at {xs : List Hearing} {ps : List Slot} {i : Nat} {a : Hearing} (h : bothOk xs ps = true) (hi : xs[i]? = some a) : fittingChoices xs ps (i : Int) = (fitIdx a ps ps.length, 0) := by
  unfold fittingChoices fittingAt
  rw [if_pos h, if_pos (show (0 : Int) ≤ (i : Int) by omega)]
  simp [hi]
theorem slotsOk_len' {xs : List Slot} (h : slotsOk xs = true) : xs.length ≤ 10 := by simp [slotsOk] at h; exact h.2
theorem bothOk_h {xs : List Hearing} {ps : List Slot} (h : bothOk xs ps = true) : hearingsOk xs = true := by unfold bothOk at h; rw [Bool.and_eq_true] at h; exact h.1
theorem bothOk_s {xs : List Hearing} {ps : List Slot} (h : bothOk xs ps = true) : slotsOk ps = true := by unfold bothOk choicesOk at h; rw [Bool.and_eq_true, Bool.and_eq_true] at h; exact h.2.1
set_option maxRecDepth 100000 in
set_option maxHeartbeats 4000000 in
theorem fittingChoices_any (v : Value) (xs : List Hearing) (lo hi : Nat) (v2 : Value) (ps : List Slot) (lo2 hi2 : Nat) (index : Int) (w : World) (h : RdHearing w lo hi v xs) (hh : hi ≤ w.heap.size) (hm : xs.length ≤ 1048576) (hms : ∀ x ∈ xs, Hearing.small x) (h2 : RdF Slot.enc 3 w lo2 hi2 v2 ps) (hh2 : hi2 ≤ w.heap.size) (hm2 : ps.length ≤ 1048576) :
    Calls Try.prog 62 #[v, v2, .int .i64 index] w fun e w' => RetVC (fun v' w' => RdW encInt 1 2 w' w.heap.size w'.heap.size v' (fittingChoices xs ps index).1) (fittingChoices xs ps index).2 w e w' := by
  have hbk : Below w.heap.size w w := Below.refl _ _
  obtain ⟨A2, c2, rfl, hcap2⟩ := h2.form
  obtain ⟨A1, c1, rfl, hcap1⟩ : ∃ A c, v = .slice A xs.length c ∧ xs.length ≤ c := by
    obtain ⟨rs, rfl, hR, -⟩ := h
    obtain ⟨A, c, hv, hc⟩ := hR.form
    exact ⟨A, c, by rw [hv, List.length_map], by rw [List.length_map]; exact hc⟩
  go_enter Try.func62, Try.ntmps62
  go_wp2_with fail
  refine (bothOk_any _ xs lo hi _ ps lo2 hi2 _ h hh hm hms h2 hh2 hm2).mono ?_
  rintro e w3 ⟨rfl, b1⟩
  have zb1 := b1.size
  replace h := h.below b1 (by omega)
  replace h2 := h2.below b1 (by omega)
  replace hbk := Below.step b1 (by omega) hbk
  clear b1
  cases hc : bothOk xs ps with
  | false =>
    have HF := Lib.hid (fitting_bad (index := index) hc)
    go_wp2_with fail
    go_ret2
    rw [HF.out]
    exact ⟨_, rfl, ⟨none, 0, rfl, Nat.le_refl _, fun h => absurd h (by simp)⟩, by (repeat (first | with_reducible assumption | with_reducible exact Below.refl _ _ | with_reducible refine Below.setCell ?_ ?_ _ | with_reducible refine Below.alloc ?_ ?_ _ | with_reducible refine Below.drew ?_ | with_reducible refine below_drewN ?_ _ | with_reducible refine Below.step (by with_reducible assumption) ?_ ?_ | omega | (simp <;> omega) | (simp; done)))⟩
  | true =>
    by_cases h0 : 0 ≤ index
    rotate_left
    · have HF := Lib.hid (fitting_neg hc h0)
      go_wp2
      go_ret2
      rw [HF.out]
      exact ⟨_, rfl, ⟨none, 0, rfl, Nat.le_refl _, fun h => absurd h (by simp)⟩, by (repeat (first | with_reducible assumption | with_reducible exact Below.refl _ _ | with_reducible refine Below.setCell ?_ ?_ _ | with_reducible refine Below.alloc ?_ ?_ _ | with_reducible refine Below.drew ?_ | with_reducible refine below_drewN ?_ _ | with_reducible refine Below.step (by with_reducible assumption) ?_ ?_ | omega | (simp <;> omega) | (simp; done)))⟩
    obtain ⟨i, rfl⟩ := Int.eq_ofNat_of_zero_le h0
    by_cases hil : i < xs.length
    rotate_left
    · have hil' : ¬ ((i : Int) < (xs.length : Int)) := by omega
      have hil2 : ¬ ((i : Int) ≤ (xs.length : Int) - 1) := by omega
      have hd1 := decide_eq_false hil'
      have hd2 := decide_eq_false hil2
      have hd3 := decide_eq_false hil
      have HF := Lib.hid (fitting_big hc hil)
      go_wp2
      go_ret2
      rw [HF.out]
      exact ⟨_, rfl, ⟨none, 0, rfl, Nat.le_refl _, fun h => absurd h (by simp)⟩, by (repeat (first | with_reducible assumption | with_reducible exact Below.refl _ _ | with_reducible refine Below.setCell ?_ ?_ _ | with_reducible refine Below.alloc ?_ ?_ _ | with_reducible refine Below.drew ?_ | with_reducible refine below_drewN ?_ _ | with_reducible refine Below.step (by with_reducible assumption) ?_ ?_ | omega | (simp <;> omega) | (simp; done)))⟩
    have hii : (i : Int) < (xs.length : Int) := by omega
    have hii2 : (i : Int) ≤ (xs.length : Int) - 1 := by omega
    have hd1 := decide_eq_true hii
    have hd2 := decide_eq_true hii2
    have hd3 := decide_eq_true hil
    have hcs := slotsOk_len' (bothOk_s hc)
    obtain ⟨rs, hxs, hR, hP⟩ := h
    have hnx : xs.length = rs.length := by rw [← hxs]; simp
    have HM := Lib.hid hms; clear hms
    have HP := Lib.hid hP; clear hP
    have HB := Lib.hid (hearingsOk_all (bothOk_h hc))
    have HL := Lib.hid (slotsOk_all (bothOk_s hc))
    have HC := Lib.hid hc; clear hc
    obtain ⟨A, c, hv, hcc⟩ := hR.form
    injection hv with e1 e2 e3
    subst e1 e3
    clear e2
    obtain ⟨r0, b0, off0, HS0, rfl, -, hbw0, a0_0, a0_1, a0_2, a0_3⟩ := RdHearing.at hR (Below.refl w3.heap.size w3) (by omega) (show i < rs.length by omega)
    have HX0 := Lib.hid (show xs[i]? = some r0.h by rw [← hxs]; exact map_at (f := HearingR.h) rfl HS0.out)
    have hs0 := HM.out r0.h (List.mem_of_getElem? HX0.out)
    have HO0 := Lib.hid (HB.out r0.h (List.mem_of_getElem? HX0.out))
    have ho0 := r0.h.ok_bounds HO0.out
    have HPr0 := Lib.hid (HP.out r0 (List.mem_of_getElem? HS0.out))
    obtain ⟨P0, C0, hpe0, hpc0⟩ := (HPr0.out).form
    have HF0 : RdF encStr 1 w3 lo hi (.slice P0 r0.h.people.length C0) r0.h.people := hpe0 ▸ HPr0.out
    rw [hpe0] at a0_2
    have HQ0 := Lib.hid hpe0
    clear hpe0 HPr0
    have HF := Lib.hid (fitting_at HC.out HX0.out)
    have hd5 := decide_eq_true (show (i : Int) < (rs.length : Int) by omega)
    have hd6 := decide_eq_true (show (i : Int) ≤ (rs.length : Int) - 1 by omega)
    have hd7 := decide_eq_true (show i < rs.length by omega)
    have hi8 : (i : Int) < (rs.length : Int) := by omega
    have hi9 : (i : Int) ≤ (rs.length : Int) - 1 := by omega
    go_wp2
    clear a0_0 a0_1 a0_2 a0_3
    go_loopw [8, 9, 10, 23] (fun u _ _ j wr => ∃ k : Nat, k ≤ ps.length ∧ j = .int .i64 k ∧ OwnL encInt 1 2 wr w3.heap.size u (fitIdx r0.h ps k) ∧ Below w3.heap.size w3 wr) (fun _ _ _ j _ => ps.length - (intOf j).toNat)
    case atStart => exact ⟨0, Nat.zero_le _, rfl, OwnL.emptyAt (w := w3) rfl (Nat.le_refl _), by (repeat (first | with_reducible assumption | with_reducible exact Below.refl _ _ | with_reducible refine Below.setCell ?_ ?_ _ | with_reducible refine Below.alloc ?_ ?_ _ | with_reducible refine Below.drew ?_ | with_reducible refine below_drewN ?_ _ | with_reducible refine Below.step (by with_reducible assumption) ?_ ?_ | omega | (simp <;> omega) | (simp; done)))⟩
    case round =>
      obtain ⟨k, hk, rfl, hown, hbel⟩ := hrel
      have z9 := hbel.size
      have hkl := fitIdx_len r0.h ps k
      by_cases hlt : k < ps.length
      · have hki : (k : Int) < (ps.length : Int) := by omega
        obtain ⟨s0, d0, of0, HT0, rfl, -, hdw0, c0_0, c0_1, c0_2⟩ := Slot.at h2 hbel (by omega) hlt
        have ht0 := s0.ok_bounds (HL.out s0 (List.mem_of_getElem? HT0.out))
        go_wp2_with fail
        have kX := Blk.newAt (w := wr) (n := wr.heap.size) (t := 32) (cs := #[.int .i64 s0.room, .int .i64 s0.day, .int .i64 s0.frm]) rfl
        have zX : (wr.alloc (.cells #[.int .i64 s0.room, .int .i64 s0.day, .int .i64 s0.frm] 32)).heap.size = wr.heap.size + 1 := by simp
        have bX := Below.step ((Below.refl wr.heap.size wr).alloc (Nat.le_refl _) (.cells #[.int .i64 s0.room, .int .i64 s0.day, .int .i64 s0.frm] 32)) z9 hbel
        have hownq := hown.alloc (.cells #[.int .i64 s0.room, .int .i64 s0.day, .int .i64 s0.frm] 32)
        generalize (wr.alloc (.cells #[.int .i64 s0.room, .int .i64 s0.day, .int .i64 s0.frm] 32)) = W1 at *
        obtain ⟨r2, b2, off2, HS2, hA2, -, hbw2, a0_0, a0_1, a0_2, a0_3⟩ := RdHearing.at hR bX (by omega) (show i < rs.length by omega)
        injection hA2 with hA2; injection hA2 with e1 e2; subst e1 e2
        have er : r2 = r0 := by have h1 := HS2.out; rw [HS0.out] at h1; injection h1 with h1; exact h1.symm
        subst er
        have hpq : r2.p0 = .slice P0 r2.h.people.length C0 := HQ0.out
        rw [hpq] at a0_2
        clear hpq
        obtain ⟨q0, q1, q2⟩ := kX.c3
        clear c0_0 c0_1 c0_2
        cases hf : fitB r2.h s0 with
        | true =>
          have HN := Lib.hid (fitIdx_yes HT0.out hf)
          go_region_held3 (fun w' => w'.cell? ⟨b0, off0 + i * 4, none⟩ = some (.string r2.h.code) ∧ w'.cell? ⟨b0, off0 + i * 4 + 1, none⟩ = some (.int .i64 r2.h.len) ∧ w'.cell? ⟨b0, off0 + i * 4 + 2, none⟩ = some (.slice P0 r2.h.people.length C0) ∧ w'.cell? ⟨b0, off0 + i * 4 + 3, none⟩ = some (.int .i64 r2.h.last) ∧ w'.cell? ⟨wr.heap.size, 0, none⟩ = some (.int .i64 s0.room) ∧ w'.cell? ⟨wr.heap.size, 1, none⟩ = some (.int .i64 s0.day) ∧ w'.cell? ⟨wr.heap.size, 2, none⟩ = some (.int .i64 s0.frm)) (go_keep)
            (first | (go_at_call 76; refine (fits_any r2.h (.slice P0 r2.h.people.length C0) s0 _ (by omega) (by omega) (by omega) (by omega)).mono ?_; rintro e wq ⟨rfl, bq⟩; replace bq : Below W1.heap.size W1 wq := Below.undrew bq; have zq := bq.size; have kq0 := (bq.cell (p := ⟨b0, off0 + i * 4, none⟩) (by show b0 < _; omega)).trans a0_0; have kq1 := (bq.cell (p := ⟨b0, off0 + i * 4 + 1, none⟩) (by show b0 < _; omega)).trans a0_1; have kq2 := (bq.cell (p := ⟨b0, off0 + i * 4 + 2, none⟩) (by show b0 < _; omega)).trans a0_2; have kq3 := (bq.cell (p := ⟨b0, off0 + i * 4 + 3, none⟩) (by show b0 < _; omega)).trans a0_3; have kq4 := (bq.cell (p := ⟨wr.heap.size, 0, none⟩) (by show wr.heap.size < _; omega)).trans q0; have kq5 := (bq.cell (p := ⟨wr.heap.size, 1, none⟩) (by show wr.heap.size < _; omega)).trans q1; have kq6 := (bq.cell (p := ⟨wr.heap.size, 2, none⟩) (by show wr.heap.size < _; omega)).trans q2))
          clear kq0 kq1 kq2 kq3 kq4 kq5 kq6
          replace hownq := hownq.below bq
          have hbq := Below.step bq (by omega) bX
          clear bq
          go_wp2_with (at_builtin; refine wpList_push (enc := encInt) _ _ (by first | rfl | simp) rfl (.tmp 34) (.tmp 36) 83 rfl w3.heap.size 2 _ (.int .i64 0) 1 8 Try.underlying83 (by kernel_rfl) rfl (by omega) _ (fitIdx r2.h ps k) (k : Int) _ rfl rfl (by intro u hu; simp [encInt] at hu; subst hu; rfl) rfl rfl hownq (by omega) (by omega) (by (first | omega | (simp; omega) | (simp; done))) ?_; intro v9 w9 hown9 hg9 hk9)
          refine ⟨?_, ?measure⟩
          (repeat apply Exists.intro)
          refine ⟨?rel, rfl⟩
          case rel => exact ⟨k + 1, by omega, by go_num, (by rw [HN.out]; exact hown9), hk9 _ _ (Nat.le_refl _) (by (repeat (first | with_reducible assumption | with_reducible exact Below.refl _ _ | with_reducible refine Below.setCell ?_ ?_ _ | with_reducible refine Below.alloc ?_ ?_ _ | with_reducible refine Below.drew ?_ | with_reducible refine below_drewN ?_ _ | with_reducible refine Below.step (by with_reducible assumption) ?_ ?_ | omega | (simp <;> omega) | (simp; done))))⟩
          case measure => simp [intOf]; omega
        | false =>
          have HN := Lib.hid (fitIdx_no HT0.out hf)
          go_region_held3 (fun w' => w'.cell? ⟨b0, off0 + i * 4, none⟩ = some (.string r2.h.code) ∧ w'.cell? ⟨b0, off0 + i * 4 + 1, none⟩ = some (.int .i64 r2.h.len) ∧ w'.cell? ⟨b0, off0 + i * 4 + 2, none⟩ = some (.slice P0 r2.h.people.length C0) ∧ w'.cell? ⟨b0, off0 + i * 4 + 3, none⟩ = some (.int .i64 r2.h.last) ∧ w'.cell? ⟨wr.heap.size, 0, none⟩ = some (.int .i64 s0.room) ∧ w'.cell? ⟨wr.heap.size, 1, none⟩ = some (.int .i64 s0.day) ∧ w'.cell? ⟨wr.heap.size, 2, none⟩ = some (.int .i64 s0.frm)) (go_keep)
            (first | (go_at_call 76; refine (fits_any r2.h (.slice P0 r2.h.people.length C0) s0 _ (by omega) (by omega) (by omega) (by omega)).mono ?_; rintro e wq ⟨rfl, bq⟩; replace bq : Below W1.heap.size W1 wq := Below.undrew bq; have zq := bq.size; have kq0 := (bq.cell (p := ⟨b0, off0 + i * 4, none⟩) (by show b0 < _; omega)).trans a0_0; have kq1 := (bq.cell (p := ⟨b0, off0 + i * 4 + 1, none⟩) (by show b0 < _; omega)).trans a0_1; have kq2 := (bq.cell (p := ⟨b0, off0 + i * 4 + 2, none⟩) (by show b0 < _; omega)).trans a0_2; have kq3 := (bq.cell (p := ⟨b0, off0 + i * 4 + 3, none⟩) (by show b0 < _; omega)).trans a0_3; have kq4 := (bq.cell (p := ⟨wr.heap.size, 0, none⟩) (by show wr.heap.size < _; omega)).trans q0; have kq5 := (bq.cell (p := ⟨wr.heap.size, 1, none⟩) (by show wr.heap.size < _; omega)).trans q1; have kq6 := (bq.cell (p := ⟨wr.heap.size, 2, none⟩) (by show wr.heap.size < _; omega)).trans q2))
          clear kq0 kq1 kq2 kq3 kq4 kq5 kq6
          replace hownq := hownq.below bq
          have hbq := Below.step bq (by omega) bX
          clear bq
          go_wp2_with fail
          refine ⟨?_, ?measure⟩
          (repeat apply Exists.intro)
          refine ⟨?rel, rfl⟩
          case rel => exact ⟨k + 1, by omega, by go_num, (by rw [HN.out]; exact hownq), hbq⟩
          case measure => simp [intOf]; omega
      · have hkn : k = ps.length := by omega
        have hrw := hown.rdw (fun _ => rfl)
        rw [hkn] at hrw
        obtain ⟨A9, C9, hv9, hc9⟩ := RdF.form hrw.rd
        clear hown
        go_wp2_with fail
        go_ret2
        rw [HF.out]
        exact ⟨_, rfl, hrw.wide (by omega) (Nat.le_refl _), by (repeat (first | with_reducible assumption | with_reducible exact Below.refl _ _ | with_reducible refine Below.setCell ?_ ?_ _ | with_reducible refine Below.alloc ?_ ?_ _ | with_reducible refine Below.drew ?_ | with_reducible refine below_drewN ?_ _ | with_reducible refine Below.step (by with_reducible assumption) ?_ ?_ | omega | (simp <;> omega) | (simp; done)))⟩
set_option maxRecDepth 100000 in
set_option maxHeartbeats 4000000 in
theorem sFittingChoices_any (v : Value) (xs : List Hearing) (lo hi : Nat) (v2 : Value) (ps : List Slot) (lo2 hi2 : Nat) (index : Int) (w : World) (h : RdHearing w lo hi v xs) (hh : hi ≤ w.heap.size) (hm : xs.length ≤ 1048576) (hms : ∀ x ∈ xs, Hearing.small x) (h2 : RdF Slot.enc 3 w lo2 hi2 v2 ps) (hh2 : hi2 ≤ w.heap.size) (hm2 : ps.length ≤ 1048576) :
    Calls Try.prog 61 #[v, v2, .int .i64 index] w fun e w' => RetVC (fun v' w' => RdW encInt 1 2 w' w.heap.size w'.heap.size v' (fittingChoices xs ps index).1) (fittingChoices xs ps index).2 w e w' := by
  have hbk : Below w.heap.size w w := Below.refl _ _
  obtain ⟨A2, c2, rfl, hcap2⟩ := h2.form
  obtain ⟨A1, c1, rfl, hcap1⟩ : ∃ A c, v = .slice A xs.length c ∧ xs.length ≤ c := by
    obtain ⟨rs, rfl, hR, -⟩ := h
    obtain ⟨A, c, hv, hc⟩ := hR.form
    exact ⟨A, c, by rw [hv, List.length_map], by rw [List.length_map]; exact hc⟩
  have HW1 := Lib.hid (show IntKind.i64.wrap ((xs.length : Int) - 1) = (xs.length : Int) - 1 from IntWalk.i64_in _ (by omega))
  go_enter Try.func61, Try.ntmps61
  go_wp2_with fail
  refine (l21Code_any _ xs lo hi _ ps lo2 hi2 _ h hh hm hms h2 hh2 hm2).mono ?_
  rintro e w3 ⟨rfl, b1⟩
  have zb1 := b1.size
  replace h := h.below b1 (by omega)
  replace h2 := h2.below b1 (by omega)
  replace hbk := Below.step b1 (by omega) hbk
  clear b1
  cases hc : bothOk xs ps with
  | false =>
    rw [bothCode_no hc]
    have HF := Lib.hid (fitting_bad (index := index) hc)
    go_wp2_with fail
    go_ret2
    rw [HF.out]
    exact ⟨_, rfl, ⟨none, 0, rfl, Nat.le_refl _, fun h => absurd h (by simp)⟩, by (repeat (first | with_reducible assumption | with_reducible exact Below.refl _ _ | with_reducible refine Below.setCell ?_ ?_ _ | with_reducible refine Below.alloc ?_ ?_ _ | with_reducible refine Below.drew ?_ | with_reducible refine below_drewN ?_ _ | with_reducible refine Below.step (by with_reducible assumption) ?_ ?_ | omega | (simp <;> omega) | (simp; done)))⟩
  | true =>
    rw [bothCode_yes hc]
    by_cases h0 : 0 ≤ index
    rotate_left
    · have HF := Lib.hid (fitting_neg hc h0)
      go_wp2
      go_ret2
      rw [HF.out]
      exact ⟨_, rfl, ⟨none, 0, rfl, Nat.le_refl _, fun h => absurd h (by simp)⟩, by (repeat (first | with_reducible assumption | with_reducible exact Below.refl _ _ | with_reducible refine Below.setCell ?_ ?_ _ | with_reducible refine Below.alloc ?_ ?_ _ | with_reducible refine Below.drew ?_ | with_reducible refine below_drewN ?_ _ | with_reducible refine Below.step (by with_reducible assumption) ?_ ?_ | omega | (simp <;> omega) | (simp; done)))⟩
    obtain ⟨i, rfl⟩ := Int.eq_ofNat_of_zero_le h0
    by_cases hil : i < xs.length
    rotate_left
    · have hil' : ¬ ((i : Int) < (xs.length : Int)) := by omega
      have hil2 : ¬ ((i : Int) ≤ (xs.length : Int) - 1) := by omega
      have hd1 := decide_eq_false hil'
      have hd2 := decide_eq_false hil2
      have hd3 := decide_eq_false hil
      have HF := Lib.hid (fitting_big hc hil)
      go_wp2
      go_ret2
      rw [HF.out]
      exact ⟨_, rfl, ⟨none, 0, rfl, Nat.le_refl _, fun h => absurd h (by simp)⟩, by (repeat (first | with_reducible assumption | with_reducible exact Below.refl _ _ | with_reducible refine Below.setCell ?_ ?_ _ | with_reducible refine Below.alloc ?_ ?_ _ | with_reducible refine Below.drew ?_ | with_reducible refine below_drewN ?_ _ | with_reducible refine Below.step (by with_reducible assumption) ?_ ?_ | omega | (simp <;> omega) | (simp; done)))⟩
    have hii : (i : Int) < (xs.length : Int) := by omega
    have hii2 : (i : Int) ≤ (xs.length : Int) - 1 := by omega
    have hd1 := decide_eq_true hii
    have hd2 := decide_eq_true hii2
    have hd3 := decide_eq_true hil
    have hcs := slotsOk_len' (bothOk_s hc)
    obtain ⟨rs, hxs, hR, hP⟩ := h
    have hnx : xs.length = rs.length := by rw [← hxs]; simp
    have HM := Lib.hid hms; clear hms
    have HP := Lib.hid hP; clear hP
    have HB := Lib.hid (hearingsOk_all (bothOk_h hc))
    have HL := Lib.hid (slotsOk_all (bothOk_s hc))
    have HC := Lib.hid hc; clear hc
    obtain ⟨A, c, hv, hcc⟩ := hR.form
    injection hv with e1 e2 e3
    subst e1 e3
    clear e2
    obtain ⟨r0, b0, off0, HS0, rfl, -, hbw0, a0_0, a0_1, a0_2, a0_3⟩ := RdHearing.at hR (Below.refl w3.heap.size w3) (by omega) (show i < rs.length by omega)
    have HX0 := Lib.hid (show xs[i]? = some r0.h by rw [← hxs]; exact map_at (f := HearingR.h) rfl HS0.out)
    have hs0 := HM.out r0.h (List.mem_of_getElem? HX0.out)
    have HO0 := Lib.hid (HB.out r0.h (List.mem_of_getElem? HX0.out))
    have ho0 := r0.h.ok_bounds HO0.out
    have HPr0 := Lib.hid (HP.out r0 (List.mem_of_getElem? HS0.out))
    obtain ⟨P0, C0, hpe0, hpc0⟩ := (HPr0.out).form
    have HF0 : RdF encStr 1 w3 lo hi (.slice P0 r0.h.people.length C0) r0.h.people := hpe0 ▸ HPr0.out
    rw [hpe0] at a0_2
    have HQ0 := Lib.hid hpe0
    clear hpe0 HPr0
    have HF := Lib.hid (fitting_at HC.out HX0.out)
    have hd5 := decide_eq_true (show (i : Int) < (rs.length : Int) by omega)
    have hd6 := decide_eq_true (show (i : Int) ≤ (rs.length : Int) - 1 by omega)
    have hd7 := decide_eq_true (show i < rs.length by omega)
    have hi8 : (i : Int) < (rs.length : Int) := by omega
    have hi9 : (i : Int) ≤ (rs.length : Int) - 1 := by omega
    go_wp2
    clear a0_0 a0_1 a0_2 a0_3
    go_loopw [9, 10] (fun u j wr => ∃ k : Nat, k ≤ ps.length ∧ j = .int .i64 k ∧ OwnL encInt 1 2 wr w3.heap.size u (fitIdx r0.h ps k) ∧ Below w3.heap.size w3 wr) (fun _ j _ => ps.length - (intOf j).toNat)
    case atStart => exact ⟨0, Nat.zero_le _, rfl, OwnL.emptyAt (w := w3) rfl (Nat.le_refl _), by (repeat (first | with_reducible assumption | with_reducible exact Below.refl _ _ | with_reducible refine Below.setCell ?_ ?_ _ | with_reducible refine Below.alloc ?_ ?_ _ | with_reducible refine Below.drew ?_ | with_reducible refine below_drewN ?_ _ | with_reducible refine Below.step (by with_reducible assumption) ?_ ?_ | omega | (simp <;> omega) | (simp; done)))⟩
    case round =>
      obtain ⟨k, hk, rfl, hown, hbel⟩ := hrel
      have z9 := hbel.size
      have hkl := fitIdx_len r0.h ps k
      by_cases hlt : k < ps.length
      · have hki : (k : Int) < (ps.length : Int) := by omega
        obtain ⟨s0, d0, of0, HT0, rfl, -, hdw0, c0_0, c0_1, c0_2⟩ := Slot.at h2 hbel (by omega) hlt
        have ht0 := s0.ok_bounds (HL.out s0 (List.mem_of_getElem? HT0.out))
        obtain ⟨r2, b2, off2, HS2, hA2, -, hbw2, a0_0, a0_1, a0_2, a0_3⟩ := RdHearing.at hR hbel (by omega) (show i < rs.length by omega)
        injection hA2 with hA2; injection hA2 with e1 e2; subst e1 e2
        have er : r2 = r0 := by have h1 := HS2.out; rw [HS0.out] at h1; injection h1 with h1; exact h1.symm
        subst er
        have hpq : r2.p0 = .slice P0 r2.h.people.length C0 := HQ0.out
        rw [hpq] at a0_2
        clear hpq
        have hownq := hown
        go_wp2_with fail
        cases hf : fitB r2.h s0 with
        | true =>
          have HN := Lib.hid (fitIdx_yes HT0.out hf)
          go_region_held3 (fun w' => w'.cell? ⟨b0, off0 + i * 4, none⟩ = some (.string r2.h.code) ∧ w'.cell? ⟨b0, off0 + i * 4 + 1, none⟩ = some (.int .i64 r2.h.len) ∧ w'.cell? ⟨b0, off0 + i * 4 + 2, none⟩ = some (.slice P0 r2.h.people.length C0) ∧ w'.cell? ⟨b0, off0 + i * 4 + 3, none⟩ = some (.int .i64 r2.h.last) ∧ w'.cell? ⟨d0, of0 + k * 3, none⟩ = some (.int .i64 s0.room) ∧ w'.cell? ⟨d0, of0 + k * 3 + 1, none⟩ = some (.int .i64 s0.day) ∧ w'.cell? ⟨d0, of0 + k * 3 + 2, none⟩ = some (.int .i64 s0.frm)) (go_keep)
            (first | (go_at_call 72; refine (l19Fits_any r2.h (.slice P0 r2.h.people.length C0) s0 _ (by omega) (by omega) (by omega) (by omega)).mono ?_; rintro e wq ⟨rfl, bq⟩; replace bq : Below wr.heap.size wr wq := Below.undrew bq; have zq := bq.size; have kq0 := (bq.cell (p := ⟨b0, off0 + i * 4, none⟩) (by show b0 < _; omega)).trans a0_0; have kq1 := (bq.cell (p := ⟨b0, off0 + i * 4 + 1, none⟩) (by show b0 < _; omega)).trans a0_1; have kq2 := (bq.cell (p := ⟨b0, off0 + i * 4 + 2, none⟩) (by show b0 < _; omega)).trans a0_2; have kq3 := (bq.cell (p := ⟨b0, off0 + i * 4 + 3, none⟩) (by show b0 < _; omega)).trans a0_3; have kq4 := (bq.cell (p := ⟨d0, of0 + k * 3, none⟩) (by show d0 < _; omega)).trans c0_0; have kq5 := (bq.cell (p := ⟨d0, of0 + k * 3 + 1, none⟩) (by show d0 < _; omega)).trans c0_1; have kq6 := (bq.cell (p := ⟨d0, of0 + k * 3 + 2, none⟩) (by show d0 < _; omega)).trans c0_2))
          clear kq0 kq1 kq2 kq3 kq4 kq5 kq6
          replace hownq := hownq.below bq
          have hbq := Below.step bq (by omega) hbel
          clear bq
          go_wp2_with (at_builtin; refine wpList_push (enc := encInt) _ _ (by first | rfl | simp) rfl (.tmp 43) (.tmp 45) 83 rfl w3.heap.size 2 _ (.int .i64 0) 1 8 Try.underlying83 (by kernel_rfl) rfl (by omega) _ (fitIdx r2.h ps k) (k : Int) _ rfl rfl (by intro u hu; simp [encInt] at hu; subst hu; rfl) rfl rfl hownq (by omega) (by omega) (by (first | omega | (simp; omega) | (simp; done))) ?_; intro v9 w9 hown9 hg9 hk9)
          refine ⟨?_, ?measure⟩
          (repeat apply Exists.intro)
          refine ⟨?rel, rfl⟩
          case rel => exact ⟨k + 1, by omega, by go_num, (by rw [HN.out]; exact hown9), hk9 _ _ (Nat.le_refl _) (by (repeat (first | with_reducible assumption | with_reducible exact Below.refl _ _ | with_reducible refine Below.setCell ?_ ?_ _ | with_reducible refine Below.alloc ?_ ?_ _ | with_reducible refine Below.drew ?_ | with_reducible refine below_drewN ?_ _ | with_reducible refine Below.step (by with_reducible assumption) ?_ ?_ | omega | (simp <;> omega) | (simp; done))))⟩
          case measure => simp [intOf]; omega
        | false =>
          have HN := Lib.hid (fitIdx_no HT0.out hf)
          go_region_held3 (fun w' => w'.cell? ⟨b0, off0 + i * 4, none⟩ = some (.string r2.h.code) ∧ w'.cell? ⟨b0, off0 + i * 4 + 1, none⟩ = some (.int .i64 r2.h.len) ∧ w'.cell? ⟨b0, off0 + i * 4 + 2, none⟩ = some (.slice P0 r2.h.people.length C0) ∧ w'.cell? ⟨b0, off0 + i * 4 + 3, none⟩ = some (.int .i64 r2.h.last) ∧ w'.cell? ⟨d0, of0 + k * 3, none⟩ = some (.int .i64 s0.room) ∧ w'.cell? ⟨d0, of0 + k * 3 + 1, none⟩ = some (.int .i64 s0.day) ∧ w'.cell? ⟨d0, of0 + k * 3 + 2, none⟩ = some (.int .i64 s0.frm)) (go_keep)
            (first | (go_at_call 72; refine (l19Fits_any r2.h (.slice P0 r2.h.people.length C0) s0 _ (by omega) (by omega) (by omega) (by omega)).mono ?_; rintro e wq ⟨rfl, bq⟩; replace bq : Below wr.heap.size wr wq := Below.undrew bq; have zq := bq.size; have kq0 := (bq.cell (p := ⟨b0, off0 + i * 4, none⟩) (by show b0 < _; omega)).trans a0_0; have kq1 := (bq.cell (p := ⟨b0, off0 + i * 4 + 1, none⟩) (by show b0 < _; omega)).trans a0_1; have kq2 := (bq.cell (p := ⟨b0, off0 + i * 4 + 2, none⟩) (by show b0 < _; omega)).trans a0_2; have kq3 := (bq.cell (p := ⟨b0, off0 + i * 4 + 3, none⟩) (by show b0 < _; omega)).trans a0_3; have kq4 := (bq.cell (p := ⟨d0, of0 + k * 3, none⟩) (by show d0 < _; omega)).trans c0_0; have kq5 := (bq.cell (p := ⟨d0, of0 + k * 3 + 1, none⟩) (by show d0 < _; omega)).trans c0_1; have kq6 := (bq.cell (p := ⟨d0, of0 + k * 3 + 2, none⟩) (by show d0 < _; omega)).trans c0_2))
          clear kq0 kq1 kq2 kq3 kq4 kq5 kq6
          replace hownq := hownq.below bq
          have hbq := Below.step bq (by omega) hbel
          clear bq
          go_wp2_with fail
          refine ⟨?_, ?measure⟩
          (repeat apply Exists.intro)
          refine ⟨?rel, rfl⟩
          case rel => exact ⟨k + 1, by omega, by go_num, (by rw [HN.out]; exact hownq), hbq⟩
          case measure => simp [intOf]; omega
      · have hkn : k = ps.length := by omega
        have hrw := hown.rdw (fun _ => rfl)
        rw [hkn] at hrw
        obtain ⟨A9, C9, hv9, hc9⟩ := RdF.form hrw.rd
        clear hown
        go_wp2_with fail
        go_ret2
        rw [HF.out]
        exact ⟨_, rfl, hrw.wide (by omega) (Nat.le_refl _), by (repeat (first | with_reducible assumption | with_reducible exact Below.refl _ _ | with_reducible refine Below.setCell ?_ ?_ _ | with_reducible refine Below.alloc ?_ ?_ _ | with_reducible refine Below.drew ?_ | with_reducible refine below_drewN ?_ _ | with_reducible refine Below.step (by with_reducible assumption) ?_ ?_ | omega | (simp <;> omega) | (simp; done)))⟩
end Go.Proofs.Ytdcfenkkgnnbbaa
