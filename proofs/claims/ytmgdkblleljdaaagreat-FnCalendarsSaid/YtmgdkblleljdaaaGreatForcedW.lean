/- Walks: the choices that are the same in all calendars. Written by a program (gen_forced.py). -/
import Derived.Test.YtmgdkblleljdaaaGreatBestW
import Derived.BigQuiet
import Derived.Deep.QuietTactic
namespace Go.Proofs.YtmgdkblleljdaaaGreat
open Go.RowKit
set_option linter.unusedVariables false

set_option maxRecDepth 100000 in
set_option maxHeartbeats 4000000 in
theorem forcedChoices_any (v : Value) (xs : List Hearing) (lo hi : Nat) (v2 : Value) (ps : List Slot) (lo2 hi2 : Nat) (w : World) (h : RdHearing w lo hi v xs) (hh : hi ≤ w.heap.size) (hm : xs.length ≤ 1048576) (hms : ∀ x ∈ xs, Hearing.small x) (h2 : RdF Slot.enc 3 w lo2 hi2 v2 ps) (hh2 : hi2 ≤ w.heap.size) (hm2 : ps.length ≤ 1048576) :
    Calls Tryz.prog 10 #[v, v2] w fun e w' => RetVC (fun v' w' => RdW encInt 1 2 w' w.heap.size w'.heap.size v' (forcedCal xs ps).1) (forcedCal xs ps).2 w e w' := by
  go_enter Tryz.func10, Tryz.ntmps10
  go_wp2_with fail
  refine (bothOk_any _ xs lo hi _ ps lo2 hi2 _ h hh hm hms h2 hh2 hm2).mono ?_
  rintro e w1 ⟨rfl, b1⟩
  have z1 := b1.size
  replace h := h.below b1 (by omega)
  replace h2 := h2.below b1 (by omega)
  cases hc : bothOk xs ps with
  | false =>
    have HF := Lib.hid (forcedCal_bad hc)
    go_wp2_with fail
    go_ret2
    rw [HF.out]
    exact ⟨_, rfl, RdW.nil, b1⟩
  | true =>
    have hcl := bothOk_len hc
    go_wp2_with fail
    refine (calendars_any _ xs lo hi _ ps lo2 hi2 _ h (by omega) h2 (by omega) hcl.1 hms (hearingsOk_all (bothOk_hx hc)) hcl.2 (slotsOk_all (bothOk_sx hc))).mono ?_
    rintro e w2 ⟨y2, rfl, ho, b2⟩
    have z2 := b2.size
    replace h2 := h2.below b2 (by omega)
    have hbk := Below.step b2 z1 b1
    have hnl := cals_le (xs := xs) (ps := ps) hcl.2 hcl.1
    have HC := Lib.hid (fun c (hcm : c ∈ cals xs ps) => cals_mem hcm)
    obtain ⟨AL, cL, rfl, hcL⟩ := ho.form
    by_cases hl : (cals xs ps).length = 0
    · have HF := Lib.hid (forcedCal_none hc hl)
      have hli : ((cals xs ps).length : Int) = 0 := by omega
      go_wp2_with fail
      go_ret2
      rw [HF.out]
      exact ⟨_, rfl, RdW.nil, hbk⟩
    have HF := Lib.hid (forcedCal_some hc hl)
    have hli : ¬ ((cals xs ps).length : Int) = 0 := by omega
    have hle : (((cals xs ps).length : Int) == 0) = false := by rw [beq_eq_false_iff_ne]; omega
    have HL := Lib.hid (show ∀ c ∈ cals xs ps, c.length = xs.length from fun c hcm => (HC.out c hcm).1)
    have hrd := ho.rd (Nat.le_refl _)
    clear HC ho hc h
    generalize cals xs ps = L at *
    have hl0' : 0 < (L.length : Int) := by omega
    obtain ⟨a, a0, c0, b, off, HA0, rfl, hbw0, x0, hr0⟩ := RdII.at hrd (Below.refl w2.heap.size w2) (Nat.le_refl _) (show 0 < L.length by omega)
    rw [Nat.add_zero] at x0
    have HAL := Lib.hid (HL.out a (List.mem_of_getElem? HA0.out))
    have ha5 : a.length ≤ 5 := by have := HAL.out; omega
    go_wp2_with fail
    refine (cloneInt_any _ a _ _ _ hr0.rd (Nat.le_refl _) (by omega)).mono ?_
    rintro e w3 ⟨v3, rfl, hown3, b3⟩
    have z3 := b3.size
    have hw3 := hown3.rdw (fun _ => rfl)
    obtain ⟨A3, c3, rfl, hcap3⟩ := RdF.form hw3.rd
    clear hown3 x0
    go_wp2_with fail
    go_loopw [9, 10, 11, 28] (fun _ _ _ j wr => ∃ k : Nat, k ≤ L.length ∧ j = .int .i64 k ∧ RdW encInt 1 2 wr w2.heap.size w3.heap.size (.slice A3 a.length c3) (fAll L a k) ∧ w3.heap.size ≤ wr.heap.size ∧ Below w2.heap.size w2 wr) (fun _ _ _ j _ => L.length - (intOf j).toNat)
    case atStart => exact ⟨0, Nat.zero_le _, rfl, hw3, Nat.le_refl _, b3⟩
    case round =>
      obtain ⟨k, hk, rfl, hout, hsz, hbel⟩ := hrel
      have z0 := hbel.size
      by_cases hlt : k < L.length
      · have hki : (k : Int) < (L.length : Int) := by omega
        obtain ⟨c, ac, cc, b', off', HS, eA, hbw, x1, hrc⟩ := RdII.at hrd (Below.refl w2.heap.size w2) (Nat.le_refl _) hlt
        injection eA with eA; injection eA with e1 e2; subst e1 e2
        have x1w := (hbel.cell (p := ⟨b, off + k, none⟩) hbw).trans x1
        have HCL := Lib.hid (show c.length = a.length by rw [HL.out c (List.mem_of_getElem? HS.out), HAL.out])
        have HST := Lib.hid (fAll_step (a := a) HS.out)
        have hc5 : c.length ≤ 5 := by have := HCL.out; omega
        have hcr := hrc.rd
        have HFL := Lib.hid (fun m => show (fTo c (fAll L a k) m).length = a.length by rw [fTo_len, fAll_len])
        go_wp2_with fail
        go_loopw [10, 11, 34] (fun _ _ j wi => ∃ m : Nat, m ≤ c.length ∧ j = .int .i64 m ∧ RdW encInt 1 2 wi w2.heap.size w3.heap.size (.slice A3 a.length c3) (fTo c (fAll L a k) m) ∧ w3.heap.size ≤ wi.heap.size ∧ Below w2.heap.size w2 wi) (fun _ _ j _ => c.length - (intOf j).toNat)
        case atStart => exact ⟨0, Nat.zero_le _, rfl, hout, hsz, hbel⟩
        case round =>
          obtain ⟨m, hmk, rfl, hou2, hsz2, hbe2⟩ := hrel
          clear hout
          by_cases hlm : m < c.length
          · have hma : m < a.length := by have := HCL.out; omega
            have hmc : m < c.length := by have := HCL.out; omega
            have hmi : (m : Int) < (c.length : Int) := by omega
            have hmj : (m : Int) < (a.length : Int) := by omega
            have x2 := (hbe2.cell (p := ⟨b, off + k, none⟩) hbw).trans x1
            obtain ⟨y, bc, offc, HY, rfl, hbc, y0⟩ := RdF.int hcr hbe2 (Nat.le_refl _) hmc
            obtain ⟨g, x, rfl, hg1, hg2, HX, g0, gf, hset⟩ := hou2.setI (k := m) (by rw [HFL.out]; exact hma)
            by_cases hxy : x = y
            · have HN := Lib.hid (fTo_yes HX.out HY.out hxy)
              subst hxy
              clear hset
              go_wp2_with fail
              go_roundw
              case rel => exact ⟨m + 1, by omega, by go_num, (by rw [HN.out]; exact hou2), hsz2, by (repeat (first | with_reducible assumption | with_reducible exact Below.refl _ _ | with_reducible refine Below.setCell ?_ ?_ _ | with_reducible refine Below.alloc ?_ ?_ _ | with_reducible refine Below.drew ?_ | with_reducible refine below_drewN ?_ _ | with_reducible refine Below.step (by with_reducible assumption) ?_ ?_ | omega | (simp <;> omega) | (simp; done)))⟩
              case measure => simp [intOf]; omega
            · have HN := Lib.hid (fTo_no HX.out HY.out hxy)
              have q1 : (x != y) = true := by simpa using hxy
              have q2 : (y != x) = true := by simpa using fun e => hxy e.symm
              have hs1 := hset (-1)
              clear hset
              go_wp2_with fail
              go_roundw
              case rel => exact ⟨m + 1, by omega, by go_num, (by rw [HN.out]; exact hs1), by simpa [World.setCell] using hsz2, Below.setCell (p := ⟨g, m, none⟩) (by (repeat (first | with_reducible assumption | with_reducible exact Below.refl _ _ | with_reducible refine Below.setCell ?_ ?_ _ | with_reducible refine Below.alloc ?_ ?_ _ | with_reducible refine Below.drew ?_ | with_reducible refine below_drewN ?_ _ | with_reducible refine Below.step (by with_reducible assumption) ?_ ?_ | omega | (simp <;> omega) | (simp; done)))) hg1 _⟩
              case measure => simp [intOf]; omega
          · have hmn : m = a.length := by have := HCL.out; omega
            rw [hmn] at hou2
            clear hmn
            go_wp2_with fail
            go_roundw
            case rel => exact ⟨k + 1, by omega, by go_num, (by rw [HST.out]; exact hou2), hsz2, hbe2⟩
            case measure => simp [intOf]; omega
      · have hkn : k = L.length := by omega
        have HE := Lib.hid (show forcedOf L = fAll L a k by rw [hkn]; exact forcedOf_at HA0.out)
        clear hkn
        go_wp2_with fail
        go_ret2
        rw [HF.out, HE.out]
        exact ⟨_, rfl, hout.wide (by omega) hsz, Below.step hbel (by omega) hbk⟩
set_option maxRecDepth 100000 in
set_option maxHeartbeats 4000000 in
theorem sForcedChoices_any (v : Value) (xs : List Hearing) (lo hi : Nat) (v2 : Value) (ps : List Slot) (lo2 hi2 : Nat) (w : World) (h : RdHearing w lo hi v xs) (hh : hi ≤ w.heap.size) (hm : xs.length ≤ 1048576) (hms : ∀ x ∈ xs, Hearing.small x) (h2 : RdF Slot.enc 3 w lo2 hi2 v2 ps) (hh2 : hi2 ≤ w.heap.size) (hm2 : ps.length ≤ 1048576) :
    Calls Tryz.prog 11 #[v, v2] w fun e w' => RetVC (fun v' w' => RdW encInt 1 2 w' w.heap.size w'.heap.size v' (forcedCal xs ps).1) (forcedCal xs ps).2 w e w' := by
  go_enter Tryz.func11, Tryz.ntmps11
  go_wp2_with fail
  refine (l21Code_any _ xs lo hi _ ps lo2 hi2 _ h hh hm hms h2 hh2 hm2).mono ?_
  rintro e w1 ⟨rfl, b1⟩
  have z1 := b1.size
  replace h := h.below b1 (by omega)
  replace h2 := h2.below b1 (by omega)
  cases hc : bothOk xs ps with
  | false =>
    rw [bothCode_no hc]
    have HF := Lib.hid (forcedCal_bad hc)
    go_wp2_with fail
    go_ret2
    rw [HF.out]
    exact ⟨_, rfl, RdW.nil, b1⟩
  | true =>
    rw [bothCode_yes hc]
    have hcl := bothOk_len hc
    go_wp2_with fail
    refine (l21All_top _ xs lo hi _ ps lo2 hi2 _ h (by omega) h2 (by omega) hcl.1 hms (hearingsOk_all (bothOk_hx hc)) hcl.2 (slotsOk_all (bothOk_sx hc))).mono ?_
    rintro e w2 ⟨y2, rfl, ho, b2⟩
    have z2 := b2.size
    replace h2 := h2.below b2 (by omega)
    have hbk := Below.step b2 z1 b1
    have hnl := cals_le (xs := xs) (ps := ps) hcl.2 hcl.1
    have HC := Lib.hid (fun c (hcm : c ∈ cals xs ps) => cals_mem hcm)
    obtain ⟨AL, cL, rfl, hcL⟩ := ho.form
    by_cases hl : (cals xs ps).length = 0
    · have HF := Lib.hid (forcedCal_none hc hl)
      have hli : ((cals xs ps).length : Int) = 0 := by omega
      go_wp2_with fail
      go_ret2
      rw [HF.out]
      exact ⟨_, rfl, RdW.nil, hbk⟩
    have HF := Lib.hid (forcedCal_some hc hl)
    have hli : ¬ ((cals xs ps).length : Int) = 0 := by omega
    have hle : (((cals xs ps).length : Int) == 0) = false := by rw [beq_eq_false_iff_ne]; omega
    have HL := Lib.hid (show ∀ c ∈ cals xs ps, c.length = xs.length from fun c hcm => (HC.out c hcm).1)
    have hrd := ho.rd (Nat.le_refl _)
    clear HC ho hc h
    generalize cals xs ps = L at *
    have hl0' : 0 < (L.length : Int) := by omega
    obtain ⟨a, a0, c0, b, off, HA0, rfl, hbw0, x0, hr0⟩ := RdII.at hrd (Below.refl w2.heap.size w2) (Nat.le_refl _) (show 0 < L.length by omega)
    rw [Nat.add_zero] at x0
    have HAL := Lib.hid (HL.out a (List.mem_of_getElem? HA0.out))
    have ha5 : a.length ≤ 5 := by have := HAL.out; omega
    go_wp2_with fail
    refine (l01Own_any _ a _ _ _ hr0.rd (Nat.le_refl _) (by omega)).mono ?_
    rintro e w3 ⟨v3, rfl, hown3, b3⟩
    have z3 := b3.size
    have hw3 := hown3.rdw (fun _ => rfl)
    obtain ⟨A3, c3, rfl, hcap3⟩ := RdF.form hw3.rd
    clear hown3 x0
    go_wp2_with fail
    go_loopw [9, 10] (fun j _ wr => ∃ k : Nat, k ≤ L.length ∧ j = .int .i64 k ∧ RdW encInt 1 2 wr w2.heap.size w3.heap.size (.slice A3 a.length c3) (fAll L a k) ∧ w3.heap.size ≤ wr.heap.size ∧ Below w2.heap.size w2 wr) (fun j _ _ => L.length - (intOf j).toNat)
    case atStart => exact ⟨0, Nat.zero_le _, rfl, hw3, Nat.le_refl _, b3⟩
    case round =>
      obtain ⟨k, hk, rfl, hout, hsz, hbel⟩ := hrel
      have z0 := hbel.size
      by_cases hlt : k < L.length
      · have hki : (k : Int) < (L.length : Int) := by omega
        obtain ⟨c, ac, cc, b', off', HS, eA, hbw, x1, hrc⟩ := RdII.at hrd (Below.refl w2.heap.size w2) (Nat.le_refl _) hlt
        injection eA with eA; injection eA with e1 e2; subst e1 e2
        have x1w := (hbel.cell (p := ⟨b, off + k, none⟩) hbw).trans x1
        have HCL := Lib.hid (show c.length = a.length by rw [HL.out c (List.mem_of_getElem? HS.out), HAL.out])
        have HST := Lib.hid (fAll_step (a := a) HS.out)
        have hc5 : c.length ≤ 5 := by have := HCL.out; omega
        have hcr := hrc.rd
        have HFL := Lib.hid (fun m => show (fTo c (fAll L a k) m).length = a.length by rw [fTo_len, fAll_len])
        go_wp2_with fail
        go_loopw [10] (fun j wi => ∃ m : Nat, m ≤ a.length ∧ j = .int .i64 m ∧ RdW encInt 1 2 wi w2.heap.size w3.heap.size (.slice A3 a.length c3) (fTo c (fAll L a k) m) ∧ w3.heap.size ≤ wi.heap.size ∧ Below w2.heap.size w2 wi) (fun j _ => a.length - (intOf j).toNat)
        case atStart => exact ⟨0, Nat.zero_le _, rfl, hout, hsz, hbel⟩
        case round =>
          obtain ⟨m, hmk, rfl, hou2, hsz2, hbe2⟩ := hrel
          clear hout
          by_cases hlm : m < a.length
          · have hma : m < a.length := by have := HCL.out; omega
            have hmc : m < c.length := by have := HCL.out; omega
            have hmi : (m : Int) < (c.length : Int) := by omega
            have hmj : (m : Int) < (a.length : Int) := by omega
            have x2 := (hbe2.cell (p := ⟨b, off + k, none⟩) hbw).trans x1
            obtain ⟨y, bc, offc, HY, rfl, hbc, y0⟩ := RdF.int hcr hbe2 (Nat.le_refl _) hmc
            obtain ⟨g, x, rfl, hg1, hg2, HX, g0, gf, hset⟩ := hou2.setI (k := m) (by rw [HFL.out]; exact hma)
            by_cases hxy : x = y
            · have HN := Lib.hid (fTo_yes HX.out HY.out hxy)
              subst hxy
              clear hset
              go_wp2_with fail
              go_quiet (fail)
              go_wp2_with fail
              go_roundw
              case rel => exact ⟨m + 1, by omega, by go_num, (by rw [HN.out]; exact hou2), hsz2, by (repeat (first | with_reducible assumption | with_reducible exact Below.refl _ _ | with_reducible refine Below.setCell ?_ ?_ _ | with_reducible refine Below.alloc ?_ ?_ _ | with_reducible refine Below.drew ?_ | with_reducible refine below_drewN ?_ _ | with_reducible refine Below.step (by with_reducible assumption) ?_ ?_ | omega | (simp <;> omega) | (simp; done)))⟩
              case measure => simp [intOf]; omega
            · have HN := Lib.hid (fTo_no HX.out HY.out hxy)
              have q1 : (x != y) = true := by simpa using hxy
              have q2 : (y != x) = true := by simpa using fun e => hxy e.symm
              have hs1 := hset (-1)
              clear hset
              go_wp2_with fail
              go_quiet (fail)
              go_wp2_with fail
              go_roundw
              case rel => exact ⟨m + 1, by omega, by go_num, (by rw [HN.out]; exact hs1), by simpa [World.setCell] using hsz2, Below.setCell (p := ⟨g, m, none⟩) (by (repeat (first | with_reducible assumption | with_reducible exact Below.refl _ _ | with_reducible refine Below.setCell ?_ ?_ _ | with_reducible refine Below.alloc ?_ ?_ _ | with_reducible refine Below.drew ?_ | with_reducible refine below_drewN ?_ _ | with_reducible refine Below.step (by with_reducible assumption) ?_ ?_ | omega | (simp <;> omega) | (simp; done)))) hg1 _⟩
              case measure => simp [intOf]; omega
          · have hmn : m = a.length := by have := HCL.out; omega
            rw [hmn] at hou2
            clear hmn
            go_wp2_with fail
            go_roundw
            case rel => exact ⟨k + 1, by omega, by go_num, (by rw [HST.out]; exact hou2), hsz2, hbe2⟩
            case measure => simp [intOf]; omega
      · have hkn : k = L.length := by omega
        have HE := Lib.hid (show forcedOf L = fAll L a k by rw [hkn]; exact forcedOf_at HA0.out)
        clear hkn
        go_wp2_with fail
        go_ret2
        rw [HF.out, HE.out]
        exact ⟨_, rfl, hout.wide (by omega) hsz, Below.step hbel (by omega) hbk⟩
end Go.Proofs.YtmgdkblleljdaaaGreat
