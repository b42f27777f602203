/- Walks: MostKept. Written by a program (gen_confx.py). -/
import Derived.Test.YtgpknnlphabpkaaGreatFirstW
import Derived.BigQuiet
import Derived.Deep.QuietTactic
namespace Go.Proofs.YtgpknnlphabpkaaGreat
open Go.RowKit
set_option linter.unusedVariables false

set_option maxRecDepth 100000 in
set_option maxHeartbeats 4000000 in
theorem impMostKept_any (v : Value) (xs : List Hearing) (lo hi : Nat) (v2 : Value) (ps : List Slot) (lo2 hi2 : Nat) (v3 : Value) (ds : List Demand) (lo3 hi3 : Nat) (w : World) (h : RdHearing w lo hi v xs) (hh : hi ≤ w.heap.size) (hm : xs.length ≤ 1048576) (hms : ∀ x ∈ xs, Hearing.small x) (h2 : RdF Slot.enc 3 w lo2 hi2 v2 ps) (hh2 : hi2 ≤ w.heap.size) (hm2 : ps.length ≤ 1048576) (h3 : RdF Demand.enc 3 w lo3 hi3 v3 ds) (hh3 : hi3 ≤ w.heap.size) (hm3 : ds.length ≤ 1048576) :
    Calls Tryz.prog 13 #[v, v2, v3] w fun e w' => RetVC (fun v' w' => RdW encInt 1 2 w' w.heap.size w'.heap.size v' (mostKept xs ps ds).1) (mostKept xs ps ds).2 w e w' := by
  obtain ⟨A3, c3, rfl, hcap3⟩ := h3.form
  go_enter Tryz.func13, Tryz.ntmps13
  go_wp2_with fail
  refine (areDemands_any _ xs lo hi _ ps lo2 hi2 _ ds lo3 hi3 _ h hh hm hms h2 hh2 hm2 h3 hh3 hm3).mono ?_
  rintro e w1 ⟨rfl, b1⟩
  have z1 := b1.size
  replace h := h.below b1 (by omega)
  replace h2 := h2.below b1 (by omega)
  replace h3 := h3.below b1 (by omega)
  cases hc : areDemands xs ps ds with
  | false =>
    have HF := Lib.hid (mostKept_bad hc)
    go_wp2_with fail
    go_ret2
    rw [HF.out]
    exact ⟨_, rfl, RdW.nil, b1⟩
  | true =>
    have hdl := areDemands_len hc
    have hbl := bothOk_len (areDemands_both hc)
    have hbl1 := hbl.1
    have hbl2 := hbl.2
    clear hbl
    have hnl := cals_le (xs := xs) (ps := ps) hbl2 hbl1
    have htl := tabs_len xs ps ds
    have HR := Lib.hid (show ∀ l ∈ tabs xs ps ds, l.length ≤ ds.length from fun l hl => tabs_row hl)
    have htl2 : (tabs xs ps ds).length ≤ 100000 := by omega
    clear htl
    go_wp2_with fail
    refine (keptLists_any _ xs lo hi _ ps lo2 hi2 _ ds lo3 hi3 _ h (by omega) hm hms h2 (by omega) hm2 h3 (by omega) hm3 hc).mono ?_
    rintro e w2 ⟨y2, rfl, ho, b2⟩
    have z2 := b2.size
    have hrd := ho.rd (Nat.le_refl _)
    have hbk := Below.step b2 z1 b1
    obtain ⟨AL, cL, rfl, hcL⟩ := ho.form
    have HC := Lib.hid hc
    clear ho h h2 h3 hc
    have HS := Lib.hid (fun hl => mostKept_some (xs := xs) (ps := ps) HC.out hl)
    have HN := Lib.hid (fun hl => mostKept_none (xs := xs) (ps := ps) HC.out hl)
    generalize tabs xs ps ds = L at *
    by_cases hl : L.length = 0
    · have HF := Lib.hid (HN.out hl)
      have hli : (L.length : Int) = 0 := by omega
      go_wp2_with fail
      go_ret2
      rw [HF.out]
      exact ⟨_, rfl, RdW.nil, hbk⟩
    have HF := Lib.hid (HS.out hl)
    have hli : ¬ (L.length : Int) = 0 := by omega
    have hle0 : ((L.length : Int) == 0) = false := by rw [beq_eq_false_iff_ne]; omega
    have hl0' : 0 < (L.length : Int) := by omega
    obtain ⟨a, a0, c0, b, off, HA0, rfl, hbw0, x0, hr0⟩ := RdII.at hrd (Below.refl w2.heap.size w2) (Nat.le_refl _) (show 0 < L.length by omega)
    rw [Nat.add_zero] at x0
    have ham := List.mem_of_getElem? HA0.out
    go_wp2_with fail
    go_loopw [9, 11, 29] (fun f _ j wr => ∃ k : Nat, k ≤ L.length ∧ j = .int .i64 k ∧ (∃ a1 c1, f = .slice a1 (mkTo L a k).length c1 ∧ RdW encInt 1 2 wr w1.heap.size w2.heap.size (.slice a1 (mkTo L a k).length c1) (mkTo L a k)) ∧ Below w2.heap.size w2 wr) (fun _ _ j _ => L.length - (intOf j).toNat)
    case atStart => exact ⟨0, Nat.zero_le _, rfl, ⟨_, _, rfl, hr0⟩, Below.refl _ _⟩
    case round =>
      obtain ⟨k, hk, rfl, ⟨a1, c1, rfl, hrb⟩, hbel⟩ := hrel
      have z0 := hbel.size
      have hml := HR.out _ (mkTo_mem ham k)
      by_cases hlt : k < L.length
      · have hki : (k : Int) < (L.length : Int) := by omega
        obtain ⟨l, ac, cc, b', off', HS', eA, hbw, x1, hrc⟩ := RdII.at hrd hbel (Nat.le_refl _) hlt
        injection eA with eA; injection eA with e1 e2; subst e1 e2
        have hll := HR.out l (List.mem_of_getElem? HS'.out)
        by_cases q1 : (mkTo L a k).length < l.length
        · have HX := Lib.hid (mkTo_yes HS'.out (by unfold better; rw [decide_eq_true q1]; rfl))
          have q1i : ((mkTo L a k).length : Int) < (l.length : Int) := by omega
          go_wp2_with fail
          go_roundw
          case rel => exact ⟨k + 1, by omega, by go_num, ⟨ac, cc, by rw [HX.out], by rw [HX.out]; exact hrc⟩, hbel⟩
          case measure => simp [intOf]; omega
        have q1i : ¬ ((mkTo L a k).length : Int) < (l.length : Int) := by omega
        by_cases q2 : l.length = (mkTo L a k).length
        · have q2i : ((l.length : Int) == ((mkTo L a k).length : Int)) = true := by rw [beq_iff_eq]; omega
          have HQ2 := Lib.hid q2; clear q2
          cases hle : lessL l (mkTo L a k) with
          | true =>
            have HX := Lib.hid (mkTo_yes HS'.out (by unfold better; rw [hle, decide_eq_true HQ2.out]; simp))
            go_wp2_with ((go_at_call 53; refine (less_any _ l _ _ _ (mkTo L a k) _ _ _ hrc.rd z0 (by omega) hrb.rd (by omega) (by omega)).mono ?_; rintro e w5 ⟨rfl, b5⟩; rw [hle]))
            have z5 := b5.size
            replace hbel := Below.step b5 z0 hbel
            replace hrc := hrc.below b5 z0
            go_roundw
            case rel => exact ⟨k + 1, by omega, by go_num, ⟨ac, cc, by rw [HX.out], by rw [HX.out]; exact hrc⟩, hbel⟩
            case measure => simp [intOf]; omega
          | false =>
            have HX := Lib.hid (mkTo_no HS'.out (by unfold better; rw [hle, Bool.and_false, decide_eq_false (by have := HQ2.out; omega)]; rfl))
            go_wp2_with ((go_at_call 53; refine (less_any _ l _ _ _ (mkTo L a k) _ _ _ hrc.rd z0 (by omega) hrb.rd (by omega) (by omega)).mono ?_; rintro e w5 ⟨rfl, b5⟩; rw [hle]))
            have z5 := b5.size
            replace hbel := Below.step b5 z0 hbel
            replace hrb := hrb.below b5 (by omega)
            go_roundw
            case rel => exact ⟨k + 1, by omega, by go_num, ⟨a1, c1, by rw [HX.out], by rw [HX.out]; exact hrb⟩, hbel⟩
            case measure => simp [intOf]; omega
        · have q2i : ((l.length : Int) == ((mkTo L a k).length : Int)) = false := by rw [beq_eq_false_iff_ne]; omega
          have HX := Lib.hid (mkTo_no HS'.out (by unfold better; rw [decide_eq_false (by omega), decide_eq_false q2]; rfl))
          go_wp2_with fail
          go_roundw
          case rel => exact ⟨k + 1, by omega, by go_num, ⟨a1, c1, by rw [HX.out], by rw [HX.out]; exact hrb⟩, hbel⟩
          case measure => simp [intOf]; omega
      · have hkn : k = L.length := by omega
        have HE := Lib.hid (show mkOf L = mkTo L a k by rw [hkn]; exact mkOf_at HA0.out)
        clear hkn
        go_wp2_with fail
        go_ret2
        rw [HF.out, HE.out]
        exact ⟨_, rfl, hrb.wide z1 z0, Below.step hbel (by omega) hbk⟩
set_option maxRecDepth 100000 in
set_option maxHeartbeats 4000000 in
theorem sMostKept_any (v : Value) (xs : List Hearing) (lo hi : Nat) (v2 : Value) (ps : List Slot) (lo2 hi2 : Nat) (v3 : Value) (ds : List Demand) (lo3 hi3 : Nat) (w : World) (h : RdHearing w lo hi v xs) (hh : hi ≤ w.heap.size) (hm : xs.length ≤ 1048576) (hms : ∀ x ∈ xs, Hearing.small x) (h2 : RdF Slot.enc 3 w lo2 hi2 v2 ps) (hh2 : hi2 ≤ w.heap.size) (hm2 : ps.length ≤ 1048576) (h3 : RdF Demand.enc 3 w lo3 hi3 v3 ds) (hh3 : hi3 ≤ w.heap.size) (hm3 : ds.length ≤ 1048576) :
    Calls Tryz.prog 14 #[v, v2, v3] w fun e w' => RetVC (fun v' w' => RdW encInt 1 2 w' w.heap.size w'.heap.size v' (mostKept xs ps ds).1) (mostKept xs ps ds).2 w e w' := by
  obtain ⟨A3, c3, rfl, hcap3⟩ := h3.form
  go_enter Tryz.func14, Tryz.ntmps14
  go_wp2_with fail
  refine (sAreDemands_any _ xs lo hi _ ps lo2 hi2 _ ds lo3 hi3 _ h hh hm hms h2 hh2 hm2 h3 hh3 hm3).mono ?_
  rintro e w1 ⟨rfl, b1⟩
  have z1 := b1.size
  replace h := h.below b1 (by omega)
  replace h2 := h2.below b1 (by omega)
  replace h3 := h3.below b1 (by omega)
  cases hc : areDemands xs ps ds with
  | false =>
    have HF := Lib.hid (mostKept_bad hc)
    go_wp2_with fail
    go_ret2
    rw [HF.out]
    exact ⟨_, rfl, RdW.nil, b1⟩
  | true =>
    have hdl := areDemands_len hc
    have hbl := bothOk_len (areDemands_both hc)
    have hbl1 := hbl.1
    have hbl2 := hbl.2
    clear hbl
    have hnl := cals_le (xs := xs) (ps := ps) hbl2 hbl1
    have htl := tabs_len xs ps ds
    have HR := Lib.hid (show ∀ l ∈ tabs xs ps ds, l.length ≤ ds.length from fun l hl => tabs_row hl)
    have htl2 : (tabs xs ps ds).length ≤ 100000 := by omega
    clear htl
    go_wp2_with fail
    refine (l22Tables_any _ xs lo hi _ ps lo2 hi2 _ ds lo3 hi3 _ h (by omega) hm hms h2 (by omega) hm2 h3 (by omega) hm3 hc).mono ?_
    rintro e w2 ⟨y2, rfl, ho, b2⟩
    have z2 := b2.size
    have hrd := ho.rd (Nat.le_refl _)
    have hbk := Below.step b2 z1 b1
    obtain ⟨AL, cL, rfl, hcL⟩ := ho.form
    have HC := Lib.hid hc
    clear ho h h2 h3 hc
    have HS := Lib.hid (fun hl => mostKept_some (xs := xs) (ps := ps) HC.out hl)
    have HN := Lib.hid (fun hl => mostKept_none (xs := xs) (ps := ps) HC.out hl)
    generalize tabs xs ps ds = L at *
    by_cases hl : L.length = 0
    · have HF := Lib.hid (HN.out hl)
      have hli : (L.length : Int) = 0 := by omega
      go_wp2_with fail
      go_ret2
      rw [HF.out]
      exact ⟨_, rfl, RdW.nil, hbk⟩
    have HF := Lib.hid (HS.out hl)
    have hli : ¬ (L.length : Int) = 0 := by omega
    have hle0 : ((L.length : Int) == 0) = false := by rw [beq_eq_false_iff_ne]; omega
    have hl0' : 0 < (L.length : Int) := by omega
    obtain ⟨a, a0, c0, b, off, HA0, rfl, hbw0, x0, hr0⟩ := RdII.at hrd (Below.refl w2.heap.size w2) (Nat.le_refl _) (show 0 < L.length by omega)
    rw [Nat.add_zero] at x0
    have ham := List.mem_of_getElem? HA0.out
    go_wp2_with fail
    go_loopw [9, 10] (fun f j wr => ∃ k : Nat, k ≤ L.length ∧ j = .int .i64 k ∧ (∃ a1 c1, f = .slice a1 (mkTo L a k).length c1 ∧ RdW encInt 1 2 wr w1.heap.size w2.heap.size (.slice a1 (mkTo L a k).length c1) (mkTo L a k)) ∧ Below w2.heap.size w2 wr) (fun _ j _ => L.length - (intOf j).toNat)
    case atStart => exact ⟨0, Nat.zero_le _, rfl, ⟨_, _, rfl, hr0⟩, Below.refl _ _⟩
    case round =>
      obtain ⟨k, hk, rfl, ⟨a1, c1, rfl, hrb⟩, hbel⟩ := hrel
      have z0 := hbel.size
      have hml := HR.out _ (mkTo_mem ham k)
      by_cases hlt : k < L.length
      · have hki : (k : Int) < (L.length : Int) := by omega
        obtain ⟨l, ac, cc, b', off', HS', eA, hbw, x1, hrc⟩ := RdII.at hrd hbel (Nat.le_refl _) hlt
        injection eA with eA; injection eA with e1 e2; subst e1 e2
        have hll := HR.out l (List.mem_of_getElem? HS'.out)
        by_cases q1 : (mkTo L a k).length < l.length
        · have HX := Lib.hid (mkTo_yes HS'.out (by unfold better; rw [decide_eq_true q1]; rfl))
          have q1i : ((mkTo L a k).length : Int) < (l.length : Int) := by omega
          go_wp2_with fail
          go_roundw
          case rel => exact ⟨k + 1, by omega, by go_num, ⟨ac, cc, by rw [HX.out], by rw [HX.out]; exact hrc⟩, hbel⟩
          case measure => simp [intOf]; omega
        have q1i : ¬ ((mkTo L a k).length : Int) < (l.length : Int) := by omega
        by_cases q2 : l.length = (mkTo L a k).length
        · have q2i : ((l.length : Int) == ((mkTo L a k).length : Int)) = true := by rw [beq_iff_eq]; omega
          have HQ2 := Lib.hid q2; clear q2
          cases hle : lessL l (mkTo L a k) with
          | true =>
            have HX := Lib.hid (mkTo_yes HS'.out (by unfold better; rw [hle, decide_eq_true HQ2.out]; simp))
            go_wp2_with ((go_at_call 55; refine (l22Less_any _ l _ _ _ (mkTo L a k) _ _ _ hrc.rd z0 (by omega) hrb.rd (by omega) (by omega) HQ2.out).mono ?_; rintro e w5 ⟨rfl, b5⟩; rw [hle]; have x1 := (b5.cell (p := ⟨b, off + k, none⟩) (by show b < _; omega)).trans x1))
            have z5 := b5.size
            replace hbel := Below.step b5 z0 hbel
            replace hrc := hrc.below b5 z0
            go_roundw
            case rel => exact ⟨k + 1, by omega, by go_num, ⟨ac, cc, by rw [HX.out], by rw [HX.out]; exact hrc⟩, hbel⟩
            case measure => simp [intOf]; omega
          | false =>
            have HX := Lib.hid (mkTo_no HS'.out (by unfold better; rw [hle, Bool.and_false, decide_eq_false (by have := HQ2.out; omega)]; rfl))
            go_wp2_with ((go_at_call 55; refine (l22Less_any _ l _ _ _ (mkTo L a k) _ _ _ hrc.rd z0 (by omega) hrb.rd (by omega) (by omega) HQ2.out).mono ?_; rintro e w5 ⟨rfl, b5⟩; rw [hle]; have x1 := (b5.cell (p := ⟨b, off + k, none⟩) (by show b < _; omega)).trans x1))
            have z5 := b5.size
            replace hbel := Below.step b5 z0 hbel
            replace hrb := hrb.below b5 (by omega)
            go_roundw
            case rel => exact ⟨k + 1, by omega, by go_num, ⟨a1, c1, by rw [HX.out], by rw [HX.out]; exact hrb⟩, hbel⟩
            case measure => simp [intOf]; omega
        · have q2i : ((l.length : Int) == ((mkTo L a k).length : Int)) = false := by rw [beq_eq_false_iff_ne]; omega
          have HX := Lib.hid (mkTo_no HS'.out (by unfold better; rw [decide_eq_false (by omega), decide_eq_false q2]; rfl))
          go_wp2_with fail
          go_roundw
          case rel => exact ⟨k + 1, by omega, by go_num, ⟨a1, c1, by rw [HX.out], by rw [HX.out]; exact hrb⟩, hbel⟩
          case measure => simp [intOf]; omega
      · have hkn : k = L.length := by omega
        have HE := Lib.hid (show mkOf L = mkTo L a k by rw [hkn]; exact mkOf_at HA0.out)
        clear hkn
        go_wp2_with fail
        go_ret2
        rw [HF.out, HE.out]
        exact ⟨_, rfl, hrb.wide z1 z0, Below.step hbel (by omega) hbk⟩
end Go.Proofs.YtgpknnlphabpkaaGreat
