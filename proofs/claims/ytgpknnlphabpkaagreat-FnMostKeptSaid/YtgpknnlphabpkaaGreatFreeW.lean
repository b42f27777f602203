/- Walks: FreeDemands. Written by a program (gen_confx.py). -/
import Derived.Test.YtgpknnlphabpkaaGreatFirstW
import Derived.BigQuiet
import Derived.Deep.QuietTactic
namespace Go.Proofs.YtgpknnlphabpkaaGreat
open Go.RowKit
set_option linter.unusedVariables false

set_option maxRecDepth 100000 in
set_option maxHeartbeats 4000000 in
theorem impFreeDemands_any (v : Value) (xs : List Hearing) (lo hi : Nat) (v2 : Value) (ps : List Slot) (lo2 hi2 : Nat) (v3 : Value) (ds : List Demand) (lo3 hi3 : Nat) (w : World) (h : RdHearing w lo hi v xs) (hh : hi ≤ w.heap.size) (hm : xs.length ≤ 1048576) (hms : ∀ x ∈ xs, Hearing.small x) (h2 : RdF Slot.enc 3 w lo2 hi2 v2 ps) (hh2 : hi2 ≤ w.heap.size) (hm2 : ps.length ≤ 1048576) (h3 : RdF Demand.enc 3 w lo3 hi3 v3 ds) (hh3 : hi3 ≤ w.heap.size) (hm3 : ds.length ≤ 1048576) :
    Calls Tryz.prog 15 #[v, v2, v3] w fun e w' => RetVC (fun v' w' => RdW encInt 1 2 w' w.heap.size w'.heap.size v' (freeOf xs ps ds).1) (freeOf xs ps ds).2 w e w' := by
  obtain ⟨A3, c3, rfl, hcap3⟩ := h3.form
  go_enter Tryz.func15, Tryz.ntmps15
  go_wp2_with fail
  refine (areDemands_any _ xs lo hi _ ps lo2 hi2 _ ds lo3 hi3 _ h hh hm hms h2 hh2 hm2 h3 hh3 hm3).mono ?_
  rintro e w1 ⟨rfl, b1⟩
  have z1 := b1.size
  replace h := h.below b1 (by omega)
  replace h2 := h2.below b1 (by omega)
  replace h3 := h3.below b1 (by omega)
  cases hc : areDemands xs ps ds with
  | false =>
    have HF := Lib.hid (freeOf_bad hc)
    go_wp2_with fail
    go_ret2
    rw [HF.out]
    exact ⟨_, rfl, RdW.nil, b1⟩
  | true =>
    have hdl := areDemands_len hc
    have hbl := bothOk_len (areDemands_both hc)
    have hbl1 := hbl.1
    have hbl2 := hbl.2
    clear hbl
    have hnl := cals_le (xs := xs) (ps := ps) hbl2 hbl1
    have htl := tabs_len xs ps ds
    have HR := Lib.hid (show ∀ l ∈ tabs xs ps ds, l.length ≤ ds.length from fun l hl => tabs_row hl)
    have htl2 : (tabs xs ps ds).length ≤ 100000 := by omega
    clear htl
    go_wp2_with fail
    refine (keptLists_any _ xs lo hi _ ps lo2 hi2 _ ds lo3 hi3 _ h (by omega) hm hms h2 (by omega) hm2 h3 (by omega) hm3 hc).mono ?_
    rintro e w2 ⟨y2, rfl, ho, b2⟩
    have z2 := b2.size
    have hrd := ho.rd (Nat.le_refl _)
    have hbk := Below.step b2 z1 b1
    obtain ⟨AL, cL, rfl, hcL⟩ := ho.form
    have HC := Lib.hid hc
    clear ho h h2 h3 hc
    have HS := Lib.hid (fun hl => freeOf_some (xs := xs) (ps := ps) HC.out hl)
    have HN := Lib.hid (fun hl => freeOf_none (xs := xs) (ps := ps) HC.out hl)
    have HK := Lib.hid (show ∀ a, (tabs xs ps ds)[0]? = some a → ∃ c, a = keptIdx ps c ds ds.length from fun a ha => by
      have := List.mem_of_getElem? ha
      unfold tabs at this
      obtain ⟨c, -, e⟩ := List.mem_map.1 this
      exact ⟨c, e.symm⟩)
    generalize tabs xs ps ds = L at *
    by_cases hl : L.length = 0
    · have HF := Lib.hid (HN.out hl)
      have hli : (L.length : Int) = 0 := by omega
      go_wp2_with fail
      go_ret2
      rw [HF.out]
      exact ⟨_, rfl, RdW.nil, hbk⟩
    have HF := Lib.hid (HS.out hl)
    have hli : ¬ (L.length : Int) = 0 := by omega
    have hle0 : ((L.length : Int) == 0) = false := by rw [beq_eq_false_iff_ne]; omega
    have hl0' : 0 < (L.length : Int) := by omega
    obtain ⟨a, a0, c0, b, off, HA0, rfl, hbw0, x0, hr0⟩ := RdII.at hrd (Below.refl w2.heap.size w2) (Nat.le_refl _) (show 0 < L.length by omega)
    rw [Nat.add_zero] at x0
    have hal := HR.out a (List.mem_of_getElem? HA0.out)
    go_wp2_with fail
    go_loopw [9, 11, 29] (fun f _ j wr => ∃ k : Nat, k ≤ L.length ∧ j = .int .i64 k ∧ (∃ a1 c1, f = .slice a1 (freeI L a k).length c1 ∧ RdW encInt 1 2 wr w1.heap.size wr.heap.size (.slice a1 (freeI L a k).length c1) (freeI L a k)) ∧ Below w2.heap.size w2 wr) (fun _ _ j _ => L.length - (intOf j).toNat)
    case atStart => exact ⟨0, Nat.zero_le _, rfl, ⟨_, _, by rw [freeI_zero], by rw [freeI_zero]; exact hr0⟩, Below.refl _ _⟩
    case round =>
      obtain ⟨k, hk, rfl, ⟨a1, c1, rfl, hrb⟩, hbel⟩ := hrel
      have z0 := hbel.size
      have hfl : (freeI L a k).length ≤ a.length := List.length_filter_le _ _
      by_cases hlt : k < L.length
      · have hki : (k : Int) < (L.length : Int) := by omega
        obtain ⟨l, ac, cc, b', off', HS', eA, hbw, x1, hrc⟩ := RdII.at hrd hbel (Nat.le_refl _) hlt
        injection eA with eA; injection eA with e1 e2; subst e1 e2
        have hll := HR.out l (List.mem_of_getElem? HS'.out)
        have HX := Lib.hid (show freeI L a (k + 1) = withoutL (freeI L a k) (withoutL (freeI L a k) l) by rw [without_twice]; exact freeI_succ HS'.out)
        have hw1 := withoutL_len (freeI L a k) l
        generalize freeI L a k = F at *
        go_wp2_with fail
        refine (without_any _ F _ _ _ l _ _ _ hrb.rd (Nat.le_refl _) (by omega) hrc.rd (by omega) (by omega)).mono ?_
        rintro e w5 ⟨v5, rfl, hw5, b5⟩
        have z5 := b5.size
        replace hrb := hrb.below b5 (Nat.le_refl _)
        replace hbel := Below.step b5 z0 hbel
        go_wp2_with fail
        refine (without_any _ F _ _ _ (withoutL F l) _ _ _ hrb.rd (by omega) (by omega) hw5.rd (Nat.le_refl _) (by omega)).mono ?_
        rintro e w6 ⟨v6, rfl, hw6, b6⟩
        have z6 := b6.size
        replace hbel := Below.step b6 (by omega) hbel
        obtain ⟨A6, c6, rfl, hc6⟩ := RdF.form hw6.rd
        go_wp2_with fail
        go_roundw
        case rel => exact ⟨k + 1, by omega, by go_num, ⟨A6, c6, by rw [HX.out], by rw [HX.out]; exact hw6.wide (by omega) (Nat.le_refl _)⟩, hbel⟩
        case measure => simp [intOf]; omega
      · have hkn : k = L.length := by omega
        have HE := Lib.hid (show freeTo L ds.length = freeI L a k by
          obtain ⟨c, hc⟩ := HK.out a HA0.out
          subst hc
          rw [hkn]; exact (free_eq HA0.out).symm)
        clear hkn
        go_wp2_with fail
        go_ret2
        rw [HF.out, HE.out]
        exact ⟨_, rfl, hrb.wide z1 (Nat.le_refl _), Below.step hbel (by omega) hbk⟩
set_option maxRecDepth 100000 in
set_option maxHeartbeats 4000000 in
theorem sFreeDemands_any (v : Value) (xs : List Hearing) (lo hi : Nat) (v2 : Value) (ps : List Slot) (lo2 hi2 : Nat) (v3 : Value) (ds : List Demand) (lo3 hi3 : Nat) (w : World) (h : RdHearing w lo hi v xs) (hh : hi ≤ w.heap.size) (hm : xs.length ≤ 1048576) (hms : ∀ x ∈ xs, Hearing.small x) (h2 : RdF Slot.enc 3 w lo2 hi2 v2 ps) (hh2 : hi2 ≤ w.heap.size) (hm2 : ps.length ≤ 1048576) (h3 : RdF Demand.enc 3 w lo3 hi3 v3 ds) (hh3 : hi3 ≤ w.heap.size) (hm3 : ds.length ≤ 1048576) :
    Calls Tryz.prog 16 #[v, v2, v3] w fun e w' => RetVC (fun v' w' => RdW encInt 1 2 w' w.heap.size w'.heap.size v' (freeOf xs ps ds).1) (freeOf xs ps ds).2 w e w' := by
  obtain ⟨A3, c3, rfl, hcap3⟩ := h3.form
  go_enter Tryz.func16, Tryz.ntmps16
  go_wp2_with fail
  refine (sAreDemands_any _ xs lo hi _ ps lo2 hi2 _ ds lo3 hi3 _ h hh hm hms h2 hh2 hm2 h3 hh3 hm3).mono ?_
  rintro e w1 ⟨rfl, b1⟩
  have z1 := b1.size
  replace h := h.below b1 (by omega)
  replace h2 := h2.below b1 (by omega)
  replace h3 := h3.below b1 (by omega)
  cases hc : areDemands xs ps ds with
  | false =>
    have HF := Lib.hid (freeOf_bad hc)
    go_wp2_with fail
    go_ret2
    rw [HF.out]
    exact ⟨_, rfl, RdW.nil, b1⟩
  | true =>
    have hdl := areDemands_len hc
    have hbl := bothOk_len (areDemands_both hc)
    have hbl1 := hbl.1
    have hbl2 := hbl.2
    clear hbl
    have hnl := cals_le (xs := xs) (ps := ps) hbl2 hbl1
    have htl := tabs_len xs ps ds
    have HR := Lib.hid (show ∀ l ∈ tabs xs ps ds, l.length ≤ ds.length from fun l hl => tabs_row hl)
    have htl2 : (tabs xs ps ds).length ≤ 100000 := by omega
    clear htl
    go_wp2_with fail
    refine (l22Tables_any _ xs lo hi _ ps lo2 hi2 _ ds lo3 hi3 _ h (by omega) hm hms h2 (by omega) hm2 h3 (by omega) hm3 hc).mono ?_
    rintro e w2 ⟨y2, rfl, ho, b2⟩
    have z2 := b2.size
    have hrd := ho.rd (Nat.le_refl _)
    have hbk := Below.step b2 z1 b1
    obtain ⟨AL, cL, rfl, hcL⟩ := ho.form
    have HC := Lib.hid hc
    clear ho h h2 h3 hc
    have HS := Lib.hid (fun hl => freeOf_some (xs := xs) (ps := ps) HC.out hl)
    have HN := Lib.hid (fun hl => freeOf_none (xs := xs) (ps := ps) HC.out hl)
    have HK := Lib.hid (show ∀ a, (tabs xs ps ds)[0]? = some a → ∃ c, a = keptIdx ps c ds ds.length from fun a ha => by
      have := List.mem_of_getElem? ha
      unfold tabs at this
      obtain ⟨c, -, e⟩ := List.mem_map.1 this
      exact ⟨c, e.symm⟩)
    generalize tabs xs ps ds = L at *
    by_cases hl : L.length = 0
    · have HF := Lib.hid (HN.out hl)
      have hli : (L.length : Int) = 0 := by omega
      go_wp2_with fail
      go_ret2
      rw [HF.out]
      exact ⟨_, rfl, RdW.nil, hbk⟩
    have HF := Lib.hid (HS.out hl)
    have hli : ¬ (L.length : Int) = 0 := by omega
    have hle0 : ((L.length : Int) == 0) = false := by rw [beq_eq_false_iff_ne]; omega
    have hl0' : 0 < (L.length : Int) := by omega
    go_wp2_with fail
    go_loopw [9, 10, 11, 12] (fun u j _ _ wr => ∃ k : Nat, k ≤ ds.length ∧ j = .int .i64 k ∧ OwnL encInt 1 2 wr w2.heap.size u (freeTo L k) ∧ Below w2.heap.size w2 wr) (fun _ j _ _ _ => ds.length - (intOf j).toNat)
    case atStart => exact ⟨0, Nat.zero_le _, rfl, OwnL.emptyAt rfl (Nat.le_refl _), (Below.refl _ _).alloc (Nat.le_refl _) _⟩
    case round =>
      obtain ⟨k, hk, rfl, hown, hbel⟩ := hrel
      have z0 := hbel.size
      have hfl := freeTo_len L k
      by_cases hlt : k < ds.length
      · have hki : (k : Int) < (ds.length : Int) := by omega
        go_wp2_with fail
        go_loopw [11, 12] (fun q j wi => ∃ m : Nat, m ≤ L.length ∧ j = .int .i64 m ∧ q = .bool (inAll (L.take m) (k : Int)) ∧ wi = wr) (fun _ j _ => L.length - (intOf j).toNat)
        case atStart => exact ⟨0, Nat.zero_le _, rfl, rfl, rfl⟩
        case round =>
          obtain ⟨m, hmL, rfl, rfl, rfl⟩ := hrel
          by_cases hlm : m < L.length
          · have hmi : (m : Int) < (L.length : Int) := by omega
            obtain ⟨l, ac, cc, b, off, HS', rfl, hbw, x1, hrc⟩ := RdII.at hrd hbel (Nat.le_refl _) hlm
            have hll := HR.out l (List.mem_of_getElem? HS'.out)
            have HX := Lib.hid (show inAll (L.take (m + 1)) (k : Int) = (inAll (L.take m) (k : Int) && hasI l (k : Int)) by unfold inAll; rw [List.take_add_one, HS'.out, List.all_append]; simp)
            cases hq : inAll (L.take m) (k : Int) with
            | false =>
              have HY := Lib.hid (show inAll (L.take (m + 1)) (k : Int) = false by rw [HX.out, hq]; rfl)
              clear hq
              go_wp2_with fail
              go_roundw
              case rel => exact ⟨m + 1, by omega, by go_num, by rw [HY.out], (by first | trivial | rfl)⟩
              case measure => simp [intOf]; omega
            | true =>
              have HY := Lib.hid (show inAll (L.take (m + 1)) (k : Int) = hasI l (k : Int) by rw [HX.out, hq]; rfl)
              clear hq
              go_wp2_with (go_at_call 57; refine (l01Has_any _ l _ _ (k : Int) _ hrc.rd (by omega) (by omega)).mono ?_; rintro e w' ⟨rfl, rfl⟩)
              go_roundw
              case rel => exact ⟨m + 1, by omega, by go_num, by rw [HY.out], (by first | trivial | rfl)⟩
              case measure => simp [intOf]; omega
          · have HX := Lib.hid (show inAll L (k : Int) = inAll (L.take m) (k : Int) by rw [List.take_of_length_le (by omega)])
            cases hq : inAll (L.take m) (k : Int) with
            | false =>
              have HY := Lib.hid (freeTo_no (L := L) (k := k) (by rw [HX.out, hq]))
              clear hq
              go_wp2_with fail
              go_roundw
              case rel => exact ⟨k + 1, by omega, by go_num, (by rw [HY.out]; exact hown), hbel⟩
              case measure => simp [intOf]; omega
            | true =>
              have HY := Lib.hid (freeTo_yes (L := L) (k := k) (by rw [HX.out, hq]))
              clear hq
              go_wp2_with (at_builtin; refine wpList_push (enc := encInt) _ _ (by first | rfl | simp) rfl (.tmp 48) (.tmp 50) 29 rfl w2.heap.size 2 _ (.int .i64 0) 1 8 Tryz.underlying29 (by kernel_rfl) rfl (by omega) _ (freeTo L k) (k : Int) _ rfl rfl (encInt_one _) rfl rfl hown (by omega) (by omega) (by (first | omega | (simp; omega) | (simp; done))) ?_; intro v9 w9 hown9 hg9 hk9)
              go_roundw
              case rel => exact ⟨k + 1, by omega, by go_num, (by rw [HY.out]; exact hown9), hk9 _ _ (Nat.le_refl _) hbel⟩
              case measure => simp [intOf]; omega
      · have hkn : k = ds.length := by omega
        rw [hkn] at hown
        clear hkn
        have hrw := hown.rdw (fun _ => rfl)
        go_wp2_with fail
        go_ret2
        rw [HF.out]
        exact ⟨_, rfl, hrw.wide (by omega) (Nat.le_refl _), Below.step hbel (by omega) hbk⟩
end Go.Proofs.YtgpknnlphabpkaaGreat
