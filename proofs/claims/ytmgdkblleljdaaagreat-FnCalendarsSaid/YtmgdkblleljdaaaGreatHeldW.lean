/- Walks: MostHeld. Written by a program (gen_held.py). -/
import Derived.Test.YtmgdkblleljdaaaGreatFewW
namespace Go.Proofs.YtmgdkblleljdaaaGreat
open Go.RowKit
set_option linter.unusedVariables false

theorem mostHeld_bad {xs : List Hearing} {ps : List Slot} (h : bothOk xs ps = false) : mostHeld xs ps = ([], 1) := by unfold mostHeld; rw [h]; rfl
theorem mostHeld_ok {xs : List Hearing} {ps : List Slot} (h : bothOk xs ps = true) : mostHeld xs ps = (mostS (canHold xs ps) xs.length xs.length, 0) := by unfold mostHeld; rw [if_pos h]
theorem mostS_some {P : List Int → Bool} {n k : Nat} {s : List Int} (h : few P n (k + 1) [] 0 = some s) : mostS P n (k + 1) = s := by rw [mostS, h]
theorem mostS_none {P : List Int → Bool} {n k : Nat} (h : few P n (k + 1) [] 0 = none) : mostS P n (k + 1) = mostS P n k := by rw [mostS, h]
theorem ris_idx {n : Nat} {f : Nat} {t : List Int} (h : Ris n f t) : t.all (idxOk n) = true := by
  rw [List.all_eq_true]
  intro x hx
  obtain ⟨i, rfl, -, hi⟩ := h.mem x hx
  exact idxOk_nat hi
theorem pow2_le {n : Nat} (h : n ≤ 5) : 2 ^ n ≤ 32 := Nat.pow_le_pow_right (n := 2) (j := 5) (by omega) h

set_option maxRecDepth 100000 in
set_option maxHeartbeats 4000000 in
theorem sMostHeld_any (v : Value) (xs : List Hearing) (lo hi : Nat) (v2 : Value) (ps : List Slot) (lo2 hi2 : Nat) (w : World) (h : RdHearing w lo hi v xs) (hh : hi ≤ w.heap.size) (hm : xs.length ≤ 1048576) (hms : ∀ x ∈ xs, Hearing.small x) (h2 : RdF Slot.enc 3 w lo2 hi2 v2 ps) (hh2 : hi2 ≤ w.heap.size) (hm2 : ps.length ≤ 1048576) :
    Calls Tryz.prog 13 #[v, v2] w fun e w' => RetVC (fun v' w' => RdW encInt 1 2 w' w.heap.size w'.heap.size v' (mostHeld xs ps).1) (mostHeld xs ps).2 w e w' := by
  obtain ⟨A1, c1, rfl, hcap1⟩ := h.form
  obtain ⟨A2, c2, rfl, hcap2⟩ := h2.form
  go_enter Tryz.func13, Tryz.ntmps13
  go_wp2_with fail
  refine (l21Code_any _ xs lo hi _ ps lo2 hi2 _ h hh hm hms h2 hh2 hm2).mono ?_
  rintro e w1 ⟨rfl, b1⟩
  have z1 := b1.size
  replace h := h.below b1 (by omega)
  replace h2 := h2.below b1 (by omega)
  cases hc : bothOk xs ps with
  | false =>
    rw [bothCode_no hc]
    have HF := Lib.hid (mostHeld_bad hc)
    go_wp2_with fail
    go_ret2
    rw [HF.out]
    exact ⟨_, rfl, RdW.nil, b1⟩
  | true =>
    rw [bothCode_yes hc]
    have hcl := bothOk_len hc
    have hcl1 := hcl.1
    have hcl2 := hcl.2
    have HF := Lib.hid (mostHeld_ok hc)
    have HSL := Lib.hid (slotsOk_all (bothOk_sx hc))
    have HBX := Lib.hid (hearingsOk_all (bothOk_hx hc))
    have HMS := Lib.hid hms
    clear hms hc hcl
    go_wp2_with fail
    go_loopw [7, 8, 9] (fun j _ _ wr => ∃ k : Nat, k ≤ xs.length ∧ j = .int .i64 k ∧ Hid (mostS (canHold xs ps) xs.length xs.length = mostS (canHold xs ps) xs.length k) ∧ Below w1.heap.size w1 wr) (fun j _ _ _ => (intOf j).toNat)
    case atStart => exact ⟨xs.length, Nat.le_refl _, rfl, rfl, Below.refl _ _⟩
    case round =>
      obtain ⟨k, hk, rfl, HE, hbel⟩ := hrel
      have z0 := hbel.size
      cases k with
      | zero =>
        have HN := Lib.hid (show mostS (canHold xs ps) xs.length xs.length = [] by rw [HE.out]; rfl)
        go_wp2_with fail
        go_ret2
        rw [HF.out, HN.out]
        exact ⟨_, rfl, (RdW.emptyAt wr).wide (by omega) (Nat.le_refl _), (Below.step hbel z1 b1).alloc (by omega) _⟩
      | succ k =>
        have hkp : (0 : Int) < ((k + 1 : Nat) : Int) := by omega
        have hb : Below wr.heap.size wr (wr.alloc (.cells #[] 2)) := (Below.refl _ _).alloc (Nat.le_refl _) _
        have hz := hb.size
        have hbl := Below.step hb z0 hbel
        go_wp2_with fail
        refine (l21Few_any xs ps hcl1 HMS.out HBX.out hcl2 HSL.out (k + 1) [] 0 _ lo hi _ lo2 hi2 _ wr.heap.size _ (h.below hbl (by omega)) (by omega) (h2.below hbl (by omega)) (by omega) (RdW.emptyAt wr) hz (by simp only [List.length_nil]; omega) (by omega) rfl).mono ?_
        rintro e w5 ⟨v5, rfl, hs5, b5⟩
        have z5 := b5.size
        replace hbel := Below.step b5 (by omega) hbl
        clear hb hbl
        cases hfe : few (canHold xs ps) xs.length (k + 1) [] 0 with
        | none =>
          have HN := Lib.hid (show mostS (canHold xs ps) xs.length xs.length = mostS (canHold xs ps) xs.length k by rw [HE.out, mostS_none hfe])
          have hmc2 : ((k + 1 : Nat) : Int) - 1 = (k : Int) := by omega
          clear hfe hs5
          go_wp2_with fail
          go_roundw
          case rel => exact ⟨k, by omega, by first | rw [hmc2] | go_num | (simp; done), HN, hbel⟩
          case measure => first | (simp [intOf]; done) | (simp [intOf]; omega)
        | some s =>
          have HN := Lib.hid (show mostS (canHold xs ps) xs.length xs.length = s by rw [HE.out, mostS_some hfe])
          have HS := hs5 s hfe
          clear hfe hs5
          go_wp2_with fail
          go_ret2
          rw [HF.out, HN.out]
          exact ⟨_, rfl, HS.wide (by omega) (Nat.le_refl _), Below.step hbel z1 b1⟩
set_option maxRecDepth 100000 in
set_option maxHeartbeats 4000000 in
theorem mostHeld_any (v : Value) (xs : List Hearing) (lo hi : Nat) (v2 : Value) (ps : List Slot) (lo2 hi2 : Nat) (w : World) (h : RdHearing w lo hi v xs) (hh : hi ≤ w.heap.size) (hm : xs.length ≤ 1048576) (hms : ∀ x ∈ xs, Hearing.small x) (h2 : RdF Slot.enc 3 w lo2 hi2 v2 ps) (hh2 : hi2 ≤ w.heap.size) (hm2 : ps.length ≤ 1048576) :
    Calls Tryz.prog 12 #[v, v2] w fun e w' => RetVC (fun v' w' => RdW encInt 1 2 w' w.heap.size w'.heap.size v' (mostHeld xs ps).1) (mostHeld xs ps).2 w e w' := by
  obtain ⟨A1, c1, rfl, hcap1⟩ := h.form
  obtain ⟨A2, c2, rfl, hcap2⟩ := h2.form
  go_enter Tryz.func12, Tryz.ntmps12
  go_wp2_with fail
  refine (bothOk_any _ xs lo hi _ ps lo2 hi2 _ h hh hm hms h2 hh2 hm2).mono ?_
  rintro e w1 ⟨rfl, b1⟩
  have z1 := b1.size
  replace h := h.below b1 (by omega)
  replace h2 := h2.below b1 (by omega)
  cases hc : bothOk xs ps with
  | false =>
    have HF := Lib.hid (mostHeld_bad hc)
    go_wp2_with fail
    go_ret2
    rw [HF.out]
    exact ⟨_, rfl, RdW.nil, b1⟩
  | true =>
    have hcl := bothOk_len hc
    have hcl1 := hcl.1
    have hcl2 := hcl.2
    have HF := Lib.hid (mostHeld_ok hc)
    have HSL := Lib.hid (slotsOk_all (bothOk_sx hc))
    have HBX := Lib.hid (hearingsOk_all (bothOk_hx hc))
    have HMS := Lib.hid hms
    clear hms hc hcl
    obtain ⟨rs, hxs, hR, hP⟩ := h
    have hnx : xs.length = rs.length := by rw [← hxs]; simp
    have HP := Lib.hid hP; clear hP
    have hp2 := pow2_le hcl1
    obtain ⟨N, hN⟩ : ∃ N : Nat, N = 2 ^ xs.length := ⟨_, rfl⟩
    have hN32 : N ≤ 32 := by omega
    have hNc : (2 : Int) ^ xs.length = (N : Int) := by rw [hN]; simp
    have hw : IntKind.i64.wrap ((2 : Int) ^ xs.length) = (N : Int) := by rw [hNc, IntWalk.i64_in _ (by omega)]
    have HNN := Lib.hid hN
    clear hN hNc hp2
    have hxi : (xs.length : Int) ≤ 64 := by omega
    have HNX := Lib.hid hnx
    have hrn : rs.length ≤ 5 := by omega
    rw [hnx] at hw ⊢
    obtain ⟨A1, c1, hv1, hcap1⟩ := hR.form
    injection hv1 with e1 e2 e3
    subst e1 e3
    clear e2 hnx hcap1
    go_wp2_with fail
    clear hw
    go_loopw [6, 7, 8, 9, 11, 20] (fun u _ _ _ _ j wr => ∃ k : Nat, k ≤ N ∧ j = .int .i64 k ∧ (∃ Au cu, u = .slice Au (mostTo (canHold xs ps) xs.length k).length cu ∧ RdW encInt 1 2 wr w1.heap.size wr.heap.size (.slice Au (mostTo (canHold xs ps) xs.length k).length cu) (mostTo (canHold xs ps) xs.length k)) ∧ Below w1.heap.size w1 wr) (fun _ _ _ _ _ j _ => N - (intOf j).toNat)
    case atStart => exact ⟨0, Nat.zero_le _, rfl, ⟨_, _, rfl, RdW.emptyAt w1⟩, (Below.refl _ _).alloc (Nat.le_refl _) _⟩
    case round =>
      obtain ⟨k, hk, rfl, ⟨Au, cu, rfl, hu⟩, hbel⟩ := hrel
      have z0 := hbel.size
      by_cases hlt : k < N
      · have hki : (k : Int) < (N : Int) := by omega
        have hsl := subs_len k xs.length
        have hul := mostTo_len (P := canHold xs ps) (n := xs.length) k
        go_wp2_with fail
        refine (subset_any k rs.length _ (by omega) (by omega)).mono ?_
        rintro e w4 ⟨v4, rfl, ho4, b4⟩
        rw [← HNX.out] at ho4
        have z4 := b4.size
        have hs3 := ho4.rdw (fun _ => rfl)
        obtain ⟨A3, c3, rfl, hc3⟩ := RdF.form hs3.rd
        replace hu := (hu.below b4 (Nat.le_refl _)).wide (lo' := w1.heap.size) (hi' := w4.heap.size) (Nat.le_refl _) z4
        replace hbel := Below.step b4 z0 hbel
        have z40 := hbel.size
        clear b4 ho4
        by_cases q1 : (subs k xs.length).length < (mostTo (canHold xs ps) xs.length k).length
        · have HN := Lib.hid (mostTo_no (n := xs.length) (k := k) (P := canHold xs ps) (by unfold better; rw [decide_eq_false (by omega), decide_eq_false (by omega)]; rfl))
          have q1i : ((subs k xs.length).length : Int) < ((mostTo (canHold xs ps) xs.length k).length : Int) := by omega
          go_wp2_with fail
          go_roundw
          case rel => exact ⟨k + 1, by omega, by go_num, ⟨Au, cu, by rw [HN.out], by rw [HN.out]; exact hu⟩, hbel⟩
          case measure => simp [intOf]; omega
        have q1i : ¬ ((subs k xs.length).length : Int) < ((mostTo (canHold xs ps) xs.length k).length : Int) := by omega
        have HBC : Hid (better (subs k xs.length) (mostTo (canHold xs ps) xs.length k) = true ∨ better (subs k xs.length) (mostTo (canHold xs ps) xs.length k) = false) := by cases better (subs k xs.length) (mostTo (canHold xs ps) xs.length k) <;> simp [Hid]
        by_cases q2 : (subs k xs.length).length = (mostTo (canHold xs ps) xs.length k).length
        · have q2i : (((subs k xs.length).length : Int) == ((mostTo (canHold xs ps) xs.length k).length : Int)) = true := by rw [beq_iff_eq]; omega
          have HQ2 := Lib.hid q2; clear q2
          cases hle : lessL (subs k xs.length) (mostTo (canHold xs ps) xs.length k) with
          | false =>
            have HN := Lib.hid (mostTo_no (n := xs.length) (k := k) (P := canHold xs ps) (by unfold better; rw [hle, Bool.and_false, decide_eq_false (by have := HQ2.out; omega)]; rfl))
            go_wp2_with (go_at_call 34; refine (less_any _ (subs k xs.length) _ _ _ (mostTo (canHold xs ps) xs.length k) _ _ _ hs3.rd (Nat.le_refl _) (by omega) hu.rd (Nat.le_refl _) (by omega)).mono ?_; rintro e w5 ⟨rfl, b5⟩; rw [hle])
            replace hbel := Below.step b5 (by omega) hbel
            have z5 := b5.size
            replace hu := hu.below b5 (Nat.le_refl _)
            go_roundw
            case rel => exact ⟨k + 1, by omega, by go_num, ⟨Au, cu, by rw [HN.out], by rw [HN.out]; exact hu.wide (Nat.le_refl _) z5⟩, hbel⟩
            case measure => simp [intOf]; omega
          | true =>
            have HBT := Lib.hid (show better (subs k xs.length) (mostTo (canHold xs ps) xs.length k) = true by unfold better; rw [hle, decide_eq_true HQ2.out]; simp)
            go_wp2_with (go_at_call 34; refine (less_any _ (subs k xs.length) _ _ _ (mostTo (canHold xs ps) xs.length k) _ _ _ hs3.rd (Nat.le_refl _) (by omega) hu.rd (Nat.le_refl _) (by omega)).mono ?_; rintro e w5 ⟨rfl, b5⟩; rw [hle])
            clear hle
            have HIX := Lib.hid (show (subs k xs.length).all (idxOk rs.length) = true by rw [← HNX.out]; exact ris_idx (subs_ris k xs.length))
            have z5 := b5.size
            replace hbel := Below.step b5 z40 hbel
            replace hu := (hu.below b5 (Nat.le_refl _)).wide (lo' := w1.heap.size) (hi' := w5.heap.size) (Nat.le_refl _) z5
            replace hs3 := (hs3.below b5 (Nat.le_refl _)).wide (lo' := w1.heap.size) (hi' := w5.heap.size) z0 z5
            have h3 := hs3.rd
            have hRW := hR.below hbel (by omega)
            have zW := hbel.size
            clear b5
            go_wp2_with fail
            go_loopw [9, 11, 48] (fun u _ j wh => ∃ m : Nat, m ≤ (subs k xs.length).length ∧ j = .int .i64 m ∧ OwnL HearingR.enc 4 56 wh w5.heap.size u (rowsAt rs ((subs k xs.length).take m)) ∧ Below w5.heap.size w5 wh) (fun _ _ j _ => (subs k xs.length).length - (intOf j).toNat)
            case atStart => exact ⟨0, Nat.zero_le _, rfl, OwnL.emptyAt rfl (Nat.le_refl _), by (repeat (first | with_reducible assumption | with_reducible exact Below.refl _ _ | with_reducible refine Below.setCell ?_ ?_ _ | with_reducible refine Below.alloc ?_ ?_ _ | with_reducible refine Below.drew ?_ | with_reducible refine below_drewN ?_ _ | with_reducible refine Below.step (by with_reducible assumption) ?_ ?_ | omega | (simp <;> omega) | (simp; done)))⟩
            case round =>
              obtain ⟨m, hm', rfl, how2, hbe2⟩ := hrel
              have z02 := hbe2.size
              have hrl := rowsAt_len rs ((subs k xs.length).take m)
              rw [List.length_take] at hrl
              by_cases hlt2 : m < (subs k xs.length).length
              · have hki2 : (m : Int) < ((subs k xs.length).length : Int) := by omega
                obtain ⟨i, b, off, HS, hA3, hbw, c0⟩ := RdF.int h3 hbe2 (by omega) hlt2
                subst hA3
                have hio : idxOk rs.length i = true := List.all_eq_true.1 HIX.out i (List.mem_of_getElem? HS.out)
                unfold idxOk at hio
                have hio2 := of_decide_eq_true hio
                clear hio
                obtain ⟨n', rfl⟩ := Int.eq_ofNat_of_zero_le hio2.1
                have hn' : n' < rs.length := by omega
                have hni : (n' : Int) < (rs.length : Int) := by omega
                clear hio2
                obtain ⟨r0, b0, off0, HS0, hA1, -, hbw0, a0, a1, a2, a3⟩ := RdHearing.at hRW hbe2 (by omega) hn'
                subst hA1
                obtain ⟨P0, C0, hpe, hpc⟩ := (HP.out r0 (List.mem_of_getElem? HS0.out)).form
                rw [hpe] at a2
                have HN := Lib.hid (rowsAt_step (rs := rs) HS.out (by simpa using HS0.out))
                have HO := HearingR.one hpe
                have HQ := Lib.hid (show (#[Value.string r0.h.code, .int .i64 r0.h.len, .slice P0 r0.h.people.length C0, .int .i64 r0.h.last] : Array Value).toList = HearingR.enc r0 by simp [HearingR.enc, hpe])
                clear hpe
                go_wp2_with (at_builtin; refine wpList_push (enc := HearingR.enc) _ _ (by first | rfl | simp) rfl (.tmp 52) (.tmp 57) 24 rfl w5.heap.size 56 _ (.agg #[.string ⟨#[]⟩, .int .i64 0, .slice none 0 0, .int .i64 0]) 4 56 Tryz.underlying24 (by kernel_rfl) rfl (by omega) _ (rowsAt rs ((subs k xs.length).take m)) r0 _ HQ.out rfl HO rfl rfl how2 (by omega) (by omega) (by (first | omega | (simp; omega) | (simp; done))) ?_; intro v9 w9 how29 hg9 hk9)
                go_roundw
                case rel => exact ⟨m + 1, by omega, by go_num, (by rw [HN.out]; exact how29), hk9 _ _ (Nat.le_refl _) hbe2⟩
                case measure => simp [intOf]; omega
              · have hkn : m = (subs k xs.length).length := by omega
                rw [hkn, List.take_length] at how2
                clear hkn
                have hrd := held_rd how2 (fun r hr => (HP.out r hr).below (Below.step hbe2 zW hbel) (by omega)) (by omega)
                rw [hxs] at hrd
                have hhl := heldAt_len xs (subs k xs.length)
                have hb2 := Below.step hbe2 zW hbel
                go_wp2_with fail
                refine (calendars_any _ (heldAt xs (subs k xs.length)) _ _ _ ps lo2 hi2 _ hrd (Nat.le_refl _) (h2.below hb2 (by omega)) (by omega) (by omega) (heldAt_ok HMS.out) (heldAt_ok HBX.out) hcl2 HSL.out).mono ?_
                rintro e w8 ⟨v8, rfl, ho8, b8⟩
                have z8 := b8.size
                obtain ⟨A8, c8, rfl, hc8⟩ := ho8.form
                have hb4 := Below.step b8 z02 hbe2
                replace hbel := Below.step b8 (by omega) hb2
                have HFW := Lib.hid (show canHold xs ps (subs k xs.length) = decide (0 < (cals (heldAt xs (subs k xs.length)) ps).length) from rfl)
                generalize cals (heldAt xs (subs k xs.length)) ps = L at *
                by_cases hpos : 0 < L.length
                · have HN := Lib.hid (mostTo_yes HBT.out (by rw [HFW.out]; exact decide_eq_true hpos))
                  have hpi : (0 : Int) < (L.length : Int) := by omega
                  go_wp2_with fail
                  go_roundw
                  case rel => exact ⟨k + 1, by omega, by go_num, ⟨A3, c3, by rw [HN.out], by rw [HN.out]; exact (hs3.below hb4 (Nat.le_refl _)).wide (Nat.le_refl _) (by omega)⟩, hbel⟩
                  case measure => simp [intOf]; omega
                · have HN := Lib.hid (mostTo_no2 (n := xs.length) (k := k) (P := canHold xs ps) (by rw [HFW.out]; exact decide_eq_false hpos))
                  have hpi : ¬ (0 : Int) < (L.length : Int) := by omega
                  replace hu := (hu.below hb4 (Nat.le_refl _)).wide (lo' := w1.heap.size) (hi' := w8.heap.size) (Nat.le_refl _) (by omega)
                  go_wp2_with fail
                  go_roundw
                  case rel => exact ⟨k + 1, by omega, by go_num, ⟨Au, cu, by rw [HN.out], by rw [HN.out]; exact hu⟩, hbel⟩
                  case measure => simp [intOf]; omega
        · have q2i : (((subs k xs.length).length : Int) == ((mostTo (canHold xs ps) xs.length k).length : Int)) = false := by rw [beq_eq_false_iff_ne]; omega
          have HBT := Lib.hid (show better (subs k xs.length) (mostTo (canHold xs ps) xs.length k) = true by unfold better; rw [decide_eq_true (by omega)]; rfl)
          have b5 := Below.refl w4.heap.size w4
          have HIX := Lib.hid (show (subs k xs.length).all (idxOk rs.length) = true by rw [← HNX.out]; exact ris_idx (subs_ris k xs.length))
          have z5 := b5.size
          replace hbel := Below.step b5 z40 hbel
          replace hu := (hu.below b5 (Nat.le_refl _)).wide (lo' := w1.heap.size) (hi' := w4.heap.size) (Nat.le_refl _) z5
          replace hs3 := (hs3.below b5 (Nat.le_refl _)).wide (lo' := w1.heap.size) (hi' := w4.heap.size) z0 z5
          have h3 := hs3.rd
          have hRW := hR.below hbel (by omega)
          have zW := hbel.size
          clear b5
          go_wp2_with fail
          go_loopw [9, 11, 48] (fun u _ j wh => ∃ m : Nat, m ≤ (subs k xs.length).length ∧ j = .int .i64 m ∧ OwnL HearingR.enc 4 56 wh w4.heap.size u (rowsAt rs ((subs k xs.length).take m)) ∧ Below w4.heap.size w4 wh) (fun _ _ j _ => (subs k xs.length).length - (intOf j).toNat)
          case atStart => exact ⟨0, Nat.zero_le _, rfl, OwnL.emptyAt rfl (Nat.le_refl _), by (repeat (first | with_reducible assumption | with_reducible exact Below.refl _ _ | with_reducible refine Below.setCell ?_ ?_ _ | with_reducible refine Below.alloc ?_ ?_ _ | with_reducible refine Below.drew ?_ | with_reducible refine below_drewN ?_ _ | with_reducible refine Below.step (by with_reducible assumption) ?_ ?_ | omega | (simp <;> omega) | (simp; done)))⟩
          case round =>
            obtain ⟨m, hm', rfl, how2, hbe2⟩ := hrel
            have z02 := hbe2.size
            have hrl := rowsAt_len rs ((subs k xs.length).take m)
            rw [List.length_take] at hrl
            by_cases hlt2 : m < (subs k xs.length).length
            · have hki2 : (m : Int) < ((subs k xs.length).length : Int) := by omega
              obtain ⟨i, b, off, HS, hA3, hbw, c0⟩ := RdF.int h3 hbe2 (by omega) hlt2
              subst hA3
              have hio : idxOk rs.length i = true := List.all_eq_true.1 HIX.out i (List.mem_of_getElem? HS.out)
              unfold idxOk at hio
              have hio2 := of_decide_eq_true hio
              clear hio
              obtain ⟨n', rfl⟩ := Int.eq_ofNat_of_zero_le hio2.1
              have hn' : n' < rs.length := by omega
              have hni : (n' : Int) < (rs.length : Int) := by omega
              clear hio2
              obtain ⟨r0, b0, off0, HS0, hA1, -, hbw0, a0, a1, a2, a3⟩ := RdHearing.at hRW hbe2 (by omega) hn'
              subst hA1
              obtain ⟨P0, C0, hpe, hpc⟩ := (HP.out r0 (List.mem_of_getElem? HS0.out)).form
              rw [hpe] at a2
              have HN := Lib.hid (rowsAt_step (rs := rs) HS.out (by simpa using HS0.out))
              have HO := HearingR.one hpe
              have HQ := Lib.hid (show (#[Value.string r0.h.code, .int .i64 r0.h.len, .slice P0 r0.h.people.length C0, .int .i64 r0.h.last] : Array Value).toList = HearingR.enc r0 by simp [HearingR.enc, hpe])
              clear hpe
              go_wp2_with (at_builtin; refine wpList_push (enc := HearingR.enc) _ _ (by first | rfl | simp) rfl (.tmp 52) (.tmp 57) 24 rfl w4.heap.size 56 _ (.agg #[.string ⟨#[]⟩, .int .i64 0, .slice none 0 0, .int .i64 0]) 4 56 Tryz.underlying24 (by kernel_rfl) rfl (by omega) _ (rowsAt rs ((subs k xs.length).take m)) r0 _ HQ.out rfl HO rfl rfl how2 (by omega) (by omega) (by (first | omega | (simp; omega) | (simp; done))) ?_; intro v9 w9 how29 hg9 hk9)
              go_roundw
              case rel => exact ⟨m + 1, by omega, by go_num, (by rw [HN.out]; exact how29), hk9 _ _ (Nat.le_refl _) hbe2⟩
              case measure => simp [intOf]; omega
            · have hkn : m = (subs k xs.length).length := by omega
              rw [hkn, List.take_length] at how2
              clear hkn
              have hrd := held_rd how2 (fun r hr => (HP.out r hr).below (Below.step hbe2 zW hbel) (by omega)) (by omega)
              rw [hxs] at hrd
              have hhl := heldAt_len xs (subs k xs.length)
              have hb2 := Below.step hbe2 zW hbel
              go_wp2_with fail
              refine (calendars_any _ (heldAt xs (subs k xs.length)) _ _ _ ps lo2 hi2 _ hrd (Nat.le_refl _) (h2.below hb2 (by omega)) (by omega) (by omega) (heldAt_ok HMS.out) (heldAt_ok HBX.out) hcl2 HSL.out).mono ?_
              rintro e w8 ⟨v8, rfl, ho8, b8⟩
              have z8 := b8.size
              obtain ⟨A8, c8, rfl, hc8⟩ := ho8.form
              have hb4 := Below.step b8 z02 hbe2
              replace hbel := Below.step b8 (by omega) hb2
              have HFW := Lib.hid (show canHold xs ps (subs k xs.length) = decide (0 < (cals (heldAt xs (subs k xs.length)) ps).length) from rfl)
              generalize cals (heldAt xs (subs k xs.length)) ps = L at *
              by_cases hpos : 0 < L.length
              · have HN := Lib.hid (mostTo_yes HBT.out (by rw [HFW.out]; exact decide_eq_true hpos))
                have hpi : (0 : Int) < (L.length : Int) := by omega
                go_wp2_with fail
                go_roundw
                case rel => exact ⟨k + 1, by omega, by go_num, ⟨A3, c3, by rw [HN.out], by rw [HN.out]; exact (hs3.below hb4 (Nat.le_refl _)).wide (Nat.le_refl _) (by omega)⟩, hbel⟩
                case measure => simp [intOf]; omega
              · have HN := Lib.hid (mostTo_no2 (n := xs.length) (k := k) (P := canHold xs ps) (by rw [HFW.out]; exact decide_eq_false hpos))
                have hpi : ¬ (0 : Int) < (L.length : Int) := by omega
                replace hu := (hu.below hb4 (Nat.le_refl _)).wide (lo' := w1.heap.size) (hi' := w8.heap.size) (Nat.le_refl _) (by omega)
                go_wp2_with fail
                go_roundw
                case rel => exact ⟨k + 1, by omega, by go_num, ⟨Au, cu, by rw [HN.out], by rw [HN.out]; exact hu⟩, hbel⟩
                case measure => simp [intOf]; omega
      · have hkn : k = 2 ^ xs.length := by have := HNN.out; omega
        have HE := Lib.hid (show mostS (canHold xs ps) xs.length xs.length = mostTo (canHold xs ps) xs.length k by rw [hkn, most_eq])
        clear hkn
        go_wp2_with fail
        go_ret2
        rw [HF.out, HE.out]
        exact ⟨_, rfl, hu.wide (by omega) (Nat.le_refl _), Below.step hbel z1 b1⟩
end Go.Proofs.YtmgdkblleljdaaaGreat
