/- Walks of the custody's functions: limits, codes. Written by a program (gen_custody.py). -/
import Derived.Test.YtfafcicbfgdmcaaCustodyW
import Derived.Deep.RegionHeld3
namespace Go.Proofs.Ytfafcicbfgdmcaa
open Go.RowKit
set_option linter.unusedVariables false
set_option maxRecDepth 100000 in
set_option maxHeartbeats 4000000 in
theorem nextLimit_any (c : Custody) (p0 p1 : Value) (lo3 hi3 : Nat) (v1 : Value) (rules : List Stage) (lo1 hi1 : Nat) (v2 : Value) (hol : List Int) (lo2 hi2 : Nat) (w : World) (hc0 : RdF encInt 1 w lo3 hi3 p0 c.done) (hc1 : RdF encBool 1 w lo3 hi3 p1 c.ext) (hh3 : hi3 ≤ w.heap.size) (hcs : c.small) (hr : RdF Stage.enc 3 w lo1 hi1 v1 rules) (hh1 : hi1 ≤ w.heap.size) (hm1 : rules.length ≤ 1048576) (hms1 : ∀ x ∈ rules, Stage.small x) (hv : RdF encInt 1 w lo2 hi2 v2 hol) (hh2 : hi2 ≤ w.heap.size) (hm2 : hol.length ≤ 1048576) (hok : c.ok rules = true) (hlt : c.done.length < rules.length) :
    Calls Try.prog 27 #[.agg #[.int .i64 c.start, p0, p1], v1, v2] w fun e w' => e = .returned (.int .i64 (nextLimit rules hol c)) ∧ Below w.heap.size w w' := by
  obtain ⟨A0, C0, rfl, hC0⟩ := hc0.form
  obtain ⟨A1, C1, rfl, hC1⟩ := hc1.form
  obtain ⟨AR, CR, rfl, hCR⟩ := hr.form
  obtain ⟨AH, CH, rfl, hCH⟩ := hv.form
  have hl0 := hcs.len0
  have hl1 := hcs.len1
  obtain ⟨s, hs⟩ : ∃ s, rules[c.done.length]? = some s := ⟨_, List.getElem?_eq_getElem hlt⟩
  have hok' := Custody.ok_parts hok
  obtain ⟨ex, he⟩ : ∃ ex, c.ext[c.done.length]? = some ex := ⟨_, List.getElem?_eq_getElem (by have := hok'.2.2.2.2; omega)⟩
  have hf := stagesOk_fine hok'.2.1 s (List.mem_of_getElem? hs)
  have hbf := befAt_bd hok c.done.length (Nat.le_refl _)
  have HN := Lib.hid (show nextLimit rules hol c = lastCourt hol (c.befAt c.done.length) (spanOf s ex) from limitAt_of hs he)
  have HS := Lib.hid hs
  have HE := Lib.hid he
  clear hok' hs he
  have kX := Blk.newAt (w := w) (n := w.heap.size) (t := 28) (cs := #[.int .i64 c.start, .slice A0 c.done.length C0, .slice A1 c.ext.length C1]) rfl
  have hbkX : Below w.heap.size w (w.alloc (.cells #[.int .i64 c.start, .slice A0 c.done.length C0, .slice A1 c.ext.length C1] 28)) := (Below.refl _ _).alloc (Nat.le_refl _) _
  have hzkX : (w.alloc (.cells #[.int .i64 c.start, .slice A0 c.done.length C0, .slice A1 c.ext.length C1] 28)).heap.size = w.heap.size + 1 := by simp
  replace hc0 := hc0.below hbkX hh3
  replace hc1 := hc1.below hbkX hh3
  replace hr := hr.below hbkX hh1
  replace hv := hv.below hbkX hh2
  go_enter Try.func27, Try.ntmps27
  go_wp2_with fail
  generalize (w.alloc (.cells #[.int .i64 c.start, .slice A0 c.done.length C0, .slice A1 c.ext.length C1] 28)) = W0 at *
  obtain ⟨q0, q1, q2⟩ := kX.c3
  have zl := kX.lt
  go_region_held3 (fun w' => w'.cell? ⟨w.heap.size, 0, none⟩ = some (.int .i64 c.start) ∧ w'.cell? ⟨w.heap.size, 1, none⟩ = some (.slice A0 c.done.length C0) ∧ w'.cell? ⟨w.heap.size, 2, none⟩ = some (.slice A1 c.ext.length C1)) (go_keep)
    (first
      | (go_at_call 32; refine (before_any c (.slice A0 c.done.length C0) (.slice A1 c.ext.length C1) lo3 hi3 c.done.length _ (hc0.below (B := W0.heap.size) (Below.refl _ W0).drew (by omega)) (hc1.below (B := W0.heap.size) (Below.refl _ W0).drew (by omega)) (by show _ ≤ W0.heap.size; omega) hcs (Nat.le_refl _)).mono ?_; rintro e w1 ⟨rfl, b1⟩; replace b1 : Below W0.heap.size W0 w1 := Below.undrew b1; have zb1 := b1.size; replace hc0 := hc0.below b1 (by omega); replace hc1 := hc1.below b1 (by omega); replace hr := hr.below b1 (by omega); replace hv := hv.below b1 (by omega); replace kX := kX.below b1 (by omega); replace hbkX := Below.step b1 (by omega) hbkX; clear b1; obtain ⟨r0, r1, r2⟩ := kX.c3)
      | (go_at_call 33; refine (limit_any c (.slice A0 c.done.length C0) (.slice A1 c.ext.length C1) lo3 hi3 (.slice AR rules.length CR) rules lo1 hi1 (.slice AH hol.length CH) hol lo2 hi2 c.done.length (c.befAt c.done.length) s ex _ hc0 hc1 (by omega) hcs hr (by omega) hm1 hms1 hv (by omega) hm2 HS.out HE.out hf (by omega) (by omega)).mono ?_; rintro e w2 ⟨rfl, b2⟩; have zb2 := b2.size; replace hc0 := hc0.below b2 (by omega); replace hc1 := hc1.below b2 (by omega); replace hr := hr.below b2 (by omega); replace hv := hv.below b2 (by omega); replace kX := kX.below b2 (by omega); replace hbkX := Below.step b2 (by omega) hbkX; clear b2; obtain ⟨s0, s1, s2⟩ := kX.c3))
  go_wp2_with fail
  go_ret
  exact ⟨ret_int HN.out.symm, by (repeat (first | with_reducible assumption | with_reducible exact Below.refl _ _ | with_reducible refine Below.setCell ?_ ?_ _ | with_reducible refine Below.alloc ?_ ?_ _ | with_reducible refine Below.drew ?_ | with_reducible refine below_drewN ?_ _ | with_reducible refine Below.step (by with_reducible assumption) ?_ ?_ | omega | (simp <;> omega) | (simp; done)))⟩
set_option maxRecDepth 100000 in
set_option maxHeartbeats 4000000 in
theorem l20Next_any (v1 : Value) (rules : List Stage) (lo1 hi1 : Nat) (v2 : Value) (hol : List Int) (lo2 hi2 : Nat) (c : Custody) (p0 p1 : Value) (lo3 hi3 : Nat) (w : World) (hr : RdF Stage.enc 3 w lo1 hi1 v1 rules) (hh1 : hi1 ≤ w.heap.size) (hm1 : rules.length ≤ 1048576) (hms1 : ∀ x ∈ rules, Stage.small x) (hv : RdF encInt 1 w lo2 hi2 v2 hol) (hh2 : hi2 ≤ w.heap.size) (hm2 : hol.length ≤ 1048576) (hc0 : RdF encInt 1 w lo3 hi3 p0 c.done) (hc1 : RdF encBool 1 w lo3 hi3 p1 c.ext) (hh3 : hi3 ≤ w.heap.size) (hcs : c.small) (hok : c.ok rules = true) (hlt : c.done.length < rules.length) :
    Calls Try.prog 29 #[v1, v2, .agg #[.int .i64 c.start, p0, p1]] w fun e w' => e = .returned (.int .i64 (nextLimit rules hol c)) ∧ Below w.heap.size w w' := by
  obtain ⟨A0, C0, rfl, hC0⟩ := hc0.form
  obtain ⟨A1, C1, rfl, hC1⟩ := hc1.form
  obtain ⟨AR, CR, rfl, hCR⟩ := hr.form
  obtain ⟨AH, CH, rfl, hCH⟩ := hv.form
  have hl0 := hcs.len0
  have hl1 := hcs.len1
  obtain ⟨s, hs⟩ : ∃ s, rules[c.done.length]? = some s := ⟨_, List.getElem?_eq_getElem hlt⟩
  have hok' := Custody.ok_parts hok
  obtain ⟨ex, he⟩ : ∃ ex, c.ext[c.done.length]? = some ex := ⟨_, List.getElem?_eq_getElem (by have := hok'.2.2.2.2; omega)⟩
  have hf := stagesOk_fine hok'.2.1 s (List.mem_of_getElem? hs)
  have hbf := befAt_bd hok c.done.length (Nat.le_refl _)
  have HN := Lib.hid (show nextLimit rules hol c = lastCourt hol (c.befAt c.done.length) (spanOf s ex) from limitAt_of hs he)
  have HS := Lib.hid hs
  have HE := Lib.hid he
  clear hok' hs he
  have kX := Blk.newAt (w := w) (n := w.heap.size) (t := 28) (cs := #[.int .i64 c.start, .slice A0 c.done.length C0, .slice A1 c.ext.length C1]) rfl
  have hbkX : Below w.heap.size w (w.alloc (.cells #[.int .i64 c.start, .slice A0 c.done.length C0, .slice A1 c.ext.length C1] 28)) := (Below.refl _ _).alloc (Nat.le_refl _) _
  have hzkX : (w.alloc (.cells #[.int .i64 c.start, .slice A0 c.done.length C0, .slice A1 c.ext.length C1] 28)).heap.size = w.heap.size + 1 := by simp
  replace hc0 := hc0.below hbkX hh3
  replace hc1 := hc1.below hbkX hh3
  replace hr := hr.below hbkX hh1
  replace hv := hv.below hbkX hh2
  go_enter Try.func29, Try.ntmps29
  go_wp2_with fail
  generalize (w.alloc (.cells #[.int .i64 c.start, .slice A0 c.done.length C0, .slice A1 c.ext.length C1] 28)) = W0 at *
  obtain ⟨q0, q1, q2⟩ := kX.c3
  have zl := kX.lt
  have hlx : c.done.length < c.ext.length := (List.getElem?_eq_some_iff.1 HE.out).1
  obtain ⟨ex', b2, off2, HE2, hA2, hbw2, q3⟩ := RdF.bool hc1 (Below.refl _ W0) (by omega) hlx
  have e2 : ex = ex' := by have h1 := HE2.out; rw [HE.out] at h1; injection h1 with h1
  subst e2
  subst hA2
  clear HE2
  have hlxi : (c.done.length : Int) < (c.ext.length : Int) := by omega
  go_region_held3 (fun w' => w'.cell? ⟨w.heap.size, 0, none⟩ = some (.int .i64 c.start) ∧ w'.cell? ⟨w.heap.size, 1, none⟩ = some (.slice A0 c.done.length C0) ∧ w'.cell? ⟨w.heap.size, 2, none⟩ = some (.slice (some ⟨b2, off2, none⟩) c.ext.length C1) ∧ w'.cell? ⟨b2, off2 + c.done.length, none⟩ = some (.bool ex)) (go_keep)
    (first
      | (go_at_call 34; refine (l20Before_any c (.slice A0 c.done.length C0) (.slice (some ⟨b2, off2, none⟩) c.ext.length C1) lo3 hi3 c.done.length _ (hc0.below (B := W0.heap.size) (Below.refl _ W0).drew (by omega)) (hc1.below (B := W0.heap.size) (Below.refl _ W0).drew (by omega)) (by show _ ≤ W0.heap.size; omega) hcs (Nat.le_refl _)).mono ?_; rintro e w1 ⟨rfl, b1⟩; replace b1 : Below W0.heap.size W0 w1 := Below.undrew b1; have q3' := (b1.cell (p := ⟨b2, off2 + c.done.length, none⟩) (by show b2 < _; omega)).trans q3; have zb1 := b1.size; replace hc0 := hc0.below b1 (by omega); replace hc1 := hc1.below b1 (by omega); replace hr := hr.below b1 (by omega); replace hv := hv.below b1 (by omega); replace kX := kX.below b1 (by omega); replace hbkX := Below.step b1 (by omega) hbkX; clear b1; obtain ⟨r0, r1, r2⟩ := kX.c3)
      | (go_at_call 35; refine (l20Limit_any (.slice AR rules.length CR) rules lo1 hi1 (.slice AH hol.length CH) hol lo2 hi2 c.done.length (c.befAt c.done.length) s ex _ hr (by omega) hm1 hms1 hv (by omega) hm2 HS.out hf (by omega) (by omega)).mono ?_; rintro e w2 ⟨rfl, c2⟩; have q3'' := (c2.cell (p := ⟨b2, off2 + c.done.length, none⟩) (by show b2 < _; omega)).trans q3'; have zc2 := c2.size; replace hc0 := hc0.below c2 (by omega); replace hc1 := hc1.below c2 (by omega); replace hr := hr.below c2 (by omega); replace hv := hv.below c2 (by omega); replace kX := kX.below c2 (by omega); replace hbkX := Below.step c2 (by omega) hbkX; clear c2; obtain ⟨s0, s1, s2⟩ := kX.c3))
  go_wp2_with fail
  go_ret
  exact ⟨ret_int HN.out.symm, by (repeat (first | with_reducible assumption | with_reducible exact Below.refl _ _ | with_reducible refine Below.setCell ?_ ?_ _ | with_reducible refine Below.alloc ?_ ?_ _ | with_reducible refine Below.drew ?_ | with_reducible refine below_drewN ?_ _ | with_reducible refine Below.step (by with_reducible assumption) ?_ ?_ | omega | (simp <;> omega) | (simp; done)))⟩
set_option maxRecDepth 100000 in
set_option maxHeartbeats 4000000 in
theorem custodyOk_any (v1 : Value) (rules : List Stage) (lo1 hi1 : Nat) (v2 : Value) (hol : List Int) (lo2 hi2 : Nat) (c : Custody) (p0 p1 : Value) (lo3 hi3 : Nat) (w : World) (hr : RdF Stage.enc 3 w lo1 hi1 v1 rules) (hh1 : hi1 ≤ w.heap.size) (hm1 : rules.length ≤ 1048576) (hms1 : ∀ x ∈ rules, Stage.small x) (hv : RdF encInt 1 w lo2 hi2 v2 hol) (hh2 : hi2 ≤ w.heap.size) (hm2 : hol.length ≤ 1048576) (hc0 : RdF encInt 1 w lo3 hi3 p0 c.done) (hc1 : RdF encBool 1 w lo3 hi3 p1 c.ext) (hh3 : hi3 ≤ w.heap.size) (hcs : c.small) :
    Calls Try.prog 42 #[v1, v2, .agg #[.int .i64 c.start, p0, p1]] w fun e w' => e = .returned (.bool (holidaysOk hol && c.ok rules)) ∧ Below w.heap.size w w' := by
  obtain ⟨A0, C0, rfl, hC0⟩ := hc0.form
  obtain ⟨A1, C1, rfl, hC1⟩ := hc1.form
  obtain ⟨AR, CR, rfl, hCR⟩ := hr.form
  obtain ⟨AH, CH, rfl, hCH⟩ := hv.form
  have hl0 := hcs.len0
  have hl1 := hcs.len1
  have kX := Blk.newAt (w := w) (n := w.heap.size) (t := 28) (cs := #[.int .i64 c.start, .slice A0 c.done.length C0, .slice A1 c.ext.length C1]) rfl
  have hbkX : Below w.heap.size w (w.alloc (.cells #[.int .i64 c.start, .slice A0 c.done.length C0, .slice A1 c.ext.length C1] 28)) := (Below.refl _ _).alloc (Nat.le_refl _) _
  have hzkX : (w.alloc (.cells #[.int .i64 c.start, .slice A0 c.done.length C0, .slice A1 c.ext.length C1] 28)).heap.size = w.heap.size + 1 := by simp
  replace hc0 := hc0.below hbkX hh3
  replace hc1 := hc1.below hbkX hh3
  replace hr := hr.below hbkX hh1
  replace hv := hv.below hbkX hh2
  go_enter Try.func42, Try.ntmps42
  go_wp2_with fail
  generalize (w.alloc (.cells #[.int .i64 c.start, .slice A0 c.done.length C0, .slice A1 c.ext.length C1] 28)) = W0 at *
  refine (areHolidays_any _ hol _ _ _ hv (by omega) hm2).mono ?_
  rintro e w1 ⟨rfl, rfl⟩
  obtain ⟨q0, q1, q2⟩ := kX.c3
  cases hz : holidaysOk hol with
  | false =>
    go_wp2_with fail
    go_ret
    exact ⟨ret_bool (by first | rfl | simp [hz]), by (repeat (first | with_reducible assumption | with_reducible exact Below.refl _ _ | with_reducible refine Below.setCell ?_ ?_ _ | with_reducible refine Below.alloc ?_ ?_ _ | with_reducible refine Below.drew ?_ | with_reducible refine below_drewN ?_ _ | with_reducible refine Below.step (by with_reducible assumption) ?_ ?_ | omega | (simp <;> omega) | (simp; done)))⟩
  | true =>
    go_wp2_with fail
    refine (isCustody_any _ rules lo1 hi1 c _ _ lo3 hi3 _ hr (by omega) hm1 hms1 hc0 hc1 (by omega) hcs).mono ?_
    rintro e w2 ⟨rfl, b2⟩
    go_wp2_with fail
    go_ret
    exact ⟨ret_bool (by first | rfl | simp [hz]), by (repeat (first | with_reducible assumption | with_reducible exact Below.refl _ _ | with_reducible refine Below.setCell ?_ ?_ _ | with_reducible refine Below.alloc ?_ ?_ _ | with_reducible refine Below.drew ?_ | with_reducible refine below_drewN ?_ _ | with_reducible refine Below.step (by with_reducible assumption) ?_ ?_ | omega | (simp <;> omega) | (simp; done)))⟩
set_option maxRecDepth 100000 in
set_option maxHeartbeats 4000000 in
theorem stageCode_any (v1 : Value) (rules : List Stage) (lo1 hi1 : Nat) (v2 : Value) (hol : List Int) (lo2 hi2 : Nat) (c : Custody) (p0 p1 : Value) (lo3 hi3 : Nat) (day : Int) (w : World) (hr : RdF Stage.enc 3 w lo1 hi1 v1 rules) (hh1 : hi1 ≤ w.heap.size) (hm1 : rules.length ≤ 1048576) (hms1 : ∀ x ∈ rules, Stage.small x) (hv : RdF encInt 1 w lo2 hi2 v2 hol) (hh2 : hi2 ≤ w.heap.size) (hm2 : hol.length ≤ 1048576) (hc0 : RdF encInt 1 w lo3 hi3 p0 c.done) (hc1 : RdF encBool 1 w lo3 hi3 p1 c.ext) (hh3 : hi3 ≤ w.heap.size) (hcs : c.small) :
    Calls Try.prog 26 #[v1, v2, .agg #[.int .i64 c.start, p0, p1], .int .i64 day] w fun e w' => e = .returned (.int .i64 (stageCode rules hol c day)) ∧ Below w.heap.size w w' := by
  obtain ⟨A0, C0, rfl, hC0⟩ := hc0.form
  obtain ⟨A1, C1, rfl, hC1⟩ := hc1.form
  obtain ⟨AR, CR, rfl, hCR⟩ := hr.form
  obtain ⟨AH, CH, rfl, hCH⟩ := hv.form
  have hl0 := hcs.len0
  have hl1 := hcs.len1
  have kX := Blk.newAt (w := w) (n := w.heap.size) (t := 28) (cs := #[.int .i64 c.start, .slice A0 c.done.length C0, .slice A1 c.ext.length C1]) rfl
  have hbkX : Below w.heap.size w (w.alloc (.cells #[.int .i64 c.start, .slice A0 c.done.length C0, .slice A1 c.ext.length C1] 28)) := (Below.refl _ _).alloc (Nat.le_refl _) _
  have hzkX : (w.alloc (.cells #[.int .i64 c.start, .slice A0 c.done.length C0, .slice A1 c.ext.length C1] 28)).heap.size = w.heap.size + 1 := by simp
  replace hc0 := hc0.below hbkX hh3
  replace hc1 := hc1.below hbkX hh3
  replace hr := hr.below hbkX hh1
  replace hv := hv.below hbkX hh2
  go_enter Try.func26, Try.ntmps26
  go_wp2_with fail
  generalize (w.alloc (.cells #[.int .i64 c.start, .slice A0 c.done.length C0, .slice A1 c.ext.length C1] 28)) = W0 at *
  refine (custodyOk_any _ rules lo1 hi1 _ hol lo2 hi2 c _ _ lo3 hi3 _ hr (by omega) hm1 hms1 hv (by omega) hm2 hc0 hc1 (by omega) hcs).mono ?_
  rintro e w1 ⟨rfl, b1⟩
  have zb1 := b1.size
  replace hc0 := hc0.below b1 (by omega)
  replace hc1 := hc1.below b1 (by omega)
  replace hr := hr.below b1 (by omega)
  replace hv := hv.below b1 (by omega)
  replace kX := kX.below b1 (by omega)
  replace hbkX := Below.step b1 (by omega) hbkX
  clear b1
  obtain ⟨q0, q1, q2⟩ := kX.c3
  cases hz : (holidaysOk hol && c.ok rules) with
  | false =>
    have HC := Lib.hid (show stageCode rules hol c day = 1 by rw [stageCode, hz]; rfl)
    go_wp2_with fail
    go_ret
    exact ⟨ret_int HC.out.symm, by (repeat (first | with_reducible assumption | with_reducible exact Below.refl _ _ | with_reducible refine Below.setCell ?_ ?_ _ | with_reducible refine Below.alloc ?_ ?_ _ | with_reducible refine Below.drew ?_ | with_reducible refine below_drewN ?_ _ | with_reducible refine Below.step (by with_reducible assumption) ?_ ?_ | omega | (simp <;> omega) | (simp; done)))⟩
  | true =>
    cases hd : dayOk day with
    | false =>
      have HC := Lib.hid (show stageCode rules hol c day = 2 by rw [stageCode, hz, hd]; rfl)
      go_wp2_with (go_at_call 50; refine (isDay_any _ _).mono ?_; rintro e w' ⟨rfl, rfl⟩; rw [hd])
      go_ret
      exact ⟨ret_int HC.out.symm, by (repeat (first | with_reducible assumption | with_reducible exact Below.refl _ _ | with_reducible refine Below.setCell ?_ ?_ _ | with_reducible refine Below.alloc ?_ ?_ _ | with_reducible refine Below.drew ?_ | with_reducible refine below_drewN ?_ _ | with_reducible refine Below.step (by with_reducible assumption) ?_ ?_ | omega | (simp <;> omega) | (simp; done)))⟩
    | true =>
      by_cases hn : c.done.length = rules.length
      · have HC := Lib.hid (show stageCode rules hol c day = 4 by rw [stageCode, hz, hd, if_pos hn]; rfl)
        have hni : ((c.done.length : Int) == (rules.length : Int)) = true := by simp [hn]
        clear hn
        go_wp2_with (go_at_call 50; refine (isDay_any _ _).mono ?_; rintro e w' ⟨rfl, rfl⟩; rw [hd])
        go_ret
        exact ⟨ret_int HC.out.symm, by (repeat (first | with_reducible assumption | with_reducible exact Below.refl _ _ | with_reducible refine Below.setCell ?_ ?_ _ | with_reducible refine Below.alloc ?_ ?_ _ | with_reducible refine Below.drew ?_ | with_reducible refine below_drewN ?_ _ | with_reducible refine Below.step (by with_reducible assumption) ?_ ?_ | omega | (simp <;> omega) | (simp; done)))⟩
      · have HC := Lib.hid (show stageCode rules hol c day = 0 by rw [stageCode, hz, hd, if_neg hn]; rfl)
        have hni : ((c.done.length : Int) == (rules.length : Int)) = false := by simp; omega
        go_wp2_with (go_at_call 50; refine (isDay_any _ _).mono ?_; rintro e w' ⟨rfl, rfl⟩; rw [hd])
        go_ret
        exact ⟨ret_int HC.out.symm, by (repeat (first | with_reducible assumption | with_reducible exact Below.refl _ _ | with_reducible refine Below.setCell ?_ ?_ _ | with_reducible refine Below.alloc ?_ ?_ _ | with_reducible refine Below.drew ?_ | with_reducible refine below_drewN ?_ _ | with_reducible refine Below.step (by with_reducible assumption) ?_ ?_ | omega | (simp <;> omega) | (simp; done)))⟩
set_option maxRecDepth 100000 in
set_option maxHeartbeats 4000000 in
theorem l20Code_any (v1 : Value) (rules : List Stage) (lo1 hi1 : Nat) (v2 : Value) (hol : List Int) (lo2 hi2 : Nat) (c : Custody) (p0 p1 : Value) (lo3 hi3 : Nat) (day : Int) (w : World) (hr : RdF Stage.enc 3 w lo1 hi1 v1 rules) (hh1 : hi1 ≤ w.heap.size) (hm1 : rules.length ≤ 1048576) (hms1 : ∀ x ∈ rules, Stage.small x) (hv : RdF encInt 1 w lo2 hi2 v2 hol) (hh2 : hi2 ≤ w.heap.size) (hm2 : hol.length ≤ 1048576) (hc0 : RdF encInt 1 w lo3 hi3 p0 c.done) (hc1 : RdF encBool 1 w lo3 hi3 p1 c.ext) (hh3 : hi3 ≤ w.heap.size) (hcs : c.small) :
    Calls Try.prog 28 #[v1, v2, .agg #[.int .i64 c.start, p0, p1], .int .i64 day] w fun e w' => e = .returned (.int .i64 (stageCode rules hol c day)) ∧ Below w.heap.size w w' := by
  obtain ⟨A0, C0, rfl, hC0⟩ := hc0.form
  obtain ⟨A1, C1, rfl, hC1⟩ := hc1.form
  obtain ⟨AR, CR, rfl, hCR⟩ := hr.form
  obtain ⟨AH, CH, rfl, hCH⟩ := hv.form
  have hl0 := hcs.len0
  have hl1 := hcs.len1
  have kX := Blk.newAt (w := w) (n := w.heap.size) (t := 28) (cs := #[.int .i64 c.start, .slice A0 c.done.length C0, .slice A1 c.ext.length C1]) rfl
  have hbkX : Below w.heap.size w (w.alloc (.cells #[.int .i64 c.start, .slice A0 c.done.length C0, .slice A1 c.ext.length C1] 28)) := (Below.refl _ _).alloc (Nat.le_refl _) _
  have hzkX : (w.alloc (.cells #[.int .i64 c.start, .slice A0 c.done.length C0, .slice A1 c.ext.length C1] 28)).heap.size = w.heap.size + 1 := by simp
  replace hc0 := hc0.below hbkX hh3
  replace hc1 := hc1.below hbkX hh3
  replace hr := hr.below hbkX hh1
  replace hv := hv.below hbkX hh2
  go_enter Try.func28, Try.ntmps28
  go_wp2_with fail
  generalize (w.alloc (.cells #[.int .i64 c.start, .slice A0 c.done.length C0, .slice A1 c.ext.length C1] 28)) = W0 at *
  refine (sIsCustody_any _ rules lo1 hi1 c _ _ lo3 hi3 _ hr (by omega) hm1 hms1 hc0 hc1 (by omega) hcs).mono ?_
  rintro e w1 ⟨rfl, b1⟩
  have zb1 := b1.size
  replace hc0 := hc0.below b1 (by omega)
  replace hc1 := hc1.below b1 (by omega)
  replace hr := hr.below b1 (by omega)
  replace hv := hv.below b1 (by omega)
  replace kX := kX.below b1 (by omega)
  replace hbkX := Below.step b1 (by omega) hbkX
  clear b1
  obtain ⟨q0, q1, q2⟩ := kX.c3
  cases ho : c.ok rules with
  | false =>
    have HC := Lib.hid (show stageCode rules hol c day = 1 by rw [stageCode, ho]; simp)
    go_wp2_with fail
    go_ret
    exact ⟨ret_int HC.out.symm, by (repeat (first | with_reducible assumption | with_reducible exact Below.refl _ _ | with_reducible refine Below.setCell ?_ ?_ _ | with_reducible refine Below.alloc ?_ ?_ _ | with_reducible refine Below.drew ?_ | with_reducible refine below_drewN ?_ _ | with_reducible refine Below.step (by with_reducible assumption) ?_ ?_ | omega | (simp <;> omega) | (simp; done)))⟩
  | true =>
    go_wp2_with fail
    refine (sAreHolidays_any _ hol _ _ _ hv (by omega) hm2).mono ?_
    rintro e w2 ⟨rfl, b2⟩
    clear q0 q1 q2
    have zb2 := b2.size
    replace hc0 := hc0.below b2 (by omega)
    replace hc1 := hc1.below b2 (by omega)
    replace hr := hr.below b2 (by omega)
    replace hv := hv.below b2 (by omega)
    replace kX := kX.below b2 (by omega)
    replace hbkX := Below.step b2 (by omega) hbkX
    clear b2
    obtain ⟨q0, q1, q2⟩ := kX.c3
    cases hh : holidaysOk hol with
    | false =>
      have HC := Lib.hid (show stageCode rules hol c day = 1 by rw [stageCode, hh]; rfl)
      go_wp2_with fail
      go_ret
      exact ⟨ret_int HC.out.symm, by (repeat (first | with_reducible assumption | with_reducible exact Below.refl _ _ | with_reducible refine Below.setCell ?_ ?_ _ | with_reducible refine Below.alloc ?_ ?_ _ | with_reducible refine Below.drew ?_ | with_reducible refine below_drewN ?_ _ | with_reducible refine Below.step (by with_reducible assumption) ?_ ?_ | omega | (simp <;> omega) | (simp; done)))⟩
    | true =>
      have hz : (holidaysOk hol && c.ok rules) = true := by rw [hh, ho]; rfl
      cases hd : dayOk day with
      | false =>
        have HC := Lib.hid (show stageCode rules hol c day = 2 by rw [stageCode, hz, hd]; rfl)
        go_wp2_with (go_at_call 51; refine (l02Is_any _ _).mono ?_; rintro e w' ⟨rfl, rfl⟩; rw [hd])
        go_ret
        exact ⟨ret_int HC.out.symm, by (repeat (first | with_reducible assumption | with_reducible exact Below.refl _ _ | with_reducible refine Below.setCell ?_ ?_ _ | with_reducible refine Below.alloc ?_ ?_ _ | with_reducible refine Below.drew ?_ | with_reducible refine below_drewN ?_ _ | with_reducible refine Below.step (by with_reducible assumption) ?_ ?_ | omega | (simp <;> omega) | (simp; done)))⟩
      | true =>
        by_cases hn : c.done.length = rules.length
        · have HC := Lib.hid (show stageCode rules hol c day = 4 by rw [stageCode, hz, hd, if_pos hn]; rfl)
          have hni : ((c.done.length : Int) == (rules.length : Int)) = true := by simp [hn]
          clear hn
          go_wp2_with (go_at_call 51; refine (l02Is_any _ _).mono ?_; rintro e w' ⟨rfl, rfl⟩; rw [hd])
          go_ret
          exact ⟨ret_int HC.out.symm, by (repeat (first | with_reducible assumption | with_reducible exact Below.refl _ _ | with_reducible refine Below.setCell ?_ ?_ _ | with_reducible refine Below.alloc ?_ ?_ _ | with_reducible refine Below.drew ?_ | with_reducible refine below_drewN ?_ _ | with_reducible refine Below.step (by with_reducible assumption) ?_ ?_ | omega | (simp <;> omega) | (simp; done)))⟩
        · have HC := Lib.hid (show stageCode rules hol c day = 0 by rw [stageCode, hz, hd, if_neg hn]; rfl)
          have hni : ((c.done.length : Int) == (rules.length : Int)) = false := by simp; omega
          go_wp2_with (go_at_call 51; refine (l02Is_any _ _).mono ?_; rintro e w' ⟨rfl, rfl⟩; rw [hd])
          go_ret
          exact ⟨ret_int HC.out.symm, by (repeat (first | with_reducible assumption | with_reducible exact Below.refl _ _ | with_reducible refine Below.setCell ?_ ?_ _ | with_reducible refine Below.alloc ?_ ?_ _ | with_reducible refine Below.drew ?_ | with_reducible refine below_drewN ?_ _ | with_reducible refine Below.step (by with_reducible assumption) ?_ ?_ | omega | (simp <;> omega) | (simp; done)))⟩
set_option maxRecDepth 100000 in
set_option maxHeartbeats 4000000 in
theorem limitOf_any (v1 : Value) (rules : List Stage) (lo1 hi1 : Nat) (v2 : Value) (hol : List Int) (lo2 hi2 : Nat) (c : Custody) (p0 p1 : Value) (lo3 hi3 : Nat) (w : World) (hr : RdF Stage.enc 3 w lo1 hi1 v1 rules) (hh1 : hi1 ≤ w.heap.size) (hm1 : rules.length ≤ 1048576) (hms1 : ∀ x ∈ rules, Stage.small x) (hv : RdF encInt 1 w lo2 hi2 v2 hol) (hh2 : hi2 ≤ w.heap.size) (hm2 : hol.length ≤ 1048576) (hc0 : RdF encInt 1 w lo3 hi3 p0 c.done) (hc1 : RdF encBool 1 w lo3 hi3 p1 c.ext) (hh3 : hi3 ≤ w.heap.size) (hcs : c.small) :
    Calls Try.prog 12 #[v1, v2, .agg #[.int .i64 c.start, p0, p1]] w fun e w' => e = .returned (.tuple #[.int .i64 (limitOf rules hol c).1, .int .i64 (limitOf rules hol c).2]) ∧ Below w.heap.size w w' := by
  obtain ⟨A0, C0, rfl, hC0⟩ := hc0.form
  obtain ⟨A1, C1, rfl, hC1⟩ := hc1.form
  obtain ⟨AR, CR, rfl, hCR⟩ := hr.form
  obtain ⟨AH, CH, rfl, hCH⟩ := hv.form
  have hl0 := hcs.len0
  have hl1 := hcs.len1
  have kX := Blk.newAt (w := w) (n := w.heap.size) (t := 28) (cs := #[.int .i64 c.start, .slice A0 c.done.length C0, .slice A1 c.ext.length C1]) rfl
  have hbkX : Below w.heap.size w (w.alloc (.cells #[.int .i64 c.start, .slice A0 c.done.length C0, .slice A1 c.ext.length C1] 28)) := (Below.refl _ _).alloc (Nat.le_refl _) _
  have hzkX : (w.alloc (.cells #[.int .i64 c.start, .slice A0 c.done.length C0, .slice A1 c.ext.length C1] 28)).heap.size = w.heap.size + 1 := by simp
  replace hc0 := hc0.below hbkX hh3
  replace hc1 := hc1.below hbkX hh3
  replace hr := hr.below hbkX hh1
  replace hv := hv.below hbkX hh2
  go_enter Try.func12, Try.ntmps12
  go_wp2_with fail
  generalize (w.alloc (.cells #[.int .i64 c.start, .slice A0 c.done.length C0, .slice A1 c.ext.length C1] 28)) = W0 at *
  refine (stageCode_any _ rules lo1 hi1 _ hol lo2 hi2 c _ _ lo3 hi3 0 _ hr (by omega) hm1 hms1 hv (by omega) hm2 hc0 hc1 (by omega) hcs).mono ?_
  rintro e w1 ⟨rfl, b1⟩
  have zb1 := b1.size
  replace hc0 := hc0.below b1 (by omega)
  replace hc1 := hc1.below b1 (by omega)
  replace hr := hr.below b1 (by omega)
  replace hv := hv.below b1 (by omega)
  replace kX := kX.below b1 (by omega)
  replace hbkX := Below.step b1 (by omega) hbkX
  clear b1
  obtain ⟨q0, q1, q2⟩ := kX.c3
  by_cases hz : stageCode rules hol c 0 = 0
  · have hk := stageCode_ok hz
    have HF := Lib.hid (show limitOf rules hol c = (nextLimit rules hol c, 0) by rw [limitOf, if_pos hz])
    rw [hz]
    clear hz
    go_wp2_with fail
    refine (nextLimit_any c (.slice A0 c.done.length C0) (.slice A1 c.ext.length C1) lo3 hi3 (.slice AR rules.length CR) rules lo1 hi1 (.slice AH hol.length CH) hol lo2 hi2 _ hc0 hc1 (by omega) hcs hr (by omega) hm1 hms1 hv (by omega) hm2 hk.2.1 hk.2.2.2).mono ?_
    rintro e w2 ⟨rfl, b2⟩
    go_wp2_with fail
    go_ret2
    exact ⟨(ret_ii HF.out).symm, by (repeat (first | with_reducible assumption | with_reducible exact Below.refl _ _ | with_reducible refine Below.setCell ?_ ?_ _ | with_reducible refine Below.alloc ?_ ?_ _ | with_reducible refine Below.drew ?_ | with_reducible refine below_drewN ?_ _ | with_reducible refine Below.step (by with_reducible assumption) ?_ ?_ | omega | (simp <;> omega) | (simp; done)))⟩
  · have HF := Lib.hid (show limitOf rules hol c = (0, stageCode rules hol c 0) by rw [limitOf, if_neg hz])
    have hzb : (stageCode rules hol c 0 != 0) = true := by simpa using hz
    go_wp2_with fail
    go_ret2
    exact ⟨(ret_ii HF.out).symm, by (repeat (first | with_reducible assumption | with_reducible exact Below.refl _ _ | with_reducible refine Below.setCell ?_ ?_ _ | with_reducible refine Below.alloc ?_ ?_ _ | with_reducible refine Below.drew ?_ | with_reducible refine below_drewN ?_ _ | with_reducible refine Below.step (by with_reducible assumption) ?_ ?_ | omega | (simp <;> omega) | (simp; done)))⟩
set_option maxRecDepth 100000 in
set_option maxHeartbeats 4000000 in
theorem daysLeft_any (v1 : Value) (rules : List Stage) (lo1 hi1 : Nat) (v2 : Value) (hol : List Int) (lo2 hi2 : Nat) (c : Custody) (p0 p1 : Value) (lo3 hi3 : Nat) (day : Int) (w : World) (hr : RdF Stage.enc 3 w lo1 hi1 v1 rules) (hh1 : hi1 ≤ w.heap.size) (hm1 : rules.length ≤ 1048576) (hms1 : ∀ x ∈ rules, Stage.small x) (hv : RdF encInt 1 w lo2 hi2 v2 hol) (hh2 : hi2 ≤ w.heap.size) (hm2 : hol.length ≤ 1048576) (hc0 : RdF encInt 1 w lo3 hi3 p0 c.done) (hc1 : RdF encBool 1 w lo3 hi3 p1 c.ext) (hh3 : hi3 ≤ w.heap.size) (hcs : c.small) :
    Calls Try.prog 7 #[v1, v2, .agg #[.int .i64 c.start, p0, p1], .int .i64 day] w fun e w' => e = .returned (.tuple #[.int .i64 (daysLeft rules hol c day).1, .int .i64 (daysLeft rules hol c day).2]) ∧ Below w.heap.size w w' := by
  obtain ⟨A0, C0, rfl, hC0⟩ := hc0.form
  obtain ⟨A1, C1, rfl, hC1⟩ := hc1.form
  obtain ⟨AR, CR, rfl, hCR⟩ := hr.form
  obtain ⟨AH, CH, rfl, hCH⟩ := hv.form
  have hl0 := hcs.len0
  have hl1 := hcs.len1
  have kX := Blk.newAt (w := w) (n := w.heap.size) (t := 28) (cs := #[.int .i64 c.start, .slice A0 c.done.length C0, .slice A1 c.ext.length C1]) rfl
  have hbkX : Below w.heap.size w (w.alloc (.cells #[.int .i64 c.start, .slice A0 c.done.length C0, .slice A1 c.ext.length C1] 28)) := (Below.refl _ _).alloc (Nat.le_refl _) _
  have hzkX : (w.alloc (.cells #[.int .i64 c.start, .slice A0 c.done.length C0, .slice A1 c.ext.length C1] 28)).heap.size = w.heap.size + 1 := by simp
  replace hc0 := hc0.below hbkX hh3
  replace hc1 := hc1.below hbkX hh3
  replace hr := hr.below hbkX hh1
  replace hv := hv.below hbkX hh2
  go_enter Try.func7, Try.ntmps7
  go_wp2_with fail
  generalize (w.alloc (.cells #[.int .i64 c.start, .slice A0 c.done.length C0, .slice A1 c.ext.length C1] 28)) = W0 at *
  refine (stageCode_any _ rules lo1 hi1 _ hol lo2 hi2 c _ _ lo3 hi3 day _ hr (by omega) hm1 hms1 hv (by omega) hm2 hc0 hc1 (by omega) hcs).mono ?_
  rintro e w1 ⟨rfl, b1⟩
  have zb1 := b1.size
  replace hc0 := hc0.below b1 (by omega)
  replace hc1 := hc1.below b1 (by omega)
  replace hr := hr.below b1 (by omega)
  replace hv := hv.below b1 (by omega)
  replace kX := kX.below b1 (by omega)
  replace hbkX := Below.step b1 (by omega) hbkX
  clear b1
  obtain ⟨q0, q1, q2⟩ := kX.c3
  by_cases hz : stageCode rules hol c day = 0
  · have hk := stageCode_ok hz
    have HF := Lib.hid (show daysLeft rules hol c day = (nextLimit rules hol c - day, 0) by rw [daysLeft, if_pos hz])
    rw [hz]
    clear hz
    have hnb : 0 ≤ nextLimit rules hol c ∧ nextLimit rules hol c ≤ 30000 := by
      have h1 := limitAt_bd (hol := hol) (day := c.befAt c.done.length) hk.2.1 hk.2.2.2
      have h2 := befAt_bd hk.2.1 c.done.length (Nat.le_refl _)
      unfold nextLimit; omega
    have hdb : 0 ≤ day ∧ day ≤ 20000 := by have := hk.2.2.1; simpa [dayOk, inR] using this
    go_wp2_with fail
    refine (nextLimit_any c (.slice A0 c.done.length C0) (.slice A1 c.ext.length C1) lo3 hi3 (.slice AR rules.length CR) rules lo1 hi1 (.slice AH hol.length CH) hol lo2 hi2 _ hc0 hc1 (by omega) hcs hr (by omega) hm1 hms1 hv (by omega) hm2 hk.2.1 hk.2.2.2).mono ?_
    rintro e w2 ⟨rfl, b2⟩
    go_wp2_with fail
    go_ret2
    exact ⟨(ret_ii HF.out).symm, by (repeat (first | with_reducible assumption | with_reducible exact Below.refl _ _ | with_reducible refine Below.setCell ?_ ?_ _ | with_reducible refine Below.alloc ?_ ?_ _ | with_reducible refine Below.drew ?_ | with_reducible refine below_drewN ?_ _ | with_reducible refine Below.step (by with_reducible assumption) ?_ ?_ | omega | (simp <;> omega) | (simp; done)))⟩
  · have HF := Lib.hid (show daysLeft rules hol c day = (0, stageCode rules hol c day) by rw [daysLeft, if_neg hz])
    have hzb : (stageCode rules hol c day != 0) = true := by simpa using hz
    go_wp2_with fail
    go_ret2
    exact ⟨(ret_ii HF.out).symm, by (repeat (first | with_reducible assumption | with_reducible exact Below.refl _ _ | with_reducible refine Below.setCell ?_ ?_ _ | with_reducible refine Below.alloc ?_ ?_ _ | with_reducible refine Below.drew ?_ | with_reducible refine below_drewN ?_ _ | with_reducible refine Below.step (by with_reducible assumption) ?_ ?_ | omega | (simp <;> omega) | (simp; done)))⟩
set_option maxRecDepth 100000 in
set_option maxHeartbeats 4000000 in
theorem latestEnd_any (v1 : Value) (rules : List Stage) (lo1 hi1 : Nat) (v2 : Value) (hol : List Int) (lo2 hi2 : Nat) (c : Custody) (p0 p1 : Value) (lo3 hi3 : Nat) (w : World) (hr : RdF Stage.enc 3 w lo1 hi1 v1 rules) (hh1 : hi1 ≤ w.heap.size) (hm1 : rules.length ≤ 1048576) (hms1 : ∀ x ∈ rules, Stage.small x) (hv : RdF encInt 1 w lo2 hi2 v2 hol) (hh2 : hi2 ≤ w.heap.size) (hm2 : hol.length ≤ 1048576) (hc0 : RdF encInt 1 w lo3 hi3 p0 c.done) (hc1 : RdF encBool 1 w lo3 hi3 p1 c.ext) (hh3 : hi3 ≤ w.heap.size) (hcs : c.small) :
    Calls Try.prog 10 #[v1, v2, .agg #[.int .i64 c.start, p0, p1]] w fun e w' => e = .returned (.tuple #[.int .i64 (latestEnd rules hol c).1, .int .i64 (latestEnd rules hol c).2]) ∧ Below w.heap.size w w' := by
  obtain ⟨A0, C0, rfl, hC0⟩ := hc0.form
  obtain ⟨A1, C1, rfl, hC1⟩ := hc1.form
  obtain ⟨AR, CR, rfl, hCR⟩ := hr.form
  obtain ⟨AH, CH, rfl, hCH⟩ := hv.form
  have hl0 := hcs.len0
  have hl1 := hcs.len1
  have kX := Blk.newAt (w := w) (n := w.heap.size) (t := 28) (cs := #[.int .i64 c.start, .slice A0 c.done.length C0, .slice A1 c.ext.length C1]) rfl
  have hbkX : Below w.heap.size w (w.alloc (.cells #[.int .i64 c.start, .slice A0 c.done.length C0, .slice A1 c.ext.length C1] 28)) := (Below.refl _ _).alloc (Nat.le_refl _) _
  have hzkX : (w.alloc (.cells #[.int .i64 c.start, .slice A0 c.done.length C0, .slice A1 c.ext.length C1] 28)).heap.size = w.heap.size + 1 := by simp
  replace hc0 := hc0.below hbkX hh3
  replace hc1 := hc1.below hbkX hh3
  replace hr := hr.below hbkX hh1
  replace hv := hv.below hbkX hh2
  go_enter Try.func10, Try.ntmps10
  go_wp2_with fail
  generalize (w.alloc (.cells #[.int .i64 c.start, .slice A0 c.done.length C0, .slice A1 c.ext.length C1] 28)) = W0 at *
  refine (stageCode_any _ rules lo1 hi1 _ hol lo2 hi2 c _ _ lo3 hi3 0 _ hr (by omega) hm1 hms1 hv (by omega) hm2 hc0 hc1 (by omega) hcs).mono ?_
  rintro e w1 ⟨rfl, b1⟩
  have zb1 := b1.size
  replace hc0 := hc0.below b1 (by omega)
  replace hc1 := hc1.below b1 (by omega)
  replace hr := hr.below b1 (by omega)
  replace hv := hv.below b1 (by omega)
  replace kX := kX.below b1 (by omega)
  replace hbkX := Below.step b1 (by omega) hbkX
  clear b1
  obtain ⟨q0, q1, q2⟩ := kX.c3
  by_cases hz : stageCode rules hol c 0 = 0
  · have hk := stageCode_ok hz
    have HF := Lib.hid (show latestEnd rules hol c = (latTo rules hol c (rules.length - c.done.length), 0) by rw [latestEnd, if_pos hz])
    rw [hz]
    clear hz
    have hlt := hk.2.2.2
    go_wp2_with fail
    refine (before_any c (.slice A0 c.done.length C0) (.slice A1 c.ext.length C1) lo3 hi3 c.done.length _ hc0 hc1 (by omega) hcs (Nat.le_refl _)).mono ?_
    rintro e w2 ⟨rfl, b2⟩
    clear q0 q1 q2
    have zb2 := b2.size
    replace hc0 := hc0.below b2 (by omega)
    replace hc1 := hc1.below b2 (by omega)
    replace hr := hr.below b2 (by omega)
    replace hv := hv.below b2 (by omega)
    replace kX := kX.below b2 (by omega)
    replace hbkX := Below.step b2 (by omega) hbkX
    clear b2
    obtain ⟨q0, q1, q2⟩ := kX.c3
    go_wp2_with fail
    clear q0 q1 q2
    go_loopw [9, 10] (fun d i wr => ∃ j : Nat, c.done.length + j ≤ rules.length ∧ i = .int .i64 ((c.done.length + j : Nat) : Int) ∧ d = .int .i64 (latTo rules hol c j) ∧ Below w2.heap.size w2 wr) (fun _ i _ => rules.length - (intOf i).toNat)
    case atStart => exact ⟨0, by omega, by simp, rfl, Below.refl _ _⟩
    case round =>
      obtain ⟨j, hj, rfl, rfl, hb⟩ := hrel
      have zz := hb.size
      have kR := kX.below hb (by omega)
      obtain ⟨q0, q1, q2⟩ := kR.c3
      have hlb := latTo_bd (hol := hol) hk.2.1 j hj
      by_cases hj2 : c.done.length + j < rules.length
      · obtain ⟨s, hs⟩ : ∃ s, rules[c.done.length + j]? = some s := ⟨_, List.getElem?_eq_getElem hj2⟩
        have hok' := Custody.ok_parts hk.2.1
        obtain ⟨ex, he⟩ : ∃ ex, c.ext[c.done.length + j]? = some ex := ⟨_, List.getElem?_eq_getElem (by have := hok'.2.2.2.2; omega)⟩
        have hf := stagesOk_fine hok'.2.1 s (List.mem_of_getElem? hs)
        have HN := Lib.hid (show latTo rules hol c (j + 1) = lastCourt hol (latTo rules hol c j) (spanOf s ex) by rw [latTo, limitAt_of hs he])
        have HS := Lib.hid hs
        have HE := Lib.hid he
        have hrl := stagesOk_len hok'.2.1
        clear hok' hs he
        replace hc0 := hc0.below hb (by omega)
        replace hc1 := hc1.below hb (by omega)
        replace hr := hr.below hb (by omega)
        replace hv := hv.below hb (by omega)
        go_wp2_with fail
        refine (limit_any c (.slice A0 c.done.length C0) (.slice A1 c.ext.length C1) lo3 hi3 (.slice AR rules.length CR) rules lo1 hi1 (.slice AH hol.length CH) hol lo2 hi2 (c.done.length + j) (latTo rules hol c j) s ex _ hc0 hc1 (by omega) hcs hr (by omega) hm1 hms1 hv (by omega) hm2 HS.out HE.out hf (by omega) (by omega)).mono ?_
        rintro e w3 ⟨rfl, b3⟩
        go_wp2_with fail
        go_roundw
        case rel => exact ⟨j + 1, by omega, by go_num, by rw [HN.out], by (repeat (first | with_reducible assumption | with_reducible exact Below.refl _ _ | with_reducible refine Below.setCell ?_ ?_ _ | with_reducible refine Below.alloc ?_ ?_ _ | with_reducible refine Below.drew ?_ | with_reducible refine below_drewN ?_ _ | with_reducible refine Below.step (by with_reducible assumption) ?_ ?_ | omega | (simp <;> omega) | (simp; done)))⟩
        case measure => simp [intOf]; omega
      · have hje : j = rules.length - c.done.length := by omega
        have HJ := Lib.hid hje
        clear hje
        go_wp2_with fail
        go_ret2
        exact ⟨by rw [ret_ii HF.out, HJ.out] <;> rfl, by (repeat (first | with_reducible assumption | with_reducible exact Below.refl _ _ | with_reducible refine Below.setCell ?_ ?_ _ | with_reducible refine Below.alloc ?_ ?_ _ | with_reducible refine Below.drew ?_ | with_reducible refine below_drewN ?_ _ | with_reducible refine Below.step (by with_reducible assumption) ?_ ?_ | omega | (simp <;> omega) | (simp; done)))⟩
  · have HF := Lib.hid (show latestEnd rules hol c = (0, stageCode rules hol c 0) by rw [latestEnd, if_neg hz])
    have hzb : (stageCode rules hol c 0 != 0) = true := by simpa using hz
    go_wp2_with fail
    go_ret2
    exact ⟨(ret_ii HF.out).symm, by (repeat (first | with_reducible assumption | with_reducible exact Below.refl _ _ | with_reducible refine Below.setCell ?_ ?_ _ | with_reducible refine Below.alloc ?_ ?_ _ | with_reducible refine Below.drew ?_ | with_reducible refine below_drewN ?_ _ | with_reducible refine Below.step (by with_reducible assumption) ?_ ?_ | omega | (simp <;> omega) | (simp; done)))⟩
set_option maxRecDepth 100000 in
set_option maxHeartbeats 4000000 in
theorem sLimitOf_any (v1 : Value) (rules : List Stage) (lo1 hi1 : Nat) (v2 : Value) (hol : List Int) (lo2 hi2 : Nat) (c : Custody) (p0 p1 : Value) (lo3 hi3 : Nat) (w : World) (hr : RdF Stage.enc 3 w lo1 hi1 v1 rules) (hh1 : hi1 ≤ w.heap.size) (hm1 : rules.length ≤ 1048576) (hms1 : ∀ x ∈ rules, Stage.small x) (hv : RdF encInt 1 w lo2 hi2 v2 hol) (hh2 : hi2 ≤ w.heap.size) (hm2 : hol.length ≤ 1048576) (hc0 : RdF encInt 1 w lo3 hi3 p0 c.done) (hc1 : RdF encBool 1 w lo3 hi3 p1 c.ext) (hh3 : hi3 ≤ w.heap.size) (hcs : c.small) :
    Calls Try.prog 18 #[v1, v2, .agg #[.int .i64 c.start, p0, p1]] w fun e w' => e = .returned (.tuple #[.int .i64 (limitOf rules hol c).1, .int .i64 (limitOf rules hol c).2]) ∧ Below w.heap.size w w' := by
  obtain ⟨A0, C0, rfl, hC0⟩ := hc0.form
  obtain ⟨A1, C1, rfl, hC1⟩ := hc1.form
  obtain ⟨AR, CR, rfl, hCR⟩ := hr.form
  obtain ⟨AH, CH, rfl, hCH⟩ := hv.form
  have hl0 := hcs.len0
  have hl1 := hcs.len1
  have kX := Blk.newAt (w := w) (n := w.heap.size) (t := 28) (cs := #[.int .i64 c.start, .slice A0 c.done.length C0, .slice A1 c.ext.length C1]) rfl
  have hbkX : Below w.heap.size w (w.alloc (.cells #[.int .i64 c.start, .slice A0 c.done.length C0, .slice A1 c.ext.length C1] 28)) := (Below.refl _ _).alloc (Nat.le_refl _) _
  have hzkX : (w.alloc (.cells #[.int .i64 c.start, .slice A0 c.done.length C0, .slice A1 c.ext.length C1] 28)).heap.size = w.heap.size + 1 := by simp
  replace hc0 := hc0.below hbkX hh3
  replace hc1 := hc1.below hbkX hh3
  replace hr := hr.below hbkX hh1
  replace hv := hv.below hbkX hh2
  go_enter Try.func18, Try.ntmps18
  go_wp2_with fail
  generalize (w.alloc (.cells #[.int .i64 c.start, .slice A0 c.done.length C0, .slice A1 c.ext.length C1] 28)) = W0 at *
  refine (l20Code_any _ rules lo1 hi1 _ hol lo2 hi2 c _ _ lo3 hi3 0 _ hr (by omega) hm1 hms1 hv (by omega) hm2 hc0 hc1 (by omega) hcs).mono ?_
  rintro e w1 ⟨rfl, b1⟩
  have zb1 := b1.size
  replace hc0 := hc0.below b1 (by omega)
  replace hc1 := hc1.below b1 (by omega)
  replace hr := hr.below b1 (by omega)
  replace hv := hv.below b1 (by omega)
  replace kX := kX.below b1 (by omega)
  replace hbkX := Below.step b1 (by omega) hbkX
  clear b1
  obtain ⟨q0, q1, q2⟩ := kX.c3
  by_cases hz : stageCode rules hol c 0 = 0
  · have hk := stageCode_ok hz
    have HF := Lib.hid (show limitOf rules hol c = (nextLimit rules hol c, 0) by rw [limitOf, if_pos hz])
    rw [hz]
    clear hz
    go_wp2_with fail
    refine (l20Next_any (.slice AR rules.length CR) rules lo1 hi1 (.slice AH hol.length CH) hol lo2 hi2 c (.slice A0 c.done.length C0) (.slice A1 c.ext.length C1) lo3 hi3 _ hr (by omega) hm1 hms1 hv (by omega) hm2 hc0 hc1 (by omega) hcs hk.2.1 hk.2.2.2).mono ?_
    rintro e w2 ⟨rfl, b2⟩
    go_wp2_with fail
    go_ret2
    exact ⟨(ret_ii HF.out).symm, by (repeat (first | with_reducible assumption | with_reducible exact Below.refl _ _ | with_reducible refine Below.setCell ?_ ?_ _ | with_reducible refine Below.alloc ?_ ?_ _ | with_reducible refine Below.drew ?_ | with_reducible refine below_drewN ?_ _ | with_reducible refine Below.step (by with_reducible assumption) ?_ ?_ | omega | (simp <;> omega) | (simp; done)))⟩
  · have HF := Lib.hid (show limitOf rules hol c = (0, stageCode rules hol c 0) by rw [limitOf, if_neg hz])
    have hzb : (stageCode rules hol c 0 != 0) = true := by simpa using hz
    go_wp2_with fail
    go_ret2
    exact ⟨(ret_ii HF.out).symm, by (repeat (first | with_reducible assumption | with_reducible exact Below.refl _ _ | with_reducible refine Below.setCell ?_ ?_ _ | with_reducible refine Below.alloc ?_ ?_ _ | with_reducible refine Below.drew ?_ | with_reducible refine below_drewN ?_ _ | with_reducible refine Below.step (by with_reducible assumption) ?_ ?_ | omega | (simp <;> omega) | (simp; done)))⟩
set_option maxRecDepth 100000 in
set_option maxHeartbeats 4000000 in
theorem sDaysLeft_any (v1 : Value) (rules : List Stage) (lo1 hi1 : Nat) (v2 : Value) (hol : List Int) (lo2 hi2 : Nat) (c : Custody) (p0 p1 : Value) (lo3 hi3 : Nat) (day : Int) (w : World) (hr : RdF Stage.enc 3 w lo1 hi1 v1 rules) (hh1 : hi1 ≤ w.heap.size) (hm1 : rules.length ≤ 1048576) (hms1 : ∀ x ∈ rules, Stage.small x) (hv : RdF encInt 1 w lo2 hi2 v2 hol) (hh2 : hi2 ≤ w.heap.size) (hm2 : hol.length ≤ 1048576) (hc0 : RdF encInt 1 w lo3 hi3 p0 c.done) (hc1 : RdF encBool 1 w lo3 hi3 p1 c.ext) (hh3 : hi3 ≤ w.heap.size) (hcs : c.small) :
    Calls Try.prog 8 #[v1, v2, .agg #[.int .i64 c.start, p0, p1], .int .i64 day] w fun e w' => e = .returned (.tuple #[.int .i64 (daysLeft rules hol c day).1, .int .i64 (daysLeft rules hol c day).2]) ∧ Below w.heap.size w w' := by
  obtain ⟨A0, C0, rfl, hC0⟩ := hc0.form
  obtain ⟨A1, C1, rfl, hC1⟩ := hc1.form
  obtain ⟨AR, CR, rfl, hCR⟩ := hr.form
  obtain ⟨AH, CH, rfl, hCH⟩ := hv.form
  have hl0 := hcs.len0
  have hl1 := hcs.len1
  have kX := Blk.newAt (w := w) (n := w.heap.size) (t := 28) (cs := #[.int .i64 c.start, .slice A0 c.done.length C0, .slice A1 c.ext.length C1]) rfl
  have hbkX : Below w.heap.size w (w.alloc (.cells #[.int .i64 c.start, .slice A0 c.done.length C0, .slice A1 c.ext.length C1] 28)) := (Below.refl _ _).alloc (Nat.le_refl _) _
  have hzkX : (w.alloc (.cells #[.int .i64 c.start, .slice A0 c.done.length C0, .slice A1 c.ext.length C1] 28)).heap.size = w.heap.size + 1 := by simp
  replace hc0 := hc0.below hbkX hh3
  replace hc1 := hc1.below hbkX hh3
  replace hr := hr.below hbkX hh1
  replace hv := hv.below hbkX hh2
  go_enter Try.func8, Try.ntmps8
  go_wp2_with fail
  generalize (w.alloc (.cells #[.int .i64 c.start, .slice A0 c.done.length C0, .slice A1 c.ext.length C1] 28)) = W0 at *
  refine (l20Code_any _ rules lo1 hi1 _ hol lo2 hi2 c _ _ lo3 hi3 day _ hr (by omega) hm1 hms1 hv (by omega) hm2 hc0 hc1 (by omega) hcs).mono ?_
  rintro e w1 ⟨rfl, b1⟩
  have zb1 := b1.size
  replace hc0 := hc0.below b1 (by omega)
  replace hc1 := hc1.below b1 (by omega)
  replace hr := hr.below b1 (by omega)
  replace hv := hv.below b1 (by omega)
  replace kX := kX.below b1 (by omega)
  replace hbkX := Below.step b1 (by omega) hbkX
  clear b1
  obtain ⟨q0, q1, q2⟩ := kX.c3
  by_cases hz : stageCode rules hol c day = 0
  · have hk := stageCode_ok hz
    have HF := Lib.hid (show daysLeft rules hol c day = (nextLimit rules hol c - day, 0) by rw [daysLeft, if_pos hz])
    rw [hz]
    clear hz
    have hnb : 0 ≤ nextLimit rules hol c ∧ nextLimit rules hol c ≤ 30000 := by
      have h1 := limitAt_bd (hol := hol) (day := c.befAt c.done.length) hk.2.1 hk.2.2.2
      have h2 := befAt_bd hk.2.1 c.done.length (Nat.le_refl _)
      unfold nextLimit; omega
    have hdb : 0 ≤ day ∧ day ≤ 20000 := by have := hk.2.2.1; simpa [dayOk, inR] using this
    go_wp2_with fail
    refine (l20Next_any (.slice AR rules.length CR) rules lo1 hi1 (.slice AH hol.length CH) hol lo2 hi2 c (.slice A0 c.done.length C0) (.slice A1 c.ext.length C1) lo3 hi3 _ hr (by omega) hm1 hms1 hv (by omega) hm2 hc0 hc1 (by omega) hcs hk.2.1 hk.2.2.2).mono ?_
    rintro e w2 ⟨rfl, b2⟩
    go_wp2_with fail
    go_ret2
    exact ⟨(ret_ii HF.out).symm, by (repeat (first | with_reducible assumption | with_reducible exact Below.refl _ _ | with_reducible refine Below.setCell ?_ ?_ _ | with_reducible refine Below.alloc ?_ ?_ _ | with_reducible refine Below.drew ?_ | with_reducible refine below_drewN ?_ _ | with_reducible refine Below.step (by with_reducible assumption) ?_ ?_ | omega | (simp <;> omega) | (simp; done)))⟩
  · have HF := Lib.hid (show daysLeft rules hol c day = (0, stageCode rules hol c day) by rw [daysLeft, if_neg hz])
    have hzb : (stageCode rules hol c day != 0) = true := by simpa using hz
    go_wp2_with fail
    go_ret2
    exact ⟨(ret_ii HF.out).symm, by (repeat (first | with_reducible assumption | with_reducible exact Below.refl _ _ | with_reducible refine Below.setCell ?_ ?_ _ | with_reducible refine Below.alloc ?_ ?_ _ | with_reducible refine Below.drew ?_ | with_reducible refine below_drewN ?_ _ | with_reducible refine Below.step (by with_reducible assumption) ?_ ?_ | omega | (simp <;> omega) | (simp; done)))⟩
set_option maxRecDepth 100000 in
set_option maxHeartbeats 4000000 in
theorem sLatestEnd_any (v1 : Value) (rules : List Stage) (lo1 hi1 : Nat) (v2 : Value) (hol : List Int) (lo2 hi2 : Nat) (c : Custody) (p0 p1 : Value) (lo3 hi3 : Nat) (w : World) (hr : RdF Stage.enc 3 w lo1 hi1 v1 rules) (hh1 : hi1 ≤ w.heap.size) (hm1 : rules.length ≤ 1048576) (hms1 : ∀ x ∈ rules, Stage.small x) (hv : RdF encInt 1 w lo2 hi2 v2 hol) (hh2 : hi2 ≤ w.heap.size) (hm2 : hol.length ≤ 1048576) (hc0 : RdF encInt 1 w lo3 hi3 p0 c.done) (hc1 : RdF encBool 1 w lo3 hi3 p1 c.ext) (hh3 : hi3 ≤ w.heap.size) (hcs : c.small) :
    Calls Try.prog 11 #[v1, v2, .agg #[.int .i64 c.start, p0, p1]] w fun e w' => e = .returned (.tuple #[.int .i64 (latestEnd rules hol c).1, .int .i64 (latestEnd rules hol c).2]) ∧ Below w.heap.size w w' := by
  obtain ⟨A0, C0, rfl, hC0⟩ := hc0.form
  obtain ⟨A1, C1, rfl, hC1⟩ := hc1.form
  obtain ⟨AR, CR, rfl, hCR⟩ := hr.form
  obtain ⟨AH, CH, rfl, hCH⟩ := hv.form
  have hl0 := hcs.len0
  have hl1 := hcs.len1
  have kX := Blk.newAt (w := w) (n := w.heap.size) (t := 28) (cs := #[.int .i64 c.start, .slice A0 c.done.length C0, .slice A1 c.ext.length C1]) rfl
  have hbkX : Below w.heap.size w (w.alloc (.cells #[.int .i64 c.start, .slice A0 c.done.length C0, .slice A1 c.ext.length C1] 28)) := (Below.refl _ _).alloc (Nat.le_refl _) _
  have hzkX : (w.alloc (.cells #[.int .i64 c.start, .slice A0 c.done.length C0, .slice A1 c.ext.length C1] 28)).heap.size = w.heap.size + 1 := by simp
  replace hc0 := hc0.below hbkX hh3
  replace hc1 := hc1.below hbkX hh3
  replace hr := hr.below hbkX hh1
  replace hv := hv.below hbkX hh2
  go_enter Try.func11, Try.ntmps11
  go_wp2_with fail
  generalize (w.alloc (.cells #[.int .i64 c.start, .slice A0 c.done.length C0, .slice A1 c.ext.length C1] 28)) = W0 at *
  refine (l20Code_any _ rules lo1 hi1 _ hol lo2 hi2 c _ _ lo3 hi3 0 _ hr (by omega) hm1 hms1 hv (by omega) hm2 hc0 hc1 (by omega) hcs).mono ?_
  rintro e w1 ⟨rfl, b1⟩
  have zb1 := b1.size
  replace hc0 := hc0.below b1 (by omega)
  replace hc1 := hc1.below b1 (by omega)
  replace hr := hr.below b1 (by omega)
  replace hv := hv.below b1 (by omega)
  replace kX := kX.below b1 (by omega)
  replace hbkX := Below.step b1 (by omega) hbkX
  clear b1
  obtain ⟨q0, q1, q2⟩ := kX.c3
  by_cases hz : stageCode rules hol c 0 = 0
  · have hk := stageCode_ok hz
    have HF := Lib.hid (show latestEnd rules hol c = (latTo rules hol c (rules.length - c.done.length), 0) by rw [latestEnd, if_pos hz])
    rw [hz]
    clear hz
    have hlt := hk.2.2.2
    go_wp2_with fail
    refine (l20Before_any c (.slice A0 c.done.length C0) (.slice A1 c.ext.length C1) lo3 hi3 c.done.length _ hc0 hc1 (by omega) hcs (Nat.le_refl _)).mono ?_
    rintro e w2 ⟨rfl, b2⟩
    clear q0 q1 q2
    have zb2 := b2.size
    replace hc0 := hc0.below b2 (by omega)
    replace hc1 := hc1.below b2 (by omega)
    replace hr := hr.below b2 (by omega)
    replace hv := hv.below b2 (by omega)
    replace kX := kX.below b2 (by omega)
    replace hbkX := Below.step b2 (by omega) hbkX
    clear b2
    obtain ⟨q0, q1, q2⟩ := kX.c3
    go_wp2_with fail
    clear q0 q1 q2
    go_loopw [9, 10] (fun d i wr => ∃ j : Nat, c.done.length + j ≤ rules.length ∧ i = .int .i64 ((c.done.length + j : Nat) : Int) ∧ d = .int .i64 (latTo rules hol c j) ∧ Below w2.heap.size w2 wr) (fun _ i _ => rules.length - (intOf i).toNat)
    case atStart => exact ⟨0, by omega, by simp, rfl, Below.refl _ _⟩
    case round =>
      obtain ⟨j, hj, rfl, rfl, hb⟩ := hrel
      have zz := hb.size
      have kR := kX.below hb (by omega)
      obtain ⟨q0, q1, q2⟩ := kR.c3
      have hlb := latTo_bd (hol := hol) hk.2.1 j hj
      by_cases hj2 : c.done.length + j < rules.length
      · obtain ⟨s, hs⟩ : ∃ s, rules[c.done.length + j]? = some s := ⟨_, List.getElem?_eq_getElem hj2⟩
        have hok' := Custody.ok_parts hk.2.1
        obtain ⟨ex, he⟩ : ∃ ex, c.ext[c.done.length + j]? = some ex := ⟨_, List.getElem?_eq_getElem (by have := hok'.2.2.2.2; omega)⟩
        have hf := stagesOk_fine hok'.2.1 s (List.mem_of_getElem? hs)
        have HN := Lib.hid (show latTo rules hol c (j + 1) = lastCourt hol (latTo rules hol c j) (spanOf s ex) by rw [latTo, limitAt_of hs he])
        have HS := Lib.hid hs
        have HE := Lib.hid he
        have hrl := stagesOk_len hok'.2.1
        clear hok' hs he
        replace hc0 := hc0.below hb (by omega)
        replace hc1 := hc1.below hb (by omega)
        replace hr := hr.below hb (by omega)
        replace hv := hv.below hb (by omega)
        have hlx : c.done.length + j < c.ext.length := (List.getElem?_eq_some_iff.1 HE.out).1
        obtain ⟨ex', b3, off3, HE2, hA2, hbw2, q3⟩ := RdF.bool hc1 (Below.refl _ wr) (by omega) hlx
        have e2 : ex = ex' := by have h1 := HE2.out; rw [HE.out] at h1; injection h1 with h1
        subst e2
        subst hA2
        clear HE2
        have hlxi : ((c.done.length + j : Nat) : Int) < (c.ext.length : Int) := by omega
        go_wp2_with fail
        refine (l20Limit_any (.slice AR rules.length CR) rules lo1 hi1 (.slice AH hol.length CH) hol lo2 hi2 (c.done.length + j) (latTo rules hol c j) s ex _ hr (by omega) hm1 hms1 hv (by omega) hm2 HS.out hf (by omega) (by omega)).mono ?_
        rintro e w3 ⟨rfl, b3⟩
        go_wp2_with fail
        go_roundw
        case rel => exact ⟨j + 1, by omega, by go_num, by rw [HN.out], by (repeat (first | with_reducible assumption | with_reducible exact Below.refl _ _ | with_reducible refine Below.setCell ?_ ?_ _ | with_reducible refine Below.alloc ?_ ?_ _ | with_reducible refine Below.drew ?_ | with_reducible refine below_drewN ?_ _ | with_reducible refine Below.step (by with_reducible assumption) ?_ ?_ | omega | (simp <;> omega) | (simp; done)))⟩
        case measure => simp [intOf]; omega
      · have hje : j = rules.length - c.done.length := by omega
        have HJ := Lib.hid hje
        clear hje
        go_wp2_with fail
        go_ret2
        exact ⟨by rw [ret_ii HF.out, HJ.out] <;> rfl, by (repeat (first | with_reducible assumption | with_reducible exact Below.refl _ _ | with_reducible refine Below.setCell ?_ ?_ _ | with_reducible refine Below.alloc ?_ ?_ _ | with_reducible refine Below.drew ?_ | with_reducible refine below_drewN ?_ _ | with_reducible refine Below.step (by with_reducible assumption) ?_ ?_ | omega | (simp <;> omega) | (simp; done)))⟩
  · have HF := Lib.hid (show latestEnd rules hol c = (0, stageCode rules hol c 0) by rw [latestEnd, if_neg hz])
    have hzb : (stageCode rules hol c 0 != 0) = true := by simpa using hz
    go_wp2_with fail
    go_ret2
    exact ⟨(ret_ii HF.out).symm, by (repeat (first | with_reducible assumption | with_reducible exact Below.refl _ _ | with_reducible refine Below.setCell ?_ ?_ _ | with_reducible refine Below.alloc ?_ ?_ _ | with_reducible refine Below.drew ?_ | with_reducible refine below_drewN ?_ _ | with_reducible refine Below.step (by with_reducible assumption) ?_ ?_ | omega | (simp <;> omega) | (simp; done)))⟩
end Go.Proofs.Ytfafcicbfgdmcaa
