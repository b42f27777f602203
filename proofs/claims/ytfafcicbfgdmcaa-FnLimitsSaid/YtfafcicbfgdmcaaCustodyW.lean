/- Walks of the custody's functions. -/
import Derived.Test.YtfafcicbfgdmcaaCustodyP
import Derived.Deep.RegionHeld3
import Derived.Test.YtfafcicbfgdmcaaStageA
namespace Go.Proofs.Ytfafcicbfgdmcaa
open Go.RowKit
set_option linter.unusedVariables false
set_option maxRecDepth 100000 in
set_option maxHeartbeats 2000000 in
theorem isCustody_any (v1 : Value) (rules : List Stage) (lo1 hi1 : Nat) (c : Custody) (p0 p1 : Value) (lo3 hi3 : Nat) (w : World) (hr : RdF Stage.enc 3 w lo1 hi1 v1 rules) (hh1 : hi1 ≤ w.heap.size) (hm1 : rules.length ≤ 1048576) (hms1 : ∀ x ∈ rules, Stage.small x) (hc0 : RdF encInt 1 w lo3 hi3 p0 c.done) (hc1 : RdF encBool 1 w lo3 hi3 p1 c.ext) (hh3 : hi3 ≤ w.heap.size) (hcs : c.small) :
    Calls Try.prog 24 #[v1, .agg #[.int .i64 c.start, p0, p1]] w fun e w' => e = .returned (.bool (c.ok rules)) ∧ Below w.heap.size w w' := by
  obtain ⟨A0, C0, rfl, hC0⟩ := hc0.form
  obtain ⟨A1, C1, rfl, hC1⟩ := hc1.form
  obtain ⟨AR, CR, rfl, hCR⟩ := hr.form
  have hl0 := hcs.len0
  have hl1 := hcs.len1
  have kX := Blk.newAt (w := w) (n := w.heap.size) (t := 28) (cs := #[.int .i64 c.start, .slice A0 c.done.length C0, .slice A1 c.ext.length C1]) rfl
  have hbkX : Below w.heap.size w (w.alloc (.cells #[.int .i64 c.start, .slice A0 c.done.length C0, .slice A1 c.ext.length C1] 28)) := (Below.refl _ _).alloc (Nat.le_refl _) _
  have hzkX : (w.alloc (.cells #[.int .i64 c.start, .slice A0 c.done.length C0, .slice A1 c.ext.length C1] 28)).heap.size = w.heap.size + 1 := by simp
  replace hc0 := hc0.below hbkX hh3
  replace hc1 := hc1.below hbkX hh3
  replace hr := hr.below hbkX hh1
  go_enter Try.func24, Try.ntmps24
  go_wp2
  generalize (w.alloc (.cells #[.int .i64 c.start, .slice A0 c.done.length C0, .slice A1 c.ext.length C1] 28)) = W0 at *
  go_loopw [5, 7, 13] (fun b _ i wr => ∃ k : Nat, k ≤ c.done.length ∧ i = .int .i64 k ∧ b = .int .i64 (c.befAt k) ∧ Hid (prefAll (doneP c.start) c.done k = true) ∧ Below W0.heap.size W0 wr) (fun _ _ i _ => c.done.length - (intOf i).toNat)
  case atStart => exact ⟨0, Nat.zero_le _, rfl, rfl, rfl, Below.refl _ _⟩
  case round =>
    obtain ⟨k, hk, rfl, rfl, HA, hb⟩ := hrel
    have z0 := hb.size
    have kR := kX.below hb (by omega)
    obtain ⟨q0, q1, q2⟩ := kR.c3
    by_cases hlt : k < c.done.length
    · obtain ⟨s, b, off, HS, rfl, hbw, c0⟩ := RdF.int hc0 hb (by omega) hlt
      have HD := Lib.hid (show doneP c.start (c.done.take k) s = inR s (c.befAt k) 20000 by rw [doneP, befAt_last c k hk])
      have HB := Lib.hid (show c.befAt (k + 1) = s by simp [Custody.befAt, HS.out])
      have hki : (k : Int) < (c.done.length : Int) := by omega
      cases hf : inR s (c.befAt k) 20000 with
      | false =>
        go_wp2_with (go_at_call 46; refine (within_any _ _ _ _).mono ?_; rintro e w' ⟨rfl, rfl⟩; rw [hf])
        go_ret
        exact ⟨ret_bool (by rw [Custody.ok, prefOk_false HS.out (by rw [HD.out, hf])]; rfl), by (repeat (first | with_reducible assumption | with_reducible exact Below.refl _ _ | with_reducible refine Below.setCell ?_ ?_ _ | with_reducible refine Below.alloc ?_ ?_ _ | with_reducible refine Below.drew ?_ | with_reducible refine below_drewN ?_ _ | with_reducible refine Below.step (by with_reducible assumption) ?_ ?_ | omega | (simp <;> omega) | (simp; done)))⟩
      | true =>
        go_wp2_with (go_at_call 46; refine (within_any _ _ _ _).mono ?_; rintro e w' ⟨rfl, rfl⟩; rw [hf])
        go_roundw
        case rel => exact ⟨k + 1, by omega, by go_num, by rw [HB.out], prefAll_succ HA.out HS.out (by rw [HD.out, hf]), by (repeat (first | with_reducible assumption | with_reducible exact Below.refl _ _ | with_reducible refine Below.setCell ?_ ?_ _ | with_reducible refine Below.alloc ?_ ?_ _ | with_reducible refine Below.drew ?_ | with_reducible refine below_drewN ?_ _ | with_reducible refine Below.step (by with_reducible assumption) ?_ ?_ | omega | (simp <;> omega) | (simp; done)))⟩
        case measure => simp [intOf]; omega
    · have HL := Lib.hid (prefOk_of HA.out hk hlt)
      have hrw := hr.below hb (by omega)
      go_wp2_with fail
      refine (areStages_any _ rules _ _ _ hrw (by omega) hm1 hms1).mono ?_
      rintro e w1 ⟨rfl, b1⟩
      replace kR := kR.below b1 (by omega)
      have z1 := b1.size
      clear q0 q1 q2
      obtain ⟨q0, q1, q2⟩ := kR.c3
      go_wp2_with (first | (go_at_call 50; refine (isDay_any _ _).mono ?_; rintro e w' ⟨rfl, rfl⟩))
      all_goals (go_ret; refine ⟨ret_bool ?_, by (repeat (first | with_reducible assumption | with_reducible exact Below.refl _ _ | with_reducible refine Below.setCell ?_ ?_ _ | with_reducible refine Below.alloc ?_ ?_ _ | with_reducible refine Below.drew ?_ | with_reducible refine below_drewN ?_ _ | with_reducible refine Below.step (by with_reducible assumption) ?_ ?_ | omega | (simp <;> omega) | (simp; done)))⟩; rw [Custody.ok, HL.out]; clear hrw q0 q1 q2 kR; first | (simp_all; done) | (simp_all; rw [Bool.eq_iff_iff]; simp <;> omega) | (simp_all <;> omega) | (simp_all <;> intros <;> omega))
set_option maxRecDepth 100000 in
set_option maxHeartbeats 2000000 in
theorem sIsCustody_any (v1 : Value) (rules : List Stage) (lo1 hi1 : Nat) (c : Custody) (p0 p1 : Value) (lo3 hi3 : Nat) (w : World) (hr : RdF Stage.enc 3 w lo1 hi1 v1 rules) (hh1 : hi1 ≤ w.heap.size) (hm1 : rules.length ≤ 1048576) (hms1 : ∀ x ∈ rules, Stage.small x) (hc0 : RdF encInt 1 w lo3 hi3 p0 c.done) (hc1 : RdF encBool 1 w lo3 hi3 p1 c.ext) (hh3 : hi3 ≤ w.heap.size) (hcs : c.small) :
    Calls Try.prog 25 #[v1, .agg #[.int .i64 c.start, p0, p1]] w fun e w' => e = .returned (.bool (c.ok rules)) ∧ Below w.heap.size w w' := by
  obtain ⟨A0, C0, rfl, hC0⟩ := hc0.form
  obtain ⟨A1, C1, rfl, hC1⟩ := hc1.form
  obtain ⟨AR, CR, rfl, hCR⟩ := hr.form
  have hl0 := hcs.len0
  have hl1 := hcs.len1
  have kX := Blk.newAt (w := w) (n := w.heap.size) (t := 28) (cs := #[.int .i64 c.start, .slice A0 c.done.length C0, .slice A1 c.ext.length C1]) rfl
  have hbkX : Below w.heap.size w (w.alloc (.cells #[.int .i64 c.start, .slice A0 c.done.length C0, .slice A1 c.ext.length C1] 28)) := (Below.refl _ _).alloc (Nat.le_refl _) _
  have hzkX : (w.alloc (.cells #[.int .i64 c.start, .slice A0 c.done.length C0, .slice A1 c.ext.length C1] 28)).heap.size = w.heap.size + 1 := by simp
  replace hc0 := hc0.below hbkX hh3
  replace hc1 := hc1.below hbkX hh3
  replace hr := hr.below hbkX hh1
  go_enter Try.func25, Try.ntmps25
  go_wp2
  generalize (w.alloc (.cells #[.int .i64 c.start, .slice A0 c.done.length C0, .slice A1 c.ext.length C1] 28)) = W0 at *
  go_loopw [5, 6] (fun b i wr => ∃ k : Nat, k ≤ c.done.length ∧ i = .int .i64 k ∧ b = .int .i64 (c.befAt k) ∧ Hid (prefAll (doneP c.start) c.done k = true) ∧ Below W0.heap.size W0 wr) (fun _ i _ => c.done.length - (intOf i).toNat)
  case atStart => exact ⟨0, Nat.zero_le _, rfl, rfl, rfl, Below.refl _ _⟩
  case round =>
    obtain ⟨k, hk, rfl, rfl, HA, hb⟩ := hrel
    have z0 := hb.size
    have kR := kX.below hb (by omega)
    obtain ⟨q0, q1, q2⟩ := kR.c3
    by_cases hlt : k < c.done.length
    · obtain ⟨s, b, off, HS, rfl, hbw, c0⟩ := RdF.int hc0 hb (by omega) hlt
      have HD := Lib.hid (show doneP c.start (c.done.take k) s = inR s (c.befAt k) 20000 by rw [doneP, befAt_last c k hk])
      have HB := Lib.hid (show c.befAt (k + 1) = s by simp [Custody.befAt, HS.out])
      have hki : (k : Int) < (c.done.length : Int) := by omega
      cases hf : inR s (c.befAt k) 20000 with
      | false =>
        go_wp2_with (go_at_call 40; refine (l01In_any _ _ _ _).mono ?_; rintro e w' ⟨rfl, rfl⟩; rw [hf])
        go_ret
        exact ⟨ret_bool (by rw [Custody.ok, prefOk_false HS.out (by rw [HD.out, hf])]; rfl), by (repeat (first | with_reducible assumption | with_reducible exact Below.refl _ _ | with_reducible refine Below.setCell ?_ ?_ _ | with_reducible refine Below.alloc ?_ ?_ _ | with_reducible refine Below.drew ?_ | with_reducible refine below_drewN ?_ _ | with_reducible refine Below.step (by with_reducible assumption) ?_ ?_ | omega | (simp <;> omega) | (simp; done)))⟩
      | true =>
        go_wp2_with (go_at_call 40; refine (l01In_any _ _ _ _).mono ?_; rintro e w' ⟨rfl, rfl⟩; rw [hf])
        go_roundw
        case rel => exact ⟨k + 1, by omega, by go_num, by rw [HB.out], prefAll_succ HA.out HS.out (by rw [HD.out, hf]), by (repeat (first | with_reducible assumption | with_reducible exact Below.refl _ _ | with_reducible refine Below.setCell ?_ ?_ _ | with_reducible refine Below.alloc ?_ ?_ _ | with_reducible refine Below.drew ?_ | with_reducible refine below_drewN ?_ _ | with_reducible refine Below.step (by with_reducible assumption) ?_ ?_ | omega | (simp <;> omega) | (simp; done)))⟩
        case measure => simp [intOf]; omega
    · have HL := Lib.hid (prefOk_of HA.out hk hlt)
      have hrw := hr.below hb (by omega)
      go_wp2_with fail
      refine (sAreStages_any _ rules _ _ _ hrw (by omega) hm1 hms1).mono ?_
      rintro e w1 ⟨rfl, b1⟩
      replace kR := kR.below b1 (by omega)
      have z1 := b1.size
      clear q0 q1 q2
      obtain ⟨q0, q1, q2⟩ := kR.c3
      go_wp2_with (first | (go_at_call 51; refine (l02Is_any _ _).mono ?_; rintro e w' ⟨rfl, rfl⟩))
      all_goals (go_ret; refine ⟨ret_bool ?_, by (repeat (first | with_reducible assumption | with_reducible exact Below.refl _ _ | with_reducible refine Below.setCell ?_ ?_ _ | with_reducible refine Below.alloc ?_ ?_ _ | with_reducible refine Below.drew ?_ | with_reducible refine below_drewN ?_ _ | with_reducible refine Below.step (by with_reducible assumption) ?_ ?_ | omega | (simp <;> omega) | (simp; done)))⟩; rw [Custody.ok, HL.out]; clear hrw q0 q1 q2 kR; first | (simp_all; done) | (simp_all; rw [Bool.eq_iff_iff]; simp <;> omega) | (simp_all <;> omega) | (simp_all <;> intros <;> omega))
set_option maxHeartbeats 800000 in
theorem before_any (c : Custody) (p0 p1 : Value) (lo3 hi3 : Nat) (k : Nat) (w : World) (hc0 : RdF encInt 1 w lo3 hi3 p0 c.done) (hc1 : RdF encBool 1 w lo3 hi3 p1 c.ext) (hh3 : hi3 ≤ w.heap.size) (hcs : c.small) (hk : k ≤ c.done.length) :
    Calls Try.prog 32 #[.agg #[.int .i64 c.start, p0, p1], .int .i64 (k : Int)] w fun e w' => e = .returned (.int .i64 (c.befAt k)) ∧ Below w.heap.size w w' := by
  have hl0 := hcs.len0
  by_cases hk0 : k = 0
  · have HB := Lib.hid (show c.befAt k = c.start by rw [hk0]; rfl)
    have hkb : ((k : Int) == 0) = true := by simp [hk0]
    have hkz : (k : Int) = 0 := by omega
    clear hk0
    go_enter Try.func32, Try.ntmps32
    go_wp2
    go_ret
    exact ⟨ret_int (by rw [HB.out]), by (repeat (first | with_reducible assumption | with_reducible exact Below.refl _ _ | with_reducible refine Below.setCell ?_ ?_ _ | with_reducible refine Below.alloc ?_ ?_ _ | with_reducible refine Below.drew ?_ | with_reducible refine below_drewN ?_ _ | with_reducible refine Below.step (by with_reducible assumption) ?_ ?_ | omega | (simp <;> omega) | (simp; done)))⟩
  · obtain ⟨A0, C0, rfl, hC0⟩ := hc0.form
    have hb1 : Below w.heap.size w (w.alloc (.cells #[.int .i64 c.start, .slice A0 c.done.length C0, p1] 28)) := (Below.refl _ _).alloc (Nat.le_refl _) _
    obtain ⟨s, b, off, HS, rfl, hbw, c0⟩ := RdF.int hc0 hb1 hh3 (show k - 1 < c.done.length by omega)
    have HB := Lib.hid (show c.befAt k = s by
      obtain ⟨j, rfl⟩ : ∃ j, k = j + 1 := ⟨k - 1, by omega⟩
      have := HS.out
      simp only [Nat.add_sub_cancel] at this
      simp [Custody.befAt, this])
    have hkp : 1 ≤ (k : Int) := by omega
    have hk1 : k - 1 < c.done.length := by omega
    have hkz : ¬ (k : Int) = 0 := by omega
    have hkb : ((k : Int) == 0) = false := by simpa using hk0
    clear hk0
    go_enter Try.func32, Try.ntmps32
    go_wp2
    go_ret
    exact ⟨ret_int (by rw [HB.out]), by (repeat (first | with_reducible assumption | with_reducible exact Below.refl _ _ | with_reducible refine Below.setCell ?_ ?_ _ | with_reducible refine Below.alloc ?_ ?_ _ | with_reducible refine Below.drew ?_ | with_reducible refine below_drewN ?_ _ | with_reducible refine Below.step (by with_reducible assumption) ?_ ?_ | omega | (simp <;> omega) | (simp; done)))⟩
set_option maxHeartbeats 800000 in
theorem l20Before_any (c : Custody) (p0 p1 : Value) (lo3 hi3 : Nat) (k : Nat) (w : World) (hc0 : RdF encInt 1 w lo3 hi3 p0 c.done) (hc1 : RdF encBool 1 w lo3 hi3 p1 c.ext) (hh3 : hi3 ≤ w.heap.size) (hcs : c.small) (hk : k ≤ c.done.length) :
    Calls Try.prog 34 #[.agg #[.int .i64 c.start, p0, p1], .int .i64 (k : Int)] w fun e w' => e = .returned (.int .i64 (c.befAt k)) ∧ Below w.heap.size w w' := by
  have hl0 := hcs.len0
  by_cases hk0 : k = 0
  · have HB := Lib.hid (show c.befAt k = c.start by rw [hk0]; rfl)
    have hkb : ((k : Int) == 0) = true := by simp [hk0]
    have hkz : (k : Int) = 0 := by omega
    clear hk0
    go_enter Try.func34, Try.ntmps34
    go_wp2
    go_ret
    exact ⟨ret_int (by rw [HB.out]), by (repeat (first | with_reducible assumption | with_reducible exact Below.refl _ _ | with_reducible refine Below.setCell ?_ ?_ _ | with_reducible refine Below.alloc ?_ ?_ _ | with_reducible refine Below.drew ?_ | with_reducible refine below_drewN ?_ _ | with_reducible refine Below.step (by with_reducible assumption) ?_ ?_ | omega | (simp <;> omega) | (simp; done)))⟩
  · obtain ⟨A0, C0, rfl, hC0⟩ := hc0.form
    have hb1 : Below w.heap.size w (w.alloc (.cells #[.int .i64 c.start, .slice A0 c.done.length C0, p1] 28)) := (Below.refl _ _).alloc (Nat.le_refl _) _
    obtain ⟨s, b, off, HS, rfl, hbw, c0⟩ := RdF.int hc0 hb1 hh3 (show k - 1 < c.done.length by omega)
    have HB := Lib.hid (show c.befAt k = s by
      obtain ⟨j, rfl⟩ : ∃ j, k = j + 1 := ⟨k - 1, by omega⟩
      have := HS.out
      simp only [Nat.add_sub_cancel] at this
      simp [Custody.befAt, this])
    have hkp : 1 ≤ (k : Int) := by omega
    have hk1 : k - 1 < c.done.length := by omega
    have hkz : ¬ (k : Int) = 0 := by omega
    have hkb : ((k : Int) == 0) = false := by simpa using hk0
    clear hk0
    go_enter Try.func34, Try.ntmps34
    go_wp2
    go_ret
    exact ⟨ret_int (by rw [HB.out]), by (repeat (first | with_reducible assumption | with_reducible exact Below.refl _ _ | with_reducible refine Below.setCell ?_ ?_ _ | with_reducible refine Below.alloc ?_ ?_ _ | with_reducible refine Below.drew ?_ | with_reducible refine below_drewN ?_ _ | with_reducible refine Below.step (by with_reducible assumption) ?_ ?_ | omega | (simp <;> omega) | (simp; done)))⟩
set_option maxRecDepth 100000 in
set_option maxHeartbeats 2000000 in
theorem limit_any (c : Custody) (p0 p1 : Value) (lo3 hi3 : Nat) (v1 : Value) (rules : List Stage) (lo1 hi1 : Nat) (v2 : Value) (hol : List Int) (lo2 hi2 : Nat) (stage : Nat) (day : Int) (s : Stage) (ex : Bool) (w : World) (hc0 : RdF encInt 1 w lo3 hi3 p0 c.done) (hc1 : RdF encBool 1 w lo3 hi3 p1 c.ext) (hh3 : hi3 ≤ w.heap.size) (hcs : c.small) (hr : RdF Stage.enc 3 w lo1 hi1 v1 rules) (hh1 : hi1 ≤ w.heap.size) (hm1 : rules.length ≤ 1048576) (hms1 : ∀ x ∈ rules, Stage.small x) (hv : RdF encInt 1 w lo2 hi2 v2 hol) (hh2 : hi2 ≤ w.heap.size) (hm2 : hol.length ≤ 1048576) (hs : rules[stage]? = some s) (he : c.ext[stage]? = some ex) (hf : s.fine) (hd0 : 0 ≤ day) (hd1 : day ≤ 30000) :
    Calls Try.prog 33 #[.agg #[.int .i64 c.start, p0, p1], v1, v2, .int .i64 (stage : Int), .int .i64 day] w fun e w' => e = .returned (.int .i64 (lastCourt hol day (spanOf s ex))) ∧ Below w.heap.size w w' := by
  obtain ⟨AR, CR, rfl, hCR⟩ := hr.form
  have hst : stage < rules.length := (List.getElem?_eq_some_iff.1 hs).1
  obtain ⟨f1, f2, f3, f4⟩ := hf
  have hsp := spanOf_bd (s := s) (e := ex) ⟨f1, f2, f3, f4⟩
  have hsti : (stage : Int) < (rules.length : Int) := by omega
  obtain ⟨A1, C1, rfl, hC1⟩ := hc1.form
  have hl1 := hcs.len1
  have hse : stage < c.ext.length := (List.getElem?_eq_some_iff.1 he).1
  have hsei : (stage : Int) < (c.ext.length : Int) := by omega
  have kX := Blk.newAt (w := w) (n := w.heap.size) (t := 28) (cs := #[.int .i64 c.start, p0, .slice A1 c.ext.length C1]) rfl
  have hbkX : Below w.heap.size w (w.alloc (.cells #[.int .i64 c.start, p0, .slice A1 c.ext.length C1] 28)) := (Below.refl _ _).alloc (Nat.le_refl _) _
  have hzkX : (w.alloc (.cells #[.int .i64 c.start, p0, .slice A1 c.ext.length C1] 28)).heap.size = w.heap.size + 1 := by simp
  obtain ⟨s', b, off, HS, rfl, -, hbw, g0, g1, g2⟩ := Stage.at hr hbkX hh1 hst
  have e1 : s = s' := by have h1 := HS.out; rw [hs] at h1; injection h1 with h1
  subst e1
  obtain ⟨ex', b2, off2, HE, rfl, hbw2, g3⟩ := RdF.bool hc1 hbkX hh3 hse
  have e2 : ex = ex' := by have h1 := HE.out; rw [he] at h1; injection h1 with h1
  subst e2
  clear HS HE
  have HV := Lib.hid (show ∀ w' : World, Below (w.alloc (.cells #[.int .i64 c.start, p0, .slice (some ⟨b2, off2, none⟩) c.ext.length C1] 28)).heap.size (w.alloc (.cells #[.int .i64 c.start, p0, .slice (some ⟨b2, off2, none⟩) c.ext.length C1] 28)) w' → RdF encInt 1 w' lo2 hi2 v2 hol from fun w' hb => (hv.below hbkX hh2).below hb (by omega))
  clear hs he hc0 hc1 hr hv
  cases ex with
  | false | true =>
    have HN := Lib.hid hsp.2.1
    have hsn := hsp.1
    have hs1 := hsp.2.2
    clear hsp
    generalize spanOf s _ = N at *
    simp only [if_true, if_false, Bool.false_eq_true] at HN
    go_enter Try.func33, Try.ntmps33
    go_wp2_with fail
    generalize (w.alloc (.cells #[.int .i64 c.start, p0, .slice (some ⟨b2, off2, none⟩) c.ext.length C1] 28)) = W0 at *
    go_loop [11] (fun d => ∃ n : Nat, n ≤ N ∧ d = .int .i64 (day + (n : Int)) ∧ Hid (lastCourt hol day N = lastCourt hol day n)) (fun d => (intOf d - day).toNat)
    case atStart => exact ⟨N, Nat.le_refl _, by have h := HN.out; (try simp at h); exact congrArg (Value.int .i64) (by omega), rfl⟩
    case round =>
      obtain ⟨n, hn, rfl, HI⟩ := hrel
      by_cases hn0 : n = 0
      · subst hn0
        go_wp2_with fail
        go_ret
        exact ⟨ret_int (by rw [HI.out]; simp [lastCourt]), by (repeat (first | with_reducible assumption | with_reducible exact Below.refl _ _ | with_reducible refine Below.setCell ?_ ?_ _ | with_reducible refine Below.alloc ?_ ?_ _ | with_reducible refine Below.drew ?_ | with_reducible refine below_drewN ?_ _ | with_reducible refine Below.step (by with_reducible assumption) ?_ ?_ | omega | (simp <;> omega) | (simp; done)))⟩
      · have hnp : 0 < (n : Int) := by omega
        cases hct : court hol (day + (n : Int)) with
        | true =>
          have HC := Lib.hid (lastCourt_yes hct)
          go_wp2_with (go_at_call 54; refine (isCourtDay_any _ hol _ _ _ _ (HV.out _ (by (repeat (first | with_reducible assumption | with_reducible exact Below.refl _ _ | with_reducible refine Below.setCell ?_ ?_ _ | with_reducible refine Below.alloc ?_ ?_ _ | with_reducible refine Below.drew ?_ | with_reducible refine below_drewN ?_ _ | with_reducible refine Below.step (by with_reducible assumption) ?_ ?_ | omega | (simp <;> omega) | (simp; done))))) (by omega) hm2 (by omega)).mono ?_; rintro e w' ⟨rfl, rfl⟩; rw [hct])
          go_ret
          exact ⟨ret_int (by rw [HI.out, HC.out]), by (repeat (first | with_reducible assumption | with_reducible exact Below.refl _ _ | with_reducible refine Below.setCell ?_ ?_ _ | with_reducible refine Below.alloc ?_ ?_ _ | with_reducible refine Below.drew ?_ | with_reducible refine below_drewN ?_ _ | with_reducible refine Below.step (by with_reducible assumption) ?_ ?_ | omega | (simp <;> omega) | (simp; done)))⟩
        | false =>
          have HC := Lib.hid (lastCourt_no (by omega) hct)
          go_wp2_with (go_at_call 54; refine (isCourtDay_any _ hol _ _ _ _ (HV.out _ (by (repeat (first | with_reducible assumption | with_reducible exact Below.refl _ _ | with_reducible refine Below.setCell ?_ ?_ _ | with_reducible refine Below.alloc ?_ ?_ _ | with_reducible refine Below.drew ?_ | with_reducible refine below_drewN ?_ _ | with_reducible refine Below.step (by with_reducible assumption) ?_ ?_ | omega | (simp <;> omega) | (simp; done))))) (by omega) hm2 (by omega)).mono ?_; rintro e w' ⟨rfl, rfl⟩; rw [hct])
          go_round
          case rel => exact ⟨n - 1, by omega, by congr 1; omega, HI.out.trans HC.out⟩
          case measure => simp [intOf]; omega
set_option maxRecDepth 100000 in
set_option maxHeartbeats 2000000 in
theorem l20Limit_any (v1 : Value) (rules : List Stage) (lo1 hi1 : Nat) (v2 : Value) (hol : List Int) (lo2 hi2 : Nat) (stage : Nat) (day : Int) (s : Stage) (ex : Bool) (w : World) (hr : RdF Stage.enc 3 w lo1 hi1 v1 rules) (hh1 : hi1 ≤ w.heap.size) (hm1 : rules.length ≤ 1048576) (hms1 : ∀ x ∈ rules, Stage.small x) (hv : RdF encInt 1 w lo2 hi2 v2 hol) (hh2 : hi2 ≤ w.heap.size) (hm2 : hol.length ≤ 1048576) (hs : rules[stage]? = some s) (hf : s.fine) (hd0 : 0 ≤ day) (hd1 : day ≤ 30000) :
    Calls Try.prog 35 #[v1, v2, .bool ex, .int .i64 (stage : Int), .int .i64 day] w fun e w' => e = .returned (.int .i64 (lastCourt hol day (spanOf s ex))) ∧ Below w.heap.size w w' := by
  obtain ⟨AR, CR, rfl, hCR⟩ := hr.form
  have hst : stage < rules.length := (List.getElem?_eq_some_iff.1 hs).1
  obtain ⟨f1, f2, f3, f4⟩ := hf
  have hsp := spanOf_bd (s := s) (e := ex) ⟨f1, f2, f3, f4⟩
  have hsti : (stage : Int) < (rules.length : Int) := by omega
  have hbkX : Below w.heap.size w w := Below.refl _ _
  obtain ⟨s', b, off, HS, rfl, -, hbw, g0, g1, g2⟩ := Stage.at hr hbkX hh1 hst
  have e1 : s = s' := by have h1 := HS.out; rw [hs] at h1; injection h1 with h1
  subst e1
  clear HS
  have HV := Lib.hid (show ∀ w' : World, Below w.heap.size w w' → RdF encInt 1 w' lo2 hi2 v2 hol from fun w' hb => hv.below hb hh2)
  clear hs hr hv
  cases ex with
  | false | true =>
    have HN := Lib.hid hsp.2.1
    have hsn := hsp.1
    have hs1 := hsp.2.2
    clear hsp
    generalize spanOf s _ = N at *
    simp only [if_true, if_false, Bool.false_eq_true] at HN
    go_enter Try.func35, Try.ntmps35
    go_wp2_with fail
    clear hbkX
    go_loop [11] (fun d => ∃ n : Nat, n ≤ N ∧ d = .int .i64 (day + (n : Int)) ∧ Hid (lastCourt hol day N = lastCourt hol day n)) (fun d => (intOf d - day).toNat)
    case atStart => exact ⟨N, Nat.le_refl _, by have h := HN.out; (try simp at h); exact congrArg (Value.int .i64) (by omega), rfl⟩
    case round =>
      obtain ⟨n, hn, rfl, HI⟩ := hrel
      by_cases hn0 : n = 0
      · subst hn0
        go_wp2_with fail
        go_ret
        exact ⟨ret_int (by rw [HI.out]; simp [lastCourt]), by (repeat (first | with_reducible assumption | with_reducible exact Below.refl _ _ | with_reducible refine Below.setCell ?_ ?_ _ | with_reducible refine Below.alloc ?_ ?_ _ | with_reducible refine Below.drew ?_ | with_reducible refine below_drewN ?_ _ | with_reducible refine Below.step (by with_reducible assumption) ?_ ?_ | omega | (simp <;> omega) | (simp; done)))⟩
      · have hnp : 0 < (n : Int) := by omega
        cases hct : court hol (day + (n : Int)) with
        | true =>
          have HC := Lib.hid (lastCourt_yes hct)
          go_wp2_with (go_at_call 55; refine (l02Court_any _ hol _ _ _ _ (HV.out _ (by (repeat (first | with_reducible assumption | with_reducible exact Below.refl _ _ | with_reducible refine Below.setCell ?_ ?_ _ | with_reducible refine Below.alloc ?_ ?_ _ | with_reducible refine Below.drew ?_ | with_reducible refine below_drewN ?_ _ | with_reducible refine Below.step (by with_reducible assumption) ?_ ?_ | omega | (simp <;> omega) | (simp; done))))) (by omega) hm2 (by omega)).mono ?_; rintro e w' ⟨rfl, rfl⟩; rw [hct])
          go_ret
          exact ⟨ret_int (by rw [HI.out, HC.out]), by (repeat (first | with_reducible assumption | with_reducible exact Below.refl _ _ | with_reducible refine Below.setCell ?_ ?_ _ | with_reducible refine Below.alloc ?_ ?_ _ | with_reducible refine Below.drew ?_ | with_reducible refine below_drewN ?_ _ | with_reducible refine Below.step (by with_reducible assumption) ?_ ?_ | omega | (simp <;> omega) | (simp; done)))⟩
        | false =>
          have HC := Lib.hid (lastCourt_no (by omega) hct)
          go_wp2_with (go_at_call 55; refine (l02Court_any _ hol _ _ _ _ (HV.out _ (by (repeat (first | with_reducible assumption | with_reducible exact Below.refl _ _ | with_reducible refine Below.setCell ?_ ?_ _ | with_reducible refine Below.alloc ?_ ?_ _ | with_reducible refine Below.drew ?_ | with_reducible refine below_drewN ?_ _ | with_reducible refine Below.step (by with_reducible assumption) ?_ ?_ | omega | (simp <;> omega) | (simp; done))))) (by omega) hm2 (by omega)).mono ?_; rintro e w' ⟨rfl, rfl⟩; rw [hct])
          go_round
          case rel => exact ⟨n - 1, by omega, by congr 1; omega, HI.out.trans HC.out⟩
          case measure => simp [intOf]; omega
end Go.Proofs.Ytfafcicbfgdmcaa
