/- Walks: whether a custody is lawful. Written by a program (gen_lawful.py). -/
import Derived.Test.YtfafcicbfgdmcaaCustodyX
namespace Go.Proofs.Ytfafcicbfgdmcaa
open Go.RowKit
set_option linter.unusedVariables false
set_option maxRecDepth 100000 in
set_option maxHeartbeats 4000000 in
theorem isLawful_any (v1 : Value) (rules : List Stage) (lo1 hi1 : Nat) (v2 : Value) (hol : List Int) (lo2 hi2 : Nat) (c : Custody) (p0 p1 : Value) (lo3 hi3 : Nat) (w : World) (hr : RdF Stage.enc 3 w lo1 hi1 v1 rules) (hh1 : hi1 ≤ w.heap.size) (hm1 : rules.length ≤ 1048576) (hms1 : ∀ x ∈ rules, Stage.small x) (hv : RdF encInt 1 w lo2 hi2 v2 hol) (hh2 : hi2 ≤ w.heap.size) (hm2 : hol.length ≤ 1048576) (hc0 : RdF encInt 1 w lo3 hi3 p0 c.done) (hc1 : RdF encBool 1 w lo3 hi3 p1 c.ext) (hh3 : hi3 ≤ w.heap.size) (hcs : c.small) :
    Calls Try.prog 19 #[v1, v2, .agg #[.int .i64 c.start, p0, p1]] w fun e w' => e = .returned (.tuple #[.bool (isLawful rules hol c).1, .int .i64 (isLawful rules hol c).2]) ∧ Below w.heap.size w w' := by
  obtain ⟨A0, C0, rfl, hC0⟩ := hc0.form
  obtain ⟨A1, C1, rfl, hC1⟩ := hc1.form
  obtain ⟨AR, CR, rfl, hCR⟩ := hr.form
  obtain ⟨AH, CH, rfl, hCH⟩ := hv.form
  have hl0 := hcs.len0
  have hl1 := hcs.len1
  have kX := Blk.newAt (w := w) (n := w.heap.size) (t := 28) (cs := #[.int .i64 c.start, .slice A0 c.done.length C0, .slice A1 c.ext.length C1]) rfl
  have hbkX : Below w.heap.size w (w.alloc (.cells #[.int .i64 c.start, .slice A0 c.done.length C0, .slice A1 c.ext.length C1] 28)) := (Below.refl _ _).alloc (Nat.le_refl _) _
  have hzkX : (w.alloc (.cells #[.int .i64 c.start, .slice A0 c.done.length C0, .slice A1 c.ext.length C1] 28)).heap.size = w.heap.size + 1 := by simp
  replace hc0 := hc0.below hbkX hh3
  replace hc1 := hc1.below hbkX hh3
  replace hr := hr.below hbkX hh1
  replace hv := hv.below hbkX hh2
  go_enter Try.func19, Try.ntmps19
  go_wp2_with fail
  generalize (w.alloc (.cells #[.int .i64 c.start, .slice A0 c.done.length C0, .slice A1 c.ext.length C1] 28)) = W0 at *
  refine (custodyOk_any _ rules lo1 hi1 _ hol lo2 hi2 c _ _ lo3 hi3 _ hr (by omega) hm1 hms1 hv (by omega) hm2 hc0 hc1 (by omega) hcs).mono ?_
  rintro e w1 ⟨rfl, b1⟩
  have zb1 := b1.size
  replace hc0 := hc0.below b1 (by omega)
  replace hc1 := hc1.below b1 (by omega)
  replace hr := hr.below b1 (by omega)
  replace hv := hv.below b1 (by omega)
  replace kX := kX.below b1 (by omega)
  replace hbkX := Below.step b1 (by omega) hbkX
  clear b1
  obtain ⟨q0, q1, q2⟩ := kX.c3
  cases hz : (holidaysOk hol && c.ok rules) with
  | false =>
    have HF := Lib.hid (show isLawful rules hol c = (false, 1) by rw [isLawful, hz]; rfl)
    go_wp2_with fail
    go_ret2
    rw [HF.out]
    exact ⟨rfl, by (repeat (first | with_reducible assumption | with_reducible exact Below.refl _ _ | with_reducible refine Below.setCell ?_ ?_ _ | with_reducible refine Below.alloc ?_ ?_ _ | with_reducible refine Below.drew ?_ | with_reducible refine below_drewN ?_ _ | with_reducible refine Below.step (by with_reducible assumption) ?_ ?_ | omega | (simp <;> omega) | (simp; done)))⟩
  | true =>
    have hok : c.ok rules = true := by simp only [Bool.and_eq_true] at hz; exact hz.2
    have HF := Lib.hid (show isLawful rules hol c = ((List.range c.done.length).all (lawAt rules hol c), 0) by rw [isLawful, hz]; rfl)
    clear hz
    go_wp2_with fail
    clear q0 q1 q2
    go_loopw [8, 9, 18] (fun _ _ i wr => ∃ k : Nat, k ≤ c.done.length ∧ i = .int .i64 k ∧ Hid ((List.range k).all (lawAt rules hol c) = true) ∧ Below w1.heap.size w1 wr) (fun _ _ i _ => c.done.length - (intOf i).toNat)
    case atStart => exact ⟨0, Nat.zero_le _, rfl, rfl, Below.refl _ _⟩
    case round =>
      obtain ⟨k, hk, rfl, HA, hb⟩ := hrel
      have zz := hb.size
      replace kX := kX.below hb (by omega)
      obtain ⟨q0, q1, q2⟩ := kX.c3
      by_cases hlt : k < c.done.length
      · skip
        replace hc0 := hc0.below hb (by omega)
        replace hc1 := hc1.below hb (by omega)
        replace hr := hr.below hb (by omega)
        replace hv := hv.below hb (by omega)
        have hbW := hb
        clear hb
        have hok' := Custody.ok_parts hok
        obtain ⟨s, hs⟩ : ∃ s, rules[k]? = some s := ⟨_, List.getElem?_eq_getElem (by have := hok'.2.2.2.1; omega)⟩
        obtain ⟨ex, he⟩ : ∃ ex, c.ext[k]? = some ex := ⟨_, List.getElem?_eq_getElem (by have := hok'.2.2.2; omega)⟩
        have hf := stagesOk_fine hok'.2.1 s (List.mem_of_getElem? hs)
        have hbf := befAt_bd hok k (by omega)
        obtain ⟨d, b, off, HD, hA0, hbw, c0⟩ := RdF.int hc0 (Below.refl _ wr) (by omega) hlt
        subst hA0
        have HL := Lib.hid (show lawAt rules hol c k = decide (d ≤ lastCourt hol (c.befAt k) (spanOf s ex)) by
          have := HD.out
          rw [lawAt, limitAt_of hs he, Custody.befAt, this]; rfl)
        have HS := Lib.hid hs
        have HE := Lib.hid he
        have hse : k < c.ext.length := (List.getElem?_eq_some_iff.1 he).1
        clear hok' hs he
        have hki : (k : Int) < (c.done.length : Int) := by omega
        have zl := kX.lt
        go_wp2_with fail
        by_cases hlw : d ≤ lastCourt hol (c.befAt k) (spanOf s ex)
        · have hgt : ¬ lastCourt hol (c.befAt k) (spanOf s ex) < d := by omega
          go_region_held3 (fun w' => w'.cell? ⟨w.heap.size, 0, none⟩ = some (.int .i64 c.start) ∧ w'.cell? ⟨w.heap.size, 1, none⟩ = some (.slice (some ⟨b, off, none⟩) c.done.length C0) ∧ w'.cell? ⟨w.heap.size, 2, none⟩ = some (.slice A1 c.ext.length C1)) (go_keep)
            (first
              | (go_at_call 32; refine (before_any c (.slice (some ⟨b, off, none⟩) c.done.length C0) (.slice A1 c.ext.length C1) lo3 hi3 k _ (hc0.below (B := wr.heap.size) (Below.refl _ wr).drew (by omega)) (hc1.below (B := wr.heap.size) (Below.refl _ wr).drew (by omega)) (by show _ ≤ wr.heap.size; omega) hcs (by omega)).mono ?_; rintro e y1 ⟨rfl, x1⟩; replace x1 : Below wr.heap.size wr y1 := Below.undrew x1; have zx1 := x1.size; replace hc0 := hc0.below x1 (by omega); replace hc1 := hc1.below x1 (by omega); replace hr := hr.below x1 (by omega); replace hv := hv.below x1 (by omega); replace kX := kX.below x1 (by omega); replace hbW := Below.step x1 (by omega) hbW; clear x1; obtain ⟨r0, r1, r2⟩ := kX.c3)
              | (go_at_call 33; refine (limit_any c (.slice (some ⟨b, off, none⟩) c.done.length C0) (.slice A1 c.ext.length C1) lo3 hi3 (.slice AR rules.length CR) rules lo1 hi1 (.slice AH hol.length CH) hol lo2 hi2 k (c.befAt k) s ex _ hc0 hc1 (by omega) hcs hr (by omega) hm1 hms1 hv (by omega) hm2 HS.out HE.out hf (by omega) (by omega)).mono ?_; rintro e y2 ⟨rfl, x2⟩; have zx2 := x2.size; replace hc0 := hc0.below x2 (by omega); replace hc1 := hc1.below x2 (by omega); replace hr := hr.below x2 (by omega); replace hv := hv.below x2 (by omega); replace kX := kX.below x2 (by omega); replace hbW := Below.step x2 (by omega) hbW; clear x2; obtain ⟨s0, s1, s2⟩ := kX.c3))
          go_wp2_with fail
          go_roundw
          case rel => exact ⟨k + 1, by omega, by go_num, range_all_succ HA.out (by rw [HL.out]; simpa using hlw), by (repeat (first | with_reducible assumption | with_reducible exact Below.refl _ _ | with_reducible refine Below.setCell ?_ ?_ _ | with_reducible refine Below.alloc ?_ ?_ _ | with_reducible refine Below.drew ?_ | with_reducible refine below_drewN ?_ _ | with_reducible refine Below.step (by with_reducible assumption) ?_ ?_ | omega | (simp <;> omega) | (simp; done)))⟩
          case measure => simp [intOf]; omega
        · have hgt : lastCourt hol (c.befAt k) (spanOf s ex) < d := by omega
          go_region_held3 (fun w' => w'.cell? ⟨w.heap.size, 0, none⟩ = some (.int .i64 c.start) ∧ w'.cell? ⟨w.heap.size, 1, none⟩ = some (.slice (some ⟨b, off, none⟩) c.done.length C0) ∧ w'.cell? ⟨w.heap.size, 2, none⟩ = some (.slice A1 c.ext.length C1)) (go_keep)
            (first
              | (go_at_call 32; refine (before_any c (.slice (some ⟨b, off, none⟩) c.done.length C0) (.slice A1 c.ext.length C1) lo3 hi3 k _ (hc0.below (B := wr.heap.size) (Below.refl _ wr).drew (by omega)) (hc1.below (B := wr.heap.size) (Below.refl _ wr).drew (by omega)) (by show _ ≤ wr.heap.size; omega) hcs (by omega)).mono ?_; rintro e y1 ⟨rfl, x1⟩; replace x1 : Below wr.heap.size wr y1 := Below.undrew x1; have zx1 := x1.size; replace hc0 := hc0.below x1 (by omega); replace hc1 := hc1.below x1 (by omega); replace hr := hr.below x1 (by omega); replace hv := hv.below x1 (by omega); replace kX := kX.below x1 (by omega); replace hbW := Below.step x1 (by omega) hbW; clear x1; obtain ⟨r0, r1, r2⟩ := kX.c3)
              | (go_at_call 33; refine (limit_any c (.slice (some ⟨b, off, none⟩) c.done.length C0) (.slice A1 c.ext.length C1) lo3 hi3 (.slice AR rules.length CR) rules lo1 hi1 (.slice AH hol.length CH) hol lo2 hi2 k (c.befAt k) s ex _ hc0 hc1 (by omega) hcs hr (by omega) hm1 hms1 hv (by omega) hm2 HS.out HE.out hf (by omega) (by omega)).mono ?_; rintro e y2 ⟨rfl, x2⟩; have zx2 := x2.size; replace hc0 := hc0.below x2 (by omega); replace hc1 := hc1.below x2 (by omega); replace hr := hr.below x2 (by omega); replace hv := hv.below x2 (by omega); replace kX := kX.below x2 (by omega); replace hbW := Below.step x2 (by omega) hbW; clear x2; obtain ⟨s0, s1, s2⟩ := kX.c3))
          go_wp2_with fail
          go_ret2
          rw [HF.out]
          exact ⟨by rw [range_all_false (p := lawAt rules hol c) (by rw [HL.out]; simpa using hlw) hlt] <;> rfl, by (repeat (first | with_reducible assumption | with_reducible exact Below.refl _ _ | with_reducible refine Below.setCell ?_ ?_ _ | with_reducible refine Below.alloc ?_ ?_ _ | with_reducible refine Below.drew ?_ | with_reducible refine below_drewN ?_ _ | with_reducible refine Below.step (by with_reducible assumption) ?_ ?_ | omega | (simp <;> omega) | (simp; done)))⟩
      · have HK := Lib.hid (show (List.range c.done.length).all (lawAt rules hol c) = true by have := HA.out; rwa [show k = c.done.length by omega] at this)
        go_wp2_with fail
        go_ret2
        rw [HF.out]
        exact ⟨by rw [HK.out] <;> rfl, by (repeat (first | with_reducible assumption | with_reducible exact Below.refl _ _ | with_reducible refine Below.setCell ?_ ?_ _ | with_reducible refine Below.alloc ?_ ?_ _ | with_reducible refine Below.drew ?_ | with_reducible refine below_drewN ?_ _ | with_reducible refine Below.step (by with_reducible assumption) ?_ ?_ | omega | (simp <;> omega) | (simp; done)))⟩
set_option maxRecDepth 100000 in
set_option maxHeartbeats 4000000 in
theorem sIsLawful_any (v1 : Value) (rules : List Stage) (lo1 hi1 : Nat) (v2 : Value) (hol : List Int) (lo2 hi2 : Nat) (c : Custody) (p0 p1 : Value) (lo3 hi3 : Nat) (w : World) (hr : RdF Stage.enc 3 w lo1 hi1 v1 rules) (hh1 : hi1 ≤ w.heap.size) (hm1 : rules.length ≤ 1048576) (hms1 : ∀ x ∈ rules, Stage.small x) (hv : RdF encInt 1 w lo2 hi2 v2 hol) (hh2 : hi2 ≤ w.heap.size) (hm2 : hol.length ≤ 1048576) (hc0 : RdF encInt 1 w lo3 hi3 p0 c.done) (hc1 : RdF encBool 1 w lo3 hi3 p1 c.ext) (hh3 : hi3 ≤ w.heap.size) (hcs : c.small) :
    Calls Try.prog 20 #[v1, v2, .agg #[.int .i64 c.start, p0, p1]] w fun e w' => e = .returned (.tuple #[.bool (isLawful rules hol c).1, .int .i64 (isLawful rules hol c).2]) ∧ Below w.heap.size w w' := by
  obtain ⟨A0, C0, rfl, hC0⟩ := hc0.form
  obtain ⟨A1, C1, rfl, hC1⟩ := hc1.form
  obtain ⟨AR, CR, rfl, hCR⟩ := hr.form
  obtain ⟨AH, CH, rfl, hCH⟩ := hv.form
  have hl0 := hcs.len0
  have hl1 := hcs.len1
  have kX := Blk.newAt (w := w) (n := w.heap.size) (t := 28) (cs := #[.int .i64 c.start, .slice A0 c.done.length C0, .slice A1 c.ext.length C1]) rfl
  have hbkX : Below w.heap.size w (w.alloc (.cells #[.int .i64 c.start, .slice A0 c.done.length C0, .slice A1 c.ext.length C1] 28)) := (Below.refl _ _).alloc (Nat.le_refl _) _
  have hzkX : (w.alloc (.cells #[.int .i64 c.start, .slice A0 c.done.length C0, .slice A1 c.ext.length C1] 28)).heap.size = w.heap.size + 1 := by simp
  replace hc0 := hc0.below hbkX hh3
  replace hc1 := hc1.below hbkX hh3
  replace hr := hr.below hbkX hh1
  replace hv := hv.below hbkX hh2
  go_enter Try.func20, Try.ntmps20
  go_wp2_with fail
  generalize (w.alloc (.cells #[.int .i64 c.start, .slice A0 c.done.length C0, .slice A1 c.ext.length C1] 28)) = W0 at *
  refine (sIsCustody_any _ rules lo1 hi1 c _ _ lo3 hi3 _ hr (by omega) hm1 hms1 hc0 hc1 (by omega) hcs).mono ?_
  rintro e w1 ⟨rfl, b1⟩
  have zb1 := b1.size
  replace hc0 := hc0.below b1 (by omega)
  replace hc1 := hc1.below b1 (by omega)
  replace hr := hr.below b1 (by omega)
  replace hv := hv.below b1 (by omega)
  replace kX := kX.below b1 (by omega)
  replace hbkX := Below.step b1 (by omega) hbkX
  clear b1
  obtain ⟨q0, q1, q2⟩ := kX.c3
  cases ho : c.ok rules with
  | false =>
    have HF := Lib.hid (show isLawful rules hol c = (false, 1) by rw [isLawful, ho]; simp)
    go_wp2_with fail
    go_ret2
    rw [HF.out]
    exact ⟨rfl, by (repeat (first | with_reducible assumption | with_reducible exact Below.refl _ _ | with_reducible refine Below.setCell ?_ ?_ _ | with_reducible refine Below.alloc ?_ ?_ _ | with_reducible refine Below.drew ?_ | with_reducible refine below_drewN ?_ _ | with_reducible refine Below.step (by with_reducible assumption) ?_ ?_ | omega | (simp <;> omega) | (simp; done)))⟩
  | true =>
    go_wp2_with fail
    refine (sAreHolidays_any _ hol _ _ _ hv (by omega) hm2).mono ?_
    rintro e w2 ⟨rfl, b2⟩
    clear q0 q1 q2
    have zb2 := b2.size
    replace hc0 := hc0.below b2 (by omega)
    replace hc1 := hc1.below b2 (by omega)
    replace hr := hr.below b2 (by omega)
    replace hv := hv.below b2 (by omega)
    replace kX := kX.below b2 (by omega)
    replace hbkX := Below.step b2 (by omega) hbkX
    clear b2
    obtain ⟨q0, q1, q2⟩ := kX.c3
    cases hh : holidaysOk hol with
    | false =>
      have HF := Lib.hid (show isLawful rules hol c = (false, 1) by rw [isLawful, hh]; rfl)
      go_wp2_with fail
      go_ret2
      rw [HF.out]
      exact ⟨rfl, by (repeat (first | with_reducible assumption | with_reducible exact Below.refl _ _ | with_reducible refine Below.setCell ?_ ?_ _ | with_reducible refine Below.alloc ?_ ?_ _ | with_reducible refine Below.drew ?_ | with_reducible refine below_drewN ?_ _ | with_reducible refine Below.step (by with_reducible assumption) ?_ ?_ | omega | (simp <;> omega) | (simp; done)))⟩
    | true =>
      have hz : (holidaysOk hol && c.ok rules) = true := by rw [hh, ho]; rfl
      have hok : c.ok rules = true := by simp only [Bool.and_eq_true] at hz; exact hz.2
      have HF := Lib.hid (show isLawful rules hol c = ((List.range c.done.length).all (lawAt rules hol c), 0) by rw [isLawful, hz]; rfl)
      clear hz
      clear hh ho
      go_wp2_with fail
      clear q0 q1 q2
      go_loopw [8] (fun i wr => ∃ k : Nat, k ≤ c.done.length ∧ i = .int .i64 k ∧ Hid ((List.range k).all (lawAt rules hol c) = true) ∧ Below w2.heap.size w2 wr) (fun i _ => c.done.length - (intOf i).toNat)
      case atStart => exact ⟨0, Nat.zero_le _, rfl, rfl, Below.refl _ _⟩
      case round =>
        obtain ⟨k, hk, rfl, HA, hb⟩ := hrel
        have zz := hb.size
        replace kX := kX.below hb (by omega)
        obtain ⟨q0, q1, q2⟩ := kX.c3
        by_cases hlt : k < c.done.length
        · skip
          replace hc0 := hc0.below hb (by omega)
          replace hc1 := hc1.below hb (by omega)
          replace hr := hr.below hb (by omega)
          replace hv := hv.below hb (by omega)
          have hbW := hb
          clear hb
          have hok' := Custody.ok_parts hok
          obtain ⟨s, hs⟩ : ∃ s, rules[k]? = some s := ⟨_, List.getElem?_eq_getElem (by have := hok'.2.2.2.1; omega)⟩
          obtain ⟨ex, he⟩ : ∃ ex, c.ext[k]? = some ex := ⟨_, List.getElem?_eq_getElem (by have := hok'.2.2.2; omega)⟩
          have hf := stagesOk_fine hok'.2.1 s (List.mem_of_getElem? hs)
          have hbf := befAt_bd hok k (by omega)
          obtain ⟨d, b, off, HD, hA0, hbw, c0⟩ := RdF.int hc0 (Below.refl _ wr) (by omega) hlt
          subst hA0
          have HL := Lib.hid (show lawAt rules hol c k = decide (d ≤ lastCourt hol (c.befAt k) (spanOf s ex)) by
            have := HD.out
            rw [lawAt, limitAt_of hs he, Custody.befAt, this]; rfl)
          have HS := Lib.hid hs
          have HE := Lib.hid he
          have hse : k < c.ext.length := (List.getElem?_eq_some_iff.1 he).1
          clear hok' hs he
          have hki : (k : Int) < (c.done.length : Int) := by omega
          have zl := kX.lt
          obtain ⟨ex', b2, off2, HE2, hA2, hbw2, q3⟩ := RdF.bool hc1 (Below.refl _ wr) (by omega) hse
          have e2 : ex = ex' := by have h1 := HE2.out; rw [HE.out] at h1; injection h1 with h1
          subst e2
          subst hA2
          clear HE2
          have hsei : (k : Int) < (c.ext.length : Int) := by omega
          go_wp2_with fail
          by_cases hlw : d ≤ lastCourt hol (c.befAt k) (spanOf s ex)
          · have hgt : ¬ lastCourt hol (c.befAt k) (spanOf s ex) < d := by omega
            go_region_held3 (fun w' => w'.cell? ⟨w.heap.size, 0, none⟩ = some (.int .i64 c.start) ∧ w'.cell? ⟨w.heap.size, 1, none⟩ = some (.slice (some ⟨b, off, none⟩) c.done.length C0) ∧ w'.cell? ⟨w.heap.size, 2, none⟩ = some (.slice (some ⟨b2, off2, none⟩) c.ext.length C1) ∧ w'.cell? ⟨b2, off2 + k, none⟩ = some (.bool ex) ∧ w'.cell? ⟨b, off + k, none⟩ = some (.int .i64 d)) (go_keep)
              (first
                | (go_at_call 34; refine (l20Before_any c (.slice (some ⟨b, off, none⟩) c.done.length C0) (.slice (some ⟨b2, off2, none⟩) c.ext.length C1) lo3 hi3 k _ (hc0.below (B := wr.heap.size) (Below.refl _ wr).drew (by omega)) (hc1.below (B := wr.heap.size) (Below.refl _ wr).drew (by omega)) (by show _ ≤ wr.heap.size; omega) hcs (by omega)).mono ?_; rintro e y1 ⟨rfl, x1⟩; replace x1 : Below wr.heap.size wr y1 := Below.undrew x1; have q3' := (x1.cell (p := ⟨b2, off2 + k, none⟩) (by show b2 < _; omega)).trans q3; have c0' := (x1.cell (p := ⟨b, off + k, none⟩) (by show b < _; omega)).trans c0; have zx1 := x1.size; replace hc0 := hc0.below x1 (by omega); replace hc1 := hc1.below x1 (by omega); replace hr := hr.below x1 (by omega); replace hv := hv.below x1 (by omega); replace kX := kX.below x1 (by omega); replace hbW := Below.step x1 (by omega) hbW; clear x1; obtain ⟨r0, r1, r2⟩ := kX.c3)
                | (go_at_call 35; refine (l20Limit_any (.slice AR rules.length CR) rules lo1 hi1 (.slice AH hol.length CH) hol lo2 hi2 k (c.befAt k) s ex _ hr (by omega) hm1 hms1 hv (by omega) hm2 HS.out hf (by omega) (by omega)).mono ?_; rintro e y2 ⟨rfl, x2⟩; have q3'' := (x2.cell (p := ⟨b2, off2 + k, none⟩) (by show b2 < _; omega)).trans q3'; have c0'' := (x2.cell (p := ⟨b, off + k, none⟩) (by show b < _; omega)).trans c0'; have zx2 := x2.size; replace hc0 := hc0.below x2 (by omega); replace hc1 := hc1.below x2 (by omega); replace hr := hr.below x2 (by omega); replace hv := hv.below x2 (by omega); replace kX := kX.below x2 (by omega); replace hbW := Below.step x2 (by omega) hbW; clear x2; obtain ⟨s0, s1, s2⟩ := kX.c3))
            go_wp2_with fail
            go_roundw
            case rel => exact ⟨k + 1, by omega, by go_num, range_all_succ HA.out (by rw [HL.out]; simpa using hlw), by (repeat (first | with_reducible assumption | with_reducible exact Below.refl _ _ | with_reducible refine Below.setCell ?_ ?_ _ | with_reducible refine Below.alloc ?_ ?_ _ | with_reducible refine Below.drew ?_ | with_reducible refine below_drewN ?_ _ | with_reducible refine Below.step (by with_reducible assumption) ?_ ?_ | omega | (simp <;> omega) | (simp; done)))⟩
            case measure => simp [intOf]; omega
          · have hgt : lastCourt hol (c.befAt k) (spanOf s ex) < d := by omega
            go_region_held3 (fun w' => w'.cell? ⟨w.heap.size, 0, none⟩ = some (.int .i64 c.start) ∧ w'.cell? ⟨w.heap.size, 1, none⟩ = some (.slice (some ⟨b, off, none⟩) c.done.length C0) ∧ w'.cell? ⟨w.heap.size, 2, none⟩ = some (.slice (some ⟨b2, off2, none⟩) c.ext.length C1) ∧ w'.cell? ⟨b2, off2 + k, none⟩ = some (.bool ex) ∧ w'.cell? ⟨b, off + k, none⟩ = some (.int .i64 d)) (go_keep)
              (first
                | (go_at_call 34; refine (l20Before_any c (.slice (some ⟨b, off, none⟩) c.done.length C0) (.slice (some ⟨b2, off2, none⟩) c.ext.length C1) lo3 hi3 k _ (hc0.below (B := wr.heap.size) (Below.refl _ wr).drew (by omega)) (hc1.below (B := wr.heap.size) (Below.refl _ wr).drew (by omega)) (by show _ ≤ wr.heap.size; omega) hcs (by omega)).mono ?_; rintro e y1 ⟨rfl, x1⟩; replace x1 : Below wr.heap.size wr y1 := Below.undrew x1; have q3' := (x1.cell (p := ⟨b2, off2 + k, none⟩) (by show b2 < _; omega)).trans q3; have c0' := (x1.cell (p := ⟨b, off + k, none⟩) (by show b < _; omega)).trans c0; have zx1 := x1.size; replace hc0 := hc0.below x1 (by omega); replace hc1 := hc1.below x1 (by omega); replace hr := hr.below x1 (by omega); replace hv := hv.below x1 (by omega); replace kX := kX.below x1 (by omega); replace hbW := Below.step x1 (by omega) hbW; clear x1; obtain ⟨r0, r1, r2⟩ := kX.c3)
                | (go_at_call 35; refine (l20Limit_any (.slice AR rules.length CR) rules lo1 hi1 (.slice AH hol.length CH) hol lo2 hi2 k (c.befAt k) s ex _ hr (by omega) hm1 hms1 hv (by omega) hm2 HS.out hf (by omega) (by omega)).mono ?_; rintro e y2 ⟨rfl, x2⟩; have q3'' := (x2.cell (p := ⟨b2, off2 + k, none⟩) (by show b2 < _; omega)).trans q3'; have c0'' := (x2.cell (p := ⟨b, off + k, none⟩) (by show b < _; omega)).trans c0'; have zx2 := x2.size; replace hc0 := hc0.below x2 (by omega); replace hc1 := hc1.below x2 (by omega); replace hr := hr.below x2 (by omega); replace hv := hv.below x2 (by omega); replace kX := kX.below x2 (by omega); replace hbW := Below.step x2 (by omega) hbW; clear x2; obtain ⟨s0, s1, s2⟩ := kX.c3))
            go_wp2_with fail
            go_ret2
            rw [HF.out]
            exact ⟨by rw [range_all_false (p := lawAt rules hol c) (by rw [HL.out]; simpa using hlw) hlt] <;> rfl, by (repeat (first | with_reducible assumption | with_reducible exact Below.refl _ _ | with_reducible refine Below.setCell ?_ ?_ _ | with_reducible refine Below.alloc ?_ ?_ _ | with_reducible refine Below.drew ?_ | with_reducible refine below_drewN ?_ _ | with_reducible refine Below.step (by with_reducible assumption) ?_ ?_ | omega | (simp <;> omega) | (simp; done)))⟩
        · have HK := Lib.hid (show (List.range c.done.length).all (lawAt rules hol c) = true by have := HA.out; rwa [show k = c.done.length by omega] at this)
          go_wp2_with fail
          go_ret2
          rw [HF.out]
          exact ⟨by rw [HK.out] <;> rfl, by (repeat (first | with_reducible assumption | with_reducible exact Below.refl _ _ | with_reducible refine Below.setCell ?_ ?_ _ | with_reducible refine Below.alloc ?_ ?_ _ | with_reducible refine Below.drew ?_ | with_reducible refine below_drewN ?_ _ | with_reducible refine Below.step (by with_reducible assumption) ?_ ?_ | omega | (simp <;> omega) | (simp; done)))⟩
end Go.Proofs.Ytfafcicbfgdmcaa
