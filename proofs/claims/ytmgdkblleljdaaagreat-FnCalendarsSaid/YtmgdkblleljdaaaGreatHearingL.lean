/- Lists of Hearing: whether they are as described. Written by a program (gen_are.py). -/
import Derived.Test.YtmgdkblleljdaaaGreatHearingW
import Derived.BigQuiet
import Derived.Deep.QuietTactic
namespace Go.Proofs.YtmgdkblleljdaaaGreat
open Go.RowKit
set_option linter.unusedVariables false

def HearingIdx (b : Bool) (r : Int) : Prop := decide (0 ≤ r) = b
theorem RdHearing.any_map {rs : List HearingR} {n : ByteArray} {k : Nat} : ((rs.map HearingR.h).take k).any (Hearing.coded n) = (rs.take k).any (fun r => Hearing.coded n r.h) := by
  rw [← List.map_take, List.any_map]; rfl
set_option maxHeartbeats 400000 in
theorem hearingClosure_any (t : Hearing) (p0 : Value) (n : ByteArray) (b off : Nat) (w : World) (hc : w.cell? ⟨b, off, none⟩ = some (.string n)) (hb : b < w.heap.size) :
    Calls Tryz.prog 64 #[.agg #[.string t.code, .int .i64 t.len, p0, .int .i64 t.last], .pointer (some ⟨b, off, none⟩)] w fun e w' => e = .returned (.bool (Hearing.coded n t)) ∧ Below w.heap.size w w' := by
  go_enter Tryz.func64, Tryz.ntmps64
  go_wp2
  go_ret
  exact ⟨rfl, by (repeat (first | with_reducible assumption | with_reducible exact Below.refl _ _ | with_reducible refine Below.setCell ?_ ?_ _ | with_reducible refine Below.alloc ?_ ?_ _ | with_reducible refine Below.drew ?_ | with_reducible refine below_drewN ?_ _ | with_reducible refine Below.step (by with_reducible assumption) ?_ ?_ | omega | (simp <;> omega) | (simp; done)))⟩

set_option maxHeartbeats 800000 in
theorem hearingIndexFunc_any (v : Value) (rs : List HearingR) (lo hi : Nat) (n : ByteArray) (b off : Nat) (w : World) (h : RdF HearingR.enc 4 w lo hi v rs) (hh : hi ≤ w.heap.size) (hm : rs.length ≤ 1048576)
    (hc : w.cell? ⟨b, off, none⟩ = some (.string n)) (hb : b < w.heap.size) :
    Calls Tryz.prog 79 #[v, .func (.func 64) #[] #[.pointer (some ⟨b, off, none⟩)]] w fun e w' => RetI (HearingIdx (rs.any fun r => Hearing.coded n r.h)) w e w' := by
  obtain ⟨A, c, rfl, hcap⟩ := h.form
  go_enter Tryz.func79, Tryz.ntmps79
  go_wp2
  go_loopw [5, 8] (fun _ i wr => ∃ k : Nat, k ≤ rs.length ∧ i = .int .i64 k ∧ Hid ((rs.take k).any (fun r => Hearing.coded n r.h) = false) ∧ Below w.heap.size w wr) (fun _ i _ => rs.length - (intOf i).toNat)
  case atStart => exact ⟨0, Nat.zero_le _, rfl, rfl, by (repeat (first | with_reducible assumption | with_reducible exact Below.refl _ _ | with_reducible refine Below.setCell ?_ ?_ _ | with_reducible refine Below.alloc ?_ ?_ _ | with_reducible refine Below.drew ?_ | with_reducible refine below_drewN ?_ _ | with_reducible refine Below.step (by with_reducible assumption) ?_ ?_ | omega | (simp <;> omega) | (simp; done)))⟩
  case round =>
    obtain ⟨k, hk, rfl, HA, hbel⟩ := hrel
    have z0 := hbel.size
    by_cases hlt : k < rs.length
    · obtain ⟨r, b', off', HS, rfl, -, hbw, c0, c1, c2, c3⟩ := RdHearing.at h hbel hh hlt
      have hc' : wr.cell? ⟨b, off, none⟩ = some (.string n) := (hbel.cell (p := ⟨b, off, none⟩) hb).trans hc
      clear hc
      go_wp2_with (go_at_call 64; refine (hearingClosure_any r.h r.p0 n b off _ hc' (by omega)).mono ?_; rintro e w1 ⟨rfl, hb1⟩)
      · have hf : Hearing.coded n r.h = true := by assumption
        go_ret
        exact ⟨_, rfl, by rw [HearingIdx, any_true_of (p := fun (r : HearingR) => Hearing.coded n r.h) HS.out hf]; simp, by (repeat (first | with_reducible assumption | with_reducible exact Below.refl _ _ | with_reducible refine Below.setCell ?_ ?_ _ | with_reducible refine Below.alloc ?_ ?_ _ | with_reducible refine Below.drew ?_ | with_reducible refine below_drewN ?_ _ | with_reducible refine Below.step (by with_reducible assumption) ?_ ?_ | omega | (simp <;> omega) | (simp; done)))⟩
      · have hf : Hearing.coded n r.h = false := by assumption
        go_roundw
        case rel => exact ⟨k + 1, by omega, by go_num, Lib.hid (any_take_succ (p := fun (r : HearingR) => Hearing.coded n r.h) HA.out HS.out hf), by (repeat (first | with_reducible assumption | with_reducible exact Below.refl _ _ | with_reducible refine Below.setCell ?_ ?_ _ | with_reducible refine Below.alloc ?_ ?_ _ | with_reducible refine Below.drew ?_ | with_reducible refine below_drewN ?_ _ | with_reducible refine Below.step (by with_reducible assumption) ?_ ?_ | omega | (simp <;> omega) | (simp; done)))⟩
        case measure => simp [intOf]; omega
    · go_wp2
      go_ret
      exact ⟨_, rfl, by rw [HearingIdx, any_of_take HA.out hlt]; simp, by (repeat (first | with_reducible assumption | with_reducible exact Below.refl _ _ | with_reducible refine Below.setCell ?_ ?_ _ | with_reducible refine Below.alloc ?_ ?_ _ | with_reducible refine Below.drew ?_ | with_reducible refine below_drewN ?_ _ | with_reducible refine Below.step (by with_reducible assumption) ?_ ?_ | omega | (simp <;> omega) | (simp; done)))⟩

set_option maxHeartbeats 400000 in
theorem hearingContains_any (v : Value) (rs : List HearingR) (lo hi : Nat) (n : ByteArray) (b off : Nat) (w : World) (h : RdF HearingR.enc 4 w lo hi v rs) (hh : hi ≤ w.heap.size) (hm : rs.length ≤ 1048576)
    (hc : w.cell? ⟨b, off, none⟩ = some (.string n)) (hb : b < w.heap.size) :
    Calls Tryz.prog 63 #[v, .func (.func 64) #[] #[.pointer (some ⟨b, off, none⟩)]] w fun e w' => e = .returned (.bool (rs.any fun r => Hearing.coded n r.h)) ∧ Below w.heap.size w w' := by
  have h0 := h
  obtain ⟨A, c, rfl, hcap⟩ := h.form
  clear h
  go_enter Tryz.func63, Tryz.ntmps63
  go_wp2_with fail
  refine (hearingIndexFunc_any _ rs _ _ n b off _ h0 hh hm hc hb).mono ?_
  rintro e w1 ⟨r, rfl, hr, hb1⟩
  have HR := Lib.hid hr; clear hr
  go_wp2_with fail
  go_ret
  exact ⟨ret_bool HR.out, by (repeat (first | with_reducible assumption | with_reducible exact Below.refl _ _ | with_reducible refine Below.setCell ?_ ?_ _ | with_reducible refine Below.alloc ?_ ?_ _ | with_reducible refine Below.drew ?_ | with_reducible refine below_drewN ?_ _ | with_reducible refine Below.step (by with_reducible assumption) ?_ ?_ | omega | (simp <;> omega) | (simp; done)))⟩

set_option maxRecDepth 100000 in
set_option maxHeartbeats 2000000 in
theorem areHearings_any (v : Value) (xs : List Hearing) (lo hi : Nat) (w : World) (h : RdHearing w lo hi v xs) (hh : hi ≤ w.heap.size) (hm : xs.length ≤ 1048576) (hms : ∀ x ∈ xs, Hearing.small x) :
    Calls Tryz.prog 47 #[v] w fun e w' => e = .returned (.bool (hearingsOk xs)) ∧ Below w.heap.size w w' := by
  obtain ⟨rs, rfl, hR, hP⟩ := h
  rw [List.length_map] at hm
  obtain ⟨A, c, rfl, hcap⟩ := hR.form
  have HM := Lib.hid hms; clear hms
  have HP := Lib.hid hP; clear hP
  go_enter Tryz.func47, Tryz.ntmps47
  go_wp2
  go_loopw [3, 4, 7] (fun _ _ i wr => ∃ k : Nat, k ≤ rs.length ∧ i = .int .i64 k ∧ Hid (prefAll Hearing.pref (rs.map HearingR.h) k = true) ∧ Below w.heap.size w wr) (fun _ _ i _ => rs.length - (intOf i).toNat)
  case atStart => exact ⟨0, Nat.zero_le _, rfl, rfl, by (repeat (first | with_reducible assumption | with_reducible exact Below.refl _ _ | with_reducible refine Below.setCell ?_ ?_ _ | with_reducible refine Below.alloc ?_ ?_ _ | with_reducible refine Below.drew ?_ | with_reducible refine below_drewN ?_ _ | with_reducible refine Below.step (by with_reducible assumption) ?_ ?_ | omega | (simp <;> omega) | (simp; done)))⟩
  case round =>
    obtain ⟨k, hk, rfl, HA, hbel⟩ := hrel
    have z0 := hbel.size
    by_cases hlt : k < rs.length
    · obtain ⟨r, b, off, HS, rfl, -, hbw, c0, c1, c2, c3⟩ := RdHearing.at hR hbel hh hlt
      have ht := (hR.pre (k := k) (by omega)).below hbel hh
      have hrm := List.mem_of_getElem? HS.out
      have hsm := HM.out r.h (List.mem_map.2 ⟨r, hrm, rfl⟩)
      have HPr := Lib.hid (HP.out r hrm)
      clear hrm
      obtain ⟨PA0, PC0, hpe0, hpc0⟩ := (HPr.out).form
      have HP0 : RdF encStr 1 w lo hi (.slice PA0 r.h.people.length PC0) r.h.people := hpe0 ▸ HPr.out
      rw [hpe0] at c2
      clear hpe0
      have hki : (k : Int) ≤ (c : Int) := by omega
      have hlk : (rs.take k).length ≤ 1048576 := by simp; omega
      go_wp2_with fail
      have kX := Blk.newAt (w := wr) (n := wr.heap.size) (t := 56) (cs := #[.string r.h.code, .int .i64 r.h.len, .slice PA0 r.h.people.length PC0, .int .i64 r.h.last]) rfl
      have zX : (wr.alloc (.cells #[.string r.h.code, .int .i64 r.h.len, .slice PA0 r.h.people.length PC0, .int .i64 r.h.last] 56)).heap.size = wr.heap.size + 1 := by simp
      refine (isHearing_any r.h (.slice PA0 r.h.people.length PC0) lo hi _ ((HP0.below hbel hh).below (B := wr.heap.size) ((Below.refl _ _).alloc (Nat.le_refl _) _) (by omega)) (by simp; omega) hsm).mono ?_
      rintro e w1 ⟨rfl, hb1⟩
      replace kX := kX.below hb1 (by simp)
      have z1 := hb1.size
      have hc1 : w1.cell? ⟨wr.heap.size, 0, none⟩ = some (.string r.h.code) := kX.cell 0
      have ht1 := (ht.below (B := wr.heap.size) ((Below.refl _ _).alloc (Nat.le_refl _) (.cells #[.string r.h.code, .int .i64 r.h.len, .slice PA0 r.h.people.length PC0, .int .i64 r.h.last] 56)) (by omega)).below hb1 (by omega)
      cases ho : Hearing.ok r.h with
      | false =>
        go_wp2_with fail
        go_ret
        exact ⟨ret_bool (by rw [hearingsOk, prefOk_false (map_at (f := HearingR.h) rfl HS.out) (by rw [Hearing.pref, ho]; rfl)]; rfl), by (repeat (first | with_reducible assumption | with_reducible exact Below.refl _ _ | with_reducible refine Below.setCell ?_ ?_ _ | with_reducible refine Below.alloc ?_ ?_ _ | with_reducible refine Below.drew ?_ | with_reducible refine below_drewN ?_ _ | with_reducible refine Below.step (by with_reducible assumption) ?_ ?_ | omega | (simp <;> omega) | (simp; done)))⟩
      | true =>
        go_wp2_with fail
        refine (hearingContains_any _ (rs.take k) lo hi r.h.code _ _ _ ht1 (by omega) hlk hc1 (by omega)).mono ?_
        rintro e w2 ⟨rfl, hb2⟩
        cases hf : (rs.take k).any (fun q => Hearing.coded r.h.code q.h) with
        | true =>
          go_wp2_with fail
          go_ret
          exact ⟨ret_bool (by rw [hearingsOk, prefOk_false (map_at (f := HearingR.h) rfl HS.out) (by rw [Hearing.pref, ho, RdHearing.any_map, hf]; rfl)]; rfl), by (repeat (first | with_reducible assumption | with_reducible exact Below.refl _ _ | with_reducible refine Below.setCell ?_ ?_ _ | with_reducible refine Below.alloc ?_ ?_ _ | with_reducible refine Below.drew ?_ | with_reducible refine below_drewN ?_ _ | with_reducible refine Below.step (by with_reducible assumption) ?_ ?_ | omega | (simp <;> omega) | (simp; done)))⟩
        | false =>
          go_wp2_with fail
          go_roundw
          case rel => exact ⟨k + 1, by omega, by go_num, prefAll_succ HA.out (map_at (f := HearingR.h) rfl HS.out) (by rw [Hearing.pref, ho, RdHearing.any_map, hf]; rfl), by (repeat (first | with_reducible assumption | with_reducible exact Below.refl _ _ | with_reducible refine Below.setCell ?_ ?_ _ | with_reducible refine Below.alloc ?_ ?_ _ | with_reducible refine Below.drew ?_ | with_reducible refine below_drewN ?_ _ | with_reducible refine Below.step (by with_reducible assumption) ?_ ?_ | omega | (simp <;> omega) | (simp; done)))⟩
          case measure => simp [intOf]; omega
    · go_wp2_with (go_at_call 42; refine (few_any _ _ _).mono ?_; rintro e w' ⟨rfl, rfl⟩)
      go_ret
      exact ⟨ret_bool (by rw [hearingsOk, prefOk_of HA.out (by rw [List.length_map]; exact hk) (by rw [List.length_map]; exact hlt), List.length_map, Bool.eq_iff_iff]; simp <;> omega), by (repeat (first | with_reducible assumption | with_reducible exact Below.refl _ _ | with_reducible refine Below.setCell ?_ ?_ _ | with_reducible refine Below.alloc ?_ ?_ _ | with_reducible refine Below.drew ?_ | with_reducible refine below_drewN ?_ _ | with_reducible refine Below.step (by with_reducible assumption) ?_ ?_ | omega | (simp <;> omega) | (simp; done)))⟩

set_option maxRecDepth 100000 in
set_option maxHeartbeats 2000000 in
theorem sAreHearings_any (v : Value) (xs : List Hearing) (lo hi : Nat) (w : World) (h : RdHearing w lo hi v xs) (hh : hi ≤ w.heap.size) (hm : xs.length ≤ 1048576) (hms : ∀ x ∈ xs, Hearing.small x) :
    Calls Tryz.prog 50 #[v] w fun e w' => e = .returned (.bool (hearingsOk xs)) ∧ Below w.heap.size w w' := by
  obtain ⟨rs, rfl, hR, hP⟩ := h
  rw [List.length_map] at hm
  obtain ⟨A, c, rfl, hcap⟩ := hR.form
  have HM := Lib.hid hms; clear hms
  have HP := Lib.hid hP; clear hP
  go_enter Tryz.func50, Tryz.ntmps50
  go_wp2
  go_loopw [3, 4] (fun i _ wr => ∃ k : Nat, k ≤ rs.length ∧ i = .int .i64 k ∧ Hid (prefAll Hearing.pref (rs.map HearingR.h) k = true) ∧ Below w.heap.size w wr) (fun i _ _ => rs.length - (intOf i).toNat)
  case atStart => exact ⟨0, Nat.zero_le _, rfl, rfl, by (repeat (first | with_reducible assumption | with_reducible exact Below.refl _ _ | with_reducible refine Below.setCell ?_ ?_ _ | with_reducible refine Below.alloc ?_ ?_ _ | with_reducible refine Below.drew ?_ | with_reducible refine below_drewN ?_ _ | with_reducible refine Below.step (by with_reducible assumption) ?_ ?_ | omega | (simp <;> omega) | (simp; done)))⟩
  case round =>
    obtain ⟨k, hk, rfl, HA, hbel⟩ := hrel
    have z0 := hbel.size
    by_cases hlt : k < rs.length
    · obtain ⟨r, b, off, HS, rfl, -, hbw, c0, c1, c2, c3⟩ := RdHearing.at hR hbel hh hlt
      have hrm := List.mem_of_getElem? HS.out
      have hsm := HM.out r.h (List.mem_map.2 ⟨r, hrm, rfl⟩)
      have HPr := Lib.hid (HP.out r hrm)
      clear hrm
      have hki : (k : Int) < (rs.length : Int) := by omega
      go_wp2_with fail
      refine (l19Is_any r.h r.p0 lo hi _ (HPr.out.below hbel hh) (by omega) hsm).mono ?_
      rintro e wo ⟨rfl, hbo⟩
      have hW := Below.step hbo z0 hbel
      clear hbo c0 c1 c2 c3
      cases ho : Hearing.ok r.h with
      | false =>
        go_wp2_with fail
        go_ret
        exact ⟨ret_bool (by rw [hearingsOk, prefOk_false (map_at (f := HearingR.h) rfl HS.out) (by rw [Hearing.pref, ho]; rfl)]; rfl), by (repeat (first | with_reducible assumption | with_reducible exact Below.refl _ _ | with_reducible refine Below.setCell ?_ ?_ _ | with_reducible refine Below.alloc ?_ ?_ _ | with_reducible refine Below.drew ?_ | with_reducible refine below_drewN ?_ _ | with_reducible refine Below.step (by with_reducible assumption) ?_ ?_ | omega | (simp <;> omega) | (simp; done)))⟩
      | true =>
        have HO := Lib.hid ho; clear ho
        go_wp2_with fail
        clear hbel
        go_loopw [4] (fun i wi => ∃ j : Nat, j ≤ k ∧ i = .int .i64 j ∧ Hid ((rs.take j).any (fun q => Hearing.coded r.h.code q.h) = false) ∧ Below w.heap.size w wi) (fun i _ => k - (intOf i).toNat)
        case atStart => exact ⟨0, Nat.zero_le _, rfl, rfl, hW⟩
        case round =>
          obtain ⟨j, hj, rfl, HJ, hi'⟩ := hrel
          have z1 := hi'.size
          by_cases hjk : j < k
          · obtain ⟨q, b2, off2, HS', hA2, -, hbw2, d0, d1, d2, d3⟩ := RdHearing.at hR hi' hh (show j < rs.length by omega)
            obtain ⟨r2, b3, off3, HS2, hA3, -, hbw3, x0, x1, x2, x3⟩ := RdHearing.at hR hi' hh hlt
            injection hA2 with hA2; injection hA2 with e1 e2; subst e1 e2
            injection hA3 with hA3; injection hA3 with e1 e2; subst e1 e2
            have er : r2 = r := by have h1 := HS2.out; rw [HS.out] at h1; injection h1 with h1; exact h1.symm
            subst er
            clear HS2 d1 d2 d3 x1 x2 x3
            have hji : (j : Int) < (rs.length : Int) := by omega
            have hjk' : (j : Int) < (k : Int) := by omega
            cases hf : Hearing.coded r2.h.code q.h with
            | true =>
              have HT := Lib.hid (any_true_of (p := fun (q : HearingR) => Hearing.coded r2.h.code q.h) (xs := rs.take k) (k := j) (by rw [List.getElem?_take, if_pos hjk]; exact HS'.out) hf)
              have hf' : (q.h.code.toList == r2.h.code.toList) = true := hf
              clear hf
              go_wp2_with fail
              go_quiet (fail)
              go_wp2_with fail
              go_ret
              exact ⟨ret_bool (by rw [hearingsOk, prefOk_false (map_at (f := HearingR.h) rfl HS.out) (by rw [Hearing.pref, HO.out, RdHearing.any_map, HT.out]; rfl)]; rfl), by (repeat (first | with_reducible assumption | with_reducible exact Below.refl _ _ | with_reducible refine Below.setCell ?_ ?_ _ | with_reducible refine Below.alloc ?_ ?_ _ | with_reducible refine Below.drew ?_ | with_reducible refine below_drewN ?_ _ | with_reducible refine Below.step (by with_reducible assumption) ?_ ?_ | omega | (simp <;> omega) | (simp; done)))⟩
            | false =>
              have HF := Lib.hid hf
              have hf' : (q.h.code.toList == r2.h.code.toList) = false := hf
              clear hf
              go_wp2_with fail
              go_quiet (fail)
              go_wp2_with fail
              go_roundw
              case rel => exact ⟨j + 1, by omega, by go_num, Lib.hid (any_take_succ (p := fun (q : HearingR) => Hearing.coded r2.h.code q.h) HJ.out HS'.out HF.out), by (repeat (first | with_reducible assumption | with_reducible exact Below.refl _ _ | with_reducible refine Below.setCell ?_ ?_ _ | with_reducible refine Below.alloc ?_ ?_ _ | with_reducible refine Below.drew ?_ | with_reducible refine below_drewN ?_ _ | with_reducible refine Below.step (by with_reducible assumption) ?_ ?_ | omega | (simp <;> omega) | (simp; done)))⟩
              case measure => simp [intOf]; omega
          · have HJ' : Hid ((rs.take k).any (fun q => Hearing.coded r.h.code q.h) = false) := by
              have e : j = k := by omega
              rw [← e]; exact HJ
            go_wp2_with fail
            go_roundw
            case rel => exact ⟨k + 1, by omega, by go_num, prefAll_succ HA.out (map_at (f := HearingR.h) rfl HS.out) (by rw [Hearing.pref, HO.out, RdHearing.any_map, HJ'.out]; rfl), by (repeat (first | with_reducible assumption | with_reducible exact Below.refl _ _ | with_reducible refine Below.setCell ?_ ?_ _ | with_reducible refine Below.alloc ?_ ?_ _ | with_reducible refine Below.drew ?_ | with_reducible refine below_drewN ?_ _ | with_reducible refine Below.step (by with_reducible assumption) ?_ ?_ | omega | (simp <;> omega) | (simp; done)))⟩
            case measure => simp [intOf]; omega
    · go_wp2_with fail
      go_ret
      exact ⟨ret_bool (by rw [hearingsOk, prefOk_of HA.out (by rw [List.length_map]; exact hk) (by rw [List.length_map]; exact hlt), List.length_map, Bool.eq_iff_iff]; simp <;> omega), by (repeat (first | with_reducible assumption | with_reducible exact Below.refl _ _ | with_reducible refine Below.setCell ?_ ?_ _ | with_reducible refine Below.alloc ?_ ?_ _ | with_reducible refine Below.drew ?_ | with_reducible refine below_drewN ?_ _ | with_reducible refine Below.step (by with_reducible assumption) ?_ ?_ | omega | (simp <;> omega) | (simp; done)))⟩
end Go.Proofs.YtmgdkblleljdaaaGreat
