/- Walks: whether demands are ones on calendars. -/
import Derived.Test.YtgpknnlphabpkaaGreatBothW
import Derived.Test.YtgpknnlphabpkaaGreatDemandA
namespace Go.Proofs.YtgpknnlphabpkaaGreat
open Go.RowKit
set_option linter.unusedVariables false

def Demand.okFor (n m : Nat) (d : Demand) : Bool :=
  if d.kind = 0 ∨ d.kind = 3 then decide (0 ≤ d.a ∧ d.a < n ∧ 0 ≤ d.b ∧ d.b < n ∧ d.a ≠ d.b)
  else if d.kind = 1 ∨ d.kind = 2 then decide (0 ≤ d.a ∧ d.a < n ∧ 0 ≤ d.b ∧ d.b < m) else false
def areDemands (xs : List Hearing) (ps : List Slot) (ds : List Demand) : Bool := bothOk xs ps && (ds.all (Demand.okFor xs.length ps.length) && decide (ds.length ≤ 8))

set_option maxRecDepth 100000 in
set_option maxHeartbeats 4000000 in
theorem isDemand_any (A : Option Addr) (n c : Nat) (A2 : Option Addr) (m c2 : Nat) (d : Demand) (w : World) (hn : n ≤ 1048576) (hm : m ≤ 1048576) :
    Calls Tryz.prog 86 #[.slice A n c, .slice A2 m c2, .agg #[.int .i64 d.kind, .int .i64 d.a, .int .i64 d.b]] w fun e w' => e = .returned (.bool (d.okFor n m)) ∧ Below w.heap.size w w' := by
  obtain ⟨kd, a, b⟩ := d
  by_cases h0 : kd = 0
  · subst h0
    go_enter Tryz.func86, Tryz.ntmps86
    go_wp2
    all_goals (go_ret; exact ⟨ret_bool (by first | (rw [Bool.eq_iff_iff]; simp [Demand.okFor] <;> omega) | (rw [Bool.eq_iff_iff]; simp_all [Demand.okFor] <;> omega)), by (repeat (first | with_reducible assumption | with_reducible exact Below.refl _ _ | with_reducible refine Below.setCell ?_ ?_ _ | with_reducible refine Below.alloc ?_ ?_ _ | with_reducible refine Below.drew ?_ | with_reducible refine below_drewN ?_ _ | with_reducible refine Below.step (by with_reducible assumption) ?_ ?_ | omega | (simp <;> omega) | (simp; done)))⟩)
  by_cases h3 : kd = 3
  · subst h3
    go_enter Tryz.func86, Tryz.ntmps86
    go_wp2
    all_goals (go_ret; exact ⟨ret_bool (by first | (rw [Bool.eq_iff_iff]; simp [Demand.okFor] <;> omega) | (rw [Bool.eq_iff_iff]; simp_all [Demand.okFor] <;> omega)), by (repeat (first | with_reducible assumption | with_reducible exact Below.refl _ _ | with_reducible refine Below.setCell ?_ ?_ _ | with_reducible refine Below.alloc ?_ ?_ _ | with_reducible refine Below.drew ?_ | with_reducible refine below_drewN ?_ _ | with_reducible refine Below.step (by with_reducible assumption) ?_ ?_ | omega | (simp <;> omega) | (simp; done)))⟩)
  by_cases h1 : kd = 1
  · subst h1
    go_enter Tryz.func86, Tryz.ntmps86
    go_wp2
    all_goals (go_ret; exact ⟨ret_bool (by first | (rw [Bool.eq_iff_iff]; simp [Demand.okFor] <;> omega) | (rw [Bool.eq_iff_iff]; simp_all [Demand.okFor] <;> omega)), by (repeat (first | with_reducible assumption | with_reducible exact Below.refl _ _ | with_reducible refine Below.setCell ?_ ?_ _ | with_reducible refine Below.alloc ?_ ?_ _ | with_reducible refine Below.drew ?_ | with_reducible refine below_drewN ?_ _ | with_reducible refine Below.step (by with_reducible assumption) ?_ ?_ | omega | (simp <;> omega) | (simp; done)))⟩)
  by_cases h2 : kd = 2
  · subst h2
    go_enter Tryz.func86, Tryz.ntmps86
    go_wp2
    all_goals (go_ret; exact ⟨ret_bool (by first | (rw [Bool.eq_iff_iff]; simp [Demand.okFor] <;> omega) | (rw [Bool.eq_iff_iff]; simp_all [Demand.okFor] <;> omega)), by (repeat (first | with_reducible assumption | with_reducible exact Below.refl _ _ | with_reducible refine Below.setCell ?_ ?_ _ | with_reducible refine Below.alloc ?_ ?_ _ | with_reducible refine Below.drew ?_ | with_reducible refine below_drewN ?_ _ | with_reducible refine Below.step (by with_reducible assumption) ?_ ?_ | omega | (simp <;> omega) | (simp; done)))⟩)
  go_enter Tryz.func86, Tryz.ntmps86
  go_wp2
  all_goals (go_ret; exact ⟨ret_bool (by simp [Demand.okFor, h0, h1, h2, h3]), by (repeat (first | with_reducible assumption | with_reducible exact Below.refl _ _ | with_reducible refine Below.setCell ?_ ?_ _ | with_reducible refine Below.alloc ?_ ?_ _ | with_reducible refine Below.drew ?_ | with_reducible refine below_drewN ?_ _ | with_reducible refine Below.step (by with_reducible assumption) ?_ ?_ | omega | (simp <;> omega) | (simp; done)))⟩)
set_option maxRecDepth 100000 in
set_option maxHeartbeats 4000000 in
theorem areDemands_any (v : Value) (xs : List Hearing) (lo hi : Nat) (v2 : Value) (ps : List Slot) (lo2 hi2 : Nat) (v3 : Value) (ds : List Demand) (lo3 hi3 : Nat) (w : World) (h : RdHearing w lo hi v xs) (hh : hi ≤ w.heap.size) (hm : xs.length ≤ 1048576) (hms : ∀ x ∈ xs, Hearing.small x) (h2 : RdF Slot.enc 3 w lo2 hi2 v2 ps) (hh2 : hi2 ≤ w.heap.size) (hm2 : ps.length ≤ 1048576) (h3 : RdF Demand.enc 3 w lo3 hi3 v3 ds) (hh3 : hi3 ≤ w.heap.size) (hm3 : ds.length ≤ 1048576) :
    Calls Tryz.prog 47 #[v, v2, v3] w fun e w' => e = .returned (.bool (areDemands xs ps ds)) ∧ Below w.heap.size w w' := by
  obtain ⟨A1, c1, rfl, hcap1⟩ : ∃ A c, v = .slice A xs.length c ∧ xs.length ≤ c := by
    obtain ⟨rs, rfl, hR, -⟩ := h
    obtain ⟨A, c, hv, hc⟩ := hR.form
    exact ⟨A, c, by rw [hv, List.length_map], by rw [List.length_map]; exact hc⟩
  obtain ⟨A2, c2, rfl, hcap2⟩ := h2.form
  obtain ⟨A3, c3, rfl, hcap3⟩ := h3.form
  go_enter Tryz.func47, Tryz.ntmps47
  go_wp2_with fail
  refine (bothOk_any _ xs lo hi _ ps lo2 hi2 _ h hh hm hms h2 hh2 hm2).mono ?_
  rintro e w1 ⟨rfl, b1⟩
  have z1 := b1.size
  clear h h2
  cases hc : bothOk xs ps with
  | false =>
    go_wp2_with fail
    go_ret
    exact ⟨ret_bool (by rw [areDemands, hc]; rfl), by (repeat (first | with_reducible assumption | with_reducible exact Below.refl _ _ | with_reducible refine Below.setCell ?_ ?_ _ | with_reducible refine Below.alloc ?_ ?_ _ | with_reducible refine Below.drew ?_ | with_reducible refine below_drewN ?_ _ | with_reducible refine Below.step (by with_reducible assumption) ?_ ?_ | omega | (simp <;> omega) | (simp; done)))⟩
  | true =>
    have HC := Lib.hid hc; clear hc
    go_wp2_with fail
    go_loopw [8, 15] (fun _ i wr => ∃ k : Nat, k ≤ ds.length ∧ i = .int .i64 k ∧ Hid ((ds.take k).all (Demand.okFor xs.length ps.length) = true) ∧ Below w.heap.size w wr) (fun _ i _ => ds.length - (intOf i).toNat)
    case atStart => exact ⟨0, Nat.zero_le _, rfl, rfl, by (repeat (first | with_reducible assumption | with_reducible exact Below.refl _ _ | with_reducible refine Below.setCell ?_ ?_ _ | with_reducible refine Below.alloc ?_ ?_ _ | with_reducible refine Below.drew ?_ | with_reducible refine below_drewN ?_ _ | with_reducible refine Below.step (by with_reducible assumption) ?_ ?_ | omega | (simp <;> omega) | (simp; done)))⟩
    case round =>
      obtain ⟨k, hk, rfl, HA, hb⟩ := hrel
      have z0 := hb.size
      by_cases hlt : k < ds.length
      · obtain ⟨d, b, off, HS, rfl, -, hbw, d0, d1, d2⟩ := Demand.at h3 hb hh3 hlt
        go_wp2_with (go_at_call 86; refine (isDemand_any _ _ _ _ _ _ d _ hm hm2).mono ?_; rintro e w2 ⟨rfl, hb1⟩)
        · have hf : (!d.okFor xs.length ps.length) = true := by assumption
          go_ret
          exact ⟨ret_bool (by rw [areDemands, HC.out, all_false_of HS.out (by simpa using hf)]; rfl), by (repeat (first | with_reducible assumption | with_reducible exact Below.refl _ _ | with_reducible refine Below.setCell ?_ ?_ _ | with_reducible refine Below.alloc ?_ ?_ _ | with_reducible refine Below.drew ?_ | with_reducible refine below_drewN ?_ _ | with_reducible refine Below.step (by with_reducible assumption) ?_ ?_ | omega | (simp <;> omega) | (simp; done)))⟩
        · have hf : (!d.okFor xs.length ps.length) = false := by assumption
          go_roundw
          case rel => exact ⟨k + 1, by omega, by go_num, Lib.hid (take_all_succ HA.out HS.out (by simpa using hf)), by (repeat (first | with_reducible assumption | with_reducible exact Below.refl _ _ | with_reducible refine Below.setCell ?_ ?_ _ | with_reducible refine Below.alloc ?_ ?_ _ | with_reducible refine Below.drew ?_ | with_reducible refine below_drewN ?_ _ | with_reducible refine Below.step (by with_reducible assumption) ?_ ?_ | omega | (simp <;> omega) | (simp; done)))⟩
          case measure => simp [intOf]; omega
      · go_wp2
        go_ret
        exact ⟨ret_bool (by simp [areDemands, HC.out, all_of_take HA.out hlt] <;> omega), by (repeat (first | with_reducible assumption | with_reducible exact Below.refl _ _ | with_reducible refine Below.setCell ?_ ?_ _ | with_reducible refine Below.alloc ?_ ?_ _ | with_reducible refine Below.drew ?_ | with_reducible refine below_drewN ?_ _ | with_reducible refine Below.step (by with_reducible assumption) ?_ ?_ | omega | (simp <;> omega) | (simp; done)))⟩
set_option maxRecDepth 100000 in
set_option maxHeartbeats 4000000 in
theorem sAreDemands_any (v : Value) (xs : List Hearing) (lo hi : Nat) (v2 : Value) (ps : List Slot) (lo2 hi2 : Nat) (v3 : Value) (ds : List Demand) (lo3 hi3 : Nat) (w : World) (h : RdHearing w lo hi v xs) (hh : hi ≤ w.heap.size) (hm : xs.length ≤ 1048576) (hms : ∀ x ∈ xs, Hearing.small x) (h2 : RdF Slot.enc 3 w lo2 hi2 v2 ps) (hh2 : hi2 ≤ w.heap.size) (hm2 : ps.length ≤ 1048576) (h3 : RdF Demand.enc 3 w lo3 hi3 v3 ds) (hh3 : hi3 ≤ w.heap.size) (hm3 : ds.length ≤ 1048576) :
    Calls Tryz.prog 48 #[v, v2, v3] w fun e w' => e = .returned (.bool (areDemands xs ps ds)) ∧ Below w.heap.size w w' := by
  obtain ⟨A1, c1, rfl, hcap1⟩ : ∃ A c, v = .slice A xs.length c ∧ xs.length ≤ c := by
    obtain ⟨rs, rfl, hR, -⟩ := h
    obtain ⟨A, c, hv, hc⟩ := hR.form
    exact ⟨A, c, by rw [hv, List.length_map], by rw [List.length_map]; exact hc⟩
  obtain ⟨A2, c2, rfl, hcap2⟩ := h2.form
  obtain ⟨A3, c3, rfl, hcap3⟩ := h3.form
  go_enter Tryz.func48, Tryz.ntmps48
  go_wp2_with fail
  refine (l21Code_any _ xs lo hi _ ps lo2 hi2 _ h hh hm hms h2 hh2 hm2).mono ?_
  rintro e w1 ⟨rfl, b1⟩
  have z1 := b1.size
  clear h h2
  have HW1 := Lib.hid (show IntKind.i64.wrap ((xs.length : Int) - 1) = (xs.length : Int) - 1 from IntWalk.i64_in _ (by omega))
  have HW2 := Lib.hid (show IntKind.i64.wrap ((ps.length : Int) - 1) = (ps.length : Int) - 1 from IntWalk.i64_in _ (by omega))
  cases hc : bothOk xs ps with
  | false =>
    rw [bothCode_no hc]
    go_wp2_with fail
    go_ret
    exact ⟨ret_bool (by rw [areDemands, hc]; rfl), by (repeat (first | with_reducible assumption | with_reducible exact Below.refl _ _ | with_reducible refine Below.setCell ?_ ?_ _ | with_reducible refine Below.alloc ?_ ?_ _ | with_reducible refine Below.drew ?_ | with_reducible refine below_drewN ?_ _ | with_reducible refine Below.step (by with_reducible assumption) ?_ ?_ | omega | (simp <;> omega) | (simp; done)))⟩
  | true =>
    rw [bothCode_yes hc]
    have HC := Lib.hid hc; clear hc
    by_cases h8 : ds.length ≤ 8
    rotate_left
    · have h8' : (8 : Int) < (ds.length : Int) := by omega
      go_wp2_with fail
      go_ret
      exact ⟨ret_bool (by rw [areDemands, decide_eq_false h8]; simp), by (repeat (first | with_reducible assumption | with_reducible exact Below.refl _ _ | with_reducible refine Below.setCell ?_ ?_ _ | with_reducible refine Below.alloc ?_ ?_ _ | with_reducible refine Below.drew ?_ | with_reducible refine below_drewN ?_ _ | with_reducible refine Below.step (by with_reducible assumption) ?_ ?_ | omega | (simp <;> omega) | (simp; done)))⟩
    have h8' : ¬ ((8 : Int) < (ds.length : Int)) := by omega
    go_wp2_with fail
    go_loopw [9] (fun i wr => ∃ k : Nat, k ≤ ds.length ∧ i = .int .i64 k ∧ Hid ((ds.take k).all (Demand.okFor xs.length ps.length) = true) ∧ Below w.heap.size w wr) (fun i _ => ds.length - (intOf i).toNat)
    case atStart => exact ⟨0, Nat.zero_le _, rfl, rfl, by (repeat (first | with_reducible assumption | with_reducible exact Below.refl _ _ | with_reducible refine Below.setCell ?_ ?_ _ | with_reducible refine Below.alloc ?_ ?_ _ | with_reducible refine Below.drew ?_ | with_reducible refine below_drewN ?_ _ | with_reducible refine Below.step (by with_reducible assumption) ?_ ?_ | omega | (simp <;> omega) | (simp; done)))⟩
    case round =>
      obtain ⟨k, hk, rfl, HA, hb⟩ := hrel
      have z0 := hb.size
      by_cases hlt : k < ds.length
      · obtain ⟨d, b, off, HS, rfl, -, hbw, d0, d1, d2⟩ := Demand.at h3 hb hh3 hlt
        have HF := Lib.hid (fun (hf : d.okFor xs.length ps.length = false) => show areDemands xs ps ds = false by rw [areDemands, all_false_of HS.out hf]; simp)
        have HT := Lib.hid (fun (hf : d.okFor xs.length ps.length = true) => take_all_succ HA.out HS.out hf)
        clear HA HS
        obtain ⟨kd, a, b'⟩ := d
        by_cases k0 : kd = 0
        · subst k0
          by_cases hab : a = b'
          · subst hab
            go_wp2
            all_goals (have e1 := HW1.out; have e2 := HW2.out; first | (go_ret; exact ⟨ret_bool (by rw [HF.out (by simp [Demand.okFor] <;> omega)] <;> rfl), by (repeat (first | with_reducible assumption | with_reducible exact Below.refl _ _ | with_reducible refine Below.setCell ?_ ?_ _ | with_reducible refine Below.alloc ?_ ?_ _ | with_reducible refine Below.drew ?_ | with_reducible refine below_drewN ?_ _ | with_reducible refine Below.step (by with_reducible assumption) ?_ ?_ | omega | (simp <;> omega) | (simp; done)))⟩) | (go_roundw; (case rel => exact ⟨k + 1, by omega, by go_num, Lib.hid (HT.out (by simp [Demand.okFor] <;> omega)), by (repeat (first | with_reducible assumption | with_reducible exact Below.refl _ _ | with_reducible refine Below.setCell ?_ ?_ _ | with_reducible refine Below.alloc ?_ ?_ _ | with_reducible refine Below.drew ?_ | with_reducible refine below_drewN ?_ _ | with_reducible refine Below.step (by with_reducible assumption) ?_ ?_ | omega | (simp <;> omega) | (simp; done)))⟩); (case measure => simp [intOf]; omega)))
          · have hbne : (a != b') = true := by simpa using hab
            go_wp2
            all_goals (have e1 := HW1.out; have e2 := HW2.out; first | (go_ret; exact ⟨ret_bool (by rw [HF.out (by simp [Demand.okFor] <;> omega)] <;> rfl), by (repeat (first | with_reducible assumption | with_reducible exact Below.refl _ _ | with_reducible refine Below.setCell ?_ ?_ _ | with_reducible refine Below.alloc ?_ ?_ _ | with_reducible refine Below.drew ?_ | with_reducible refine below_drewN ?_ _ | with_reducible refine Below.step (by with_reducible assumption) ?_ ?_ | omega | (simp <;> omega) | (simp; done)))⟩) | (go_roundw; (case rel => exact ⟨k + 1, by omega, by go_num, Lib.hid (HT.out (by simp [Demand.okFor] <;> omega)), by (repeat (first | with_reducible assumption | with_reducible exact Below.refl _ _ | with_reducible refine Below.setCell ?_ ?_ _ | with_reducible refine Below.alloc ?_ ?_ _ | with_reducible refine Below.drew ?_ | with_reducible refine below_drewN ?_ _ | with_reducible refine Below.step (by with_reducible assumption) ?_ ?_ | omega | (simp <;> omega) | (simp; done)))⟩); (case measure => simp [intOf]; omega)))
        by_cases k3 : kd = 3
        · subst k3
          by_cases hab : a = b'
          · subst hab
            go_wp2
            all_goals (have e1 := HW1.out; have e2 := HW2.out; first | (go_ret; exact ⟨ret_bool (by rw [HF.out (by simp [Demand.okFor] <;> omega)] <;> rfl), by (repeat (first | with_reducible assumption | with_reducible exact Below.refl _ _ | with_reducible refine Below.setCell ?_ ?_ _ | with_reducible refine Below.alloc ?_ ?_ _ | with_reducible refine Below.drew ?_ | with_reducible refine below_drewN ?_ _ | with_reducible refine Below.step (by with_reducible assumption) ?_ ?_ | omega | (simp <;> omega) | (simp; done)))⟩) | (go_roundw; (case rel => exact ⟨k + 1, by omega, by go_num, Lib.hid (HT.out (by simp [Demand.okFor] <;> omega)), by (repeat (first | with_reducible assumption | with_reducible exact Below.refl _ _ | with_reducible refine Below.setCell ?_ ?_ _ | with_reducible refine Below.alloc ?_ ?_ _ | with_reducible refine Below.drew ?_ | with_reducible refine below_drewN ?_ _ | with_reducible refine Below.step (by with_reducible assumption) ?_ ?_ | omega | (simp <;> omega) | (simp; done)))⟩); (case measure => simp [intOf]; omega)))
          · have hbne : (a != b') = true := by simpa using hab
            go_wp2
            all_goals (have e1 := HW1.out; have e2 := HW2.out; first | (go_ret; exact ⟨ret_bool (by rw [HF.out (by simp [Demand.okFor] <;> omega)] <;> rfl), by (repeat (first | with_reducible assumption | with_reducible exact Below.refl _ _ | with_reducible refine Below.setCell ?_ ?_ _ | with_reducible refine Below.alloc ?_ ?_ _ | with_reducible refine Below.drew ?_ | with_reducible refine below_drewN ?_ _ | with_reducible refine Below.step (by with_reducible assumption) ?_ ?_ | omega | (simp <;> omega) | (simp; done)))⟩) | (go_roundw; (case rel => exact ⟨k + 1, by omega, by go_num, Lib.hid (HT.out (by simp [Demand.okFor] <;> omega)), by (repeat (first | with_reducible assumption | with_reducible exact Below.refl _ _ | with_reducible refine Below.setCell ?_ ?_ _ | with_reducible refine Below.alloc ?_ ?_ _ | with_reducible refine Below.drew ?_ | with_reducible refine below_drewN ?_ _ | with_reducible refine Below.step (by with_reducible assumption) ?_ ?_ | omega | (simp <;> omega) | (simp; done)))⟩); (case measure => simp [intOf]; omega)))
        by_cases k1 : kd = 1
        · subst k1
          by_cases hq0 : 0 ≤ b' <;> by_cases hq1 : b' ≤ (ps.length : Int) - 1
          all_goals go_wp2
          all_goals (have e1 := HW1.out; have e2 := HW2.out; first | (go_ret; exact ⟨ret_bool (by rw [HF.out (by simp [Demand.okFor] <;> omega)] <;> rfl), by (repeat (first | with_reducible assumption | with_reducible exact Below.refl _ _ | with_reducible refine Below.setCell ?_ ?_ _ | with_reducible refine Below.alloc ?_ ?_ _ | with_reducible refine Below.drew ?_ | with_reducible refine below_drewN ?_ _ | with_reducible refine Below.step (by with_reducible assumption) ?_ ?_ | omega | (simp <;> omega) | (simp; done)))⟩) | (go_roundw; (case rel => exact ⟨k + 1, by omega, by go_num, Lib.hid (HT.out (by simp [Demand.okFor] <;> omega)), by (repeat (first | with_reducible assumption | with_reducible exact Below.refl _ _ | with_reducible refine Below.setCell ?_ ?_ _ | with_reducible refine Below.alloc ?_ ?_ _ | with_reducible refine Below.drew ?_ | with_reducible refine below_drewN ?_ _ | with_reducible refine Below.step (by with_reducible assumption) ?_ ?_ | omega | (simp <;> omega) | (simp; done)))⟩); (case measure => simp [intOf]; omega)) | (exfalso; omega) | (exfalso; simp_all; done) | (exfalso; simp_all; omega))
        by_cases k2 : kd = 2
        · subst k2
          by_cases hq0 : 0 ≤ b' <;> by_cases hq1 : b' ≤ (ps.length : Int) - 1
          all_goals go_wp2
          all_goals (have e1 := HW1.out; have e2 := HW2.out; first | (go_ret; exact ⟨ret_bool (by rw [HF.out (by simp [Demand.okFor] <;> omega)] <;> rfl), by (repeat (first | with_reducible assumption | with_reducible exact Below.refl _ _ | with_reducible refine Below.setCell ?_ ?_ _ | with_reducible refine Below.alloc ?_ ?_ _ | with_reducible refine Below.drew ?_ | with_reducible refine below_drewN ?_ _ | with_reducible refine Below.step (by with_reducible assumption) ?_ ?_ | omega | (simp <;> omega) | (simp; done)))⟩) | (go_roundw; (case rel => exact ⟨k + 1, by omega, by go_num, Lib.hid (HT.out (by simp [Demand.okFor] <;> omega)), by (repeat (first | with_reducible assumption | with_reducible exact Below.refl _ _ | with_reducible refine Below.setCell ?_ ?_ _ | with_reducible refine Below.alloc ?_ ?_ _ | with_reducible refine Below.drew ?_ | with_reducible refine below_drewN ?_ _ | with_reducible refine Below.step (by with_reducible assumption) ?_ ?_ | omega | (simp <;> omega) | (simp; done)))⟩); (case measure => simp [intOf]; omega)) | (exfalso; omega) | (exfalso; simp_all; done) | (exfalso; simp_all; omega))
        go_wp2
        all_goals (go_ret; exact ⟨ret_bool (by rw [HF.out (by simp [Demand.okFor, k0, k1, k2, k3])] <;> rfl), by (repeat (first | with_reducible assumption | with_reducible exact Below.refl _ _ | with_reducible refine Below.setCell ?_ ?_ _ | with_reducible refine Below.alloc ?_ ?_ _ | with_reducible refine Below.drew ?_ | with_reducible refine below_drewN ?_ _ | with_reducible refine Below.step (by with_reducible assumption) ?_ ?_ | omega | (simp <;> omega) | (simp; done)))⟩)
      · go_wp2
        go_ret
        exact ⟨ret_bool (by simp [areDemands, HC.out, all_of_take HA.out hlt] <;> omega), by (repeat (first | with_reducible assumption | with_reducible exact Below.refl _ _ | with_reducible refine Below.setCell ?_ ?_ _ | with_reducible refine Below.alloc ?_ ?_ _ | with_reducible refine Below.drew ?_ | with_reducible refine below_drewN ?_ _ | with_reducible refine Below.step (by with_reducible assumption) ?_ ?_ | omega | (simp <;> omega) | (simp; done)))⟩
end Go.Proofs.YtgpknnlphabpkaaGreat
