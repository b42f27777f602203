/- Walks: CostOf. Written by a program (gen_cost.py). -/
import Derived.Test.YtgpknnlphabpkaaGreatCalX
namespace Go.Proofs.YtgpknnlphabpkaaGreat
open Go.RowKit
set_option linter.unusedVariables false

theorem costL_take_bounds {ps : List Slot} (hs : ∀ s ∈ ps, s.ok = true) : ∀ (cal : List Int), 0 ≤ costL ps cal ∧ costL ps cal ≤ 20000 * (cal.length : Int) := by
  intro cal
  unfold costL
  have h : ∀ (ys : List Slot), (∀ s ∈ ys, s.ok = true) → 0 ≤ (ys.map Slot.day).sum ∧ (ys.map Slot.day).sum ≤ 20000 * (ys.length : Int) := by
    intro ys
    induction ys with
    | nil => intro _; simp
    | cons y ys ih =>
      intro hy
      have h1 := ih (fun s h => hy s (List.mem_cons_of_mem _ h))
      have h2 := Slot.ok_bounds (hy y List.mem_cons_self)
      simp only [List.map_cons, List.sum_cons, List.length_cons]
      constructor <;> omega
  have h1 := h (slotsAt ps cal) (fun s h => hs s (slotsAt_mem h))
  have h2 := slotsAt_len ps cal
  constructor <;> omega
theorem costL_step {ps : List Slot} {cal : List Int} {k : Nat} {i : Int} {s : Slot} (h1 : cal[k]? = some i) (h2 : ps[i.toNat]? = some s) : costL ps (cal.take (k + 1)) = costL ps (cal.take k) + s.day := by
  unfold costL
  rw [slotsAt_step h1 h2, List.map_append, List.sum_append]
  simp
def sumDay (ys : List Slot) : Int := (ys.map Slot.day).sum
theorem sumDay_step {ys : List Slot} {k : Nat} {s : Slot} (h : ys[k]? = some s) : sumDay (ys.take (k + 1)) = sumDay (ys.take k) + s.day := by
  unfold sumDay
  rw [List.take_add_one, h, List.map_append, List.sum_append]
  simp

theorem sumDay_bd : ∀ (ys : List Slot), (∀ s ∈ ys, s.ok = true) → 0 ≤ sumDay ys ∧ sumDay ys ≤ 20000 * (ys.length : Int) := by
  intro ys
  unfold sumDay
  induction ys with
  | nil => intro _; simp
  | cons y ys ih =>
    intro hy
    have h1 := ih (fun s h => hy s (List.mem_cons_of_mem _ h))
    have h2 := Slot.ok_bounds (hy y List.mem_cons_self)
    simp only [List.map_cons, List.sum_cons, List.length_cons]
    constructor <;> omega

set_option maxRecDepth 100000 in
set_option maxHeartbeats 4000000 in
theorem cost_any (v : Value) (ps : List Slot) (lo hi : Nat) (v2 : Value) (cal : List Int) (lo2 hi2 : Nat) (w : World) (h : RdF Slot.enc 3 w lo hi v ps) (hh : hi ≤ w.heap.size) (hm : ps.length ≤ 1048576) (h2 : RdF encInt 1 w lo2 hi2 v2 cal) (hh2 : hi2 ≤ w.heap.size) (hm2 : cal.length ≤ 1048576) (hsl : ∀ s ∈ ps, s.ok = true) (hix : cal.all (idxOk ps.length) = true) :
    Calls Tryz.prog 104 #[v, v2] w fun e w' => e = .returned (.int .i64 (costL ps cal)) ∧ Below w.heap.size w w' := by
  go_enter Tryz.func104, Tryz.ntmps104
  go_wp2_with fail
  refine (slotsOf_any _ ps lo hi _ cal lo2 hi2 _ h hh hm h2 hh2 hm2 hix).mono ?_
  rintro e w1 ⟨v1, rfl, hr1, b1⟩
  have z1 := b1.size
  have hlen := slotsAt_len ps cal
  have HS0 := Lib.hid (fun s (hs : s ∈ slotsAt ps cal) => hsl s (slotsAt_mem hs))
  have HE := Lib.hid (show costL ps cal = sumDay (slotsAt ps cal) from rfl)
  generalize slotsAt ps cal = ys at *
  obtain ⟨A, c, rfl, hcap⟩ := RdF.form hr1.rd
  clear h h2
  go_wp2_with fail
  go_loopw [5, 7, 12] (fun u _ j wr => ∃ k : Nat, k ≤ ys.length ∧ j = .int .i64 k ∧ u = .int .i64 (sumDay (ys.take k)) ∧ Below w1.heap.size w1 wr) (fun _ _ j _ => ys.length - (intOf j).toNat)
  case atStart => exact ⟨0, Nat.zero_le _, rfl, rfl, Below.refl _ _⟩
  case round =>
    obtain ⟨k, hk, rfl, rfl, hbel⟩ := hrel
    have z0 := hbel.size
    by_cases hlt : k < ys.length
    · have hki : (k : Int) < (ys.length : Int) := by omega
      obtain ⟨s0, d0, of0, HT0, rfl, -, hdw0, c0_0, c0_1, c0_2⟩ := Slot.at hr1.rd hbel (Nat.le_refl _) hlt
      have ht0 := s0.ok_bounds (HS0.out s0 (List.mem_of_getElem? HT0.out))
      have hbd := sumDay_bd (ys.take k) (fun s hs => HS0.out s (List.mem_of_mem_take hs))
      rw [List.length_take] at hbd
      have HN := Lib.hid (sumDay_step HT0.out)
      have hbd2 : sumDay (ys.take k) ≤ 20000 * 1048576 := by omega
      have hbd1 := hbd.1
      clear hbd
      generalize sumDay (ys.take k) = tot at *
      go_wp2
      go_roundw
      case rel => exact ⟨k + 1, by omega, by go_num, by rw [HN.out], by (repeat (first | with_reducible assumption | with_reducible exact Below.refl _ _ | with_reducible refine Below.setCell ?_ ?_ _ | with_reducible refine Below.alloc ?_ ?_ _ | with_reducible refine Below.drew ?_ | with_reducible refine below_drewN ?_ _ | with_reducible refine Below.step (by with_reducible assumption) ?_ ?_ | omega | (simp <;> omega) | (simp; done)))⟩
      case measure => simp [intOf]; omega
    · have hkn : k = ys.length := by omega
      rw [hkn, List.take_length]
      go_wp2_with fail
      go_ret
      exact ⟨ret_int HE.out.symm, by (repeat (first | with_reducible assumption | with_reducible exact Below.refl _ _ | with_reducible refine Below.setCell ?_ ?_ _ | with_reducible refine Below.alloc ?_ ?_ _ | with_reducible refine Below.drew ?_ | with_reducible refine below_drewN ?_ _ | with_reducible refine Below.step (by with_reducible assumption) ?_ ?_ | omega | (simp <;> omega) | (simp; done)))⟩
set_option maxRecDepth 100000 in
set_option maxHeartbeats 4000000 in
theorem l21Cost_any (v : Value) (ps : List Slot) (lo hi : Nat) (v2 : Value) (cal : List Int) (lo2 hi2 : Nat) (w : World) (h : RdF Slot.enc 3 w lo hi v ps) (hh : hi ≤ w.heap.size) (hm : ps.length ≤ 1048576) (h2 : RdF encInt 1 w lo2 hi2 v2 cal) (hh2 : hi2 ≤ w.heap.size) (hm2 : cal.length ≤ 1048576) (hsl : ∀ s ∈ ps, s.ok = true) (hix : cal.all (idxOk ps.length) = true) :
    Calls Tryz.prog 80 #[v, v2] w fun e w' => e = .returned (.int .i64 (costL ps cal)) ∧ Below w.heap.size w w' := by
  obtain ⟨A, c, rfl, hcap⟩ := h.form
  obtain ⟨A2, c2, rfl, hcap2⟩ := h2.form
  have HI := Lib.hid hix; clear hix
  have HL := Lib.hid hsl; clear hsl
  go_enter Tryz.func80, Tryz.ntmps80
  go_wp2
  go_loopw [5, 6] (fun u j wr => ∃ k : Nat, k ≤ cal.length ∧ j = .int .i64 k ∧ u = .int .i64 (costL ps (cal.take k)) ∧ Below w.heap.size w wr) (fun _ j _ => cal.length - (intOf j).toNat)
  case atStart => exact ⟨0, Nat.zero_le _, rfl, rfl, Below.refl _ _⟩
  case round =>
    obtain ⟨k, hk, rfl, rfl, hbel⟩ := hrel
    have z0 := hbel.size
    by_cases hlt : k < cal.length
    · have hki : (k : Int) < (cal.length : Int) := by omega
      obtain ⟨i, b, off, HS, hA2, hbw, c0⟩ := RdF.int h2 hbel (by omega) hlt
      subst hA2
      have hio : idxOk ps.length i = true := List.all_eq_true.1 HI.out i (List.mem_of_getElem? HS.out)
      unfold idxOk at hio
      have hio2 := of_decide_eq_true hio
      clear hio
      obtain ⟨n, rfl⟩ := Int.eq_ofNat_of_zero_le hio2.1
      have hn : n < ps.length := by omega
      have hni : (n : Int) < (ps.length : Int) := by omega
      clear hio2
      obtain ⟨s0, d0, of0, HT0, rfl, -, hdw0, c0_0, c0_1, c0_2⟩ := Slot.at h hbel hh hn
      have ht0 := s0.ok_bounds (HL.out s0 (List.mem_of_getElem? HT0.out))
      have hbd := costL_take_bounds HL.out (cal.take k)
      rw [List.length_take] at hbd
      have HN := Lib.hid (costL_step HS.out (by simpa using HT0.out))
      have hbd2 : costL ps (cal.take k) ≤ 20000 * 1048576 := by omega
      have hbd1 := hbd.1
      clear hbd
      generalize costL ps (cal.take k) = tot at *
      go_wp2
      go_roundw
      case rel => exact ⟨k + 1, by omega, by go_num, by rw [HN.out], by (repeat (first | with_reducible assumption | with_reducible exact Below.refl _ _ | with_reducible refine Below.setCell ?_ ?_ _ | with_reducible refine Below.alloc ?_ ?_ _ | with_reducible refine Below.drew ?_ | with_reducible refine below_drewN ?_ _ | with_reducible refine Below.step (by with_reducible assumption) ?_ ?_ | omega | (simp <;> omega) | (simp; done)))⟩
      case measure => simp [intOf]; omega
    · have hkn : k = cal.length := by omega
      rw [hkn, List.take_length]
      go_wp2_with fail
      go_ret
      exact ⟨rfl, by (repeat (first | with_reducible assumption | with_reducible exact Below.refl _ _ | with_reducible refine Below.setCell ?_ ?_ _ | with_reducible refine Below.alloc ?_ ?_ _ | with_reducible refine Below.drew ?_ | with_reducible refine below_drewN ?_ _ | with_reducible refine Below.step (by with_reducible assumption) ?_ ?_ | omega | (simp <;> omega) | (simp; done)))⟩
theorem ret_ii {a b c d : Int} (h : (a, c) = (b, d)) : Ending.returned (.tuple #[.int .i64 a, .int .i64 c]) = .returned (.tuple #[.int .i64 b, .int .i64 d]) := by
  injection h with h1 h2
  rw [h1, h2]
end Go.Proofs.YtgpknnlphabpkaaGreat
