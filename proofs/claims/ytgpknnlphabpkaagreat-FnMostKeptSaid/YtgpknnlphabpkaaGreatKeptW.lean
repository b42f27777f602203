/- Which demands choices keep. Written by a program (gen_kept.py). -/
import Derived.Test.YtgpknnlphabpkaaGreatCalX
import Derived.Test.YtgpknnlphabpkaaGreatDemandW
import Derived.BigQuiet
import Derived.Deep.QuietTactic
namespace Go.Proofs.YtgpknnlphabpkaaGreat
open Go.RowKit
set_option linter.unusedVariables false

def calAt (cal : List Int) (a : Int) : Int := (cal[a.toNat]?).getD 0
def dayAt (ps : List Slot) (cal : List Int) (a : Int) : Int := match ps[(calAt cal a).toNat]? with
  | some s => s.day
  | none => 0
def keptB (ps : List Slot) (cal : List Int) (d : Demand) : Bool :=
  if d.kind = 0 then decide (dayAt ps cal d.a < dayAt ps cal d.b) else if d.kind = 3 then decide (dayAt ps cal d.a = dayAt ps cal d.b)
  else if d.kind = 1 then decide (calAt cal d.a = d.b) else !decide (calAt cal d.a = d.b)
def keptI (ps : List Slot) (cal : List Int) (ds : List Demand) (i : Nat) : Bool := match ds[i]? with
  | some d => keptB ps cal d
  | none => false
def keptIdx (ps : List Slot) (cal : List Int) (ds : List Demand) (k : Nat) : List Int := ((List.range k).filter (keptI ps cal ds)).map fun (i : Nat) => (i : Int)
def keptBy (xs : List Hearing) (ps : List Slot) (ds : List Demand) (cal : List Int) : List Int × Int :=
  if areDemands xs ps ds then (if calCode xs ps cal = 0 then (keptIdx ps cal ds ds.length, 0) else ([], calCode xs ps cal)) else ([], 1)
theorem keptIdx_yes {ps : List Slot} {cal : List Int} {ds : List Demand} {k : Nat} {d : Demand} (hs : ds[k]? = some d) (hf : keptB ps cal d = true) : keptIdx ps cal ds (k + 1) = keptIdx ps cal ds k ++ [(k : Int)] := by
  unfold keptIdx
  rw [List.range_succ, List.filter_append, List.map_append]
  simp [keptI, hs, hf]
theorem keptIdx_no {ps : List Slot} {cal : List Int} {ds : List Demand} {k : Nat} {d : Demand} (hs : ds[k]? = some d) (hf : keptB ps cal d = false) : keptIdx ps cal ds (k + 1) = keptIdx ps cal ds k := by
  unfold keptIdx
  rw [List.range_succ, List.filter_append, List.map_append]
  simp [keptI, hs, hf]
theorem keptIdx_len (ps : List Slot) (cal : List Int) (ds : List Demand) (k : Nat) : (keptIdx ps cal ds k).length ≤ k := by
  unfold keptIdx
  rw [List.length_map]
  exact Nat.le_trans (List.length_filter_le _ _) (by simp)
theorem keptBy_len {xs : List Hearing} {ps : List Slot} {ds : List Demand} {cal : List Int} (h : ds.length ≤ 1048576) : (keptBy xs ps ds cal).1.length ≤ 1048576 := by
  unfold keptBy
  split
  · split
    · exact Nat.le_trans (keptIdx_len _ _ _ _) h
    · simp
  · simp
theorem areDemands_parts {xs : List Hearing} {ps : List Slot} {ds : List Demand} (h : areDemands xs ps ds = true) : ∀ d ∈ ds, d.okFor xs.length ps.length = true := by
  unfold areDemands at h
  rw [Bool.and_eq_true, Bool.and_eq_true] at h
  exact List.all_eq_true.1 h.2.1
/-- The demand's own index of a hearing: its place in the calendar, and the slot there. -/
theorem calAt_at {ps : List Slot} {cal : List Int} {a : Int} (h0 : 0 ≤ a) (h1 : a < cal.length) (hi : cal.all (idxOk ps.length) = true) : ∃ (k n : Nat) (s : Slot), a = k ∧ k < cal.length ∧ cal[k]? = some (n : Int) ∧ n < ps.length ∧ ps[n]? = some s ∧ calAt cal a = n ∧ dayAt ps cal a = s.day := by
  obtain ⟨k, rfl⟩ := Int.eq_ofNat_of_zero_le h0
  have hk : k < cal.length := by omega
  have e1 : cal[k]? = some cal[k] := List.getElem?_eq_getElem hk
  have hio := List.all_eq_true.1 hi cal[k] (List.mem_of_getElem? e1)
  unfold idxOk at hio
  have hio2 := of_decide_eq_true hio
  obtain ⟨n, hn⟩ := Int.eq_ofNat_of_zero_le hio2.1
  have hnl : n < ps.length := by omega
  have e2 : ps[n]? = some ps[n] := List.getElem?_eq_getElem hnl
  refine ⟨k, n, ps[n], rfl, hk, by rw [e1, hn], hnl, e2, ?_, ?_⟩
  · simp [calAt, e1, hn]
  · simp [dayAt, calAt, e1, hn, e2]

set_option maxRecDepth 100000 in
set_option maxHeartbeats 4000000 in
theorem kept_any (v : Value) (ps : List Slot) (lo hi : Nat) (d : Demand) (v2 : Value) (cal : List Int) (lo2 hi2 : Nat) (w : World) (h : RdF Slot.enc 3 w lo hi v ps) (hh : hi ≤ w.heap.size) (hm : ps.length ≤ 1048576) (h2 : RdF encInt 1 w lo2 hi2 v2 cal) (hh2 : hi2 ≤ w.heap.size) (hm2 : cal.length ≤ 1048576) (hix : cal.all (idxOk ps.length) = true) (hd : d.okFor cal.length ps.length = true) :
    Calls Tryz.prog 96 #[v, .agg #[.int .i64 d.kind, .int .i64 d.a, .int .i64 d.b], v2] w fun e w' => e = .returned (.bool (keptB ps cal d)) ∧ Below w.heap.size w w' := by
  obtain ⟨A, c, rfl, hcap⟩ := h.form
  obtain ⟨A2, c2, rfl, hcap2⟩ := h2.form
  obtain ⟨kd, a, b⟩ := d
  by_cases k0 : kd = 0
  · subst k0
    have hd2 : 0 ≤ a ∧ a < (cal.length : Int) ∧ 0 ≤ b ∧ b < (cal.length : Int) ∧ ¬ a = b := by simpa [Demand.okFor] using hd
    clear hd
    have HF := Lib.hid (show keptB ps cal ⟨0, a, b⟩ = (decide (dayAt ps cal a < dayAt ps cal b)) by simp [keptB])
    have hbk : Below w.heap.size w (w.alloc (.cells #[.int .i64 0, .int .i64 a, .int .i64 b] 83)) := ((Below.refl _ _).alloc (by first | exact Nat.le_refl _ | (simp; omega) | (simp; done)) _)
    have hzk : (w.alloc (.cells #[.int .i64 0, .int .i64 a, .int .i64 b] 83)).heap.size = w.heap.size + 1 := by simp
    have kX : Blk (w.alloc (.cells #[.int .i64 0, .int .i64 a, .int .i64 b] 83)) (w.heap.size) 83 #[.int .i64 0, .int .i64 a, .int .i64 b] := Blk.newAt (w := w) (n := w.heap.size) (t := 83) (cs := #[.int .i64 0, .int .i64 a, .int .i64 b]) (by simp)
    replace h := h.below hbk (by omega)
    replace h2 := h2.below hbk (by omega)
    go_enter Tryz.func96, Tryz.ntmps96
    go_wp2
    generalize (w.alloc (.cells #[.int .i64 0, .int .i64 a, .int .i64 b] 83)) = W0 at *
    obtain ⟨k0, n0, s0, ea0, hk0, e10, hn0, e20, ec0, ed0⟩ := calAt_at (a := a) (by omega) (by omega) hix
    obtain ⟨i0, b0, off0, HS0, hA0, hbw0, c0⟩ := RdF.int h2 (Below.refl W0.heap.size W0) (by omega) hk0
    have ei0 : i0 = (n0 : Int) := by have := HS0.out; rw [e10] at this; injection this with this; exact this.symm
    subst ei0
    subst hA0
    obtain ⟨r0, d0, of0, HT0, hB0, -, hdw0, p0_0, p0_1, p0_2⟩ := Slot.at h (Below.refl W0.heap.size W0) (by omega) hn0
    subst hB0
    have er0 : r0 = s0 := by have := HT0.out; rw [e20] at this; injection this with this; exact this.symm
    subst er0
    have hka0 : (k0 : Int) < (cal.length : Int) := by omega
    have hna0 : (n0 : Int) < (ps.length : Int) := by omega
    clear e10 e20 HS0 HT0
    obtain ⟨k1, n1, s1, ea1, hk1, e11, hn1, e21, ec1, ed1⟩ := calAt_at (a := b) (by omega) (by omega) hix
    obtain ⟨i1, b1, off1, HS1, hA1, hbw1, c1⟩ := RdF.int h2 (Below.refl W0.heap.size W0) (by omega) hk1
    have ei1 : i1 = (n1 : Int) := by have := HS1.out; rw [e11] at this; injection this with this; exact this.symm
    subst ei1
    injection hA1 with hA1; injection hA1 with x1 x2; subst x1 x2
    obtain ⟨r1, d1, of1, HT1, hB1, -, hdw1, p1_0, p1_1, p1_2⟩ := Slot.at h (Below.refl W0.heap.size W0) (by omega) hn1
    injection hB1 with hB1; injection hB1 with x1 x2; subst x1 x2
    have er1 : r1 = s1 := by have := HT1.out; rw [e21] at this; injection this with this; exact this.symm
    subst er1
    have hka1 : (k1 : Int) < (cal.length : Int) := by omega
    have hna1 : (n1 : Int) < (ps.length : Int) := by omega
    clear e11 e21 HS1 HT1
    obtain ⟨q1kX_0, q1kX_1, q1kX_2⟩ := kX.c3
    subst ea0
    subst ea1
    go_quiet (fail)
    go_wp2_with fail
    go_ret
    exact ⟨ret_bool (by first | (rw [HF.out, ed0, ed1]; done) | (rw [HF.out, ed0, ed1]; rw [Bool.eq_iff_iff]; simp; done) | (rw [HF.out, ed0, ed1]; rw [Bool.eq_iff_iff]; simp <;> omega)), by (repeat (first | with_reducible assumption | with_reducible exact Below.refl _ _ | with_reducible refine Below.setCell ?_ ?_ _ | with_reducible refine Below.alloc ?_ ?_ _ | with_reducible refine Below.drew ?_ | with_reducible refine below_drewN ?_ _ | with_reducible refine Below.step (by with_reducible assumption) ?_ ?_ | omega | (simp <;> omega) | (simp; done)))⟩
  by_cases k3 : kd = 3
  · subst k3
    have hd2 : 0 ≤ a ∧ a < (cal.length : Int) ∧ 0 ≤ b ∧ b < (cal.length : Int) ∧ ¬ a = b := by simpa [Demand.okFor] using hd
    clear hd
    have HF := Lib.hid (show keptB ps cal ⟨3, a, b⟩ = (decide (dayAt ps cal a = dayAt ps cal b)) by simp [keptB])
    have hbk : Below w.heap.size w (w.alloc (.cells #[.int .i64 3, .int .i64 a, .int .i64 b] 83)) := ((Below.refl _ _).alloc (by first | exact Nat.le_refl _ | (simp; omega) | (simp; done)) _)
    have hzk : (w.alloc (.cells #[.int .i64 3, .int .i64 a, .int .i64 b] 83)).heap.size = w.heap.size + 1 := by simp
    have kX : Blk (w.alloc (.cells #[.int .i64 3, .int .i64 a, .int .i64 b] 83)) (w.heap.size) 83 #[.int .i64 3, .int .i64 a, .int .i64 b] := Blk.newAt (w := w) (n := w.heap.size) (t := 83) (cs := #[.int .i64 3, .int .i64 a, .int .i64 b]) (by simp)
    replace h := h.below hbk (by omega)
    replace h2 := h2.below hbk (by omega)
    go_enter Tryz.func96, Tryz.ntmps96
    go_wp2
    generalize (w.alloc (.cells #[.int .i64 3, .int .i64 a, .int .i64 b] 83)) = W0 at *
    obtain ⟨k0, n0, s0, ea0, hk0, e10, hn0, e20, ec0, ed0⟩ := calAt_at (a := a) (by omega) (by omega) hix
    obtain ⟨i0, b0, off0, HS0, hA0, hbw0, c0⟩ := RdF.int h2 (Below.refl W0.heap.size W0) (by omega) hk0
    have ei0 : i0 = (n0 : Int) := by have := HS0.out; rw [e10] at this; injection this with this; exact this.symm
    subst ei0
    subst hA0
    obtain ⟨r0, d0, of0, HT0, hB0, -, hdw0, p0_0, p0_1, p0_2⟩ := Slot.at h (Below.refl W0.heap.size W0) (by omega) hn0
    subst hB0
    have er0 : r0 = s0 := by have := HT0.out; rw [e20] at this; injection this with this; exact this.symm
    subst er0
    have hka0 : (k0 : Int) < (cal.length : Int) := by omega
    have hna0 : (n0 : Int) < (ps.length : Int) := by omega
    clear e10 e20 HS0 HT0
    obtain ⟨k1, n1, s1, ea1, hk1, e11, hn1, e21, ec1, ed1⟩ := calAt_at (a := b) (by omega) (by omega) hix
    obtain ⟨i1, b1, off1, HS1, hA1, hbw1, c1⟩ := RdF.int h2 (Below.refl W0.heap.size W0) (by omega) hk1
    have ei1 : i1 = (n1 : Int) := by have := HS1.out; rw [e11] at this; injection this with this; exact this.symm
    subst ei1
    injection hA1 with hA1; injection hA1 with x1 x2; subst x1 x2
    obtain ⟨r1, d1, of1, HT1, hB1, -, hdw1, p1_0, p1_1, p1_2⟩ := Slot.at h (Below.refl W0.heap.size W0) (by omega) hn1
    injection hB1 with hB1; injection hB1 with x1 x2; subst x1 x2
    have er1 : r1 = s1 := by have := HT1.out; rw [e21] at this; injection this with this; exact this.symm
    subst er1
    have hka1 : (k1 : Int) < (cal.length : Int) := by omega
    have hna1 : (n1 : Int) < (ps.length : Int) := by omega
    clear e11 e21 HS1 HT1
    obtain ⟨q1kX_0, q1kX_1, q1kX_2⟩ := kX.c3
    subst ea0
    subst ea1
    go_quiet (fail)
    go_wp2_with fail
    go_ret
    exact ⟨ret_bool (by first | (rw [HF.out, ed0, ed1]; done) | (rw [HF.out, ed0, ed1]; rw [Bool.eq_iff_iff]; simp; done) | (rw [HF.out, ed0, ed1]; rw [Bool.eq_iff_iff]; simp <;> omega)), by (repeat (first | with_reducible assumption | with_reducible exact Below.refl _ _ | with_reducible refine Below.setCell ?_ ?_ _ | with_reducible refine Below.alloc ?_ ?_ _ | with_reducible refine Below.drew ?_ | with_reducible refine below_drewN ?_ _ | with_reducible refine Below.step (by with_reducible assumption) ?_ ?_ | omega | (simp <;> omega) | (simp; done)))⟩
  by_cases k1 : kd = 1
  · subst k1
    have hd2 : 0 ≤ a ∧ a < (cal.length : Int) ∧ 0 ≤ b ∧ b < (ps.length : Int) := by simpa [Demand.okFor] using hd
    clear hd
    have HF := Lib.hid (show keptB ps cal ⟨1, a, b⟩ = (decide (calAt cal a = b)) by simp [keptB])
    have hbk : Below w.heap.size w (w.alloc (.cells #[.int .i64 1, .int .i64 a, .int .i64 b] 83)) := ((Below.refl _ _).alloc (by first | exact Nat.le_refl _ | (simp; omega) | (simp; done)) _)
    have hzk : (w.alloc (.cells #[.int .i64 1, .int .i64 a, .int .i64 b] 83)).heap.size = w.heap.size + 1 := by simp
    have kX : Blk (w.alloc (.cells #[.int .i64 1, .int .i64 a, .int .i64 b] 83)) (w.heap.size) 83 #[.int .i64 1, .int .i64 a, .int .i64 b] := Blk.newAt (w := w) (n := w.heap.size) (t := 83) (cs := #[.int .i64 1, .int .i64 a, .int .i64 b]) (by simp)
    replace h := h.below hbk (by omega)
    replace h2 := h2.below hbk (by omega)
    go_enter Tryz.func96, Tryz.ntmps96
    go_wp2
    generalize (w.alloc (.cells #[.int .i64 1, .int .i64 a, .int .i64 b] 83)) = W0 at *
    obtain ⟨k0, n0, s0, ea0, hk0, e10, hn0, e20, ec0, ed0⟩ := calAt_at (a := a) (by omega) (by omega) hix
    obtain ⟨i0, b0, off0, HS0, hA0, hbw0, c0⟩ := RdF.int h2 (Below.refl W0.heap.size W0) (by omega) hk0
    have ei0 : i0 = (n0 : Int) := by have := HS0.out; rw [e10] at this; injection this with this; exact this.symm
    subst ei0
    subst hA0
    obtain ⟨r0, d0, of0, HT0, hB0, -, hdw0, p0_0, p0_1, p0_2⟩ := Slot.at h (Below.refl W0.heap.size W0) (by omega) hn0
    subst hB0
    have er0 : r0 = s0 := by have := HT0.out; rw [e20] at this; injection this with this; exact this.symm
    subst er0
    have hka0 : (k0 : Int) < (cal.length : Int) := by omega
    have hna0 : (n0 : Int) < (ps.length : Int) := by omega
    clear e10 e20 HS0 HT0
    obtain ⟨q1kX_0, q1kX_1, q1kX_2⟩ := kX.c3
    subst ea0
    go_quiet (fail)
    go_wp2_with fail
    go_ret
    exact ⟨ret_bool (by first | (rw [HF.out, ec0]; done) | (rw [HF.out, ec0]; rw [Bool.eq_iff_iff]; simp; done) | (rw [HF.out, ec0]; rw [Bool.eq_iff_iff]; simp <;> omega)), by (repeat (first | with_reducible assumption | with_reducible exact Below.refl _ _ | with_reducible refine Below.setCell ?_ ?_ _ | with_reducible refine Below.alloc ?_ ?_ _ | with_reducible refine Below.drew ?_ | with_reducible refine below_drewN ?_ _ | with_reducible refine Below.step (by with_reducible assumption) ?_ ?_ | omega | (simp <;> omega) | (simp; done)))⟩
  by_cases k2 : kd = 2
  · subst k2
    have hd2 : 0 ≤ a ∧ a < (cal.length : Int) ∧ 0 ≤ b ∧ b < (ps.length : Int) := by simpa [Demand.okFor] using hd
    clear hd
    have HF := Lib.hid (show keptB ps cal ⟨2, a, b⟩ = (!decide (calAt cal a = b)) by simp [keptB])
    have hbk : Below w.heap.size w (w.alloc (.cells #[.int .i64 2, .int .i64 a, .int .i64 b] 83)) := ((Below.refl _ _).alloc (by first | exact Nat.le_refl _ | (simp; omega) | (simp; done)) _)
    have hzk : (w.alloc (.cells #[.int .i64 2, .int .i64 a, .int .i64 b] 83)).heap.size = w.heap.size + 1 := by simp
    have kX : Blk (w.alloc (.cells #[.int .i64 2, .int .i64 a, .int .i64 b] 83)) (w.heap.size) 83 #[.int .i64 2, .int .i64 a, .int .i64 b] := Blk.newAt (w := w) (n := w.heap.size) (t := 83) (cs := #[.int .i64 2, .int .i64 a, .int .i64 b]) (by simp)
    replace h := h.below hbk (by omega)
    replace h2 := h2.below hbk (by omega)
    go_enter Tryz.func96, Tryz.ntmps96
    go_wp2
    generalize (w.alloc (.cells #[.int .i64 2, .int .i64 a, .int .i64 b] 83)) = W0 at *
    obtain ⟨k0, n0, s0, ea0, hk0, e10, hn0, e20, ec0, ed0⟩ := calAt_at (a := a) (by omega) (by omega) hix
    obtain ⟨i0, b0, off0, HS0, hA0, hbw0, c0⟩ := RdF.int h2 (Below.refl W0.heap.size W0) (by omega) hk0
    have ei0 : i0 = (n0 : Int) := by have := HS0.out; rw [e10] at this; injection this with this; exact this.symm
    subst ei0
    subst hA0
    obtain ⟨r0, d0, of0, HT0, hB0, -, hdw0, p0_0, p0_1, p0_2⟩ := Slot.at h (Below.refl W0.heap.size W0) (by omega) hn0
    subst hB0
    have er0 : r0 = s0 := by have := HT0.out; rw [e20] at this; injection this with this; exact this.symm
    subst er0
    have hka0 : (k0 : Int) < (cal.length : Int) := by omega
    have hna0 : (n0 : Int) < (ps.length : Int) := by omega
    clear e10 e20 HS0 HT0
    obtain ⟨q1kX_0, q1kX_1, q1kX_2⟩ := kX.c3
    subst ea0
    go_quiet (fail)
    go_wp2_with fail
    go_ret
    exact ⟨ret_bool (by first | (rw [HF.out, ec0]; done) | (rw [HF.out, ec0]; rw [Bool.eq_iff_iff]; simp; done) | (rw [HF.out, ec0]; rw [Bool.eq_iff_iff]; simp <;> omega)), by (repeat (first | with_reducible assumption | with_reducible exact Below.refl _ _ | with_reducible refine Below.setCell ?_ ?_ _ | with_reducible refine Below.alloc ?_ ?_ _ | with_reducible refine Below.drew ?_ | with_reducible refine below_drewN ?_ _ | with_reducible refine Below.step (by with_reducible assumption) ?_ ?_ | omega | (simp <;> omega) | (simp; done)))⟩
  simp [Demand.okFor, k0, k1, k2, k3] at hd
set_option maxRecDepth 100000 in
set_option maxHeartbeats 4000000 in
theorem l22Keeps_any (v : Value) (ps : List Slot) (lo hi : Nat) (d : Demand) (v2 : Value) (cal : List Int) (lo2 hi2 : Nat) (w : World) (h : RdF Slot.enc 3 w lo hi v ps) (hh : hi ≤ w.heap.size) (hm : ps.length ≤ 1048576) (h2 : RdF encInt 1 w lo2 hi2 v2 cal) (hh2 : hi2 ≤ w.heap.size) (hm2 : cal.length ≤ 1048576) (hix : cal.all (idxOk ps.length) = true) (hd : d.okFor cal.length ps.length = true) :
    Calls Tryz.prog 97 #[v, v2, .agg #[.int .i64 d.kind, .int .i64 d.a, .int .i64 d.b]] w fun e w' => e = .returned (.bool (keptB ps cal d)) ∧ Below w.heap.size w w' := by
  obtain ⟨A, c, rfl, hcap⟩ := h.form
  obtain ⟨A2, c2, rfl, hcap2⟩ := h2.form
  obtain ⟨kd, a, b⟩ := d
  by_cases k0 : kd = 0
  · subst k0
    have hd2 : 0 ≤ a ∧ a < (cal.length : Int) ∧ 0 ≤ b ∧ b < (cal.length : Int) ∧ ¬ a = b := by simpa [Demand.okFor] using hd
    clear hd
    have HF := Lib.hid (show keptB ps cal ⟨0, a, b⟩ = (decide (dayAt ps cal a < dayAt ps cal b)) by simp [keptB])
    have hbk : Below w.heap.size w (w.alloc (.cells #[.int .i64 0, .int .i64 a, .int .i64 b] 83)) := ((Below.refl _ _).alloc (by first | exact Nat.le_refl _ | (simp; omega) | (simp; done)) _)
    have hzk : (w.alloc (.cells #[.int .i64 0, .int .i64 a, .int .i64 b] 83)).heap.size = w.heap.size + 1 := by simp
    have kX : Blk (w.alloc (.cells #[.int .i64 0, .int .i64 a, .int .i64 b] 83)) (w.heap.size) 83 #[.int .i64 0, .int .i64 a, .int .i64 b] := Blk.newAt (w := w) (n := w.heap.size) (t := 83) (cs := #[.int .i64 0, .int .i64 a, .int .i64 b]) (by simp)
    replace h := h.below hbk (by omega)
    replace h2 := h2.below hbk (by omega)
    go_enter Tryz.func97, Tryz.ntmps97
    go_wp2
    generalize (w.alloc (.cells #[.int .i64 0, .int .i64 a, .int .i64 b] 83)) = W0 at *
    obtain ⟨k0, n0, s0, ea0, hk0, e10, hn0, e20, ec0, ed0⟩ := calAt_at (a := a) (by omega) (by omega) hix
    obtain ⟨i0, b0, off0, HS0, hA0, hbw0, c0⟩ := RdF.int h2 (Below.refl W0.heap.size W0) (by omega) hk0
    have ei0 : i0 = (n0 : Int) := by have := HS0.out; rw [e10] at this; injection this with this; exact this.symm
    subst ei0
    subst hA0
    obtain ⟨r0, d0, of0, HT0, hB0, -, hdw0, p0_0, p0_1, p0_2⟩ := Slot.at h (Below.refl W0.heap.size W0) (by omega) hn0
    subst hB0
    have er0 : r0 = s0 := by have := HT0.out; rw [e20] at this; injection this with this; exact this.symm
    subst er0
    have hka0 : (k0 : Int) < (cal.length : Int) := by omega
    have hna0 : (n0 : Int) < (ps.length : Int) := by omega
    clear e10 e20 HS0 HT0
    obtain ⟨k1, n1, s1, ea1, hk1, e11, hn1, e21, ec1, ed1⟩ := calAt_at (a := b) (by omega) (by omega) hix
    obtain ⟨i1, b1, off1, HS1, hA1, hbw1, c1⟩ := RdF.int h2 (Below.refl W0.heap.size W0) (by omega) hk1
    have ei1 : i1 = (n1 : Int) := by have := HS1.out; rw [e11] at this; injection this with this; exact this.symm
    subst ei1
    injection hA1 with hA1; injection hA1 with x1 x2; subst x1 x2
    obtain ⟨r1, d1, of1, HT1, hB1, -, hdw1, p1_0, p1_1, p1_2⟩ := Slot.at h (Below.refl W0.heap.size W0) (by omega) hn1
    injection hB1 with hB1; injection hB1 with x1 x2; subst x1 x2
    have er1 : r1 = s1 := by have := HT1.out; rw [e21] at this; injection this with this; exact this.symm
    subst er1
    have hka1 : (k1 : Int) < (cal.length : Int) := by omega
    have hna1 : (n1 : Int) < (ps.length : Int) := by omega
    clear e11 e21 HS1 HT1
    obtain ⟨q1kX_0, q1kX_1, q1kX_2⟩ := kX.c3
    subst ea0
    subst ea1
    go_quiet (fail)
    go_wp2_with fail
    go_ret
    exact ⟨ret_bool (by first | (rw [HF.out, ed0, ed1]; done) | (rw [HF.out, ed0, ed1]; rw [Bool.eq_iff_iff]; simp; done) | (rw [HF.out, ed0, ed1]; rw [Bool.eq_iff_iff]; simp <;> omega)), by (repeat (first | with_reducible assumption | with_reducible exact Below.refl _ _ | with_reducible refine Below.setCell ?_ ?_ _ | with_reducible refine Below.alloc ?_ ?_ _ | with_reducible refine Below.drew ?_ | with_reducible refine below_drewN ?_ _ | with_reducible refine Below.step (by with_reducible assumption) ?_ ?_ | omega | (simp <;> omega) | (simp; done)))⟩
  by_cases k3 : kd = 3
  · subst k3
    have hd2 : 0 ≤ a ∧ a < (cal.length : Int) ∧ 0 ≤ b ∧ b < (cal.length : Int) ∧ ¬ a = b := by simpa [Demand.okFor] using hd
    clear hd
    have HF := Lib.hid (show keptB ps cal ⟨3, a, b⟩ = (decide (dayAt ps cal a = dayAt ps cal b)) by simp [keptB])
    have hbk : Below w.heap.size w (w.alloc (.cells #[.int .i64 3, .int .i64 a, .int .i64 b] 83)) := ((Below.refl _ _).alloc (by first | exact Nat.le_refl _ | (simp; omega) | (simp; done)) _)
    have hzk : (w.alloc (.cells #[.int .i64 3, .int .i64 a, .int .i64 b] 83)).heap.size = w.heap.size + 1 := by simp
    have kX : Blk (w.alloc (.cells #[.int .i64 3, .int .i64 a, .int .i64 b] 83)) (w.heap.size) 83 #[.int .i64 3, .int .i64 a, .int .i64 b] := Blk.newAt (w := w) (n := w.heap.size) (t := 83) (cs := #[.int .i64 3, .int .i64 a, .int .i64 b]) (by simp)
    replace h := h.below hbk (by omega)
    replace h2 := h2.below hbk (by omega)
    go_enter Tryz.func97, Tryz.ntmps97
    go_wp2
    generalize (w.alloc (.cells #[.int .i64 3, .int .i64 a, .int .i64 b] 83)) = W0 at *
    obtain ⟨k0, n0, s0, ea0, hk0, e10, hn0, e20, ec0, ed0⟩ := calAt_at (a := a) (by omega) (by omega) hix
    obtain ⟨i0, b0, off0, HS0, hA0, hbw0, c0⟩ := RdF.int h2 (Below.refl W0.heap.size W0) (by omega) hk0
    have ei0 : i0 = (n0 : Int) := by have := HS0.out; rw [e10] at this; injection this with this; exact this.symm
    subst ei0
    subst hA0
    obtain ⟨r0, d0, of0, HT0, hB0, -, hdw0, p0_0, p0_1, p0_2⟩ := Slot.at h (Below.refl W0.heap.size W0) (by omega) hn0
    subst hB0
    have er0 : r0 = s0 := by have := HT0.out; rw [e20] at this; injection this with this; exact this.symm
    subst er0
    have hka0 : (k0 : Int) < (cal.length : Int) := by omega
    have hna0 : (n0 : Int) < (ps.length : Int) := by omega
    clear e10 e20 HS0 HT0
    obtain ⟨k1, n1, s1, ea1, hk1, e11, hn1, e21, ec1, ed1⟩ := calAt_at (a := b) (by omega) (by omega) hix
    obtain ⟨i1, b1, off1, HS1, hA1, hbw1, c1⟩ := RdF.int h2 (Below.refl W0.heap.size W0) (by omega) hk1
    have ei1 : i1 = (n1 : Int) := by have := HS1.out; rw [e11] at this; injection this with this; exact this.symm
    subst ei1
    injection hA1 with hA1; injection hA1 with x1 x2; subst x1 x2
    obtain ⟨r1, d1, of1, HT1, hB1, -, hdw1, p1_0, p1_1, p1_2⟩ := Slot.at h (Below.refl W0.heap.size W0) (by omega) hn1
    injection hB1 with hB1; injection hB1 with x1 x2; subst x1 x2
    have er1 : r1 = s1 := by have := HT1.out; rw [e21] at this; injection this with this; exact this.symm
    subst er1
    have hka1 : (k1 : Int) < (cal.length : Int) := by omega
    have hna1 : (n1 : Int) < (ps.length : Int) := by omega
    clear e11 e21 HS1 HT1
    obtain ⟨q1kX_0, q1kX_1, q1kX_2⟩ := kX.c3
    subst ea0
    subst ea1
    go_quiet (fail)
    go_wp2_with fail
    go_ret
    exact ⟨ret_bool (by first | (rw [HF.out, ed0, ed1]; done) | (rw [HF.out, ed0, ed1]; rw [Bool.eq_iff_iff]; simp; done) | (rw [HF.out, ed0, ed1]; rw [Bool.eq_iff_iff]; simp <;> omega)), by (repeat (first | with_reducible assumption | with_reducible exact Below.refl _ _ | with_reducible refine Below.setCell ?_ ?_ _ | with_reducible refine Below.alloc ?_ ?_ _ | with_reducible refine Below.drew ?_ | with_reducible refine below_drewN ?_ _ | with_reducible refine Below.step (by with_reducible assumption) ?_ ?_ | omega | (simp <;> omega) | (simp; done)))⟩
  by_cases k1 : kd = 1
  · subst k1
    have hd2 : 0 ≤ a ∧ a < (cal.length : Int) ∧ 0 ≤ b ∧ b < (ps.length : Int) := by simpa [Demand.okFor] using hd
    clear hd
    have HF := Lib.hid (show keptB ps cal ⟨1, a, b⟩ = (decide (calAt cal a = b)) by simp [keptB])
    have hbk : Below w.heap.size w (w.alloc (.cells #[.int .i64 1, .int .i64 a, .int .i64 b] 83)) := ((Below.refl _ _).alloc (by first | exact Nat.le_refl _ | (simp; omega) | (simp; done)) _)
    have hzk : (w.alloc (.cells #[.int .i64 1, .int .i64 a, .int .i64 b] 83)).heap.size = w.heap.size + 1 := by simp
    have kX : Blk (w.alloc (.cells #[.int .i64 1, .int .i64 a, .int .i64 b] 83)) (w.heap.size) 83 #[.int .i64 1, .int .i64 a, .int .i64 b] := Blk.newAt (w := w) (n := w.heap.size) (t := 83) (cs := #[.int .i64 1, .int .i64 a, .int .i64 b]) (by simp)
    replace h := h.below hbk (by omega)
    replace h2 := h2.below hbk (by omega)
    go_enter Tryz.func97, Tryz.ntmps97
    go_wp2
    generalize (w.alloc (.cells #[.int .i64 1, .int .i64 a, .int .i64 b] 83)) = W0 at *
    obtain ⟨k0, n0, s0, ea0, hk0, e10, hn0, e20, ec0, ed0⟩ := calAt_at (a := a) (by omega) (by omega) hix
    obtain ⟨i0, b0, off0, HS0, hA0, hbw0, c0⟩ := RdF.int h2 (Below.refl W0.heap.size W0) (by omega) hk0
    have ei0 : i0 = (n0 : Int) := by have := HS0.out; rw [e10] at this; injection this with this; exact this.symm
    subst ei0
    subst hA0
    obtain ⟨r0, d0, of0, HT0, hB0, -, hdw0, p0_0, p0_1, p0_2⟩ := Slot.at h (Below.refl W0.heap.size W0) (by omega) hn0
    subst hB0
    have er0 : r0 = s0 := by have := HT0.out; rw [e20] at this; injection this with this; exact this.symm
    subst er0
    have hka0 : (k0 : Int) < (cal.length : Int) := by omega
    have hna0 : (n0 : Int) < (ps.length : Int) := by omega
    clear e10 e20 HS0 HT0
    obtain ⟨q1kX_0, q1kX_1, q1kX_2⟩ := kX.c3
    subst ea0
    go_quiet (fail)
    go_wp2_with fail
    go_ret
    exact ⟨ret_bool (by first | (rw [HF.out, ec0]; done) | (rw [HF.out, ec0]; rw [Bool.eq_iff_iff]; simp; done) | (rw [HF.out, ec0]; rw [Bool.eq_iff_iff]; simp <;> omega)), by (repeat (first | with_reducible assumption | with_reducible exact Below.refl _ _ | with_reducible refine Below.setCell ?_ ?_ _ | with_reducible refine Below.alloc ?_ ?_ _ | with_reducible refine Below.drew ?_ | with_reducible refine below_drewN ?_ _ | with_reducible refine Below.step (by with_reducible assumption) ?_ ?_ | omega | (simp <;> omega) | (simp; done)))⟩
  by_cases k2 : kd = 2
  · subst k2
    have hd2 : 0 ≤ a ∧ a < (cal.length : Int) ∧ 0 ≤ b ∧ b < (ps.length : Int) := by simpa [Demand.okFor] using hd
    clear hd
    have HF := Lib.hid (show keptB ps cal ⟨2, a, b⟩ = (!decide (calAt cal a = b)) by simp [keptB])
    have hbk : Below w.heap.size w (w.alloc (.cells #[.int .i64 2, .int .i64 a, .int .i64 b] 83)) := ((Below.refl _ _).alloc (by first | exact Nat.le_refl _ | (simp; omega) | (simp; done)) _)
    have hzk : (w.alloc (.cells #[.int .i64 2, .int .i64 a, .int .i64 b] 83)).heap.size = w.heap.size + 1 := by simp
    have kX : Blk (w.alloc (.cells #[.int .i64 2, .int .i64 a, .int .i64 b] 83)) (w.heap.size) 83 #[.int .i64 2, .int .i64 a, .int .i64 b] := Blk.newAt (w := w) (n := w.heap.size) (t := 83) (cs := #[.int .i64 2, .int .i64 a, .int .i64 b]) (by simp)
    replace h := h.below hbk (by omega)
    replace h2 := h2.below hbk (by omega)
    go_enter Tryz.func97, Tryz.ntmps97
    go_wp2
    generalize (w.alloc (.cells #[.int .i64 2, .int .i64 a, .int .i64 b] 83)) = W0 at *
    obtain ⟨k0, n0, s0, ea0, hk0, e10, hn0, e20, ec0, ed0⟩ := calAt_at (a := a) (by omega) (by omega) hix
    obtain ⟨i0, b0, off0, HS0, hA0, hbw0, c0⟩ := RdF.int h2 (Below.refl W0.heap.size W0) (by omega) hk0
    have ei0 : i0 = (n0 : Int) := by have := HS0.out; rw [e10] at this; injection this with this; exact this.symm
    subst ei0
    subst hA0
    obtain ⟨r0, d0, of0, HT0, hB0, -, hdw0, p0_0, p0_1, p0_2⟩ := Slot.at h (Below.refl W0.heap.size W0) (by omega) hn0
    subst hB0
    have er0 : r0 = s0 := by have := HT0.out; rw [e20] at this; injection this with this; exact this.symm
    subst er0
    have hka0 : (k0 : Int) < (cal.length : Int) := by omega
    have hna0 : (n0 : Int) < (ps.length : Int) := by omega
    clear e10 e20 HS0 HT0
    obtain ⟨q1kX_0, q1kX_1, q1kX_2⟩ := kX.c3
    subst ea0
    go_quiet (fail)
    go_wp2_with fail
    go_ret
    exact ⟨ret_bool (by first | (rw [HF.out, ec0]; done) | (rw [HF.out, ec0]; rw [Bool.eq_iff_iff]; simp; done) | (rw [HF.out, ec0]; rw [Bool.eq_iff_iff]; simp <;> omega)), by (repeat (first | with_reducible assumption | with_reducible exact Below.refl _ _ | with_reducible refine Below.setCell ?_ ?_ _ | with_reducible refine Below.alloc ?_ ?_ _ | with_reducible refine Below.drew ?_ | with_reducible refine below_drewN ?_ _ | with_reducible refine Below.step (by with_reducible assumption) ?_ ?_ | omega | (simp <;> omega) | (simp; done)))⟩
  simp [Demand.okFor, k0, k1, k2, k3] at hd
end Go.Proofs.YtgpknnlphabpkaaGreat
