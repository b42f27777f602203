/- Walks: whether slots are a plan for hearings. Written by a program (gen_plan.py). -/
import Derived.Test.YtmgdkblleljdaaaGreatSharedX
import Derived.Test.YtmgdkblleljdaaaGreatHearingL
import Derived.Test.YtmgdkblleljdaaaGreatSlotA
namespace Go.Proofs.YtmgdkblleljdaaaGreat
open Go.RowKit
set_option linter.unusedVariables false

def clAt (xs : List Hearing) (ps : List Slot) (i k : Nat) : Bool := match xs[i]?, ps[i]?, xs[k]?, ps[k]? with
  | some a, some s, some b, some t => clashB a s b t
  | _, _, _, _ => false
def fitAt (xs : List Hearing) (ps : List Slot) (i : Nat) : Bool := match xs[i]?, ps[i]? with
  | some a, some s => fitB a s
  | _, _ => false
theorem clAt_of {xs : List Hearing} {ps : List Slot} {i k : Nat} {a b : Hearing} {s t : Slot} (h1 : xs[i]? = some a) (h2 : ps[i]? = some s) (h3 : xs[k]? = some b) (h4 : ps[k]? = some t) : clAt xs ps i k = clashB a s b t := by simp [clAt, h1, h2, h3, h4]
theorem fitAt_of {xs : List Hearing} {ps : List Slot} {i : Nat} {a : Hearing} {s : Slot} (h1 : xs[i]? = some a) (h2 : ps[i]? = some s) : fitAt xs ps i = fitB a s := by simp [fitAt, h1, h2]
theorem hasW_mem {xs : List ByteArray} {p : ByteArray} : hasW xs p = true ↔ p ∈ xs := by
  unfold hasW
  simp only [List.any_eq_true]
  constructor
  · rintro ⟨x, hx, he⟩
    have e : x = p := strEq_iff x p |>.1 (by simpa [strEq] using he)
    exact e ▸ hx
  · intro h
    exact ⟨p, h, by simp⟩
theorem sharedL_sym {a b : Hearing} (h : 0 < (sharedL a b).length) : 0 < (sharedL b a).length := by
  obtain ⟨p, hp⟩ := List.exists_mem_of_length_pos h
  unfold sharedL at hp
  rw [List.mem_filter, hasW_mem] at hp
  have : p ∈ sharedL b a := by unfold sharedL; rw [List.mem_filter, hasW_mem]; exact ⟨hp.2, hp.1⟩
  exact List.length_pos_of_mem this
theorem sharedL_pos_sym (a b : Hearing) : decide (0 < (sharedL a b).length) = decide (0 < (sharedL b a).length) := by
  by_cases h : 0 < (sharedL a b).length
  · rw [decide_eq_true h, decide_eq_true (sharedL_sym h)]
  · rw [decide_eq_false h, decide_eq_false (fun h2 => h (sharedL_sym h2))]
theorem clashB_sym (a : Hearing) (s : Slot) (b : Hearing) (t : Slot) : clashB a s b t = clashB b t a s := by
  unfold clashB
  rw [sharedL_pos_sym a b, show decide (s.day = t.day) = decide (t.day = s.day) by simp [eq_comm], show decide (s.room = t.room) = decide (t.room = s.room) by simp [eq_comm]]
  cases decide (t.day = s.day) <;> cases decide (s.frm < t.frm + b.len) <;> cases decide (t.frm < s.frm + a.len) <;> rfl
theorem clAt_sym (xs : List Hearing) (ps : List Slot) (i k : Nat) : clAt xs ps i k = clAt xs ps k i := by
  unfold clAt
  cases h1 : xs[i]? <;> cases h2 : ps[i]? <;> cases h3 : xs[k]? <;> cases h4 : ps[k]? <;> simp [clashB_sym]
def clRow (xs : List Hearing) (ps : List Slot) (i n : Nat) : List (Nat × Nat) := ((List.range n).filter fun k => decide (i < k) && clAt xs ps i k).map fun k => (i, k)
def clList (xs : List Hearing) (ps : List Slot) (n i : Nat) : List (Nat × Nat) := (List.range i).flatMap fun j => clRow xs ps j n
theorem clRow_start (xs : List Hearing) (ps : List Slot) (i : Nat) : clRow xs ps i (i + 1) = [] := by
  unfold clRow
  rw [List.map_eq_nil_iff, List.filter_eq_nil_iff]
  intro k hk
  rw [List.mem_range] at hk
  simp; omega
theorem clRow_yes {xs : List Hearing} {ps : List Slot} {i k : Nat} (h : i < k) (hc : clAt xs ps i k = true) : clRow xs ps i (k + 1) = clRow xs ps i k ++ [(i, k)] := by
  unfold clRow
  rw [List.range_succ, List.filter_append, List.map_append]
  simp [h, hc]
theorem clRow_no {xs : List Hearing} {ps : List Slot} {i k : Nat} (hc : clAt xs ps i k = false) : clRow xs ps i (k + 1) = clRow xs ps i k := by
  unfold clRow
  rw [List.range_succ, List.filter_append, List.map_append]
  simp [hc]
theorem clList_succ (xs : List Hearing) (ps : List Slot) (n i : Nat) : clList xs ps n (i + 1) = clList xs ps n i ++ clRow xs ps i n := by
  unfold clList
  rw [List.range_succ, List.flatMap_append]
  simp
theorem clRow_len (xs : List Hearing) (ps : List Slot) (i n : Nat) : (clRow xs ps i n).length ≤ n := by
  unfold clRow
  rw [List.length_map]
  exact Nat.le_trans (List.length_filter_le _ _) (by simp)
theorem clList_len (xs : List Hearing) (ps : List Slot) (n : Nat) : ∀ i, (clList xs ps n i).length ≤ i * n
  | 0 => by simp [clList]
  | i + 1 => by
    rw [clList_succ, List.length_append, Nat.succ_mul]
    have := clList_len xs ps n i
    have := clRow_len xs ps i n
    omega
def planAt (xs : List Hearing) (ps : List Slot) (i : Nat) : Bool := fitAt xs ps i && (List.range i).all fun k => !clAt xs ps i k
def planB (xs : List Hearing) (ps : List Slot) : Bool := decide (ps.length = xs.length) && (List.range xs.length).all (planAt xs ps)
def isPlan (xs : List Hearing) (ps : List Slot) : Bool × Int := if hearingsOk xs && slotsOk ps then (planB xs ps, 0) else (false, 1)
theorem clList_nil {xs : List Hearing} {ps : List Slot} {n : Nat} : (clList xs ps n n).length = 0 ↔ ∀ i, i < n → ∀ k, k < i → clAt xs ps i k = false := by
  rw [List.length_eq_zero_iff]
  unfold clList
  rw [List.flatMap_eq_nil_iff]
  constructor
  · intro h i hi k hk
    have h1 := h k (List.mem_range.2 (by omega))
    unfold clRow at h1
    rw [List.map_eq_nil_iff, List.filter_eq_nil_iff] at h1
    have h2 := h1 i (List.mem_range.2 hi)
    rw [clAt_sym]
    cases hc : clAt xs ps k i with
    | false => rfl
    | true => rw [hc] at h2; simp [hk] at h2
  · intro h k hk
    unfold clRow
    rw [List.map_eq_nil_iff, List.filter_eq_nil_iff]
    intro i hi
    rw [List.mem_range] at hi hk
    by_cases hl : k < i
    · have := h i hi k hl
      rw [clAt_sym] at this
      simp [this]
    · simp [hl]
theorem planB_impl {xs : List Hearing} {ps : List Slot} (hl : ps.length = xs.length) (hf : (List.range xs.length).all (fitAt xs ps) = true) : planB xs ps = decide ((clList xs ps xs.length xs.length).length = 0) := by
  unfold planB
  rw [decide_eq_true hl, Bool.true_and]
  rw [List.all_eq_true] at hf
  rw [Bool.eq_iff_iff, List.all_eq_true, decide_eq_true_eq, clList_nil]
  constructor
  · intro h i hi k hk
    have := h i (List.mem_range.2 hi)
    unfold planAt at this
    rw [Bool.and_eq_true, List.all_eq_true] at this
    have := this.2 k (List.mem_range.2 hk)
    simpa using this
  · intro h i hi
    unfold planAt
    rw [Bool.and_eq_true, List.all_eq_true]
    refine ⟨hf i hi, fun k hk => ?_⟩
    rw [h i (List.mem_range.1 hi) k (List.mem_range.1 hk)]; rfl
theorem planB_len {xs : List Hearing} {ps : List Slot} (hl : ¬ ps.length = xs.length) : planB xs ps = false := by unfold planB; rw [decide_eq_false hl]; rfl
theorem planB_unfit {xs : List Hearing} {ps : List Slot} {k : Nat} (hk : k < xs.length) (hf : planAt xs ps k = false) : planB xs ps = false := by
  unfold planB
  rw [Bool.and_eq_false_iff]
  right
  rw [List.all_eq_false]
  exact ⟨k, List.mem_range.2 hk, by simp [hf]⟩
theorem planAt_unfit {xs : List Hearing} {ps : List Slot} {k : Nat} (hf : fitAt xs ps k = false) : planAt xs ps k = false := by unfold planAt; rw [hf]; rfl
theorem planAt_clash {xs : List Hearing} {ps : List Slot} {i k : Nat} (hk : k < i) (hf : clAt xs ps i k = true) : planAt xs ps i = false := by
  unfold planAt
  rw [Bool.and_eq_false_iff]
  right
  rw [List.all_eq_false]
  exact ⟨k, List.mem_range.2 hk, by simp [hf]⟩
theorem ra_succ {p : Nat → Bool} {k : Nat} (h : (List.range k).all p = true) (hp : p k = true) : (List.range (k + 1)).all p = true := by
  rw [List.range_succ, List.all_append, h]; simp [hp]
theorem planB_true {xs : List Hearing} {ps : List Slot} (hl : ps.length = xs.length) (h : (List.range xs.length).all (planAt xs ps) = true) : planB xs ps = true := by unfold planB; rw [decide_eq_true hl, h]; rfl
theorem slotsOk_len {xs : List Slot} (h : slotsOk xs = true) : xs.length ≤ 10 := by simp [slotsOk] at h; exact h.2

def encV (x : Value) : List Value := [x]
def LenIs (n : Nat) (v : Value) (w : World) : Prop := ∃ A c, v = .slice A n c

set_option maxRecDepth 100000 in
set_option maxHeartbeats 4000000 in
theorem clashes_any (v : Value) (xs : List Hearing) (lo hi : Nat) (v2 : Value) (ps : List Slot) (lo2 hi2 : Nat) (w : World) (h : RdHearing w lo hi v xs) (hh : hi ≤ w.heap.size) (hm : xs.length ≤ 1000) (hms : ∀ x ∈ xs, Hearing.small x) (h2 : RdF Slot.enc 3 w lo2 hi2 v2 ps) (hh2 : hi2 ≤ w.heap.size) (hb : ∀ x ∈ xs, x.ok = true) (hsl : ∀ s ∈ ps, s.ok = true) (hl : ps.length = xs.length) :
    Calls Tryz.prog 67 #[v, v2] w fun e w' => RetV (LenIs (clList xs ps xs.length xs.length).length) w e w' := by
  obtain ⟨rs, rfl, hR, hP⟩ := h
  rw [List.length_map] at hm
  obtain ⟨A, c, rfl, hcap⟩ := hR.form
  obtain ⟨A2, c2, rfl, hcap2⟩ := h2.form
  have HM := Lib.hid hms; clear hms
  have HP := Lib.hid hP; clear hP
  have HB := Lib.hid hb; clear hb
  have HL := Lib.hid hsl; clear hsl
  generalize hxs : rs.map HearingR.h = xs at *
  have hnx : xs.length = rs.length := by rw [← hxs]; simp
  have hl2 : ps.length = rs.length := by omega
  go_enter Tryz.func67, Tryz.ntmps67
  rw [hl2]
  go_wp2
  go_loopw [5, 6, 7, 11] (fun u _ _ i wr => ∃ k : Nat, k ≤ rs.length ∧ i = .int .i64 k ∧ (∃ L : List Value, L.length = (clList xs ps xs.length k).length ∧ OwnL encV 1 28 wr w.heap.size u L) ∧ Below w.heap.size w wr) (fun _ _ _ i _ => rs.length - (intOf i).toNat)
  case atStart => exact ⟨0, Nat.zero_le _, rfl, ⟨[], by simp [clList], OwnL.emptyAt (w := w) rfl (Nat.le_refl _)⟩, by (repeat (first | with_reducible assumption | with_reducible exact Below.refl _ _ | with_reducible refine Below.setCell ?_ ?_ _ | with_reducible refine Below.alloc ?_ ?_ _ | with_reducible refine Below.drew ?_ | with_reducible refine below_drewN ?_ _ | with_reducible refine Below.step (by with_reducible assumption) ?_ ?_ | omega | (simp <;> omega) | (simp; done)))⟩
  case round =>
    obtain ⟨k, hk, rfl, ⟨L, hL, hown⟩, hbel⟩ := hrel
    have z0 := hbel.size
    have hcl := clList_len xs ps xs.length k
    have hcl2 : k * xs.length ≤ 1000 * 1000 := Nat.mul_le_mul (by omega) (by omega)
    by_cases hlt : k < rs.length
    · have hki : (k : Int) < (rs.length : Int) := by omega
      go_wp2_with fail
      go_loopw [5, 7] (fun u j wi => ∃ m : Nat, k + 1 ≤ m ∧ m ≤ rs.length ∧ j = .int .i64 m ∧ (∃ L : List Value, L.length = (clList xs ps xs.length k).length + (clRow xs ps k m).length ∧ OwnL encV 1 28 wi w.heap.size u L) ∧ Below w.heap.size w wi) (fun _ j _ => rs.length - (intOf j).toNat)
      case atStart => exact ⟨k + 1, Nat.le_refl _, by omega, by go_num, ⟨L, by rw [clRow_start]; simpa using hL, hown⟩, by (repeat (first | with_reducible assumption | with_reducible exact Below.refl _ _ | with_reducible refine Below.setCell ?_ ?_ _ | with_reducible refine Below.alloc ?_ ?_ _ | with_reducible refine Below.drew ?_ | with_reducible refine below_drewN ?_ _ | with_reducible refine Below.step (by with_reducible assumption) ?_ ?_ | omega | (simp <;> omega) | (simp; done)))⟩
      case round =>
        obtain ⟨m, hkm, hmn, rfl, ⟨L2, hL2, hown2⟩, hbi⟩ := hrel
        have zi := hbi.size
        have hrl := clRow_len xs ps k m
        clear hown
        by_cases hlm : m < rs.length
        · have hmi : (m : Int) < (rs.length : Int) := by omega
          have hmi2 : (m : Int) < (ps.length : Int) := by omega
          have hki2 : (k : Int) < (ps.length : Int) := by omega

          obtain ⟨r0, b0, off0, HS0, rfl, -, hbw0, a0_0, a0_1, a0_2, a0_3⟩ := RdHearing.at hR hbi hh hlt
          have HX0 := Lib.hid (show xs[k]? = some r0.h by rw [← hxs]; exact map_at (f := HearingR.h) rfl HS0.out)
          have hs0 := HM.out r0.h (List.mem_of_getElem? HX0.out)
          have HO0 := Lib.hid (HB.out r0.h (List.mem_of_getElem? HX0.out))
          have ho0 := r0.h.ok_bounds HO0.out
          have HPr0 := Lib.hid (HP.out r0 (List.mem_of_getElem? HS0.out))
          obtain ⟨P0, C0, hpe0, hpc0⟩ := (HPr0.out).form
          have HF0 : RdF encStr 1 w lo hi (.slice P0 r0.h.people.length C0) r0.h.people := hpe0 ▸ HPr0.out
          rw [hpe0] at a0_2
          have HQ0 := Lib.hid hpe0
          clear hpe0 HPr0
          obtain ⟨r1, b1, off1, HS1, hA1, -, hbw1, a1_0, a1_1, a1_2, a1_3⟩ := RdHearing.at hR hbi hh hlm
          injection hA1 with hA1; injection hA1 with e1 e2; subst e1 e2
          have HX1 := Lib.hid (show xs[m]? = some r1.h by rw [← hxs]; exact map_at (f := HearingR.h) rfl HS1.out)
          have hs1 := HM.out r1.h (List.mem_of_getElem? HX1.out)
          have HO1 := Lib.hid (HB.out r1.h (List.mem_of_getElem? HX1.out))
          have ho1 := r1.h.ok_bounds HO1.out
          have HPr1 := Lib.hid (HP.out r1 (List.mem_of_getElem? HS1.out))
          obtain ⟨P1, C1, hpe1, hpc1⟩ := (HPr1.out).form
          have HF1 : RdF encStr 1 w lo hi (.slice P1 r1.h.people.length C1) r1.h.people := hpe1 ▸ HPr1.out
          rw [hpe1] at a1_2
          have HQ1 := Lib.hid hpe1
          clear hpe1 HPr1
          obtain ⟨s0, d0, of0, HT0, rfl, -, hdw0, c0_0, c0_1, c0_2⟩ := Slot.at h2 hbi hh2 (show k < ps.length by omega)
          have ht0 := s0.ok_bounds (HL.out s0 (List.mem_of_getElem? HT0.out))
          obtain ⟨s1, d1, of1, HT1, hB1, -, hdw1, c1_0, c1_1, c1_2⟩ := Slot.at h2 hbi hh2 (show m < ps.length by omega)
          injection hB1 with hB1; injection hB1 with e1 e2; subst e1 e2
          have ht1 := s1.ok_bounds (HL.out s1 (List.mem_of_getElem? HT1.out))
          have HC := Lib.hid (clAt_of HX0.out HT0.out HX1.out HT1.out)
          go_wp2_with fail
          go_region_held3 (fun w' => w'.cell? ⟨b0, off0 + k * 4, none⟩ = some (.string r0.h.code) ∧ w'.cell? ⟨b0, off0 + k * 4 + 1, none⟩ = some (.int .i64 r0.h.len) ∧ w'.cell? ⟨b0, off0 + k * 4 + 2, none⟩ = some (.slice P0 r0.h.people.length C0) ∧ w'.cell? ⟨b0, off0 + k * 4 + 3, none⟩ = some (.int .i64 r0.h.last) ∧ w'.cell? ⟨b0, off0 + m * 4, none⟩ = some (.string r1.h.code) ∧ w'.cell? ⟨b0, off0 + m * 4 + 1, none⟩ = some (.int .i64 r1.h.len) ∧ w'.cell? ⟨b0, off0 + m * 4 + 2, none⟩ = some (.slice P1 r1.h.people.length C1) ∧ w'.cell? ⟨b0, off0 + m * 4 + 3, none⟩ = some (.int .i64 r1.h.last) ∧ w'.cell? ⟨d0, of0 + k * 3, none⟩ = some (.int .i64 s0.room) ∧ w'.cell? ⟨d0, of0 + k * 3 + 1, none⟩ = some (.int .i64 s0.day) ∧ w'.cell? ⟨d0, of0 + k * 3 + 2, none⟩ = some (.int .i64 s0.frm) ∧ w'.cell? ⟨d0, of0 + m * 3, none⟩ = some (.int .i64 s1.room) ∧ w'.cell? ⟨d0, of0 + m * 3 + 1, none⟩ = some (.int .i64 s1.day) ∧ w'.cell? ⟨d0, of0 + m * 3 + 2, none⟩ = some (.int .i64 s1.frm)) (go_keep)
            (first | (go_at_call 82; refine (clash_any r0.h (.slice P0 r0.h.people.length C0) lo hi s0 r1.h (.slice P1 r1.h.people.length C1) lo hi s1 _ ((HF0.below hbi hh).below (B := wr.heap.size) (Below.refl _ wr).drew (by omega)) (by show _ ≤ wr.heap.size; omega) hs0 ((HF1.below hbi hh).below (B := wr.heap.size) (Below.refl _ wr).drew (by omega)) (by show _ ≤ wr.heap.size; omega) hs1 (by omega) (by omega) (by omega) (by omega) (by omega) (by omega) (by omega) (by omega)).mono ?_; rintro e wq ⟨rfl, bq⟩; replace bq : Below wr.heap.size wr wq := Below.undrew bq; have zq := bq.size; have kq0 := (bq.cell (p := ⟨b0, off0 + k * 4, none⟩) (by show b0 < _; omega)).trans a0_0; have kq1 := (bq.cell (p := ⟨b0, off0 + k * 4 + 1, none⟩) (by show b0 < _; omega)).trans a0_1; have kq2 := (bq.cell (p := ⟨b0, off0 + k * 4 + 2, none⟩) (by show b0 < _; omega)).trans a0_2; have kq3 := (bq.cell (p := ⟨b0, off0 + k * 4 + 3, none⟩) (by show b0 < _; omega)).trans a0_3; have kq4 := (bq.cell (p := ⟨b0, off0 + m * 4, none⟩) (by show b0 < _; omega)).trans a1_0; have kq5 := (bq.cell (p := ⟨b0, off0 + m * 4 + 1, none⟩) (by show b0 < _; omega)).trans a1_1; have kq6 := (bq.cell (p := ⟨b0, off0 + m * 4 + 2, none⟩) (by show b0 < _; omega)).trans a1_2; have kq7 := (bq.cell (p := ⟨b0, off0 + m * 4 + 3, none⟩) (by show b0 < _; omega)).trans a1_3; have kq8 := (bq.cell (p := ⟨d0, of0 + k * 3, none⟩) (by show d0 < _; omega)).trans c0_0; have kq9 := (bq.cell (p := ⟨d0, of0 + k * 3 + 1, none⟩) (by show d0 < _; omega)).trans c0_1; have kq10 := (bq.cell (p := ⟨d0, of0 + k * 3 + 2, none⟩) (by show d0 < _; omega)).trans c0_2; have kq11 := (bq.cell (p := ⟨d0, of0 + m * 3, none⟩) (by show d0 < _; omega)).trans c1_0; have kq12 := (bq.cell (p := ⟨d0, of0 + m * 3 + 1, none⟩) (by show d0 < _; omega)).trans c1_1; have kq13 := (bq.cell (p := ⟨d0, of0 + m * 3 + 2, none⟩) (by show d0 < _; omega)).trans c1_2))
          clear kq0 kq1 kq2 kq3 kq4 kq5 kq6 kq7 kq8 kq9 kq10 kq11 kq12 kq13
          have hbq := Below.step bq zi hbi
          have hownq := hown2.below bq
          clear bq
          cases hf : clashB r0.h s0 r1.h s1 with
          | true =>
            have HN := Lib.hid (clRow_yes (xs := xs) (ps := ps) (i := k) (k := m) (by omega) (by rw [HC.out, hf]))
            go_wp2_with (at_builtin; refine wpList_push (enc := encV) _ _ (by first | rfl | simp) rfl (.tmp 39) (.tmp 43) 46 rfl w.heap.size 28 _ (.slice none 0 0) 1 24 Tryz.underlying46 (by kernel_rfl) rfl (by omega) _ L2 (.slice (some ⟨wq.heap.size, 0, none⟩) 2 2) _ rfl rfl (by intro u hu; simp [encV] at hu; subst hu; rfl) rfl rfl (hownq.alloc _) (by omega) (by omega) (by (first | omega | (simp; omega) | (simp; done))) ?_; intro v2 w3 hown3 hg3 hk3)
            go_roundw
            case rel => exact ⟨m + 1, by omega, by omega, by go_num, ⟨_, by rw [HN.out, List.length_append, List.length_append, hL2]; simp; omega, hown3⟩, hk3 _ _ (Nat.le_refl _) (by (repeat (first | with_reducible assumption | with_reducible exact Below.refl _ _ | with_reducible refine Below.setCell ?_ ?_ _ | with_reducible refine Below.alloc ?_ ?_ _ | with_reducible refine Below.drew ?_ | with_reducible refine below_drewN ?_ _ | with_reducible refine Below.step (by with_reducible assumption) ?_ ?_ | omega | (simp <;> omega) | (simp; done))))⟩
            case measure => simp [intOf]; omega
          | false =>
            have HN := Lib.hid (clRow_no (xs := xs) (ps := ps) (i := k) (k := m) (by rw [HC.out, hf]))
            go_wp2_with fail
            go_roundw
            case rel => exact ⟨m + 1, by omega, by omega, by go_num, ⟨_, by rw [HN.out]; exact hL2, hownq⟩, by (repeat (first | with_reducible assumption | with_reducible exact Below.refl _ _ | with_reducible refine Below.setCell ?_ ?_ _ | with_reducible refine Below.alloc ?_ ?_ _ | with_reducible refine Below.drew ?_ | with_reducible refine below_drewN ?_ _ | with_reducible refine Below.step (by with_reducible assumption) ?_ ?_ | omega | (simp <;> omega) | (simp; done)))⟩
            case measure => simp [intOf]; omega
        · have hmn2 : m = rs.length := by omega
          have HSU := Lib.hid (clList_succ xs ps xs.length k)
          go_wp2_with fail
          go_roundw
          case rel => exact ⟨k + 1, by omega, by go_num, ⟨L2, by rw [HSU.out, List.length_append, hL2, hmn2, hnx], hown2⟩, by (repeat (first | with_reducible assumption | with_reducible exact Below.refl _ _ | with_reducible refine Below.setCell ?_ ?_ _ | with_reducible refine Below.alloc ?_ ?_ _ | with_reducible refine Below.drew ?_ | with_reducible refine below_drewN ?_ _ | with_reducible refine Below.step (by with_reducible assumption) ?_ ?_ | omega | (simp <;> omega) | (simp; done)))⟩
          case measure => simp [intOf]; omega
    · have hkn : k = rs.length := by omega
      have hll := hL
      obtain ⟨A9, C9, hv9, hc9⟩ := RdF.form (hown.rdw (fun _ => rfl)).rd
      rw [hL] at hv9
      subst hv9
      rw [hkn, ← hnx]
      go_wp2_with fail
      go_ret
      exact ⟨_, rfl, ⟨_, _, rfl⟩, by (repeat (first | with_reducible assumption | with_reducible exact Below.refl _ _ | with_reducible refine Below.setCell ?_ ?_ _ | with_reducible refine Below.alloc ?_ ?_ _ | with_reducible refine Below.drew ?_ | with_reducible refine below_drewN ?_ _ | with_reducible refine Below.step (by with_reducible assumption) ?_ ?_ | omega | (simp <;> omega) | (simp; done)))⟩
set_option maxRecDepth 100000 in
set_option maxHeartbeats 4000000 in
theorem isPlan_any (v : Value) (xs : List Hearing) (lo hi : Nat) (v2 : Value) (ps : List Slot) (lo2 hi2 : Nat) (w : World) (h : RdHearing w lo hi v xs) (hh : hi ≤ w.heap.size) (hm : xs.length ≤ 1000) (hms : ∀ x ∈ xs, Hearing.small x) (h2 : RdF Slot.enc 3 w lo2 hi2 v2 ps) (hh2 : hi2 ≤ w.heap.size) (hb : ∀ x ∈ xs, x.ok = true) (hsl : ∀ s ∈ ps, s.ok = true) :
    Calls Tryz.prog 53 #[v, v2] w fun e w' => e = .returned (.bool (planB xs ps)) ∧ Below w.heap.size w w' := by
  have h0 := h
  have h20 := h2
  have hms0 := Lib.hid hms
  have hb0 := Lib.hid hb
  have hsl0 := Lib.hid hsl
  have hm0 := hm
  obtain ⟨rs, rfl, hR, hP⟩ := h
  rw [List.length_map] at hm
  obtain ⟨A, c, rfl, hcap⟩ := hR.form
  obtain ⟨A2, c2, rfl, hcap2⟩ := h2.form
  have HM := Lib.hid hms; clear hms
  have HP := Lib.hid hP; clear hP
  have HB := Lib.hid hb; clear hb
  have HL := Lib.hid hsl; clear hsl
  generalize hxs : rs.map HearingR.h = xs at *
  have hnx : xs.length = rs.length := by rw [← hxs]; simp
  by_cases hl : ps.length = xs.length
  rotate_left
  · have HF := Lib.hid (planB_len hl)
    have hl2 : ¬ ((ps.length : Int) = (rs.length : Int)) := by omega
    go_enter Tryz.func53, Tryz.ntmps53
    go_wp2
    go_ret
    exact ⟨ret_bool (by rw [HF.out] <;> rfl), by (repeat (first | with_reducible assumption | with_reducible exact Below.refl _ _ | with_reducible refine Below.setCell ?_ ?_ _ | with_reducible refine Below.alloc ?_ ?_ _ | with_reducible refine Below.drew ?_ | with_reducible refine below_drewN ?_ _ | with_reducible refine Below.step (by with_reducible assumption) ?_ ?_ | omega | (simp <;> omega) | (simp; done)))⟩
  have hl2 : ps.length = rs.length := by omega
  rw [hl2] at h20
  go_enter Tryz.func53, Tryz.ntmps53
  rw [hl2]
  go_wp2
  go_loopw [5, 6, 14] (fun _ _ i wr => ∃ k : Nat, k ≤ rs.length ∧ i = .int .i64 k ∧ Hid ((List.range k).all (fitAt xs ps) = true) ∧ Below w.heap.size w wr) (fun _ _ i _ => rs.length - (intOf i).toNat)
  case atStart => exact ⟨0, Nat.zero_le _, rfl, rfl, by (repeat (first | with_reducible assumption | with_reducible exact Below.refl _ _ | with_reducible refine Below.setCell ?_ ?_ _ | with_reducible refine Below.alloc ?_ ?_ _ | with_reducible refine Below.drew ?_ | with_reducible refine below_drewN ?_ _ | with_reducible refine Below.step (by with_reducible assumption) ?_ ?_ | omega | (simp <;> omega) | (simp; done)))⟩
  case round =>
    obtain ⟨k, hk, rfl, HA, hbel⟩ := hrel
    have z0 := hbel.size
    by_cases hlt : k < rs.length
    · have hki : (k : Int) < (rs.length : Int) := by omega

      obtain ⟨r0, b0, off0, HS0, rfl, -, hbw0, a0_0, a0_1, a0_2, a0_3⟩ := RdHearing.at hR hbel hh hlt
      have HX0 := Lib.hid (show xs[k]? = some r0.h by rw [← hxs]; exact map_at (f := HearingR.h) rfl HS0.out)
      have hs0 := HM.out r0.h (List.mem_of_getElem? HX0.out)
      have HO0 := Lib.hid (HB.out r0.h (List.mem_of_getElem? HX0.out))
      have ho0 := r0.h.ok_bounds HO0.out
      have HPr0 := Lib.hid (HP.out r0 (List.mem_of_getElem? HS0.out))
      obtain ⟨P0, C0, hpe0, hpc0⟩ := (HPr0.out).form
      have HF0 : RdF encStr 1 w lo hi (.slice P0 r0.h.people.length C0) r0.h.people := hpe0 ▸ HPr0.out
      rw [hpe0] at a0_2
      have HQ0 := Lib.hid hpe0
      clear hpe0 HPr0
      go_wp2_with fail
      have kX := Blk.newAt (w := wr) (n := wr.heap.size) (t := 56) (cs := #[.string r0.h.code, .int .i64 r0.h.len, .slice P0 r0.h.people.length C0, .int .i64 r0.h.last]) rfl
      have zX : (wr.alloc (.cells #[.string r0.h.code, .int .i64 r0.h.len, .slice P0 r0.h.people.length C0, .int .i64 r0.h.last] 56)).heap.size = wr.heap.size + 1 := by simp
      have bX := Below.step ((Below.refl wr.heap.size wr).alloc (Nat.le_refl _) (.cells #[.string r0.h.code, .int .i64 r0.h.len, .slice P0 r0.h.people.length C0, .int .i64 r0.h.last] 56)) z0 hbel
      generalize (wr.alloc (.cells #[.string r0.h.code, .int .i64 r0.h.len, .slice P0 r0.h.people.length C0, .int .i64 r0.h.last] 56)) = W1 at *
      obtain ⟨s0, d0, of0, HT0, rfl, -, hdw0, c0_0, c0_1, c0_2⟩ := Slot.at h2 bX hh2 (show k < ps.length by omega)
      have ht0 := s0.ok_bounds (HL.out s0 (List.mem_of_getElem? HT0.out))
      obtain ⟨q0, q1, q2, q3⟩ := kX.c4
      clear a0_0 a0_1 a0_2 a0_3
      have HC := Lib.hid (fitAt_of HX0.out HT0.out)
      cases hf : fitB r0.h s0 with
      | true =>
        have HN := Lib.hid (ra_succ HA.out (by rw [HC.out, hf]))
        go_wp2_with fail
        go_region_held3 (fun w' => w'.cell? ⟨wr.heap.size, 0, none⟩ = some (.string r0.h.code) ∧ w'.cell? ⟨wr.heap.size, 1, none⟩ = some (.int .i64 r0.h.len) ∧ w'.cell? ⟨wr.heap.size, 2, none⟩ = some (.slice P0 r0.h.people.length C0) ∧ w'.cell? ⟨wr.heap.size, 3, none⟩ = some (.int .i64 r0.h.last) ∧ w'.cell? ⟨d0, of0 + k * 3, none⟩ = some (.int .i64 s0.room) ∧ w'.cell? ⟨d0, of0 + k * 3 + 1, none⟩ = some (.int .i64 s0.day) ∧ w'.cell? ⟨d0, of0 + k * 3 + 2, none⟩ = some (.int .i64 s0.frm)) (go_keep)
          (first | (go_at_call 66; refine (fits_any r0.h (.slice P0 r0.h.people.length C0) s0 _ (by omega) (by omega) (by omega) (by omega)).mono ?_; rintro e wq ⟨rfl, bq⟩; replace bq : Below W1.heap.size W1 wq := Below.undrew bq; have zq := bq.size; have kq0 := (bq.cell (p := ⟨wr.heap.size, 0, none⟩) (by show wr.heap.size < _; omega)).trans q0; have kq1 := (bq.cell (p := ⟨wr.heap.size, 1, none⟩) (by show wr.heap.size < _; omega)).trans q1; have kq2 := (bq.cell (p := ⟨wr.heap.size, 2, none⟩) (by show wr.heap.size < _; omega)).trans q2; have kq3 := (bq.cell (p := ⟨wr.heap.size, 3, none⟩) (by show wr.heap.size < _; omega)).trans q3; have kq4 := (bq.cell (p := ⟨d0, of0 + k * 3, none⟩) (by show d0 < _; omega)).trans c0_0; have kq5 := (bq.cell (p := ⟨d0, of0 + k * 3 + 1, none⟩) (by show d0 < _; omega)).trans c0_1; have kq6 := (bq.cell (p := ⟨d0, of0 + k * 3 + 2, none⟩) (by show d0 < _; omega)).trans c0_2))
        clear kq0 kq1 kq2 kq3 kq4 kq5 kq6
        have hbq := Below.step bq (by omega) bX
        try rw [hf]
        go_wp2_with fail
        go_roundw
        case rel => exact ⟨k + 1, by omega, by go_num, HN, hbq⟩
        case measure => simp [intOf]; omega
      | false =>
        have HN := Lib.hid (planB_unfit (xs := xs) (ps := ps) (k := k) (by omega) (planAt_unfit (by rw [HC.out, hf])))
        go_wp2_with fail
        go_region_held3 (fun w' => w'.cell? ⟨wr.heap.size, 0, none⟩ = some (.string r0.h.code) ∧ w'.cell? ⟨wr.heap.size, 1, none⟩ = some (.int .i64 r0.h.len) ∧ w'.cell? ⟨wr.heap.size, 2, none⟩ = some (.slice P0 r0.h.people.length C0) ∧ w'.cell? ⟨wr.heap.size, 3, none⟩ = some (.int .i64 r0.h.last) ∧ w'.cell? ⟨d0, of0 + k * 3, none⟩ = some (.int .i64 s0.room) ∧ w'.cell? ⟨d0, of0 + k * 3 + 1, none⟩ = some (.int .i64 s0.day) ∧ w'.cell? ⟨d0, of0 + k * 3 + 2, none⟩ = some (.int .i64 s0.frm)) (go_keep)
          (first | (go_at_call 66; refine (fits_any r0.h (.slice P0 r0.h.people.length C0) s0 _ (by omega) (by omega) (by omega) (by omega)).mono ?_; rintro e wq ⟨rfl, bq⟩; replace bq : Below W1.heap.size W1 wq := Below.undrew bq; have zq := bq.size; have kq0 := (bq.cell (p := ⟨wr.heap.size, 0, none⟩) (by show wr.heap.size < _; omega)).trans q0; have kq1 := (bq.cell (p := ⟨wr.heap.size, 1, none⟩) (by show wr.heap.size < _; omega)).trans q1; have kq2 := (bq.cell (p := ⟨wr.heap.size, 2, none⟩) (by show wr.heap.size < _; omega)).trans q2; have kq3 := (bq.cell (p := ⟨wr.heap.size, 3, none⟩) (by show wr.heap.size < _; omega)).trans q3; have kq4 := (bq.cell (p := ⟨d0, of0 + k * 3, none⟩) (by show d0 < _; omega)).trans c0_0; have kq5 := (bq.cell (p := ⟨d0, of0 + k * 3 + 1, none⟩) (by show d0 < _; omega)).trans c0_1; have kq6 := (bq.cell (p := ⟨d0, of0 + k * 3 + 2, none⟩) (by show d0 < _; omega)).trans c0_2))
        clear kq0 kq1 kq2 kq3 kq4 kq5 kq6
        have hbq := Below.step bq (by omega) bX
        try rw [hf]
        go_wp2_with fail
        go_ret
        exact ⟨ret_bool (by rw [HN.out] <;> rfl), hbq⟩
    · have hkn : k = rs.length := by omega
      have HN := Lib.hid (planB_impl hl (by have := HA.out; rw [hkn, ← hnx] at this; exact this))
      go_wp2_with fail
      refine (clashes_any _ xs lo hi _ ps lo2 hi2 _ (h0.below hbel hh) (by omega) hm0 hms0.out (h20.below hbel hh2) (by omega) hb0.out hsl0.out hl).mono ?_
      rintro e w3 ⟨v3, rfl, ⟨A3, C3, rfl⟩, b3⟩
      have hbq := Below.step b3 z0 hbel
      generalize (clList xs ps xs.length xs.length).length = N at *
      go_wp2_with fail
      go_ret
      exact ⟨ret_bool (by rw [HN.out]; first | rfl | (rw [Bool.eq_iff_iff]; simp) | (simp; omega)), hbq⟩
set_option maxRecDepth 100000 in
set_option maxHeartbeats 4000000 in
theorem l19Plan_any (v : Value) (xs : List Hearing) (lo hi : Nat) (v2 : Value) (ps : List Slot) (lo2 hi2 : Nat) (w : World) (h : RdHearing w lo hi v xs) (hh : hi ≤ w.heap.size) (hm : xs.length ≤ 1000) (hms : ∀ x ∈ xs, Hearing.small x) (h2 : RdF Slot.enc 3 w lo2 hi2 v2 ps) (hh2 : hi2 ≤ w.heap.size) (hb : ∀ x ∈ xs, x.ok = true) (hsl : ∀ s ∈ ps, s.ok = true) :
    Calls Tryz.prog 56 #[v, v2] w fun e w' => e = .returned (.bool (planB xs ps)) ∧ Below w.heap.size w w' := by
  obtain ⟨rs, rfl, hR, hP⟩ := h
  rw [List.length_map] at hm
  obtain ⟨A, c, rfl, hcap⟩ := hR.form
  obtain ⟨A2, c2, rfl, hcap2⟩ := h2.form
  have HM := Lib.hid hms; clear hms
  have HP := Lib.hid hP; clear hP
  have HB := Lib.hid hb; clear hb
  have HL := Lib.hid hsl; clear hsl
  generalize hxs : rs.map HearingR.h = xs at *
  have hnx : xs.length = rs.length := by rw [← hxs]; simp
  by_cases hl : ps.length = xs.length
  rotate_left
  · have HF := Lib.hid (planB_len hl)
    have hl2 : ¬ ((rs.length : Int) = (ps.length : Int)) := by omega
    go_enter Tryz.func56, Tryz.ntmps56
    go_wp2
    go_ret
    exact ⟨ret_bool (by rw [HF.out] <;> rfl), by (repeat (first | with_reducible assumption | with_reducible exact Below.refl _ _ | with_reducible refine Below.setCell ?_ ?_ _ | with_reducible refine Below.alloc ?_ ?_ _ | with_reducible refine Below.drew ?_ | with_reducible refine below_drewN ?_ _ | with_reducible refine Below.step (by with_reducible assumption) ?_ ?_ | omega | (simp <;> omega) | (simp; done)))⟩
  have hl2 : ps.length = rs.length := by omega
  go_enter Tryz.func56, Tryz.ntmps56
  rw [hl2]
  go_wp2
  go_loopw [5, 6] (fun i _ wr => ∃ k : Nat, k ≤ rs.length ∧ i = .int .i64 k ∧ Hid ((List.range k).all (planAt xs ps) = true) ∧ Below w.heap.size w wr) (fun i _ _ => rs.length - (intOf i).toNat)
  case atStart => exact ⟨0, Nat.zero_le _, rfl, rfl, by (repeat (first | with_reducible assumption | with_reducible exact Below.refl _ _ | with_reducible refine Below.setCell ?_ ?_ _ | with_reducible refine Below.alloc ?_ ?_ _ | with_reducible refine Below.drew ?_ | with_reducible refine below_drewN ?_ _ | with_reducible refine Below.step (by with_reducible assumption) ?_ ?_ | omega | (simp <;> omega) | (simp; done)))⟩
  case round =>
    obtain ⟨k, hk, rfl, HA, hbel⟩ := hrel
    have z0 := hbel.size
    by_cases hlt : k < rs.length
    · have hki : (k : Int) < (rs.length : Int) := by omega

      obtain ⟨r0, b0, off0, HS0, rfl, -, hbw0, a0_0, a0_1, a0_2, a0_3⟩ := RdHearing.at hR hbel hh hlt
      have HX0 := Lib.hid (show xs[k]? = some r0.h by rw [← hxs]; exact map_at (f := HearingR.h) rfl HS0.out)
      have hs0 := HM.out r0.h (List.mem_of_getElem? HX0.out)
      have HO0 := Lib.hid (HB.out r0.h (List.mem_of_getElem? HX0.out))
      have ho0 := r0.h.ok_bounds HO0.out
      have HPr0 := Lib.hid (HP.out r0 (List.mem_of_getElem? HS0.out))
      obtain ⟨P0, C0, hpe0, hpc0⟩ := (HPr0.out).form
      have HF0 : RdF encStr 1 w lo hi (.slice P0 r0.h.people.length C0) r0.h.people := hpe0 ▸ HPr0.out
      rw [hpe0] at a0_2
      have HQ0 := Lib.hid hpe0
      clear hpe0 HPr0
      obtain ⟨s0, d0, of0, HT0, rfl, -, hdw0, c0_0, c0_1, c0_2⟩ := Slot.at h2 hbel hh2 (show k < ps.length by omega)
      have ht0 := s0.ok_bounds (HL.out s0 (List.mem_of_getElem? HT0.out))
      have HC := Lib.hid (fitAt_of HX0.out HT0.out)
      cases hf : fitB r0.h s0 with
      | false =>
        have HN := Lib.hid (planB_unfit (xs := xs) (ps := ps) (k := k) (by omega) (planAt_unfit (by rw [HC.out, hf])))
        go_wp2_with fail
        go_region_held3 (fun w' => w'.cell? ⟨b0, off0 + k * 4, none⟩ = some (.string r0.h.code) ∧ w'.cell? ⟨b0, off0 + k * 4 + 1, none⟩ = some (.int .i64 r0.h.len) ∧ w'.cell? ⟨b0, off0 + k * 4 + 2, none⟩ = some (.slice P0 r0.h.people.length C0) ∧ w'.cell? ⟨b0, off0 + k * 4 + 3, none⟩ = some (.int .i64 r0.h.last) ∧ w'.cell? ⟨d0, of0 + k * 3, none⟩ = some (.int .i64 s0.room) ∧ w'.cell? ⟨d0, of0 + k * 3 + 1, none⟩ = some (.int .i64 s0.day) ∧ w'.cell? ⟨d0, of0 + k * 3 + 2, none⟩ = some (.int .i64 s0.frm)) (go_keep)
          (first | (go_at_call 68; refine (l19Fits_any r0.h (.slice P0 r0.h.people.length C0) s0 _ (by omega) (by omega) (by omega) (by omega)).mono ?_; rintro e wq ⟨rfl, bq⟩; replace bq : Below wr.heap.size wr wq := Below.undrew bq; have zq := bq.size; have kq0 := (bq.cell (p := ⟨b0, off0 + k * 4, none⟩) (by show b0 < _; omega)).trans a0_0; have kq1 := (bq.cell (p := ⟨b0, off0 + k * 4 + 1, none⟩) (by show b0 < _; omega)).trans a0_1; have kq2 := (bq.cell (p := ⟨b0, off0 + k * 4 + 2, none⟩) (by show b0 < _; omega)).trans a0_2; have kq3 := (bq.cell (p := ⟨b0, off0 + k * 4 + 3, none⟩) (by show b0 < _; omega)).trans a0_3; have kq4 := (bq.cell (p := ⟨d0, of0 + k * 3, none⟩) (by show d0 < _; omega)).trans c0_0; have kq5 := (bq.cell (p := ⟨d0, of0 + k * 3 + 1, none⟩) (by show d0 < _; omega)).trans c0_1; have kq6 := (bq.cell (p := ⟨d0, of0 + k * 3 + 2, none⟩) (by show d0 < _; omega)).trans c0_2))
        clear kq0 kq1 kq2 kq3 kq4 kq5 kq6
        have hbq := Below.step bq z0 hbel
        try rw [hf]
        go_wp2_with fail
        go_ret
        exact ⟨ret_bool (by rw [HN.out] <;> rfl), hbq⟩
      | true =>
        go_wp2_with fail
        go_region_held3 (fun w' => w'.cell? ⟨b0, off0 + k * 4, none⟩ = some (.string r0.h.code) ∧ w'.cell? ⟨b0, off0 + k * 4 + 1, none⟩ = some (.int .i64 r0.h.len) ∧ w'.cell? ⟨b0, off0 + k * 4 + 2, none⟩ = some (.slice P0 r0.h.people.length C0) ∧ w'.cell? ⟨b0, off0 + k * 4 + 3, none⟩ = some (.int .i64 r0.h.last) ∧ w'.cell? ⟨d0, of0 + k * 3, none⟩ = some (.int .i64 s0.room) ∧ w'.cell? ⟨d0, of0 + k * 3 + 1, none⟩ = some (.int .i64 s0.day) ∧ w'.cell? ⟨d0, of0 + k * 3 + 2, none⟩ = some (.int .i64 s0.frm)) (go_keep)
          (first | (go_at_call 68; refine (l19Fits_any r0.h (.slice P0 r0.h.people.length C0) s0 _ (by omega) (by omega) (by omega) (by omega)).mono ?_; rintro e wq ⟨rfl, bq⟩; replace bq : Below wr.heap.size wr wq := Below.undrew bq; have zq := bq.size; have kq0 := (bq.cell (p := ⟨b0, off0 + k * 4, none⟩) (by show b0 < _; omega)).trans a0_0; have kq1 := (bq.cell (p := ⟨b0, off0 + k * 4 + 1, none⟩) (by show b0 < _; omega)).trans a0_1; have kq2 := (bq.cell (p := ⟨b0, off0 + k * 4 + 2, none⟩) (by show b0 < _; omega)).trans a0_2; have kq3 := (bq.cell (p := ⟨b0, off0 + k * 4 + 3, none⟩) (by show b0 < _; omega)).trans a0_3; have kq4 := (bq.cell (p := ⟨d0, of0 + k * 3, none⟩) (by show d0 < _; omega)).trans c0_0; have kq5 := (bq.cell (p := ⟨d0, of0 + k * 3 + 1, none⟩) (by show d0 < _; omega)).trans c0_1; have kq6 := (bq.cell (p := ⟨d0, of0 + k * 3 + 2, none⟩) (by show d0 < _; omega)).trans c0_2))
        clear kq0 kq1 kq2 kq3 kq4 kq5 kq6
        have hbq := Below.step bq z0 hbel
        clear bq
        try rw [hf]
        go_wp2_with fail
        clear a0_0 a0_1 a0_2 a0_3 c0_0 c0_1 c0_2
        go_loopw [6] (fun j wi => ∃ m : Nat, m ≤ k ∧ j = .int .i64 m ∧ Hid (((List.range m).all fun q => !clAt xs ps k q) = true) ∧ Below w.heap.size w wi) (fun j _ => k - (intOf j).toNat)
        case atStart => exact ⟨0, Nat.zero_le _, rfl, rfl, by (repeat (first | with_reducible assumption | with_reducible exact Below.refl _ _ | with_reducible refine Below.setCell ?_ ?_ _ | with_reducible refine Below.alloc ?_ ?_ _ | with_reducible refine Below.drew ?_ | with_reducible refine below_drewN ?_ _ | with_reducible refine Below.step (by with_reducible assumption) ?_ ?_ | omega | (simp <;> omega) | (simp; done)))⟩
        case round =>
          obtain ⟨m, hmk, rfl, HJ, hbi⟩ := hrel
          have zi := hbi.size
          by_cases hlm : m < k
          · have hmi : (m : Int) < (rs.length : Int) := by omega
            have hmk' : (m : Int) < (k : Int) := by omega

            obtain ⟨r1, b1, off1, HS1, hA1, -, hbw1, a1_0, a1_1, a1_2, a1_3⟩ := RdHearing.at hR hbi hh (show m < rs.length by omega)
            injection hA1 with hA1; injection hA1 with e1 e2; subst e1 e2
            have HX1 := Lib.hid (show xs[m]? = some r1.h by rw [← hxs]; exact map_at (f := HearingR.h) rfl HS1.out)
            have hs1 := HM.out r1.h (List.mem_of_getElem? HX1.out)
            have HO1 := Lib.hid (HB.out r1.h (List.mem_of_getElem? HX1.out))
            have ho1 := r1.h.ok_bounds HO1.out
            have HPr1 := Lib.hid (HP.out r1 (List.mem_of_getElem? HS1.out))
            obtain ⟨P1, C1, hpe1, hpc1⟩ := (HPr1.out).form
            have HF1 : RdF encStr 1 w lo hi (.slice P1 r1.h.people.length C1) r1.h.people := hpe1 ▸ HPr1.out
            rw [hpe1] at a1_2
            have HQ1 := Lib.hid hpe1
            clear hpe1 HPr1
            obtain ⟨s1, d1, of1, HT1, hB1, -, hdw1, c1_0, c1_1, c1_2⟩ := Slot.at h2 hbi hh2 (show m < ps.length by omega)
            injection hB1 with hB1; injection hB1 with e1 e2; subst e1 e2
            have ht1 := s1.ok_bounds (HL.out s1 (List.mem_of_getElem? HT1.out))
            obtain ⟨r2, b2, off2, HS2, hA2, -, hbw2, a0_0, a0_1, a0_2, a0_3⟩ := RdHearing.at hR hbi hh hlt
            injection hA2 with hA2; injection hA2 with e1 e2; subst e1 e2
            have er : r2 = r0 := by have h1 := HS2.out; rw [HS0.out] at h1; injection h1 with h1; exact h1.symm
            subst er
            have hpq : r2.p0 = .slice P0 r2.h.people.length C0 := HQ0.out
            rw [hpq] at a0_2
            clear hpq
            obtain ⟨s2, d2, of2, HT2, hB2, -, hdw2, c0_0, c0_1, c0_2⟩ := Slot.at h2 hbi hh2 (show k < ps.length by omega)
            injection hB2 with hB2; injection hB2 with e1 e2; subst e1 e2
            have es : s2 = s0 := by have h1 := HT2.out; rw [HT0.out] at h1; injection h1 with h1; exact h1.symm
            subst es
            have HD := Lib.hid (clAt_of HX0.out HT0.out HX1.out HT1.out)
            cases hf2 : clashB r2.h s2 r1.h s1 with
            | true =>
              have HN := Lib.hid (planB_unfit (xs := xs) (ps := ps) (k := k) (by omega) (planAt_clash hlm (by rw [HD.out, hf2])))
              go_wp2_with fail
              go_region_held3 (fun w' => w'.cell? ⟨b0, off0 + k * 4, none⟩ = some (.string r2.h.code) ∧ w'.cell? ⟨b0, off0 + k * 4 + 1, none⟩ = some (.int .i64 r2.h.len) ∧ w'.cell? ⟨b0, off0 + k * 4 + 2, none⟩ = some (.slice P0 r2.h.people.length C0) ∧ w'.cell? ⟨b0, off0 + k * 4 + 3, none⟩ = some (.int .i64 r2.h.last) ∧ w'.cell? ⟨b0, off0 + m * 4, none⟩ = some (.string r1.h.code) ∧ w'.cell? ⟨b0, off0 + m * 4 + 1, none⟩ = some (.int .i64 r1.h.len) ∧ w'.cell? ⟨b0, off0 + m * 4 + 2, none⟩ = some (.slice P1 r1.h.people.length C1) ∧ w'.cell? ⟨b0, off0 + m * 4 + 3, none⟩ = some (.int .i64 r1.h.last) ∧ w'.cell? ⟨d0, of0 + k * 3, none⟩ = some (.int .i64 s2.room) ∧ w'.cell? ⟨d0, of0 + k * 3 + 1, none⟩ = some (.int .i64 s2.day) ∧ w'.cell? ⟨d0, of0 + k * 3 + 2, none⟩ = some (.int .i64 s2.frm) ∧ w'.cell? ⟨d0, of0 + m * 3, none⟩ = some (.int .i64 s1.room) ∧ w'.cell? ⟨d0, of0 + m * 3 + 1, none⟩ = some (.int .i64 s1.day) ∧ w'.cell? ⟨d0, of0 + m * 3 + 2, none⟩ = some (.int .i64 s1.frm)) (go_keep)
                (first | (go_at_call 69; refine (l19Clash_any r2.h (.slice P0 r2.h.people.length C0) lo hi s2 r1.h (.slice P1 r1.h.people.length C1) lo hi s1 _ ((HF0.below hbi hh).below (B := wr.heap.size) (Below.refl _ wr).drew (by omega)) (by show _ ≤ wr.heap.size; omega) hs0 ((HF1.below hbi hh).below (B := wr.heap.size) (Below.refl _ wr).drew (by omega)) (by show _ ≤ wr.heap.size; omega) hs1 (by omega) (by omega) (by omega) (by omega) (by omega) (by omega) (by omega) (by omega) (ok_nodup HO0.out)).mono ?_; rintro e wq ⟨rfl, bq⟩; replace bq : Below wr.heap.size wr wq := Below.undrew bq; have zq := bq.size; have kq0 := (bq.cell (p := ⟨b0, off0 + k * 4, none⟩) (by show b0 < _; omega)).trans a0_0; have kq1 := (bq.cell (p := ⟨b0, off0 + k * 4 + 1, none⟩) (by show b0 < _; omega)).trans a0_1; have kq2 := (bq.cell (p := ⟨b0, off0 + k * 4 + 2, none⟩) (by show b0 < _; omega)).trans a0_2; have kq3 := (bq.cell (p := ⟨b0, off0 + k * 4 + 3, none⟩) (by show b0 < _; omega)).trans a0_3; have kq4 := (bq.cell (p := ⟨b0, off0 + m * 4, none⟩) (by show b0 < _; omega)).trans a1_0; have kq5 := (bq.cell (p := ⟨b0, off0 + m * 4 + 1, none⟩) (by show b0 < _; omega)).trans a1_1; have kq6 := (bq.cell (p := ⟨b0, off0 + m * 4 + 2, none⟩) (by show b0 < _; omega)).trans a1_2; have kq7 := (bq.cell (p := ⟨b0, off0 + m * 4 + 3, none⟩) (by show b0 < _; omega)).trans a1_3; have kq8 := (bq.cell (p := ⟨d0, of0 + k * 3, none⟩) (by show d0 < _; omega)).trans c0_0; have kq9 := (bq.cell (p := ⟨d0, of0 + k * 3 + 1, none⟩) (by show d0 < _; omega)).trans c0_1; have kq10 := (bq.cell (p := ⟨d0, of0 + k * 3 + 2, none⟩) (by show d0 < _; omega)).trans c0_2; have kq11 := (bq.cell (p := ⟨d0, of0 + m * 3, none⟩) (by show d0 < _; omega)).trans c1_0; have kq12 := (bq.cell (p := ⟨d0, of0 + m * 3 + 1, none⟩) (by show d0 < _; omega)).trans c1_1; have kq13 := (bq.cell (p := ⟨d0, of0 + m * 3 + 2, none⟩) (by show d0 < _; omega)).trans c1_2))
              clear kq0 kq1 kq2 kq3 kq4 kq5 kq6 kq7 kq8 kq9 kq10 kq11 kq12 kq13
              have hbq2 := Below.step bq zi hbi
              try rw [hf2]
              go_wp2_with fail
              go_ret
              exact ⟨ret_bool (by rw [HN.out] <;> rfl), hbq2⟩
            | false =>
              have HN := Lib.hid (ra_succ (p := fun q => !clAt xs ps k q) HJ.out (by rw [HD.out, hf2]; rfl))
              go_wp2_with fail
              go_region_held3 (fun w' => w'.cell? ⟨b0, off0 + k * 4, none⟩ = some (.string r2.h.code) ∧ w'.cell? ⟨b0, off0 + k * 4 + 1, none⟩ = some (.int .i64 r2.h.len) ∧ w'.cell? ⟨b0, off0 + k * 4 + 2, none⟩ = some (.slice P0 r2.h.people.length C0) ∧ w'.cell? ⟨b0, off0 + k * 4 + 3, none⟩ = some (.int .i64 r2.h.last) ∧ w'.cell? ⟨b0, off0 + m * 4, none⟩ = some (.string r1.h.code) ∧ w'.cell? ⟨b0, off0 + m * 4 + 1, none⟩ = some (.int .i64 r1.h.len) ∧ w'.cell? ⟨b0, off0 + m * 4 + 2, none⟩ = some (.slice P1 r1.h.people.length C1) ∧ w'.cell? ⟨b0, off0 + m * 4 + 3, none⟩ = some (.int .i64 r1.h.last) ∧ w'.cell? ⟨d0, of0 + k * 3, none⟩ = some (.int .i64 s2.room) ∧ w'.cell? ⟨d0, of0 + k * 3 + 1, none⟩ = some (.int .i64 s2.day) ∧ w'.cell? ⟨d0, of0 + k * 3 + 2, none⟩ = some (.int .i64 s2.frm) ∧ w'.cell? ⟨d0, of0 + m * 3, none⟩ = some (.int .i64 s1.room) ∧ w'.cell? ⟨d0, of0 + m * 3 + 1, none⟩ = some (.int .i64 s1.day) ∧ w'.cell? ⟨d0, of0 + m * 3 + 2, none⟩ = some (.int .i64 s1.frm)) (go_keep)
                (first | (go_at_call 69; refine (l19Clash_any r2.h (.slice P0 r2.h.people.length C0) lo hi s2 r1.h (.slice P1 r1.h.people.length C1) lo hi s1 _ ((HF0.below hbi hh).below (B := wr.heap.size) (Below.refl _ wr).drew (by omega)) (by show _ ≤ wr.heap.size; omega) hs0 ((HF1.below hbi hh).below (B := wr.heap.size) (Below.refl _ wr).drew (by omega)) (by show _ ≤ wr.heap.size; omega) hs1 (by omega) (by omega) (by omega) (by omega) (by omega) (by omega) (by omega) (by omega) (ok_nodup HO0.out)).mono ?_; rintro e wq ⟨rfl, bq⟩; replace bq : Below wr.heap.size wr wq := Below.undrew bq; have zq := bq.size; have kq0 := (bq.cell (p := ⟨b0, off0 + k * 4, none⟩) (by show b0 < _; omega)).trans a0_0; have kq1 := (bq.cell (p := ⟨b0, off0 + k * 4 + 1, none⟩) (by show b0 < _; omega)).trans a0_1; have kq2 := (bq.cell (p := ⟨b0, off0 + k * 4 + 2, none⟩) (by show b0 < _; omega)).trans a0_2; have kq3 := (bq.cell (p := ⟨b0, off0 + k * 4 + 3, none⟩) (by show b0 < _; omega)).trans a0_3; have kq4 := (bq.cell (p := ⟨b0, off0 + m * 4, none⟩) (by show b0 < _; omega)).trans a1_0; have kq5 := (bq.cell (p := ⟨b0, off0 + m * 4 + 1, none⟩) (by show b0 < _; omega)).trans a1_1; have kq6 := (bq.cell (p := ⟨b0, off0 + m * 4 + 2, none⟩) (by show b0 < _; omega)).trans a1_2; have kq7 := (bq.cell (p := ⟨b0, off0 + m * 4 + 3, none⟩) (by show b0 < _; omega)).trans a1_3; have kq8 := (bq.cell (p := ⟨d0, of0 + k * 3, none⟩) (by show d0 < _; omega)).trans c0_0; have kq9 := (bq.cell (p := ⟨d0, of0 + k * 3 + 1, none⟩) (by show d0 < _; omega)).trans c0_1; have kq10 := (bq.cell (p := ⟨d0, of0 + k * 3 + 2, none⟩) (by show d0 < _; omega)).trans c0_2; have kq11 := (bq.cell (p := ⟨d0, of0 + m * 3, none⟩) (by show d0 < _; omega)).trans c1_0; have kq12 := (bq.cell (p := ⟨d0, of0 + m * 3 + 1, none⟩) (by show d0 < _; omega)).trans c1_1; have kq13 := (bq.cell (p := ⟨d0, of0 + m * 3 + 2, none⟩) (by show d0 < _; omega)).trans c1_2))
              clear kq0 kq1 kq2 kq3 kq4 kq5 kq6 kq7 kq8 kq9 kq10 kq11 kq12 kq13
              have hbq2 := Below.step bq zi hbi
              try rw [hf2]
              go_wp2_with fail
              go_roundw
              case rel => exact ⟨m + 1, by omega, by go_num, HN, hbq2⟩
              case measure => simp [intOf]; omega
          · have hmk2 : m = k := by omega
            have HN := Lib.hid (ra_succ (p := planAt xs ps) HA.out (by unfold planAt; rw [HC.out, hf, Bool.true_and, ← hmk2]; have := HJ.out; rw [hmk2] at this ⊢; exact this))
            go_wp2_with fail
            go_roundw
            case rel => exact ⟨k + 1, by omega, by go_num, HN, by (repeat (first | with_reducible assumption | with_reducible exact Below.refl _ _ | with_reducible refine Below.setCell ?_ ?_ _ | with_reducible refine Below.alloc ?_ ?_ _ | with_reducible refine Below.drew ?_ | with_reducible refine below_drewN ?_ _ | with_reducible refine Below.step (by with_reducible assumption) ?_ ?_ | omega | (simp <;> omega) | (simp; done)))⟩
            case measure => simp [intOf]; omega
    · have hkn : k = rs.length := by omega
      have HN := Lib.hid (planB_true hl (by have := HA.out; rw [hkn, ← hnx] at this; exact this))
      go_wp2_with fail
      go_ret
      exact ⟨ret_bool (by rw [HN.out] <;> rfl), by (repeat (first | with_reducible assumption | with_reducible exact Below.refl _ _ | with_reducible refine Below.setCell ?_ ?_ _ | with_reducible refine Below.alloc ?_ ?_ _ | with_reducible refine Below.drew ?_ | with_reducible refine below_drewN ?_ _ | with_reducible refine Below.step (by with_reducible assumption) ?_ ?_ | omega | (simp <;> omega) | (simp; done)))⟩
end Go.Proofs.YtmgdkblleljdaaaGreat
