/- Walks: all pairs of hearings that clash, as a table. Written by a program (gen_clrows.py). -/
import Derived.Test.YtdcfenkkgnnbbaaPlanX
import Derived.Test.YtdcfenkkgnnbbaaRowD
namespace Go.Proofs.Ytdcfenkkgnnbbaa
open Go.RowKit
set_option linter.unusedVariables false

def pairI (p : Nat × Nat) : List Int := [(p.1 : Int), (p.2 : Int)]
def clTab (xs : List Hearing) (ps : List Slot) (i : Nat) : List (List Int) := (clList xs ps xs.length i).map pairI
def clTab2 (xs : List Hearing) (ps : List Slot) (i m : Nat) : List (List Int) := clTab xs ps i ++ (clRow xs ps i m).map pairI
theorem clTab_len (xs : List Hearing) (ps : List Slot) (i : Nat) : (clTab xs ps i).length ≤ i * xs.length := by unfold clTab; rw [List.length_map]; exact clList_len _ _ _ _
theorem clTab_tot (xs : List Hearing) (ps : List Slot) (i : Nat) : totL (clTab xs ps i) = 2 * (clTab xs ps i).length := by
  unfold clTab
  generalize clList xs ps xs.length i = L
  induction L with
  | nil => rfl
  | cons p L ih =>
    simp only [totL, List.map_cons, List.sum_cons, List.length_cons, pairI] at ih ⊢
    simp only [List.length_map, List.length_nil] at ih ⊢
    omega
theorem clTab2_start (xs : List Hearing) (ps : List Slot) (i : Nat) : clTab2 xs ps i (i + 1) = clTab xs ps i := by unfold clTab2; rw [clRow_start]; simp
theorem clTab2_yes {xs : List Hearing} {ps : List Slot} {i k : Nat} (h : i < k) (hc : clAt xs ps i k = true) : clTab2 xs ps i (k + 1) = clTab2 xs ps i k ++ [[(i : Int), (k : Int)]] := by unfold clTab2; rw [clRow_yes h hc, List.map_append, List.append_assoc]; rfl
theorem clTab2_no {xs : List Hearing} {ps : List Slot} {i k : Nat} (hc : clAt xs ps i k = false) : clTab2 xs ps i (k + 1) = clTab2 xs ps i k := by unfold clTab2; rw [clRow_no hc]
theorem clTab2_end (xs : List Hearing) (ps : List Slot) (i : Nat) : clTab2 xs ps i xs.length = clTab xs ps (i + 1) := by unfold clTab2 clTab; rw [clList_succ, List.map_append]
theorem clTab2_len (xs : List Hearing) (ps : List Slot) (i m : Nat) : (clTab2 xs ps i m).length ≤ i * xs.length + m := by
  unfold clTab2
  rw [List.length_append, List.length_map]
  have := clTab_len xs ps i
  have := clRow_len xs ps i m
  omega
def clashesOf (xs : List Hearing) (ps : List Slot) : List (List Int) × Int :=
  if (hearingsOk xs && slotsOk ps) = true then (if ps.length = xs.length then (clTab xs ps xs.length, 0) else ([], 5)) else ([], 1)
theorem clashesOf_bad {xs : List Hearing} {ps : List Slot} (h : (hearingsOk xs && slotsOk ps) = false) : clashesOf xs ps = ([], 1) := by unfold clashesOf; rw [h]; rfl
theorem clashesOf_len {xs : List Hearing} {ps : List Slot} (h : (hearingsOk xs && slotsOk ps) = true) (hl : ¬ ps.length = xs.length) : clashesOf xs ps = ([], 5) := by unfold clashesOf; rw [if_pos h, if_neg hl]
theorem clashesOf_ok {xs : List Hearing} {ps : List Slot} (h : (hearingsOk xs && slotsOk ps) = true) (hl : ps.length = xs.length) : clashesOf xs ps = (clTab xs ps xs.length, 0) := by unfold clashesOf; rw [if_pos h, if_pos hl]
theorem clashesOf_small {xs : List Hearing} {ps : List Slot} : (clashesOf xs ps).1.length ≤ 1048576 ∧ totL (clashesOf xs ps).1 ≤ 524288 := by
  unfold clashesOf
  split
  · next h =>
    split
    · rw [Bool.and_eq_true] at h
      have h1 := hearingsOk_len h.1
      have h2 := clTab_len xs ps xs.length
      have h3 := clTab_tot xs ps xs.length
      have h4 : xs.length * xs.length ≤ 5 * 5 := Nat.mul_le_mul h1 h1
      simp only
      omega
    · simp [totL]
  · simp [totL]
/-- One row more: two new blocks, the row and its header. -/
theorem OwnTab.push {w w9 : World} {base : Nat} {v v9 : Value} {rs : List RowI} {a b : Int} (ho : OwnL RowI.enc 1 83 w base v rs) (hr : RowsD w base w.heap.size rs) (hb : base ≤ w.heap.size)
    (hg : (w.alloc (.cells #[.int .i64 a, .int .i64 b] 2)).grownBy w9 v.ownBlock) (h9 : OwnL RowI.enc 1 83 w9 base v9 (rs ++ [⟨[a, b], some ⟨w.heap.size, 0, none⟩, 2⟩])) : OwnTab w9 base v9 (rs.map RowI.xs ++ [[a, b]]) := by
  have hbl : Below w.heap.size w (w.alloc (.cells #[.int .i64 a, .int .i64 b] 2)) := (Below.refl _ _).alloc (Nat.le_refl _) _
  have hk : Blk (w.alloc (.cells #[.int .i64 a, .int .i64 b] 2)) w.heap.size 2 #[.int .i64 a, .int .i64 b] := Blk.newAt rfl
  have hrow : RdW encInt 1 2 (w.alloc (.cells #[.int .i64 a, .int .i64 b] 2)) w.heap.size (w.heap.size + 1) (.slice (some ⟨w.heap.size, 0, none⟩) 2 2) [a, b] := by
    refine RdW.of_row (xs := [a, b]) hk rfl (fun i x hi hx j u hu => ?_) _ _ (Nat.le_refl _) (Nat.lt_succ_self _)
    have hj : j = 0 := by
      have := (List.getElem?_eq_some_iff.1 hu).1
      simpa [encInt] using this
    subst hj
    simp [encInt] at hu
    subst hu
    match i, hi, hx with
    | 0, _, hx => simp at hx; subst hx; rfl
    | 1, _, hx => simp at hx; subst hx; rfl
  have hd := (hr.below hbl (Nat.le_refl _)).snoc (r := ⟨[a, b], some ⟨w.heap.size, 0, none⟩, 2⟩) hrow (Nat.le_refl _) (Nat.le_succ _)
  have hd9 := hd.grown (ho.alloc _) hg (by decide)
  exact ⟨_, by simp, h9, hd9.wide (Nat.le_refl _) (by have := hg.size; simpa using this)⟩

set_option maxRecDepth 100000 in
set_option maxHeartbeats 4000000 in
theorem clashesT_any (v : Value) (xs : List Hearing) (lo hi : Nat) (v2 : Value) (ps : List Slot) (lo2 hi2 : Nat) (w : World) (h : RdHearing w lo hi v xs) (hh : hi ≤ w.heap.size) (hm : xs.length ≤ 1000) (hms : ∀ x ∈ xs, Hearing.small x) (h2 : RdF Slot.enc 3 w lo2 hi2 v2 ps) (hh2 : hi2 ≤ w.heap.size) (hb : ∀ x ∈ xs, x.ok = true) (hsl : ∀ s ∈ ps, s.ok = true) (hl : ps.length = xs.length) :
    Calls Try.prog 89 #[v, v2] w fun e w' => RetV (fun v' w' => TabW w' w.heap.size w'.heap.size v' (clTab xs ps xs.length)) w e w' := by
  obtain ⟨rs, rfl, hR, hP⟩ := h
  rw [List.length_map] at hm
  obtain ⟨A, c, rfl, hcap⟩ := hR.form
  obtain ⟨A2, c2, rfl, hcap2⟩ := h2.form
  have HM := Lib.hid hms; clear hms
  have HP := Lib.hid hP; clear hP
  have HB := Lib.hid hb; clear hb
  have HL := Lib.hid hsl; clear hsl
  generalize hxs : rs.map HearingR.h = xs at *
  have hnx : xs.length = rs.length := by rw [← hxs]; simp
  have hl2 : ps.length = rs.length := by omega
  go_enter Try.func89, Try.ntmps89
  rw [hl2]
  go_wp2
  go_loopw [5, 6, 7, 11] (fun u _ _ i wr => ∃ k : Nat, k ≤ rs.length ∧ i = .int .i64 k ∧ OwnTab wr w.heap.size u (clTab xs ps k) ∧ Below w.heap.size w wr) (fun _ _ _ i _ => rs.length - (intOf i).toNat)
  case atStart => exact ⟨0, Nat.zero_le _, rfl, OwnTab.emptyAt rfl (Nat.le_refl _), by (repeat (first | with_reducible assumption | with_reducible exact Below.refl _ _ | with_reducible refine Below.setCell ?_ ?_ _ | with_reducible refine Below.alloc ?_ ?_ _ | with_reducible refine Below.drew ?_ | with_reducible refine below_drewN ?_ _ | with_reducible refine Below.step (by with_reducible assumption) ?_ ?_ | omega | (simp <;> omega) | (simp; done)))⟩
  case round =>
    obtain ⟨k, hk, rfl, hown, hbel⟩ := hrel
    have z0 := hbel.size
    have hcl2 : k * xs.length ≤ 1000 * 1000 := Nat.mul_le_mul (by omega) (by omega)
    by_cases hlt : k < rs.length
    · have hki : (k : Int) < (rs.length : Int) := by omega
      go_wp2_with fail
      go_loopw [5, 7] (fun u j wi => ∃ m : Nat, k + 1 ≤ m ∧ m ≤ rs.length ∧ j = .int .i64 m ∧ OwnTab wi w.heap.size u (clTab2 xs ps k m) ∧ Below w.heap.size w wi) (fun _ j _ => rs.length - (intOf j).toNat)
      case atStart => exact ⟨k + 1, Nat.le_refl _, by omega, by go_num, (by rw [clTab2_start]; exact hown), hbel⟩
      case round =>
        obtain ⟨m, hkm, hmn, rfl, hown2, hbi⟩ := hrel
        have zi := hbi.size
        have hrl := clTab2_len xs ps k m
        clear hown
        by_cases hlm : m < rs.length
        · have hmi : (m : Int) < (rs.length : Int) := by omega
          have hmi2 : (m : Int) < (ps.length : Int) := by omega
          have hki2 : (k : Int) < (ps.length : Int) := by omega
          obtain ⟨r0, b0, off0, HS0, rfl, -, hbw0, a0_0, a0_1, a0_2, a0_3⟩ := RdHearing.at hR hbi hh hlt
          have HX0 := Lib.hid (show xs[k]? = some r0.h by rw [← hxs]; exact map_at (f := HearingR.h) rfl HS0.out)
          have hs0 := HM.out r0.h (List.mem_of_getElem? HX0.out)
          have HO0 := Lib.hid (HB.out r0.h (List.mem_of_getElem? HX0.out))
          have ho0 := r0.h.ok_bounds HO0.out
          have HPr0 := Lib.hid (HP.out r0 (List.mem_of_getElem? HS0.out))
          obtain ⟨P0, C0, hpe0, hpc0⟩ := (HPr0.out).form
          have HF0 : RdF encStr 1 w lo hi (.slice P0 r0.h.people.length C0) r0.h.people := hpe0 ▸ HPr0.out
          rw [hpe0] at a0_2
          have HQ0 := Lib.hid hpe0
          clear hpe0 HPr0
          obtain ⟨r1, b1, off1, HS1, hA1, -, hbw1, a1_0, a1_1, a1_2, a1_3⟩ := RdHearing.at hR hbi hh hlm
          injection hA1 with hA1; injection hA1 with e1 e2; subst e1 e2
          have HX1 := Lib.hid (show xs[m]? = some r1.h by rw [← hxs]; exact map_at (f := HearingR.h) rfl HS1.out)
          have hs1 := HM.out r1.h (List.mem_of_getElem? HX1.out)
          have HO1 := Lib.hid (HB.out r1.h (List.mem_of_getElem? HX1.out))
          have ho1 := r1.h.ok_bounds HO1.out
          have HPr1 := Lib.hid (HP.out r1 (List.mem_of_getElem? HS1.out))
          obtain ⟨P1, C1, hpe1, hpc1⟩ := (HPr1.out).form
          have HF1 : RdF encStr 1 w lo hi (.slice P1 r1.h.people.length C1) r1.h.people := hpe1 ▸ HPr1.out
          rw [hpe1] at a1_2
          have HQ1 := Lib.hid hpe1
          clear hpe1 HPr1
          obtain ⟨s0, d0, of0, HT0, rfl, -, hdw0, c0_0, c0_1, c0_2⟩ := Slot.at h2 hbi hh2 (show k < ps.length by omega)
          have ht0 := s0.ok_bounds (HL.out s0 (List.mem_of_getElem? HT0.out))
          obtain ⟨s1, d1, of1, HT1, hB1, -, hdw1, c1_0, c1_1, c1_2⟩ := Slot.at h2 hbi hh2 (show m < ps.length by omega)
          injection hB1 with hB1; injection hB1 with e1 e2; subst e1 e2
          have ht1 := s1.ok_bounds (HL.out s1 (List.mem_of_getElem? HT1.out))
          have HC := Lib.hid (clAt_of HX0.out HT0.out HX1.out HT1.out)
          go_wp2_with fail
          go_region_held3 (fun w' => w'.cell? ⟨b0, off0 + k * 4, none⟩ = some (.string r0.h.code) ∧ w'.cell? ⟨b0, off0 + k * 4 + 1, none⟩ = some (.int .i64 r0.h.len) ∧ w'.cell? ⟨b0, off0 + k * 4 + 2, none⟩ = some (.slice P0 r0.h.people.length C0) ∧ w'.cell? ⟨b0, off0 + k * 4 + 3, none⟩ = some (.int .i64 r0.h.last) ∧ w'.cell? ⟨b0, off0 + m * 4, none⟩ = some (.string r1.h.code) ∧ w'.cell? ⟨b0, off0 + m * 4 + 1, none⟩ = some (.int .i64 r1.h.len) ∧ w'.cell? ⟨b0, off0 + m * 4 + 2, none⟩ = some (.slice P1 r1.h.people.length C1) ∧ w'.cell? ⟨b0, off0 + m * 4 + 3, none⟩ = some (.int .i64 r1.h.last) ∧ w'.cell? ⟨d0, of0 + k * 3, none⟩ = some (.int .i64 s0.room) ∧ w'.cell? ⟨d0, of0 + k * 3 + 1, none⟩ = some (.int .i64 s0.day) ∧ w'.cell? ⟨d0, of0 + k * 3 + 2, none⟩ = some (.int .i64 s0.frm) ∧ w'.cell? ⟨d0, of0 + m * 3, none⟩ = some (.int .i64 s1.room) ∧ w'.cell? ⟨d0, of0 + m * 3 + 1, none⟩ = some (.int .i64 s1.day) ∧ w'.cell? ⟨d0, of0 + m * 3 + 2, none⟩ = some (.int .i64 s1.frm)) (go_keep)
            (first | (go_at_call 81; refine (clash_any r0.h (.slice P0 r0.h.people.length C0) lo hi s0 r1.h (.slice P1 r1.h.people.length C1) lo hi s1 _ ((HF0.below hbi hh).below (B := wr.heap.size) (Below.refl _ wr).drew (by omega)) (by show _ ≤ wr.heap.size; omega) hs0 ((HF1.below hbi hh).below (B := wr.heap.size) (Below.refl _ wr).drew (by omega)) (by show _ ≤ wr.heap.size; omega) hs1 (by omega) (by omega) (by omega) (by omega) (by omega) (by omega) (by omega) (by omega)).mono ?_; rintro e wq ⟨rfl, bq⟩; replace bq : Below wr.heap.size wr wq := Below.undrew bq; have zq := bq.size; have kq0 := (bq.cell (p := ⟨b0, off0 + k * 4, none⟩) (by show b0 < _; omega)).trans a0_0; have kq1 := (bq.cell (p := ⟨b0, off0 + k * 4 + 1, none⟩) (by show b0 < _; omega)).trans a0_1; have kq2 := (bq.cell (p := ⟨b0, off0 + k * 4 + 2, none⟩) (by show b0 < _; omega)).trans a0_2; have kq3 := (bq.cell (p := ⟨b0, off0 + k * 4 + 3, none⟩) (by show b0 < _; omega)).trans a0_3; have kq4 := (bq.cell (p := ⟨b0, off0 + m * 4, none⟩) (by show b0 < _; omega)).trans a1_0; have kq5 := (bq.cell (p := ⟨b0, off0 + m * 4 + 1, none⟩) (by show b0 < _; omega)).trans a1_1; have kq6 := (bq.cell (p := ⟨b0, off0 + m * 4 + 2, none⟩) (by show b0 < _; omega)).trans a1_2; have kq7 := (bq.cell (p := ⟨b0, off0 + m * 4 + 3, none⟩) (by show b0 < _; omega)).trans a1_3; have kq8 := (bq.cell (p := ⟨d0, of0 + k * 3, none⟩) (by show d0 < _; omega)).trans c0_0; have kq9 := (bq.cell (p := ⟨d0, of0 + k * 3 + 1, none⟩) (by show d0 < _; omega)).trans c0_1; have kq10 := (bq.cell (p := ⟨d0, of0 + k * 3 + 2, none⟩) (by show d0 < _; omega)).trans c0_2; have kq11 := (bq.cell (p := ⟨d0, of0 + m * 3, none⟩) (by show d0 < _; omega)).trans c1_0; have kq12 := (bq.cell (p := ⟨d0, of0 + m * 3 + 1, none⟩) (by show d0 < _; omega)).trans c1_1; have kq13 := (bq.cell (p := ⟨d0, of0 + m * 3 + 2, none⟩) (by show d0 < _; omega)).trans c1_2))
          clear kq0 kq1 kq2 kq3 kq4 kq5 kq6 kq7 kq8 kq9 kq10 kq11 kq12 kq13
          have hbq := Below.step bq zi hbi
          have hownq := hown2.below bq
          clear bq hown2
          cases hf : clashB r0.h s0 r1.h s1 with
          | true =>
            have HN := Lib.hid (clTab2_yes (xs := xs) (ps := ps) (i := k) (k := m) (by omega) (by rw [HC.out, hf]))
            obtain ⟨qs, eqs, oqs, dqs⟩ := hownq
            have lqs : qs.length = (clTab2 xs ps k m).length := by rw [← eqs]; simp
            have EQS := Lib.hid eqs
            have hq6 : qs.length ≤ 1048576 := by omega
            clear eqs lqs
            go_wp2_with (at_builtin; refine wpList_push (enc := RowI.enc) _ _ (by first | rfl | simp) rfl (.tmp 39) (.tmp 43) 58 rfl w.heap.size 83 _ (.slice none 0 0) 1 24 Try.underlying58 (by kernel_rfl) rfl (by omega) _ qs ⟨[(k : Int), (m : Int)], some ⟨wq.heap.size, 0, none⟩, 2⟩ _ rfl rfl (RowI.one _) rfl rfl (oqs.alloc _) (by omega) (by omega) (by (first | omega | (simp; omega) | (simp; done))) ?_; intro v3 w3 hown3 hg3 hk3)
            go_roundw
            case rel => exact ⟨m + 1, by omega, by omega, by go_num, (by rw [HN.out, ← EQS.out]; exact OwnTab.push oqs dqs (by omega) hg3 hown3), hk3 _ _ (Nat.le_refl _) (hbq.alloc (by omega) _)⟩
            case measure => simp [intOf]; omega
          | false =>
            have HN := Lib.hid (clTab2_no (xs := xs) (ps := ps) (i := k) (k := m) (by rw [HC.out, hf]))
            go_wp2_with fail
            go_roundw
            case rel => exact ⟨m + 1, by omega, by omega, by go_num, (by rw [HN.out]; exact hownq), hbq⟩
            case measure => simp [intOf]; omega
        · have hmn2 : m = xs.length := by omega
          rw [hmn2, clTab2_end] at hown2
          clear hmn2 hrl
          go_wp2_with fail
          go_roundw
          case rel => exact ⟨k + 1, by omega, by go_num, hown2, hbi⟩
          case measure => simp [intOf]; omega
    · have hkn : k = xs.length := by omega
      rw [hkn] at hown
      clear hkn
      go_wp2_with fail
      go_ret
      exact ⟨_, rfl, hown.tab, hbel⟩
set_option maxRecDepth 100000 in
set_option maxHeartbeats 4000000 in
theorem clashesOf_any (v : Value) (xs : List Hearing) (lo hi : Nat) (v2 : Value) (ps : List Slot) (lo2 hi2 : Nat) (w : World) (h : RdHearing w lo hi v xs) (hh : hi ≤ w.heap.size) (hm : xs.length ≤ 1048576) (hms : ∀ x ∈ xs, Hearing.small x) (h2 : RdF Slot.enc 3 w lo2 hi2 v2 ps) (hh2 : hi2 ≤ w.heap.size) (hm2 : ps.length ≤ 1048576) :
    Calls Try.prog 38 #[v, v2] w fun e w' => RetVC (fun v' w' => TabW w' w.heap.size w'.heap.size v' (clashesOf xs ps).1) (clashesOf xs ps).2 w e w' := by
  obtain ⟨A2, c2, rfl, hcap2⟩ := h2.form
  obtain ⟨A1, c1, rfl, hcap1⟩ : ∃ A c, v = .slice A xs.length c ∧ xs.length ≤ c := by
    obtain ⟨rs, rfl, hR, -⟩ := h
    obtain ⟨A, c, hv, hc⟩ := hR.form
    exact ⟨A, c, by rw [hv, List.length_map], by rw [List.length_map]; exact hc⟩
  go_enter Try.func38, Try.ntmps38
  go_wp2_with fail
  refine (planOk_any _ xs lo hi _ ps lo2 hi2 _ h hh hm hms h2 hh2 hm2).mono ?_
  rintro e w1 ⟨rfl, b1⟩
  have z1 := b1.size
  replace h := h.below b1 (by omega)
  replace h2 := h2.below b1 (by omega)
  cases hc : (hearingsOk xs && slotsOk ps) with
  | false =>
    have HF := Lib.hid (clashesOf_bad hc)
    go_wp2_with fail
    go_ret2
    rw [HF.out]
    exact ⟨_, rfl, TabW.nil (by omega), b1⟩
  | true =>
    by_cases hl : ps.length = xs.length
    rotate_left
    · have HF := Lib.hid (clashesOf_len hc hl)
      have hli : ¬ (ps.length : Int) = (xs.length : Int) := by omega
      clear hc
      go_wp2_with fail
      go_ret2
      rw [HF.out]
      exact ⟨_, rfl, TabW.nil (by omega), b1⟩
    have HF := Lib.hid (clashesOf_ok hc hl)
    have HC := Lib.hid ((Bool.and_eq_true_iff).1 hc)
    have hl5 := hearingsOk_len HC.out.1
    have HLL := Lib.hid hl
    have hli : ((ps.length : Int) != (xs.length : Int)) = false := by simp; omega
    clear hc hl
    go_wp2_with fail
    refine (clashesT_any _ xs lo hi _ ps lo2 hi2 _ h (by omega) (by omega) hms h2 (by omega) (hearingsOk_all HC.out.1) (slotsOk_all HC.out.2) HLL.out).mono ?_
    rintro e w2 ⟨y2, rfl, ht, b2⟩
    have z2 := b2.size
    go_wp2_with fail
    go_ret2
    rw [HF.out]
    exact ⟨_, rfl, by obtain ⟨rs, e1, e2, e3⟩ := ht; exact ⟨rs, e1, e2.wide z1 (Nat.le_refl _), e3.wide z1 (Nat.le_refl _)⟩, Below.step b2 z1 b1⟩
set_option maxRecDepth 100000 in
set_option maxHeartbeats 4000000 in
theorem sClashesOf_any (v : Value) (xs : List Hearing) (lo hi : Nat) (v2 : Value) (ps : List Slot) (lo2 hi2 : Nat) (w : World) (h : RdHearing w lo hi v xs) (hh : hi ≤ w.heap.size) (hm : xs.length ≤ 1048576) (hms : ∀ x ∈ xs, Hearing.small x) (h2 : RdF Slot.enc 3 w lo2 hi2 v2 ps) (hh2 : hi2 ≤ w.heap.size) (hm2 : ps.length ≤ 1048576) :
    Calls Try.prog 37 #[v, v2] w fun e w' => RetVC (fun v' w' => TabW w' w.heap.size w'.heap.size v' (clashesOf xs ps).1) (clashesOf xs ps).2 w e w' := by
  have h0 := h
  have h20 := h2
  have hms0 := Lib.hid hms
  have hm0 := hm
  obtain ⟨rs, rfl, hR, hP⟩ := h
  rw [List.length_map] at hm
  obtain ⟨A, c, rfl, hcap⟩ := hR.form
  obtain ⟨A2, c2, rfl, hcap2⟩ := h2.form
  have HM := Lib.hid hms; clear hms
  have HP := Lib.hid hP; clear hP
  generalize hxs : rs.map HearingR.h = xs at *
  have hnx : xs.length = rs.length := by rw [← hxs]; simp
  go_enter Try.func37, Try.ntmps37
  go_wp2_with fail
  refine (sAreHearings_any _ xs lo hi _ h0 hh hm0 hms0.out).mono ?_
  rintro e w1 ⟨rfl, b1⟩
  have z1 := b1.size
  replace h20 := h20.below b1 (by omega)
  clear h0
  cases hc1 : hearingsOk xs with
  | false =>
    have HF := Lib.hid (clashesOf_bad (xs := xs) (ps := ps) (by rw [hc1]; rfl))
    go_wp2_with fail
    go_ret2
    rw [HF.out]
    exact ⟨_, rfl, TabW.nil (by omega), b1⟩
  | true =>
    have hl5 := hearingsOk_len hc1
    have HC1 := Lib.hid hc1
    clear hc1
    go_wp2_with fail
    refine (sAreSlots_any _ ps lo2 hi2 _ h20 (by omega) hm2).mono ?_
    rintro e w2 ⟨rfl, b2⟩
    have z2 := b2.size
    have bb := Below.step b2 z1 b1
    clear b2 b1 h20
    cases hc2 : slotsOk ps with
    | false =>
      have HF := Lib.hid (clashesOf_bad (xs := xs) (ps := ps) (by rw [HC1.out, hc2]; rfl))
      go_wp2_with fail
      go_ret2
      rw [HF.out]
      exact ⟨_, rfl, TabW.nil (by omega), bb⟩
    | true =>
      have HC := Lib.hid (show (hearingsOk xs && slotsOk ps) = true by rw [HC1.out, hc2]; rfl)
      have HB := Lib.hid (hearingsOk_all HC1.out)
      have HL := Lib.hid (slotsOk_all hc2)
      clear hc2
      by_cases hl : ps.length = xs.length
      rotate_left
      · have HF := Lib.hid (clashesOf_len HC.out hl)
        have hli : ¬ (rs.length : Int) = (ps.length : Int) := by omega
        clear HB HL
        go_wp2_with fail
        go_ret2
        rw [HF.out]
        exact ⟨_, rfl, TabW.nil (by omega), bb⟩
      have HF := Lib.hid (clashesOf_ok HC.out hl)
      have hl2 : ps.length = rs.length := by omega
      replace hR := hR.below bb hh
      replace HP := Lib.hid (fun r hr => (HP.out r hr).below bb hh)
      replace h2 := h2.below bb hh2
      replace hh : hi ≤ w2.heap.size := by omega
      replace hh2 : hi2 ≤ w2.heap.size := by omega
      rw [hl2]
      go_wp2_with fail
      go_loopw [6, 7, 8] (fun u i _ wr => ∃ k : Nat, k ≤ rs.length ∧ i = .int .i64 k ∧ OwnTab wr w2.heap.size u (clTab xs ps k) ∧ Below w2.heap.size w2 wr) (fun _ i _ _ => rs.length - (intOf i).toNat)
      case atStart => exact ⟨0, Nat.zero_le _, rfl, OwnTab.emptyAt rfl (Nat.le_refl _), by (repeat (first | with_reducible assumption | with_reducible exact Below.refl _ _ | with_reducible refine Below.setCell ?_ ?_ _ | with_reducible refine Below.alloc ?_ ?_ _ | with_reducible refine Below.drew ?_ | with_reducible refine below_drewN ?_ _ | with_reducible refine Below.step (by with_reducible assumption) ?_ ?_ | omega | (simp <;> omega) | (simp; done)))⟩
      case round =>
        obtain ⟨k, hk, rfl, hown, hbel⟩ := hrel
        have z0 := hbel.size
        have hcl2 : k * xs.length ≤ 1000 * 1000 := Nat.mul_le_mul (by omega) (by omega)
        by_cases hlt : k < rs.length
        · have hki : (k : Int) < (rs.length : Int) := by omega
          go_wp2_with fail
          go_loopw [6, 8] (fun u j wi => ∃ m : Nat, k + 1 ≤ m ∧ m ≤ rs.length ∧ j = .int .i64 m ∧ OwnTab wi w2.heap.size u (clTab2 xs ps k m) ∧ Below w2.heap.size w2 wi) (fun _ j _ => rs.length - (intOf j).toNat)
          case atStart => exact ⟨k + 1, Nat.le_refl _, by omega, by go_num, (by rw [clTab2_start]; exact hown), hbel⟩
          case round =>
            obtain ⟨m, hkm, hmn, rfl, hown2, hbi⟩ := hrel
            have zi := hbi.size
            have hrl := clTab2_len xs ps k m
            clear hown
            by_cases hlm : m < rs.length
            · have hmi : (m : Int) < (rs.length : Int) := by omega
              have hmi2 : (m : Int) < (ps.length : Int) := by omega
              have hki2 : (k : Int) < (ps.length : Int) := by omega
              obtain ⟨r0, b0, off0, HS0, rfl, -, hbw0, a0_0, a0_1, a0_2, a0_3⟩ := RdHearing.at hR hbi hh hlt
              have HX0 := Lib.hid (show xs[k]? = some r0.h by rw [← hxs]; exact map_at (f := HearingR.h) rfl HS0.out)
              have hs0 := HM.out r0.h (List.mem_of_getElem? HX0.out)
              have HO0 := Lib.hid (HB.out r0.h (List.mem_of_getElem? HX0.out))
              have ho0 := r0.h.ok_bounds HO0.out
              have HPr0 := Lib.hid (HP.out r0 (List.mem_of_getElem? HS0.out))
              obtain ⟨P0, C0, hpe0, hpc0⟩ := (HPr0.out).form
              have HF0 : RdF encStr 1 w2 lo hi (.slice P0 r0.h.people.length C0) r0.h.people := hpe0 ▸ HPr0.out
              rw [hpe0] at a0_2
              have HQ0 := Lib.hid hpe0
              clear hpe0 HPr0
              obtain ⟨r1, b1, off1, HS1, hA1, -, hbw1, a1_0, a1_1, a1_2, a1_3⟩ := RdHearing.at hR hbi hh hlm
              injection hA1 with hA1; injection hA1 with e1 e2; subst e1 e2
              have HX1 := Lib.hid (show xs[m]? = some r1.h by rw [← hxs]; exact map_at (f := HearingR.h) rfl HS1.out)
              have hs1 := HM.out r1.h (List.mem_of_getElem? HX1.out)
              have HO1 := Lib.hid (HB.out r1.h (List.mem_of_getElem? HX1.out))
              have ho1 := r1.h.ok_bounds HO1.out
              have HPr1 := Lib.hid (HP.out r1 (List.mem_of_getElem? HS1.out))
              obtain ⟨P1, C1, hpe1, hpc1⟩ := (HPr1.out).form
              have HF1 : RdF encStr 1 w2 lo hi (.slice P1 r1.h.people.length C1) r1.h.people := hpe1 ▸ HPr1.out
              rw [hpe1] at a1_2
              have HQ1 := Lib.hid hpe1
              clear hpe1 HPr1
              obtain ⟨s0, d0, of0, HT0, rfl, -, hdw0, c0_0, c0_1, c0_2⟩ := Slot.at h2 hbi hh2 (show k < ps.length by omega)
              have ht0 := s0.ok_bounds (HL.out s0 (List.mem_of_getElem? HT0.out))
              obtain ⟨s1, d1, of1, HT1, hB1, -, hdw1, c1_0, c1_1, c1_2⟩ := Slot.at h2 hbi hh2 (show m < ps.length by omega)
              injection hB1 with hB1; injection hB1 with e1 e2; subst e1 e2
              have ht1 := s1.ok_bounds (HL.out s1 (List.mem_of_getElem? HT1.out))
              have HC := Lib.hid (clAt_of HX0.out HT0.out HX1.out HT1.out)
              go_wp2_with fail
              go_region_held3 (fun w' => w'.cell? ⟨b0, off0 + k * 4, none⟩ = some (.string r0.h.code) ∧ w'.cell? ⟨b0, off0 + k * 4 + 1, none⟩ = some (.int .i64 r0.h.len) ∧ w'.cell? ⟨b0, off0 + k * 4 + 2, none⟩ = some (.slice P0 r0.h.people.length C0) ∧ w'.cell? ⟨b0, off0 + k * 4 + 3, none⟩ = some (.int .i64 r0.h.last) ∧ w'.cell? ⟨b0, off0 + m * 4, none⟩ = some (.string r1.h.code) ∧ w'.cell? ⟨b0, off0 + m * 4 + 1, none⟩ = some (.int .i64 r1.h.len) ∧ w'.cell? ⟨b0, off0 + m * 4 + 2, none⟩ = some (.slice P1 r1.h.people.length C1) ∧ w'.cell? ⟨b0, off0 + m * 4 + 3, none⟩ = some (.int .i64 r1.h.last) ∧ w'.cell? ⟨d0, of0 + k * 3, none⟩ = some (.int .i64 s0.room) ∧ w'.cell? ⟨d0, of0 + k * 3 + 1, none⟩ = some (.int .i64 s0.day) ∧ w'.cell? ⟨d0, of0 + k * 3 + 2, none⟩ = some (.int .i64 s0.frm) ∧ w'.cell? ⟨d0, of0 + m * 3, none⟩ = some (.int .i64 s1.room) ∧ w'.cell? ⟨d0, of0 + m * 3 + 1, none⟩ = some (.int .i64 s1.day) ∧ w'.cell? ⟨d0, of0 + m * 3 + 2, none⟩ = some (.int .i64 s1.frm)) (go_keep)
                (first | (go_at_call 80; refine (l19Clash_any r0.h (.slice P0 r0.h.people.length C0) lo hi s0 r1.h (.slice P1 r1.h.people.length C1) lo hi s1 _ ((HF0.below hbi hh).below (B := wr.heap.size) (Below.refl _ wr).drew (by omega)) (by show _ ≤ wr.heap.size; omega) hs0 ((HF1.below hbi hh).below (B := wr.heap.size) (Below.refl _ wr).drew (by omega)) (by show _ ≤ wr.heap.size; omega) hs1 (by omega) (by omega) (by omega) (by omega) (by omega) (by omega) (by omega) (by omega) (ok_nodup HO0.out)).mono ?_; rintro e wq ⟨rfl, bq⟩; replace bq : Below wr.heap.size wr wq := Below.undrew bq; have zq := bq.size; have kq0 := (bq.cell (p := ⟨b0, off0 + k * 4, none⟩) (by show b0 < _; omega)).trans a0_0; have kq1 := (bq.cell (p := ⟨b0, off0 + k * 4 + 1, none⟩) (by show b0 < _; omega)).trans a0_1; have kq2 := (bq.cell (p := ⟨b0, off0 + k * 4 + 2, none⟩) (by show b0 < _; omega)).trans a0_2; have kq3 := (bq.cell (p := ⟨b0, off0 + k * 4 + 3, none⟩) (by show b0 < _; omega)).trans a0_3; have kq4 := (bq.cell (p := ⟨b0, off0 + m * 4, none⟩) (by show b0 < _; omega)).trans a1_0; have kq5 := (bq.cell (p := ⟨b0, off0 + m * 4 + 1, none⟩) (by show b0 < _; omega)).trans a1_1; have kq6 := (bq.cell (p := ⟨b0, off0 + m * 4 + 2, none⟩) (by show b0 < _; omega)).trans a1_2; have kq7 := (bq.cell (p := ⟨b0, off0 + m * 4 + 3, none⟩) (by show b0 < _; omega)).trans a1_3; have kq8 := (bq.cell (p := ⟨d0, of0 + k * 3, none⟩) (by show d0 < _; omega)).trans c0_0; have kq9 := (bq.cell (p := ⟨d0, of0 + k * 3 + 1, none⟩) (by show d0 < _; omega)).trans c0_1; have kq10 := (bq.cell (p := ⟨d0, of0 + k * 3 + 2, none⟩) (by show d0 < _; omega)).trans c0_2; have kq11 := (bq.cell (p := ⟨d0, of0 + m * 3, none⟩) (by show d0 < _; omega)).trans c1_0; have kq12 := (bq.cell (p := ⟨d0, of0 + m * 3 + 1, none⟩) (by show d0 < _; omega)).trans c1_1; have kq13 := (bq.cell (p := ⟨d0, of0 + m * 3 + 2, none⟩) (by show d0 < _; omega)).trans c1_2))
              clear kq0 kq1 kq2 kq3 kq4 kq5 kq6 kq7 kq8 kq9 kq10 kq11 kq12 kq13
              have hbq := Below.step bq zi hbi
              have hownq := hown2.below bq
              clear bq hown2
              cases hf : clashB r0.h s0 r1.h s1 with
              | true =>
                have HN := Lib.hid (clTab2_yes (xs := xs) (ps := ps) (i := k) (k := m) (by omega) (by rw [HC.out, hf]))
                obtain ⟨qs, eqs, oqs, dqs⟩ := hownq
                have lqs : qs.length = (clTab2 xs ps k m).length := by rw [← eqs]; simp
                have EQS := Lib.hid eqs
                have hq6 : qs.length ≤ 1048576 := by omega
                clear eqs lqs
                go_wp2_with (at_builtin; refine wpList_push (enc := RowI.enc) _ _ (by first | rfl | simp) rfl (.tmp 54) (.tmp 58) 58 rfl w2.heap.size 83 _ (.slice none 0 0) 1 24 Try.underlying58 (by kernel_rfl) rfl (by omega) _ qs ⟨[(k : Int), (m : Int)], some ⟨wq.heap.size, 0, none⟩, 2⟩ _ rfl rfl (RowI.one _) rfl rfl (oqs.alloc _) (by omega) (by omega) (by (first | omega | (simp; omega) | (simp; done))) ?_; intro v3 w3 hown3 hg3 hk3)
                go_roundw
                case rel => exact ⟨m + 1, by omega, by omega, by go_num, (by rw [HN.out, ← EQS.out]; exact OwnTab.push oqs dqs (by omega) hg3 hown3), hk3 _ _ (Nat.le_refl _) (hbq.alloc (by omega) _)⟩
                case measure => simp [intOf]; omega
              | false =>
                have HN := Lib.hid (clTab2_no (xs := xs) (ps := ps) (i := k) (k := m) (by rw [HC.out, hf]))
                go_wp2_with fail
                go_roundw
                case rel => exact ⟨m + 1, by omega, by omega, by go_num, (by rw [HN.out]; exact hownq), hbq⟩
                case measure => simp [intOf]; omega
            · have hmn2 : m = xs.length := by omega
              rw [hmn2, clTab2_end] at hown2
              clear hmn2 hrl
              go_wp2_with fail
              go_roundw
              case rel => exact ⟨k + 1, by omega, by go_num, hown2, hbi⟩
              case measure => simp [intOf]; omega
        · have hkn : k = xs.length := by omega
          rw [hkn] at hown
          clear hkn
          go_wp2_with fail
          go_ret2
          rw [HF.out]
          exact ⟨_, rfl, by obtain ⟨qs, e1, e2, e3⟩ := hown.tab; exact ⟨qs, e1, e2.wide (by omega) (Nat.le_refl _), e3.wide (by omega) (Nat.le_refl _)⟩, Below.step hbel (by omega) bb⟩
end Go.Proofs.Ytdcfenkkgnnbbaa
