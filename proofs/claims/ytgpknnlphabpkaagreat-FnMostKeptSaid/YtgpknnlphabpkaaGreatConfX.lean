/- Walks: DoContradict, IsConflict. Written by a program (gen_confx.py). -/
import Derived.Test.YtgpknnlphabpkaaGreatConfW
import Derived.BigQuiet
import Derived.Deep.QuietTactic
namespace Go.Proofs.YtgpknnlphabpkaaGreat
open Go.RowKit
set_option linter.unusedVariables false

set_option maxRecDepth 100000 in
set_option maxHeartbeats 4000000 in
theorem impDoContradict_any (v : Value) (xs : List Hearing) (lo hi : Nat) (v2 : Value) (ps : List Slot) (lo2 hi2 : Nat) (v3 : Value) (ds : List Demand) (lo3 hi3 : Nat) (v4 : Value) (s : List Int) (lo4 hi4 : Nat) (w : World) (h : RdHearing w lo hi v xs) (hh : hi ≤ w.heap.size) (hm : xs.length ≤ 1048576) (hms : ∀ x ∈ xs, Hearing.small x) (h2 : RdF Slot.enc 3 w lo2 hi2 v2 ps) (hh2 : hi2 ≤ w.heap.size) (hm2 : ps.length ≤ 1048576) (h3 : RdF Demand.enc 3 w lo3 hi3 v3 ds) (hh3 : hi3 ≤ w.heap.size) (hm3 : ds.length ≤ 1048576) (h4 : RdF encInt 1 w lo4 hi4 v4 s) (hh4 : hi4 ≤ w.heap.size) (hm4 : s.length ≤ 1048576) :
    Calls Tryz.prog 21 #[v, v2, v3, v4] w fun e w' => e = .returned (.tuple #[.bool (doContradict xs ps ds s).1, .int .i64 (doContradict xs ps ds s).2]) ∧ Below w.heap.size w w' := by
  go_enter Tryz.func21, Tryz.ntmps21
  go_wp2_with fail
  refine (someCode_any _ xs lo hi _ ps lo2 hi2 _ ds lo3 hi3 _ s lo4 hi4 _ h hh hm hms h2 hh2 hm2 h3 hh3 hm3 h4 hh4 hm4).mono ?_
  rintro e w1 ⟨rfl, b1⟩
  have z1 := b1.size
  replace h := h.below b1 (by omega)
  replace h2 := h2.below b1 (by omega)
  replace h3 := h3.below b1 (by omega)
  replace h4 := h4.below b1 (by omega)
  by_cases hz : someC xs ps ds s = 0
  · have HF := Lib.hid (show doContradict xs ps ds s = (against (tabs xs ps ds) s, 0) by unfold doContradict; rw [if_pos hz])
    have HZ := Lib.hid (someC_zero hz)
    have hbl := bothOk_len (areDemands_both HZ.out.1)
    rw [hz]
    clear hz
    go_wp2_with fail
    refine (keptLists_any _ xs lo hi _ ps lo2 hi2 _ ds lo3 hi3 _ h (by omega) hm hms h2 (by omega) hm2 h3 (by omega) hm3 HZ.out.1).mono ?_
    rintro e w2 ⟨y2, rfl, ho, b2⟩
    have z2 := b2.size
    have hnl := cals_le (xs := xs) (ps := ps) hbl.2 hbl.1
    have htl := tabs_len xs ps ds
    have HR := Lib.hid (show ∀ l ∈ tabs xs ps ds, l.length ≤ 1048576 from fun l hl => Nat.le_trans (tabs_row hl) hm3)
    have hrd := ho.rd (Nat.le_refl _)
    replace h4 := h4.below b2 (by omega)
    have hbk := Below.step b2 z1 b1
    have htl2 : (tabs xs ps ds).length ≤ 1048576 := by omega
    clear htl ho h h2 h3
    generalize tabs xs ps ds = L at *
    go_wp2_with fail
    refine (contradict_any _ L _ _ _ s lo4 hi4 _ hrd (Nat.le_refl _) htl2 HR.out h4 (by omega) hm4).mono ?_
    rintro e w3 ⟨rfl, b3⟩
    go_wp2_with fail
    go_ret2
    rw [HF.out]
    exact ⟨rfl, Below.step b3 (by omega) hbk⟩
  · have HF := Lib.hid (show doContradict xs ps ds s = (false, someC xs ps ds s) by unfold doContradict; rw [if_neg hz])
    have hne : (someC xs ps ds s != 0) = true := by simpa using hz
    generalize someC xs ps ds s = cd at *
    go_wp2_with fail
    go_ret2
    rw [HF.out]
    exact ⟨rfl, b1⟩
set_option maxRecDepth 100000 in
set_option maxHeartbeats 4000000 in
theorem sDoContradict_any (v : Value) (xs : List Hearing) (lo hi : Nat) (v2 : Value) (ps : List Slot) (lo2 hi2 : Nat) (v3 : Value) (ds : List Demand) (lo3 hi3 : Nat) (v4 : Value) (s : List Int) (lo4 hi4 : Nat) (w : World) (h : RdHearing w lo hi v xs) (hh : hi ≤ w.heap.size) (hm : xs.length ≤ 1048576) (hms : ∀ x ∈ xs, Hearing.small x) (h2 : RdF Slot.enc 3 w lo2 hi2 v2 ps) (hh2 : hi2 ≤ w.heap.size) (hm2 : ps.length ≤ 1048576) (h3 : RdF Demand.enc 3 w lo3 hi3 v3 ds) (hh3 : hi3 ≤ w.heap.size) (hm3 : ds.length ≤ 1048576) (h4 : RdF encInt 1 w lo4 hi4 v4 s) (hh4 : hi4 ≤ w.heap.size) (hm4 : s.length ≤ 1048576) :
    Calls Tryz.prog 46 #[v, v2, v3, v4] w fun e w' => e = .returned (.tuple #[.bool (doContradict xs ps ds s).1, .int .i64 (doContradict xs ps ds s).2]) ∧ Below w.heap.size w w' := by
  go_enter Tryz.func46, Tryz.ntmps46
  go_wp2_with fail
  refine (l22Code_any _ xs lo hi _ ps lo2 hi2 _ ds lo3 hi3 _ s lo4 hi4 _ h hh hm hms h2 hh2 hm2 h3 hh3 hm3 h4 hh4 hm4).mono ?_
  rintro e w1 ⟨rfl, b1⟩
  have z1 := b1.size
  replace h := h.below b1 (by omega)
  replace h2 := h2.below b1 (by omega)
  replace h3 := h3.below b1 (by omega)
  replace h4 := h4.below b1 (by omega)
  by_cases hz : someC xs ps ds s = 0
  · have HF := Lib.hid (show doContradict xs ps ds s = (against (tabs xs ps ds) s, 0) by unfold doContradict; rw [if_pos hz])
    have HZ := Lib.hid (someC_zero hz)
    have hbl := bothOk_len (areDemands_both HZ.out.1)
    rw [hz]
    clear hz
    go_wp2_with fail
    refine (l22Tables_any _ xs lo hi _ ps lo2 hi2 _ ds lo3 hi3 _ h (by omega) hm hms h2 (by omega) hm2 h3 (by omega) hm3 HZ.out.1).mono ?_
    rintro e w2 ⟨y2, rfl, ho, b2⟩
    have z2 := b2.size
    have hnl := cals_le (xs := xs) (ps := ps) hbl.2 hbl.1
    have htl := tabs_len xs ps ds
    have HR := Lib.hid (show ∀ l ∈ tabs xs ps ds, l.length ≤ 1048576 from fun l hl => Nat.le_trans (tabs_row hl) hm3)
    have hrd := ho.rd (Nat.le_refl _)
    replace h4 := h4.below b2 (by omega)
    have hbk := Below.step b2 z1 b1
    have htl2 : (tabs xs ps ds).length ≤ 1048576 := by omega
    clear htl ho h h2 h3
    generalize tabs xs ps ds = L at *
    go_wp2_with fail
    refine (l22Against_any _ L _ _ _ s lo4 hi4 _ hrd (Nat.le_refl _) htl2 HR.out h4 (by omega) hm4).mono ?_
    rintro e w3 ⟨rfl, b3⟩
    go_wp2_with fail
    go_ret2
    rw [HF.out]
    exact ⟨rfl, Below.step b3 (by omega) hbk⟩
  · have HF := Lib.hid (show doContradict xs ps ds s = (false, someC xs ps ds s) by unfold doContradict; rw [if_neg hz])
    have hne : (someC xs ps ds s != 0) = true := by simpa using hz
    generalize someC xs ps ds s = cd at *
    go_wp2_with fail
    go_ret2
    rw [HF.out]
    exact ⟨rfl, b1⟩
set_option maxRecDepth 100000 in
set_option maxHeartbeats 4000000 in
theorem impIsConflict_any (v : Value) (xs : List Hearing) (lo hi : Nat) (v2 : Value) (ps : List Slot) (lo2 hi2 : Nat) (v3 : Value) (ds : List Demand) (lo3 hi3 : Nat) (v4 : Value) (s : List Int) (lo4 hi4 : Nat) (w : World) (h : RdHearing w lo hi v xs) (hh : hi ≤ w.heap.size) (hm : xs.length ≤ 1048576) (hms : ∀ x ∈ xs, Hearing.small x) (h2 : RdF Slot.enc 3 w lo2 hi2 v2 ps) (hh2 : hi2 ≤ w.heap.size) (hm2 : ps.length ≤ 1048576) (h3 : RdF Demand.enc 3 w lo3 hi3 v3 ds) (hh3 : hi3 ≤ w.heap.size) (hm3 : ds.length ≤ 1048576) (h4 : RdF encInt 1 w lo4 hi4 v4 s) (hh4 : hi4 ≤ w.heap.size) (hm4 : s.length ≤ 1048576) :
    Calls Tryz.prog 44 #[v, v2, v3, v4] w fun e w' => e = .returned (.tuple #[.bool (isConflictR xs ps ds s).1, .int .i64 (isConflictR xs ps ds s).2]) ∧ Below w.heap.size w w' := by
  go_enter Tryz.func44, Tryz.ntmps44
  go_wp2_with fail
  refine (someCode_any _ xs lo hi _ ps lo2 hi2 _ ds lo3 hi3 _ s lo4 hi4 _ h hh hm hms h2 hh2 hm2 h3 hh3 hm3 h4 hh4 hm4).mono ?_
  rintro e w1 ⟨rfl, b1⟩
  have z1 := b1.size
  replace h := h.below b1 (by omega)
  replace h2 := h2.below b1 (by omega)
  replace h3 := h3.below b1 (by omega)
  replace h4 := h4.below b1 (by omega)
  by_cases hz : someC xs ps ds s = 0
  · have HF := Lib.hid (show isConflictR xs ps ds s = (isConf (tabs xs ps ds) s, 0) by unfold isConflictR; rw [if_pos hz])
    have HZ := Lib.hid (someC_zero hz)
    have hbl := bothOk_len (areDemands_both HZ.out.1)
    rw [hz]
    clear hz
    go_wp2_with fail
    refine (keptLists_any _ xs lo hi _ ps lo2 hi2 _ ds lo3 hi3 _ h (by omega) hm hms h2 (by omega) hm2 h3 (by omega) hm3 HZ.out.1).mono ?_
    rintro e w2 ⟨y2, rfl, ho, b2⟩
    have z2 := b2.size
    have hnl := cals_le (xs := xs) (ps := ps) hbl.2 hbl.1
    have htl := tabs_len xs ps ds
    have HR := Lib.hid (show ∀ l ∈ tabs xs ps ds, l.length ≤ 1048576 from fun l hl => Nat.le_trans (tabs_row hl) hm3)
    have hrd := ho.rd (Nat.le_refl _)
    replace h4 := h4.below b2 (by omega)
    have hbk := Below.step b2 z1 b1
    have htl2 : (tabs xs ps ds).length ≤ 1048576 := by omega
    clear htl ho h h2 h3
    generalize tabs xs ps ds = L at *
    go_wp2_with fail
    refine (isConflict_any _ L _ _ _ s lo4 hi4 _ hrd (Nat.le_refl _) htl2 HR.out h4 (by omega) hm4).mono ?_
    rintro e w3 ⟨rfl, b3⟩
    go_wp2_with fail
    go_ret2
    rw [HF.out]
    exact ⟨rfl, Below.step b3 (by omega) hbk⟩
  · have HF := Lib.hid (show isConflictR xs ps ds s = (false, someC xs ps ds s) by unfold isConflictR; rw [if_neg hz])
    have hne : (someC xs ps ds s != 0) = true := by simpa using hz
    generalize someC xs ps ds s = cd at *
    go_wp2_with fail
    go_ret2
    rw [HF.out]
    exact ⟨rfl, b1⟩
set_option maxRecDepth 100000 in
set_option maxHeartbeats 4000000 in
theorem sIsConflict_any (v : Value) (xs : List Hearing) (lo hi : Nat) (v2 : Value) (ps : List Slot) (lo2 hi2 : Nat) (v3 : Value) (ds : List Demand) (lo3 hi3 : Nat) (v4 : Value) (s : List Int) (lo4 hi4 : Nat) (w : World) (h : RdHearing w lo hi v xs) (hh : hi ≤ w.heap.size) (hm : xs.length ≤ 1048576) (hms : ∀ x ∈ xs, Hearing.small x) (h2 : RdF Slot.enc 3 w lo2 hi2 v2 ps) (hh2 : hi2 ≤ w.heap.size) (hm2 : ps.length ≤ 1048576) (h3 : RdF Demand.enc 3 w lo3 hi3 v3 ds) (hh3 : hi3 ≤ w.heap.size) (hm3 : ds.length ≤ 1048576) (h4 : RdF encInt 1 w lo4 hi4 v4 s) (hh4 : hi4 ≤ w.heap.size) (hm4 : s.length ≤ 1048576) :
    Calls Tryz.prog 45 #[v, v2, v3, v4] w fun e w' => e = .returned (.tuple #[.bool (isConflictR xs ps ds s).1, .int .i64 (isConflictR xs ps ds s).2]) ∧ Below w.heap.size w w' := by
  go_enter Tryz.func45, Tryz.ntmps45
  go_wp2_with fail
  refine (l22Code_any _ xs lo hi _ ps lo2 hi2 _ ds lo3 hi3 _ s lo4 hi4 _ h hh hm hms h2 hh2 hm2 h3 hh3 hm3 h4 hh4 hm4).mono ?_
  rintro e w1 ⟨rfl, b1⟩
  have z1 := b1.size
  replace h := h.below b1 (by omega)
  replace h2 := h2.below b1 (by omega)
  replace h3 := h3.below b1 (by omega)
  replace h4 := h4.below b1 (by omega)
  by_cases hz : someC xs ps ds s = 0
  · have HF := Lib.hid (show isConflictR xs ps ds s = (isConf (tabs xs ps ds) s, 0) by unfold isConflictR; rw [if_pos hz])
    have HZ := Lib.hid (someC_zero hz)
    have hbl := bothOk_len (areDemands_both HZ.out.1)
    rw [hz]
    clear hz
    go_wp2_with fail
    refine (l22Tables_any _ xs lo hi _ ps lo2 hi2 _ ds lo3 hi3 _ h (by omega) hm hms h2 (by omega) hm2 h3 (by omega) hm3 HZ.out.1).mono ?_
    rintro e w2 ⟨y2, rfl, ho, b2⟩
    have z2 := b2.size
    have hnl := cals_le (xs := xs) (ps := ps) hbl.2 hbl.1
    have htl := tabs_len xs ps ds
    have HR := Lib.hid (show ∀ l ∈ tabs xs ps ds, l.length ≤ 1048576 from fun l hl => Nat.le_trans (tabs_row hl) hm3)
    have hrd := ho.rd (Nat.le_refl _)
    replace h4 := h4.below b2 (by omega)
    have hbk := Below.step b2 z1 b1
    have htl2 : (tabs xs ps ds).length ≤ 1048576 := by omega
    clear htl ho h h2 h3
    generalize tabs xs ps ds = L at *
    go_wp2_with fail
    refine (l22Conflict_any _ L _ _ _ s lo4 hi4 _ hrd (Nat.le_refl _) htl2 HR.out h4 (by omega) hm4 ⟨ds.length, incr_ris' HZ.out.2⟩).mono ?_
    rintro e w3 ⟨rfl, b3⟩
    go_wp2_with fail
    go_ret2
    rw [HF.out]
    exact ⟨rfl, Below.step b3 (by omega) hbk⟩
  · have HF := Lib.hid (show isConflictR xs ps ds s = (false, someC xs ps ds s) by unfold isConflictR; rw [if_neg hz])
    have hne : (someC xs ps ds s != 0) = true := by simpa using hz
    generalize someC xs ps ds s = cd at *
    go_wp2_with fail
    go_ret2
    rw [HF.out]
    exact ⟨rfl, b1⟩
end Go.Proofs.YtgpknnlphabpkaaGreat
