/- Walks of AreStages. -/
import Derived.Test.YtmgolgbhidenkaaBase
import Derived.Test.YtmgolgbhidenkaaStageH
import Derived.BigQuiet
import Derived.Deep.QuietTactic
namespace Go.Proofs.Ytmgolgbhidenkaa
open Go.RowKit

def Stage.one (s : Stage) : Bool := wordOk s.name && (inR s.days 1 400 && inR s.more 0 400)
def Stage.named (n : ByteArray) (t : Stage) : Bool := t.name.toList == n.toList
def Stage.pref (before : List Stage) (s : Stage) : Bool := s.one && !before.any (Stage.named s.name)
def stagesOk (xs : List Stage) : Bool := prefOk Stage.pref xs && inR xs.length 1 5

def IdxB (b : Bool) (r : Int) : Prop := decide (0 ≤ r) = b

set_option maxHeartbeats 400000 in
theorem stageClosure_any (t : Stage) (n : ByteArray) (b off : Nat) (w : World) (hc : w.cell? ⟨b, off, none⟩ = some (.string n)) (hb : b < w.heap.size) :
    Calls Try.prog 76 #[.agg #[.string t.name, .int .i64 t.days, .int .i64 t.more], .pointer (some ⟨b, off, none⟩)] w fun e w' => e = .returned (.bool (Stage.named n t)) ∧ Below w.heap.size w w' := by
  go_enter Try.func76, Try.ntmps76
  go_wp2
  go_ret
  exact ⟨rfl, by (repeat (first | with_reducible assumption | with_reducible exact Below.refl _ _ | with_reducible refine Below.setCell ?_ ?_ _ | with_reducible refine Below.alloc ?_ ?_ _ | with_reducible refine Below.drew ?_ | with_reducible refine below_drewN ?_ _ | with_reducible refine Below.step (by with_reducible assumption) ?_ ?_ | omega | (simp <;> omega) | (simp; done)))⟩

set_option maxHeartbeats 800000 in
theorem stageIndexFunc_any (v : Value) (xs : List Stage) (lo hi : Nat) (n : ByteArray) (b off : Nat) (w : World) (h : RdF Stage.enc 3 w lo hi v xs) (hh : hi ≤ w.heap.size) (hm : xs.length ≤ 1048576)
    (hc : w.cell? ⟨b, off, none⟩ = some (.string n)) (hb : b < w.heap.size) :
    Calls Try.prog 90 #[v, .func (.func 76) #[] #[.pointer (some ⟨b, off, none⟩)]] w fun e w' => RetI (IdxB (xs.any (Stage.named n))) w e w' := by
  obtain ⟨A, c, rfl, hcap, hA⟩ := h
  go_enter Try.func90, Try.ntmps90
  go_wp2
  go_loopw [5, 8] (fun _ i wr => ∃ k : Nat, k ≤ xs.length ∧ i = .int .i64 k ∧ Hid ((xs.take k).any (Stage.named n) = false) ∧ Below w.heap.size w wr) (fun _ i _ => xs.length - (intOf i).toNat)
  case atStart => exact ⟨0, Nat.zero_le _, rfl, rfl, by (repeat (first | with_reducible assumption | with_reducible exact Below.refl _ _ | with_reducible refine Below.setCell ?_ ?_ _ | with_reducible refine Below.alloc ?_ ?_ _ | with_reducible refine Below.drew ?_ | with_reducible refine below_drewN ?_ _ | with_reducible refine Below.step (by with_reducible assumption) ?_ ?_ | omega | (simp <;> omega) | (simp; done)))⟩
  case round =>
    obtain ⟨k, hk, rfl, HA, hbel⟩ := hrel
    have z0 := hbel.size
    by_cases hlt : k < xs.length
    · obtain ⟨b', off', rfl, -, hbw, hcell⟩ := hA (by omega)
      have hs : xs[k]? = some xs[k] := List.getElem?_eq_getElem hlt
      have c0 : wr.cell? ⟨b', off' + k * 3, none⟩ = _ := (hbel.cell (p := ⟨b', off' + k * 3, none⟩) (by omega : b' < _)).trans (hcell k _ hs 0 _ rfl)
      have c1 := (hbel.cell (p := ⟨b', off' + k * 3 + 1, none⟩) (by omega : b' < _)).trans (hcell k _ hs 1 _ rfl)
      have c2 := (hbel.cell (p := ⟨b', off' + k * 3 + 2, none⟩) (by omega : b' < _)).trans (hcell k _ hs 2 _ rfl)
      have hc' : wr.cell? ⟨b, off, none⟩ = some (.string n) := (hbel.cell (p := ⟨b, off, none⟩) hb).trans hc
      clear hcell hA hc
      have HS := Lib.hid hs; clear hs
      generalize xs[k] = s at *
      go_wp2_with (go_at_call 76; refine (stageClosure_any s n b off _ hc' (by omega)).mono ?_; rintro e w1 ⟨rfl, hb1⟩)
      · have hf : Stage.named n s = true := by assumption
        go_ret
        exact ⟨_, rfl, by rw [IdxB, any_true_of HS.out hf]; simp, by (repeat (first | with_reducible assumption | with_reducible exact Below.refl _ _ | with_reducible refine Below.setCell ?_ ?_ _ | with_reducible refine Below.alloc ?_ ?_ _ | with_reducible refine Below.drew ?_ | with_reducible refine below_drewN ?_ _ | with_reducible refine Below.step (by with_reducible assumption) ?_ ?_ | omega | (simp <;> omega) | (simp; done)))⟩
      · have hf : Stage.named n s = false := by assumption
        go_roundw
        case rel => exact ⟨k + 1, by omega, by go_num, any_take_succ HA.out HS.out hf, by (repeat (first | with_reducible assumption | with_reducible exact Below.refl _ _ | with_reducible refine Below.setCell ?_ ?_ _ | with_reducible refine Below.alloc ?_ ?_ _ | with_reducible refine Below.drew ?_ | with_reducible refine below_drewN ?_ _ | with_reducible refine Below.step (by with_reducible assumption) ?_ ?_ | omega | (simp <;> omega) | (simp; done)))⟩
        case measure => simp [intOf]; omega
    · go_wp2
      go_ret
      exact ⟨_, rfl, by rw [IdxB, any_of_take HA.out hlt]; simp, by (repeat (first | with_reducible assumption | with_reducible exact Below.refl _ _ | with_reducible refine Below.setCell ?_ ?_ _ | with_reducible refine Below.alloc ?_ ?_ _ | with_reducible refine Below.drew ?_ | with_reducible refine below_drewN ?_ _ | with_reducible refine Below.step (by with_reducible assumption) ?_ ?_ | omega | (simp <;> omega) | (simp; done)))⟩

set_option maxHeartbeats 400000 in
theorem stageContains_any (v : Value) (xs : List Stage) (lo hi : Nat) (n : ByteArray) (b off : Nat) (w : World) (h : RdF Stage.enc 3 w lo hi v xs) (hh : hi ≤ w.heap.size) (hm : xs.length ≤ 1048576)
    (hc : w.cell? ⟨b, off, none⟩ = some (.string n)) (hb : b < w.heap.size) :
    Calls Try.prog 75 #[v, .func (.func 76) #[] #[.pointer (some ⟨b, off, none⟩)]] w fun e w' => e = .returned (.bool (xs.any (Stage.named n))) ∧ Below w.heap.size w w' := by
  have h0 := h
  obtain ⟨A, c, rfl, hcap, hA⟩ := h
  clear hA
  go_enter Try.func75, Try.ntmps75
  go_wp2_with fail
  refine (stageIndexFunc_any _ xs _ _ n b off _ h0 hh hm hc hb).mono ?_
  rintro e w1 ⟨r, rfl, hr, hb1⟩
  have HR := Lib.hid hr; clear hr
  go_wp2_with fail
  go_ret
  exact ⟨ret_bool HR.out, by (repeat (first | with_reducible assumption | with_reducible exact Below.refl _ _ | with_reducible refine Below.setCell ?_ ?_ _ | with_reducible refine Below.alloc ?_ ?_ _ | with_reducible refine Below.drew ?_ | with_reducible refine below_drewN ?_ _ | with_reducible refine Below.step (by with_reducible assumption) ?_ ?_ | omega | (simp <;> omega) | (simp; done)))⟩

set_option maxHeartbeats 1000000 in
theorem areStages_any (v : Value) (xs : List Stage) (lo hi : Nat) (w : World) (h : RdF Stage.enc 3 w lo hi v xs) (hh : hi ≤ w.heap.size) (hm : xs.length ≤ 1048576) (hms : ∀ x ∈ xs, Stage.small x) :
    Calls Try.prog 39 #[v] w fun e w' => e = .returned (.bool (stagesOk xs)) ∧ Below w.heap.size w w' := by
  obtain ⟨A, c, rfl, hcap, hA⟩ := h
  have HM := Lib.hid hms; clear hms
  go_enter Try.func39, Try.ntmps39
  go_wp2
  go_loopw [3, 4, 7] (fun _ _ i wr => ∃ k : Nat, k ≤ xs.length ∧ i = .int .i64 k ∧ Hid (prefAll Stage.pref xs k = true) ∧ Below w.heap.size w wr) (fun _ _ i _ => xs.length - (intOf i).toNat)
  case atStart => exact ⟨0, Nat.zero_le _, rfl, rfl, by (repeat (first | with_reducible assumption | with_reducible exact Below.refl _ _ | with_reducible refine Below.setCell ?_ ?_ _ | with_reducible refine Below.alloc ?_ ?_ _ | with_reducible refine Below.drew ?_ | with_reducible refine below_drewN ?_ _ | with_reducible refine Below.step (by with_reducible assumption) ?_ ?_ | omega | (simp <;> omega) | (simp; done)))⟩
  case round =>
    obtain ⟨k, hk, rfl, HA, hbel⟩ := hrel
    have z0 := hbel.size
    by_cases hlt : k < xs.length
    · obtain ⟨b, off, rfl, hlo, hbw, hcell⟩ := hA (by omega)
      have hs : xs[k]? = some xs[k] := List.getElem?_eq_getElem hlt
      have c0 : wr.cell? ⟨b, off + k * 3, none⟩ = _ := (hbel.cell (p := ⟨b, off + k * 3, none⟩) (by omega : b < _)).trans (hcell k _ hs 0 _ rfl)
      have c1 := (hbel.cell (p := ⟨b, off + k * 3 + 1, none⟩) (by omega : b < _)).trans (hcell k _ hs 1 _ rfl)
      have c2 := (hbel.cell (p := ⟨b, off + k * 3 + 2, none⟩) (by omega : b < _)).trans (hcell k _ hs 2 _ rfl)
      have ht := RdF.take (i := k) (by omega) hcap hlo hbw hcell
      clear hcell hA
      have hsm := HM.out _ (List.mem_of_getElem? hs)
      have HS := Lib.hid hs; clear hs
      generalize xs[k] = s at *
      unfold Stage.small at hsm
      go_wp2_with (first | (go_at_call 74; refine (IsWord_any _ _ (by omega)).mono ?_; rintro e w' ⟨rfl, rfl⟩) | (go_at_call 52; refine (within_any _ _ _ _).mono ?_; rintro e w' ⟨rfl, rfl⟩) | (go_at_call 75; refine (stageContains_any _ (xs.take k) lo hi s.name _ _ _ (by exact (ht.below hbel hh).below (Below.alloc (Below.refl _ _) (Nat.le_refl _) _) (by omega)) (by simp; omega) (by simp; omega) (by simp) (by simp)).mono ?_; rintro e w1 ⟨rfl, hb1⟩))
      all_goals first
        | (go_ret; exact ⟨ret_bool (by rw [stagesOk, prefOk_false HS.out (by simp_all [Stage.pref, Stage.one])]; rfl), by (repeat (first | with_reducible assumption | with_reducible exact Below.refl _ _ | with_reducible refine Below.setCell ?_ ?_ _ | with_reducible refine Below.alloc ?_ ?_ _ | with_reducible refine Below.drew ?_ | with_reducible refine below_drewN ?_ _ | with_reducible refine Below.step (by with_reducible assumption) ?_ ?_ | omega | (simp <;> omega) | (simp; done)))⟩)
        | (go_roundw
           case rel => exact ⟨k + 1, by omega, by go_num, prefAll_succ HA.out HS.out (by simp_all [Stage.pref, Stage.one]), by (repeat (first | with_reducible assumption | with_reducible exact Below.refl _ _ | with_reducible refine Below.setCell ?_ ?_ _ | with_reducible refine Below.alloc ?_ ?_ _ | with_reducible refine Below.drew ?_ | with_reducible refine below_drewN ?_ _ | with_reducible refine Below.step (by with_reducible assumption) ?_ ?_ | omega | (simp <;> omega) | (simp; done)))⟩
           case measure => simp [intOf]; omega)
        | fail
    · go_wp2_with (go_at_call 52; refine (within_any _ _ _ _).mono ?_; rintro e w' ⟨rfl, rfl⟩)
      go_ret
      exact ⟨ret_bool (by rw [stagesOk, prefOk_of HA.out hk hlt]; rfl), by (repeat (first | with_reducible assumption | with_reducible exact Below.refl _ _ | with_reducible refine Below.setCell ?_ ?_ _ | with_reducible refine Below.alloc ?_ ?_ _ | with_reducible refine Below.drew ?_ | with_reducible refine below_drewN ?_ _ | with_reducible refine Below.step (by with_reducible assumption) ?_ ?_ | omega | (simp <;> omega) | (simp; done)))⟩

set_option maxHeartbeats 1000000 in
theorem sAreStages_any (v : Value) (xs : List Stage) (lo hi : Nat) (w : World) (h : RdF Stage.enc 3 w lo hi v xs) (hh : hi ≤ w.heap.size) (hm : xs.length ≤ 1048576) (hms : ∀ x ∈ xs, Stage.small x) :
    Calls Try.prog 40 #[v] w fun e w' => e = .returned (.bool (stagesOk xs)) ∧ Below w.heap.size w w' := by
  obtain ⟨A, c, rfl, hcap, hA⟩ := h
  have HM := Lib.hid hms; clear hms
  go_enter Try.func40, Try.ntmps40
  go_wp2
  go_loopw [3, 4, 5] (fun i _ _ wr => ∃ k : Nat, k ≤ xs.length ∧ i = .int .i64 k ∧ Hid (prefAll Stage.pref xs k = true) ∧ Below w.heap.size w wr) (fun i _ _ _ => xs.length - (intOf i).toNat)
  case atStart => exact ⟨0, Nat.zero_le _, rfl, rfl, by (repeat (first | with_reducible assumption | with_reducible exact Below.refl _ _ | with_reducible refine Below.setCell ?_ ?_ _ | with_reducible refine Below.alloc ?_ ?_ _ | with_reducible refine Below.drew ?_ | with_reducible refine below_drewN ?_ _ | with_reducible refine Below.step (by with_reducible assumption) ?_ ?_ | omega | (simp <;> omega) | (simp; done)))⟩
  case round =>
    obtain ⟨k, hk, rfl, HA, hbel⟩ := hrel
    have z0 := hbel.size
    by_cases hlt : k < xs.length
    · obtain ⟨b, off, rfl, hlo, hbw, hcell⟩ := hA (by omega)
      have hs : xs[k]? = some xs[k] := List.getElem?_eq_getElem hlt
      have c0 : wr.cell? ⟨b, off + k * 3, none⟩ = _ := (hbel.cell (p := ⟨b, off + k * 3, none⟩) (by omega : b < _)).trans (hcell k _ hs 0 _ rfl)
      have c1 := (hbel.cell (p := ⟨b, off + k * 3 + 1, none⟩) (by omega : b < _)).trans (hcell k _ hs 1 _ rfl)
      have c2 := (hbel.cell (p := ⟨b, off + k * 3 + 2, none⟩) (by omega : b < _)).trans (hcell k _ hs 2 _ rfl)
      have hsm := HM.out _ (List.mem_of_getElem? hs)
      have HS := Lib.hid hs; clear hs
      have HC := Lib.hid hcell; clear hcell
      clear hA
      generalize xs[k] = s at *
      unfold Stage.small at hsm
      go_wp2_with (first | (go_at_call 77; refine (sIsWord_any _ _ (by omega)).mono ?_; rintro e w' ⟨rfl, rfl⟩) | (go_at_call 48; refine (l01In_any _ _ _ _).mono ?_; rintro e w' ⟨rfl, rfl⟩))
      · go_ret; exact ⟨ret_bool (by rw [stagesOk, prefOk_false HS.out (by simp_all [Stage.pref, Stage.one])]; rfl), by (repeat (first | with_reducible assumption | with_reducible exact Below.refl _ _ | with_reducible refine Below.setCell ?_ ?_ _ | with_reducible refine Below.alloc ?_ ?_ _ | with_reducible refine Below.drew ?_ | with_reducible refine below_drewN ?_ _ | with_reducible refine Below.step (by with_reducible assumption) ?_ ?_ | omega | (simp <;> omega) | (simp; done)))⟩
      · have g1 : wordOk s.name = true := by assumption
        have g2 : inR s.days 1 400 = true := by assumption
        have g3 : (!inR s.more 0 400) = false := by assumption
        have HO := Lib.hid (show s.one = true by simp_all [Stage.one])
        clear g1 g2 g3
        have cB : (wr.alloc (.cells #[.string s.name, .int .i64 s.days, .int .i64 s.more] 64)).cell? ⟨wr.heap.size, 0, none⟩ = some (.string s.name) := by simp
        have hW : Below w.heap.size w (wr.alloc (.cells #[.string s.name, .int .i64 s.days, .int .i64 s.more] 64)) := by (repeat (first | with_reducible assumption | with_reducible exact Below.refl _ _ | with_reducible refine Below.setCell ?_ ?_ _ | with_reducible refine Below.alloc ?_ ?_ _ | with_reducible refine Below.drew ?_ | with_reducible refine below_drewN ?_ _ | with_reducible refine Below.step (by with_reducible assumption) ?_ ?_ | omega | (simp <;> omega) | (simp; done)))
        have zW : wr.heap.size < (wr.alloc (.cells #[.string s.name, .int .i64 s.days, .int .i64 s.more] 64)).heap.size := by simp
        clear c0 c1 c2
        generalize wr.alloc (.cells #[.string s.name, .int .i64 s.days, .int .i64 s.more] 64) = wo at *
        generalize wr.heap.size = B0 at *
        clear hbel
        go_loopw [5] (fun i wi => ∃ j : Nat, j ≤ k ∧ i = .int .i64 j ∧ Hid ((xs.take j).any (Stage.named s.name) = false) ∧ Below wo.heap.size wo wi) (fun i _ => k - (intOf i).toNat)
        case atStart => exact ⟨0, Nat.zero_le _, rfl, rfl, by (repeat (first | with_reducible assumption | with_reducible exact Below.refl _ _ | with_reducible refine Below.setCell ?_ ?_ _ | with_reducible refine Below.alloc ?_ ?_ _ | with_reducible refine Below.drew ?_ | with_reducible refine below_drewN ?_ _ | with_reducible refine Below.step (by with_reducible assumption) ?_ ?_ | omega | (simp <;> omega) | (simp; done)))⟩
        case round =>
          obtain ⟨j, hj, rfl, HJ, hi⟩ := hrel
          have z1 := hi.size
          have z2 := hW.size
          have cB' : wr.cell? ⟨B0, 0, none⟩ = some (.string s.name) := (hi.cell (p := ⟨B0, 0, none⟩) zW).trans cB
          by_cases hjk : j < k
          · have hs' : xs[j]? = some xs[j] := List.getElem?_eq_getElem (by omega)
            have d0 : wr.cell? ⟨b, off + j * 3, none⟩ = _ := ((hi.cell (p := ⟨b, off + j * 3, none⟩) (by omega : b < _)).trans (hW.cell (p := ⟨b, off + j * 3, none⟩) (by omega : b < _))).trans (HC.out j _ hs' 0 _ rfl)
            have HS' := Lib.hid hs'; clear hs'
            generalize xs[j] = t at *
            have hji : (j : Int) < (xs.length : Int) := by omega
            have hjk' : (j : Int) < (k : Int) := by omega
            clear cB
            go_wp2_with fail
            go_quiet (fail)
            go_wp2_with fail
            · have hf : Stage.named s.name t = true := by assumption
              have HT := Lib.hid (any_true_of (p := Stage.named s.name) (xs := xs.take k) (k := j) (by rw [List.getElem?_take, if_pos hjk]; exact HS'.out) hf)
              go_ret
              exact ⟨ret_bool (by rw [stagesOk, prefOk_false HS.out (by rw [Stage.pref, HO.out, HT.out]; rfl)]; rfl), by (repeat (first | with_reducible assumption | with_reducible exact Below.refl _ _ | with_reducible refine Below.setCell ?_ ?_ _ | with_reducible refine Below.alloc ?_ ?_ _ | with_reducible refine Below.drew ?_ | with_reducible refine below_drewN ?_ _ | with_reducible refine Below.step (by with_reducible assumption) ?_ ?_ | omega | (simp <;> omega) | (simp; done)))⟩
            · have hf : Stage.named s.name t = false := by assumption
              go_roundw
              case rel => exact ⟨j + 1, by omega, by go_num, any_take_succ HJ.out HS'.out hf, by (repeat (first | with_reducible assumption | with_reducible exact Below.refl _ _ | with_reducible refine Below.setCell ?_ ?_ _ | with_reducible refine Below.alloc ?_ ?_ _ | with_reducible refine Below.drew ?_ | with_reducible refine below_drewN ?_ _ | with_reducible refine Below.step (by with_reducible assumption) ?_ ?_ | omega | (simp <;> omega) | (simp; done)))⟩
              case measure => simp [intOf]; omega
          · have HJ' : Hid ((xs.take k).any (Stage.named s.name) = false) := by
              have e : j = k := by omega
              rw [← e]; exact HJ
            clear cB cB'
            go_wp2_with fail
            go_roundw
            case rel => exact ⟨k + 1, by omega, by go_num, prefAll_succ HA.out HS.out (by rw [Stage.pref, HO.out, HJ'.out]; rfl), by (repeat (first | with_reducible assumption | with_reducible exact Below.refl _ _ | with_reducible refine Below.setCell ?_ ?_ _ | with_reducible refine Below.alloc ?_ ?_ _ | with_reducible refine Below.drew ?_ | with_reducible refine below_drewN ?_ _ | with_reducible refine Below.step (by with_reducible assumption) ?_ ?_ | omega | (simp <;> omega) | (simp; done)))⟩
            case measure => simp [intOf]; omega
      · go_ret; exact ⟨ret_bool (by rw [stagesOk, prefOk_false HS.out (by simp_all [Stage.pref, Stage.one])]; rfl), by (repeat (first | with_reducible assumption | with_reducible exact Below.refl _ _ | with_reducible refine Below.setCell ?_ ?_ _ | with_reducible refine Below.alloc ?_ ?_ _ | with_reducible refine Below.drew ?_ | with_reducible refine below_drewN ?_ _ | with_reducible refine Below.step (by with_reducible assumption) ?_ ?_ | omega | (simp <;> omega) | (simp; done)))⟩
      · go_ret; exact ⟨ret_bool (by rw [stagesOk, prefOk_false HS.out (by simp_all [Stage.pref, Stage.one])]; rfl), by (repeat (first | with_reducible assumption | with_reducible exact Below.refl _ _ | with_reducible refine Below.setCell ?_ ?_ _ | with_reducible refine Below.alloc ?_ ?_ _ | with_reducible refine Below.drew ?_ | with_reducible refine below_drewN ?_ _ | with_reducible refine Below.step (by with_reducible assumption) ?_ ?_ | omega | (simp <;> omega) | (simp; done)))⟩
    · go_wp2_with (go_at_call 48; refine (l01In_any _ _ _ _).mono ?_; rintro e w' ⟨rfl, rfl⟩)
      go_ret
      exact ⟨ret_bool (by rw [stagesOk, prefOk_of HA.out hk hlt]; rfl), by (repeat (first | with_reducible assumption | with_reducible exact Below.refl _ _ | with_reducible refine Below.setCell ?_ ?_ _ | with_reducible refine Below.alloc ?_ ?_ _ | with_reducible refine Below.drew ?_ | with_reducible refine below_drewN ?_ _ | with_reducible refine Below.step (by with_reducible assumption) ?_ ?_ | omega | (simp <;> omega) | (simp; done)))⟩
end Go.Proofs.Ytmgolgbhidenkaa
