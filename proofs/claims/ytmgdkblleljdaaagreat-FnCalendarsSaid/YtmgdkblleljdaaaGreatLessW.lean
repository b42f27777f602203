/- Walks: order of lists, lists of set bits. Written by a program (gen_held.py). -/
import Derived.Test.YtmgdkblleljdaaaGreatSubsP
import Derived.Test.YtmgdkblleljdaaaGreatRowI
import Derived.BigQuiet
import Derived.Deep.QuietTactic
namespace Go.Proofs.YtmgdkblleljdaaaGreat
open Go.RowKit
set_option linter.unusedVariables false

theorem lessL_drop {a b : List Int} {k : Nat} {x y : Int} (h1 : a[k]? = some x) (h2 : b[k]? = some y) : lessL (a.drop k) (b.drop k) = if x = y then lessL (a.drop (k + 1)) (b.drop (k + 1)) else decide (x < y) := by
  obtain ⟨l1, e1⟩ := List.getElem?_eq_some_iff.1 h1
  obtain ⟨l2, e2⟩ := List.getElem?_eq_some_iff.1 h2
  rw [List.drop_eq_getElem_cons l1, List.drop_eq_getElem_cons l2, e1, e2]
  rfl
theorem lessL_end {a b : List Int} {k : Nat} (h : k = min a.length b.length) : lessL (a.drop k) (b.drop k) = decide (a.length < b.length) := by
  by_cases hl : a.length < b.length
  · have ha : a.drop k = [] := List.drop_eq_nil_of_le (by omega)
    have hb : k < b.length := by omega
    rw [ha, List.drop_eq_getElem_cons hb, decide_eq_true hl]
    rfl
  · have hb : b.drop k = [] := List.drop_eq_nil_of_le (by omega)
    rw [hb, decide_eq_false hl]
    cases a.drop k <;> rfl
set_option maxRecDepth 100000 in
set_option maxHeartbeats 4000000 in
theorem less_any (v : Value) (a : List Int) (lo hi : Nat) (v2 : Value) (b : List Int) (lo2 hi2 : Nat) (w : World) (h : RdF encInt 1 w lo hi v a) (hh : hi ≤ w.heap.size) (hm : a.length ≤ 1048576) (h2 : RdF encInt 1 w lo2 hi2 v2 b) (hh2 : hi2 ≤ w.heap.size) (hm2 : b.length ≤ 1048576) :
    Calls Tryz.prog 34 #[v, v2] w fun e w' => e = .returned (.bool (lessL a b)) ∧ Below w.heap.size w w' := by
  obtain ⟨A, c, rfl, hcap⟩ := h.form
  obtain ⟨A2, c2, rfl, hcap2⟩ := h2.form

  by_cases hc : b.length < a.length
  · have hmi : min a.length b.length = b.length := by omega
    have HM := Lib.hid hmi; clear hmi
    go_enter Tryz.func34, Tryz.ntmps34
    go_wp2_with fail
    go_loopw [5, 11] (fun _ j wr => ∃ k : Nat, k ≤ b.length ∧ j = .int .i64 k ∧ Hid (lessL a b = lessL (a.drop k) (b.drop k)) ∧ Below w.heap.size w wr) (fun _ j _ => b.length - (intOf j).toNat)
    case atStart => exact ⟨0, Nat.zero_le _, rfl, by simp [Hid], by (repeat (first | with_reducible assumption | with_reducible exact Below.refl _ _ | with_reducible refine Below.setCell ?_ ?_ _ | with_reducible refine Below.alloc ?_ ?_ _ | with_reducible refine Below.drew ?_ | with_reducible refine below_drewN ?_ _ | with_reducible refine Below.step (by with_reducible assumption) ?_ ?_ | omega | (simp <;> omega) | (simp; done)))⟩
    case round =>
      obtain ⟨k, hk, rfl, HE, hbel⟩ := hrel
      have z0 := hbel.size
      by_cases hlt : k < b.length
      · have hka : k < a.length := by omega
        have hkb : k < b.length := by omega
        have hki : (k : Int) < (a.length : Int) := by omega
        have hkj : (k : Int) < (b.length : Int) := by omega
        obtain ⟨x, g, off, HX, rfl, hbw, c0⟩ := RdF.int h hbel (by omega) hka
        obtain ⟨y, g2, off2, HY, rfl, hbw2, d0⟩ := RdF.int h2 hbel (by omega) hkb
        have HD := Lib.hid (lessL_drop HX.out HY.out)
        by_cases hxy : x = y
        · have HN := Lib.hid (show lessL a b = lessL (a.drop (k + 1)) (b.drop (k + 1)) by rw [HE.out, HD.out, if_pos hxy])
          subst hxy
          go_wp2_with fail
          go_quiet (fail)
          go_wp2_with fail
          go_roundw
          case rel => exact ⟨k + 1, by omega, by go_num, HN, by (repeat (first | with_reducible assumption | with_reducible exact Below.refl _ _ | with_reducible refine Below.setCell ?_ ?_ _ | with_reducible refine Below.alloc ?_ ?_ _ | with_reducible refine Below.drew ?_ | with_reducible refine below_drewN ?_ _ | with_reducible refine Below.step (by with_reducible assumption) ?_ ?_ | omega | (simp <;> omega) | (simp; done)))⟩
          case measure => simp [intOf]; omega
        · have HN := Lib.hid (show lessL a b = decide (x < y) by rw [HE.out, HD.out, if_neg hxy])
          have q1 : (x != y) = true := by simpa using hxy
          have q2 : (y != x) = true := by simpa using fun e => hxy e.symm
          go_wp2_with fail
          go_quiet (fail)
          go_wp2_with fail
          go_quiet (fail)
          go_wp2_with fail
          go_ret
          exact ⟨ret_bool (by rw [HN.out]), by (repeat (first | with_reducible assumption | with_reducible exact Below.refl _ _ | with_reducible refine Below.setCell ?_ ?_ _ | with_reducible refine Below.alloc ?_ ?_ _ | with_reducible refine Below.drew ?_ | with_reducible refine below_drewN ?_ _ | with_reducible refine Below.step (by with_reducible assumption) ?_ ?_ | omega | (simp <;> omega) | (simp; done)))⟩
      · have HN := Lib.hid (show lessL a b = decide (a.length < b.length) by rw [HE.out]; exact lessL_end (by have := HM.out; omega))
        go_wp2_with fail
        go_ret
        exact ⟨ret_bool (by first | (rw [HN.out]; done) | (rw [HN.out]; rw [Bool.eq_iff_iff]; simp; done) | (rw [HN.out]; rw [Bool.eq_iff_iff]; simp; omega)), by (repeat (first | with_reducible assumption | with_reducible exact Below.refl _ _ | with_reducible refine Below.setCell ?_ ?_ _ | with_reducible refine Below.alloc ?_ ?_ _ | with_reducible refine Below.drew ?_ | with_reducible refine below_drewN ?_ _ | with_reducible refine Below.step (by with_reducible assumption) ?_ ?_ | omega | (simp <;> omega) | (simp; done)))⟩

  · have hmi : min a.length b.length = a.length := by omega
    have HM := Lib.hid hmi; clear hmi
    go_enter Tryz.func34, Tryz.ntmps34
    go_wp2_with fail
    go_loopw [5, 11] (fun _ j wr => ∃ k : Nat, k ≤ a.length ∧ j = .int .i64 k ∧ Hid (lessL a b = lessL (a.drop k) (b.drop k)) ∧ Below w.heap.size w wr) (fun _ j _ => a.length - (intOf j).toNat)
    case atStart => exact ⟨0, Nat.zero_le _, rfl, by simp [Hid], by (repeat (first | with_reducible assumption | with_reducible exact Below.refl _ _ | with_reducible refine Below.setCell ?_ ?_ _ | with_reducible refine Below.alloc ?_ ?_ _ | with_reducible refine Below.drew ?_ | with_reducible refine below_drewN ?_ _ | with_reducible refine Below.step (by with_reducible assumption) ?_ ?_ | omega | (simp <;> omega) | (simp; done)))⟩
    case round =>
      obtain ⟨k, hk, rfl, HE, hbel⟩ := hrel
      have z0 := hbel.size
      by_cases hlt : k < a.length
      · have hka : k < a.length := by omega
        have hkb : k < b.length := by omega
        have hki : (k : Int) < (a.length : Int) := by omega
        have hkj : (k : Int) < (b.length : Int) := by omega
        obtain ⟨x, g, off, HX, rfl, hbw, c0⟩ := RdF.int h hbel (by omega) hka
        obtain ⟨y, g2, off2, HY, rfl, hbw2, d0⟩ := RdF.int h2 hbel (by omega) hkb
        have HD := Lib.hid (lessL_drop HX.out HY.out)
        by_cases hxy : x = y
        · have HN := Lib.hid (show lessL a b = lessL (a.drop (k + 1)) (b.drop (k + 1)) by rw [HE.out, HD.out, if_pos hxy])
          subst hxy
          go_wp2_with fail
          go_quiet (fail)
          go_wp2_with fail
          go_roundw
          case rel => exact ⟨k + 1, by omega, by go_num, HN, by (repeat (first | with_reducible assumption | with_reducible exact Below.refl _ _ | with_reducible refine Below.setCell ?_ ?_ _ | with_reducible refine Below.alloc ?_ ?_ _ | with_reducible refine Below.drew ?_ | with_reducible refine below_drewN ?_ _ | with_reducible refine Below.step (by with_reducible assumption) ?_ ?_ | omega | (simp <;> omega) | (simp; done)))⟩
          case measure => simp [intOf]; omega
        · have HN := Lib.hid (show lessL a b = decide (x < y) by rw [HE.out, HD.out, if_neg hxy])
          have q1 : (x != y) = true := by simpa using hxy
          have q2 : (y != x) = true := by simpa using fun e => hxy e.symm
          go_wp2_with fail
          go_quiet (fail)
          go_wp2_with fail
          go_quiet (fail)
          go_wp2_with fail
          go_ret
          exact ⟨ret_bool (by rw [HN.out]), by (repeat (first | with_reducible assumption | with_reducible exact Below.refl _ _ | with_reducible refine Below.setCell ?_ ?_ _ | with_reducible refine Below.alloc ?_ ?_ _ | with_reducible refine Below.drew ?_ | with_reducible refine below_drewN ?_ _ | with_reducible refine Below.step (by with_reducible assumption) ?_ ?_ | omega | (simp <;> omega) | (simp; done)))⟩
      · have HN := Lib.hid (show lessL a b = decide (a.length < b.length) by rw [HE.out]; exact lessL_end (by have := HM.out; omega))
        go_wp2_with fail
        go_ret
        exact ⟨ret_bool (by first | (rw [HN.out]; done) | (rw [HN.out]; rw [Bool.eq_iff_iff]; simp; done) | (rw [HN.out]; rw [Bool.eq_iff_iff]; simp; omega)), by (repeat (first | with_reducible assumption | with_reducible exact Below.refl _ _ | with_reducible refine Below.setCell ?_ ?_ _ | with_reducible refine Below.alloc ?_ ?_ _ | with_reducible refine Below.drew ?_ | with_reducible refine below_drewN ?_ _ | with_reducible refine Below.step (by with_reducible assumption) ?_ ?_ | omega | (simp <;> omega) | (simp; done)))⟩

theorem bit_val (set i : Nat) (h : set ≤ 1048576) : bits .and .i64 ((set : Int) / 2 ^ i) 1 = if set.testBit i then 1 else 0 := by
  have e : ((set : Int) / 2 ^ i) = ((set / 2 ^ i : Nat) : Int) := by simp
  rw [e]
  have hlt : set / 2 ^ i ≤ 1048576 := Nat.le_trans (Nat.div_le_self _ _) h
  generalize hm : set / 2 ^ i = m at *
  have ht : set.testBit i = decide (m % 2 = 1) := by rw [Nat.testBit_eq_decide_div_mod_eq, hm]
  rw [ht]
  have h1 : (BitVec.ofInt 64 (m : Int) &&& BitVec.ofInt 64 1).toNat = m % 2 := by
    rw [BitVec.toNat_and, BitVec.toNat_ofInt, BitVec.toNat_ofInt]
    have e1 : (((m : Int) % ((2 ^ 64 : Nat) : Int)).toNat) = m := by omega
    rw [e1]
    show m &&& 1 = m % 2
    exact Nat.and_one_is_mod m
  show IntKind.i64.wrap (((BitVec.ofInt 64 (m : Int) &&& BitVec.ofInt 64 1).toNat : Nat) : Int) = _
  rw [h1, IntWalk.i64_in _ (by omega)]
  by_cases h2 : m % 2 = 1
  · simp [h2]
  · have h3 : m % 2 = 0 := by omega
    simp [h3]
set_option maxRecDepth 100000 in
set_option maxHeartbeats 4000000 in
theorem subset_any (set n : Nat) (w : World) (hs : set ≤ 1048576) (hn : n ≤ 20) :
    Calls Tryz.prog 33 #[.int .i64 (set : Int), .int .i64 (n : Int)] w fun e w' => RetV (fun v' w' => OwnL encInt 1 2 w' w.heap.size v' (subs set n)) w e w' := by
  go_enter Tryz.func33, Tryz.ntmps33
  go_wp2_with fail
  go_loopw [5, 6, 9] (fun u _ j wr => ∃ k : Nat, k ≤ n ∧ j = .int .i64 k ∧ OwnL encInt 1 2 wr w.heap.size u (subs set k) ∧ Below w.heap.size w wr) (fun _ _ j _ => n - (intOf j).toNat)
  case atStart => exact ⟨0, Nat.zero_le _, rfl, OwnL.emptyAt rfl (Nat.le_refl _), by (repeat (first | with_reducible assumption | with_reducible exact Below.refl _ _ | with_reducible refine Below.setCell ?_ ?_ _ | with_reducible refine Below.alloc ?_ ?_ _ | with_reducible refine Below.drew ?_ | with_reducible refine below_drewN ?_ _ | with_reducible refine Below.step (by with_reducible assumption) ?_ ?_ | omega | (simp <;> omega) | (simp; done)))⟩
  case round =>
    obtain ⟨k, hk, rfl, hown, hbel⟩ := hrel
    have z0 := hbel.size
    have hsl := subs_len set k
    by_cases hlt : k < n
    · have hki : (k : Int) < (n : Int) := by omega
      have hki64 : (k : Int) ≤ 64 := by omega
      have hb := bit_val set k hs
      cases ht : set.testBit k with
      | false =>
        rw [ht] at hb
        have HN := Lib.hid (subs_no ht)
        clear ht
        go_wp2_with fail
        go_roundw
        case rel => exact ⟨k + 1, by omega, by go_num, (by rw [HN.out]; exact hown), hbel⟩
        case measure => simp [intOf]; omega
      | true =>
        rw [ht] at hb
        have HN := Lib.hid (subs_yes ht)
        clear ht
        go_wp2_with (at_builtin; refine wpList_push (enc := encInt) _ _ (by first | rfl | simp) rfl (.tmp 17) (.tmp 19) 28 rfl w.heap.size 2 _ (.int .i64 0) 1 8 Tryz.underlying28 (by kernel_rfl) rfl (by omega) _ (subs set k) (k : Int) _ rfl rfl (encInt_one _) rfl rfl hown (by omega) (by omega) (by (first | omega | (simp; omega) | (simp; done))) ?_; intro v9 w9 hown9 hg9 hk9)
        go_roundw
        case rel => exact ⟨k + 1, by omega, by go_num, (by rw [HN.out]; exact hown9), hk9 _ _ (Nat.le_refl _) hbel⟩
        case measure => simp [intOf]; omega
    · have hkn : k = n := by omega
      subst hkn
      go_wp2_with fail
      go_ret
      exact ⟨_, rfl, hown, hbel⟩
end Go.Proofs.YtmgdkblleljdaaaGreat
