/- Walks: tables of kept demands, contradictions, conflicts. Written by a program (gen_conf.py). -/
import Derived.Test.YtgpknnlphabpkaaGreatTabP
import Derived.BigQuiet
import Derived.Deep.QuietTactic
namespace Go.Proofs.YtgpknnlphabpkaaGreat
open Go.RowKit
set_option linter.unusedVariables false

theorem RdF.dropC {w : World} {lo hi b off n c k : Nat} {xs : List Int} (h : RdF encInt 1 w lo hi (.slice (some ⟨b, off, none⟩) n c) xs) (hk : k ≤ xs.length) : RdF encInt 1 w lo hi (.slice (some ⟨b, off + k, none⟩) (n - k) (c - k)) (xs.drop k) := by
  by_cases hl : k < xs.length
  · simpa using h.suf hk hl
  · obtain ⟨A, c', hv, hc, -⟩ := h
    injection hv with e1 e2 e3
    have e : xs.drop k = [] := List.drop_eq_nil_of_le (by omega)
    rw [e]
    exact ⟨some ⟨b, off + k, none⟩, c - k, by rw [show n - k = 0 by omega]; rfl, Nat.zero_le _, fun h => by simp at h⟩
theorem RdF.zeroLen {w : World} {lo hi : Nat} {A : Option Addr} {c n : Nat} (h : n = 0) : RdF encInt 1 w lo hi (.slice A n c) [] := ⟨A, c, by rw [h]; rfl, Nat.zero_le _, fun h => by simp at h⟩

set_option maxRecDepth 100000 in
set_option maxHeartbeats 4000000 in
theorem keptLists_any (v : Value) (xs : List Hearing) (lo hi : Nat) (v2 : Value) (ps : List Slot) (lo2 hi2 : Nat) (v3 : Value) (ds : List Demand) (lo3 hi3 : Nat) (w : World) (h : RdHearing w lo hi v xs) (hh : hi ≤ w.heap.size) (hm : xs.length ≤ 1048576) (hms : ∀ x ∈ xs, Hearing.small x) (h2 : RdF Slot.enc 3 w lo2 hi2 v2 ps) (hh2 : hi2 ≤ w.heap.size) (hm2 : ps.length ≤ 1048576) (h3 : RdF Demand.enc 3 w lo3 hi3 v3 ds) (hh3 : hi3 ≤ w.heap.size) (hm3 : ds.length ≤ 1048576) (hd : areDemands xs ps ds = true) :
    Calls Tryz.prog 52 #[v, v2, v3] w fun e w' => RetV (fun v' w' => OwnII w' w.heap.size w.heap.size v' (tabs xs ps ds)) w e w' := by
  obtain ⟨A2, c2, rfl, hcap2⟩ := h2.form
  obtain ⟨A3, c3, rfl, hcap3⟩ := h3.form
  have hbo := areDemands_both hd
  have hcl := bothOk_len hbo
  have HSL := Lib.hid (slotsOk_all (bothOk_sx hbo))
  have HBX := Lib.hid (hearingsOk_all (bothOk_hx hbo))
  have HDP := Lib.hid (areDemands_parts hd)
  have hdl := areDemands_len hd
  have hcl1 := hcl.1
  have hcl2 := hcl.2
  have HMS := Lib.hid hms
  have HTB := Lib.hid (show tabs xs ps ds = (cals xs ps).map fun c => keptIdx ps c ds ds.length from rfl)
  clear hbo hd hcl hms

  have hb : Below w.heap.size w (w.alloc (.cells #[] 29)) := (Below.refl _ _).alloc (Nat.le_refl _) _
  have hz := hb.size
  have HO0 : OwnII (w.alloc (.cells #[] 29)) w.heap.size w.heap.size (.slice (some ⟨w.heap.size, 0, none⟩) 0 0) [] := OwnII.emptyAt rfl (Nat.le_refl _)
  go_enter Tryz.func52, Tryz.ntmps52
  go_wp2_with fail
  refine (calendars_any _ xs lo hi _ ps lo2 hi2 _ (h.below hb hh) (by omega) (h2.below hb hh2) (by omega) hcl1 HMS.out HBX.out hcl2 HSL.out).mono ?_
  rintro e w2 ⟨y2, rfl, ho, b2⟩
  have z2 := b2.size
  have hown0 := HO0.below b2
  have hrd := ho.rd (Nat.le_refl _)
  have hbk := Below.step b2 hz hb
  have zk := hbk.size
  clear HO0
  obtain ⟨AL, cL, rfl, hcL⟩ := ho.form
  have hnl := cals_le (xs := xs) (ps := ps) hcl2 hcl1
  have HC := Lib.hid (fun c (hcm : c ∈ cals xs ps) => cals_mem hcm)
  clear ho b2
  generalize cals xs ps = L at *
  go_wp2_with fail
  go_loopw [7, 9, 15] (fun u _ j wr => ∃ k : Nat, k ≤ L.length ∧ j = .int .i64 k ∧ OwnII wr w.heap.size w.heap.size u ((L.take k).map fun c => keptIdx ps c ds ds.length) ∧ Chg w.heap.size (w.heap.size + 1) w2 wr ∧ Hid (∀ g, u.ownBlock = some g → g = w.heap.size ∨ w2.heap.size ≤ g)) (fun _ _ j _ => L.length - (intOf j).toNat)
  case atStart => exact ⟨0, Nat.zero_le _, rfl, hown0, Chg.refl _ _ _, fun g hg => (by simp only [Value.ownBlock, Option.some.injEq] at hg; exact .inl hg.symm)⟩
  case round =>
    obtain ⟨k, hk, rfl, hown, hbel, HOB⟩ := hrel
    have z0 := hbel.size
    have hbw2 : Below w.heap.size w wr := hbk.trans (hbel.below (Nat.le_refl _) zk)
    by_cases hlt : k < L.length
    · have hki : (k : Int) < (L.length : Int) := by omega
      obtain ⟨c, ac, cc, b, off, HS, rfl, hbw, x1, hrc⟩ := RdII.at (hrd.chg hbel (Nat.le_refl _) (.inr (by simp))) (Below.refl wr.heap.size wr) z0 hlt
      have HCC := Lib.hid (HC.out c (List.mem_of_getElem? HS.out))
      have hcl5 : c.length ≤ 5 := by have := HCC.out.1; omega
      have hb0 := hbw2
      go_wp2_with fail
      refine (keptByL_any _ ps lo2 hi2 _ ds lo3 hi3 _ c _ _ _ (h2.below hb0 (by omega)) (by omega) (by omega) (h3.below hb0 (by omega)) (by omega) (by omega) hrc.rd (by omega) (by omega) HCC.out.2 (by rw [HCC.out.1]; exact HDP.out)).mono ?_
      rintro e w5 ⟨v5, rfl, ho5, b5⟩
      have z5 := b5.size
      have hrw5 := ho5.rdw (fun _ => rfl)
      obtain ⟨A5, c5, rfl, hc5⟩ := RdF.form hrw5.rd
      replace hown := hown.below b5
      have hc5 : Chg w.heap.size (w.heap.size + 1) w2 w5 := hbel.trans (Chg.of_below b5)
      obtain ⟨rs, ers, lrs, ors, hrs⟩ := hown.parts
      have lrs2 : rs.length ≤ 100000 := by rw [lrs, List.length_map, List.length_take]; omega
      have hqs : RowsW w5 w.heap.size w5.heap.size [⟨keptIdx ps c ds ds.length, A5, c5⟩] := fun r hr => by
        simp at hr
        subst hr
        exact hrw5.wide (by omega) (Nat.le_refl _)
      have HE := Lib.hid (show (L.take (k + 1)).map (fun c => keptIdx ps c ds ds.length) = rs.map RowI.xs ++ [(⟨keptIdx ps c ds ds.length, A5, c5⟩ : RowI)].map RowI.xs by rw [List.take_add_one, HS.out, List.map_append, ers]; rfl)
      clear lrs ers hown ho5 b5
      go_wp2_with (at_builtin; refine wpList_push2 (enc := RowI.enc) _ _ (by first | rfl | simp) rfl (.tmp 19) (.tmp 24) 62 rfl w.heap.size 29 _ (.slice none 0 0) 1 24 Tryz.underlying62 (by kernel_rfl) rfl (by omega) _ rs ⟨keptIdx ps c ds ds.length, A5, c5⟩ _ rfl rfl (RowI.one _) rfl rfl ors (by omega) (by omega) (by (first | omega | (simp; omega) | (simp; done))) ?_; intro v9 w9 hown9 hg9 hk9)
      go_roundw
      case rel => exact ⟨k + 1, by omega, by go_num, (by rw [HE.out]; exact OwnII.join ors hg9 hrs hqs hown9), hc5.grown hg9 (fun g hg => by rcases HOB.out g hg with h | h <;> omega), fun g hg => by rcases hk9 with h | h <;> rw [h] at hg; exact HOB.out g hg; injection hg with hg; right; omega⟩
      case measure => simp [intOf]; omega
    · have hkn : k = L.length := by omega
      rw [hkn, List.take_length] at hown
      clear hkn
      go_wp2_with fail
      go_ret
      exact ⟨_, rfl, by rw [HTB.out]; exact hown.mono (Nat.le_refl _) (Nat.le_refl _), hbw2⟩
set_option maxRecDepth 100000 in
set_option maxHeartbeats 4000000 in
theorem l22Tables_any (v : Value) (xs : List Hearing) (lo hi : Nat) (v2 : Value) (ps : List Slot) (lo2 hi2 : Nat) (v3 : Value) (ds : List Demand) (lo3 hi3 : Nat) (w : World) (h : RdHearing w lo hi v xs) (hh : hi ≤ w.heap.size) (hm : xs.length ≤ 1048576) (hms : ∀ x ∈ xs, Hearing.small x) (h2 : RdF Slot.enc 3 w lo2 hi2 v2 ps) (hh2 : hi2 ≤ w.heap.size) (hm2 : ps.length ≤ 1048576) (h3 : RdF Demand.enc 3 w lo3 hi3 v3 ds) (hh3 : hi3 ≤ w.heap.size) (hm3 : ds.length ≤ 1048576) (hd : areDemands xs ps ds = true) :
    Calls Tryz.prog 54 #[v, v2, v3] w fun e w' => RetV (fun v' w' => OwnII w' w.heap.size w.heap.size v' (tabs xs ps ds)) w e w' := by
  obtain ⟨A2, c2, rfl, hcap2⟩ := h2.form
  obtain ⟨A3, c3, rfl, hcap3⟩ := h3.form
  have hbo := areDemands_both hd
  have hcl := bothOk_len hbo
  have HSL := Lib.hid (slotsOk_all (bothOk_sx hbo))
  have HBX := Lib.hid (hearingsOk_all (bothOk_hx hbo))
  have HDP := Lib.hid (areDemands_parts hd)
  have hdl := areDemands_len hd
  have hcl1 := hcl.1
  have hcl2 := hcl.2
  have HMS := Lib.hid hms
  have HTB := Lib.hid (show tabs xs ps ds = (cals xs ps).map fun c => keptIdx ps c ds ds.length from rfl)
  clear hbo hd hcl hms

  go_enter Tryz.func54, Tryz.ntmps54
  go_wp2_with fail
  refine (l21All_top _ xs lo hi _ ps lo2 hi2 _ h hh h2 hh2 hcl1 HMS.out HBX.out hcl2 HSL.out).mono ?_
  rintro e w2 ⟨y2, rfl, ho, hbk⟩
  have zk := hbk.size
  have hrd := ho.rd (Nat.le_refl _)
  have b2 := Below.refl w2.heap.size w2
  obtain ⟨AL, cL, rfl, hcL⟩ := ho.form
  have hnl := cals_le (xs := xs) (ps := ps) hcl2 hcl1
  have HC := Lib.hid (fun c (hcm : c ∈ cals xs ps) => cals_mem hcm)
  clear ho b2
  generalize cals xs ps = L at *
  go_wp2_with fail
  go_loopw [8, 9] (fun u j wr => ∃ k : Nat, k ≤ L.length ∧ j = .int .i64 k ∧ OwnII wr w.heap.size w2.heap.size u ((L.take k).map fun c => keptIdx ps c ds ds.length) ∧ Below w2.heap.size w2 wr) (fun _ j _ => L.length - (intOf j).toNat)
  case atStart => exact ⟨0, Nat.zero_le _, rfl, OwnII.emptyAt rfl (Nat.le_refl _), (Below.refl _ _).alloc (Nat.le_refl _) _⟩
  case round =>
    obtain ⟨k, hk, rfl, hown, hbel⟩ := hrel
    have z0 := hbel.size
    have hbw2 : Below w.heap.size w wr := Below.step hbel zk hbk
    by_cases hlt : k < L.length
    · have hki : (k : Int) < (L.length : Int) := by omega
      obtain ⟨c, ac, cc, b, off, HS, rfl, hbw, x1, hrc⟩ := RdII.at hrd hbel (Nat.le_refl _) hlt
      have HCC := Lib.hid (HC.out c (List.mem_of_getElem? HS.out))
      have hcl5 : c.length ≤ 5 := by have := HCC.out.1; omega
      have hb0 := hbw2
      go_wp2_with fail
      refine (l22Kept_any _ ps lo2 hi2 _ ds lo3 hi3 _ c _ _ _ (h2.below hb0 (by omega)) (by omega) (by omega) (h3.below hb0 (by omega)) (by omega) (by omega) hrc.rd (by omega) (by omega) HCC.out.2 (by rw [HCC.out.1]; exact HDP.out)).mono ?_
      rintro e w5 ⟨v5, rfl, ho5, b5⟩
      have z5 := b5.size
      have hrw5 := ho5.rdw (fun _ => rfl)
      obtain ⟨A5, c5, rfl, hc5⟩ := RdF.form hrw5.rd
      replace hown := hown.below b5
      replace hbel := Below.step b5 z0 hbel
      obtain ⟨rs, ers, lrs, ors, hrs⟩ := hown.parts
      have lrs2 : rs.length ≤ 100000 := by rw [lrs, List.length_map, List.length_take]; omega
      have hqs : RowsW w5 w.heap.size w5.heap.size [⟨keptIdx ps c ds ds.length, A5, c5⟩] := fun r hr => by
        simp at hr
        subst hr
        exact hrw5.wide (by omega) (Nat.le_refl _)
      have HE := Lib.hid (show (L.take (k + 1)).map (fun c => keptIdx ps c ds ds.length) = rs.map RowI.xs ++ [(⟨keptIdx ps c ds ds.length, A5, c5⟩ : RowI)].map RowI.xs by rw [List.take_add_one, HS.out, List.map_append, ers]; rfl)
      clear lrs ers hown ho5 b5
      go_wp2_with (at_builtin; refine wpList_push (enc := RowI.enc) _ _ (by first | rfl | simp) rfl (.tmp 21) (.tmp 29) 62 rfl w2.heap.size 29 _ (.slice none 0 0) 1 24 Tryz.underlying62 (by kernel_rfl) rfl (by omega) _ rs ⟨keptIdx ps c ds ds.length, A5, c5⟩ _ rfl rfl (RowI.one _) rfl rfl ors (by omega) (by omega) (by (first | omega | (simp; omega) | (simp; done))) ?_; intro v9 w9 hown9 hg9 hk9)
      go_roundw
      case rel => exact ⟨k + 1, by omega, by go_num, (by rw [HE.out]; exact OwnII.join ors hg9 hrs hqs hown9), hk9 _ _ (Nat.le_refl _) hbel⟩
      case measure => simp [intOf]; omega
    · have hkn : k = L.length := by omega
      rw [hkn, List.take_length] at hown
      clear hkn
      go_wp2_with fail
      go_ret
      exact ⟨_, rfl, by rw [HTB.out]; exact hown.mono (Nat.le_refl _) zk, hbw2⟩
set_option maxRecDepth 100000 in
set_option maxHeartbeats 4000000 in
theorem l22Within_any (v : Value) (s : List Int) (lo hi : Nat) (v2 : Value) (l : List Int) (lo2 hi2 : Nat) (w : World) (h : RdF encInt 1 w lo hi v s) (hh : hi ≤ w.heap.size) (hm : s.length ≤ 1048576) (h2 : RdF encInt 1 w lo2 hi2 v2 l) (hh2 : hi2 ≤ w.heap.size) (hm2 : l.length ≤ 1048576) :
    Calls Tryz.prog 107 #[v, v2] w fun e w' => e = .returned (.bool (s.all (hasI l))) ∧ w = w' := by
  obtain ⟨A, c, rfl, hcap⟩ := h.form
  obtain ⟨A2, c2, rfl, hcap2⟩ := h2.form
  go_enter Tryz.func107, Tryz.ntmps107
  go_wp2_with fail
  go_loop [5] (fun j => ∃ k : Nat, k ≤ s.length ∧ j = .int .i64 k ∧ Hid ((s.take k).all (hasI l) = true)) (fun j => s.length - (intOf j).toNat)
  case atStart => exact ⟨0, Nat.zero_le _, rfl, rfl⟩
  case round =>
    obtain ⟨k, hk, rfl, HA⟩ := hrel
    by_cases hlt : k < s.length
    · have hki : (k : Int) < (s.length : Int) := by omega
      obtain ⟨x, b, off, HS, rfl, hbw, c0⟩ := RdF.int h (Below.refl w.heap.size w) (by omega) hlt
      go_wp2_with (go_at_call 57; refine (l01Has_any _ l _ _ x _ h2 hh2 hm2).mono ?_; rintro e w' ⟨rfl, rfl⟩)
      · have hf : (!hasI l x) = true := by assumption
        go_ret
        exact ⟨ret_bool (by rw [all_false_of HS.out (by simpa using hf)]), rfl⟩
      · have hf : (!hasI l x) = false := by assumption
        go_round
        case rel => exact ⟨k + 1, by omega, by go_num, Lib.hid (take_all_succ HA.out HS.out (by simpa using hf))⟩
        case measure => simp [intOf]; omega
    · have HF := Lib.hid (all_of_take HA.out hlt)
      go_wp2_with fail
      go_ret
      exact ⟨ret_bool HF.out.symm, rfl⟩
set_option maxRecDepth 100000 in
set_option maxHeartbeats 4000000 in
theorem contradict_any (v : Value) (L : List (List Int)) (lo hi : Nat) (v2 : Value) (s : List Int) (lo2 hi2 : Nat) (w : World) (h : RdII w lo hi v L) (hh : hi ≤ w.heap.size) (hl : L.length ≤ 1048576) (hr : ∀ l ∈ L, l.length ≤ 1048576) (h2 : RdF encInt 1 w lo2 hi2 v2 s) (hh2 : hi2 ≤ w.heap.size) (hm2 : s.length ≤ 1048576) :
    Calls Tryz.prog 64 #[v, v2] w fun e w' => e = .returned (.bool (against L s)) ∧ Below w.heap.size w w' := by
  obtain ⟨A, c, rfl, hcap⟩ := h.form
  obtain ⟨A2, c2, rfl, hcap2⟩ := h2.form
  have HR := Lib.hid hr; clear hr
  go_enter Tryz.func64, Tryz.ntmps64
  go_wp2_with fail
  go_loopw [6, 9] (fun _ j wr => ∃ k : Nat, k ≤ L.length ∧ j = .int .i64 k ∧ Hid (((L.take k).any fun l => s.all (hasI l)) = false) ∧ Below w.heap.size w wr) (fun _ j _ => L.length - (intOf j).toNat)
  case atStart => exact ⟨0, Nat.zero_le _, rfl, rfl, Below.refl _ _⟩
  case round =>
    obtain ⟨k, hk, rfl, HA, hbel⟩ := hrel
    have z0 := hbel.size
    by_cases hlt : k < L.length
    · have hki : (k : Int) < (L.length : Int) := by omega
      obtain ⟨l, al, cl, b, off, HS, rfl, hbw, x1, hrl⟩ := RdII.at h hbel (by omega) hlt
      have HL := Lib.hid (HR.out l (List.mem_of_getElem? HS.out))
      have hll := HL.out

      go_wp2_with fail
      refine (without_any _ s lo2 hi2 _ l _ _ _ (h2.below hbel hh2) (by omega) hm2 hrl.rd (by omega) hll).mono ?_
      rintro e w5 ⟨v5, rfl, hw5, b5⟩
      have z5 := b5.size
      obtain ⟨A5, c5, rfl, hc5⟩ := RdF.form hw5.rd
      replace hbel := Below.step b5 z0 hbel
      have HWN := Lib.hid (without_nil (s := s) (l := l))
      clear b5
      generalize withoutL s l = t at *
      by_cases hz : t.length = 0
      · have HF := Lib.hid (show against L s = false by unfold against; rw [any_true_of (p := fun l => s.all (hasI l)) HS.out (HWN.out.1 hz)]; rfl)
        have hzi : ((t.length : Int) == 0) = true := by rw [beq_iff_eq]; omega
        clear hz
        go_wp2_with fail
        go_ret
        exact ⟨ret_bool HF.out.symm, hbel⟩
      · have HN := Lib.hid (any_take_succ (p := fun l => s.all (hasI l)) HA.out HS.out (by
          cases hq : s.all (hasI l) with
          | false => rfl
          | true => exact absurd (HWN.out.2 hq) hz))
        have hzi : ((t.length : Int) == 0) = false := by rw [beq_eq_false_iff_ne]; omega
        go_wp2_with fail
        go_roundw
        case rel => exact ⟨k + 1, by omega, by go_num, HN, hbel⟩
        case measure => simp [intOf]; omega
    · have HF := Lib.hid (show against L s = true by unfold against; rw [any_of_take HA.out hlt]; rfl)
      go_wp2_with fail
      go_ret
      exact ⟨ret_bool HF.out.symm, hbel⟩
set_option maxRecDepth 100000 in
set_option maxHeartbeats 4000000 in
theorem l22Against_any (v : Value) (L : List (List Int)) (lo hi : Nat) (v2 : Value) (s : List Int) (lo2 hi2 : Nat) (w : World) (h : RdII w lo hi v L) (hh : hi ≤ w.heap.size) (hl : L.length ≤ 1048576) (hr : ∀ l ∈ L, l.length ≤ 1048576) (h2 : RdF encInt 1 w lo2 hi2 v2 s) (hh2 : hi2 ≤ w.heap.size) (hm2 : s.length ≤ 1048576) :
    Calls Tryz.prog 84 #[v, v2] w fun e w' => e = .returned (.bool (against L s)) ∧ Below w.heap.size w w' := by
  obtain ⟨A, c, rfl, hcap⟩ := h.form
  obtain ⟨A2, c2, rfl, hcap2⟩ := h2.form
  have HR := Lib.hid hr; clear hr
  go_enter Tryz.func84, Tryz.ntmps84
  go_wp2_with fail
  go_loopw [5] (fun j wr => ∃ k : Nat, k ≤ L.length ∧ j = .int .i64 k ∧ Hid (((L.take k).any fun l => s.all (hasI l)) = false) ∧ Below w.heap.size w wr) (fun j _ => L.length - (intOf j).toNat)
  case atStart => exact ⟨0, Nat.zero_le _, rfl, rfl, Below.refl _ _⟩
  case round =>
    obtain ⟨k, hk, rfl, HA, hbel⟩ := hrel
    have z0 := hbel.size
    by_cases hlt : k < L.length
    · have hki : (k : Int) < (L.length : Int) := by omega
      obtain ⟨l, al, cl, b, off, HS, rfl, hbw, x1, hrl⟩ := RdII.at h hbel (by omega) hlt
      have HL := Lib.hid (HR.out l (List.mem_of_getElem? HS.out))
      have hll := HL.out

      cases hq : s.all (hasI l) with
      | true =>
        have HF := Lib.hid (show against L s = false by unfold against; rw [any_true_of (p := fun l => s.all (hasI l)) HS.out hq]; rfl)
        go_wp2_with (go_at_call 107; refine (l22Within_any _ s lo2 hi2 _ l _ _ _ (h2.below hbel hh2) (by omega) hm2 hrl.rd (by omega) hll).mono ?_; rintro e w' ⟨rfl, rfl⟩; rw [hq])
        go_ret
        exact ⟨ret_bool HF.out.symm, hbel⟩
      | false =>
        have HN := Lib.hid (any_take_succ (p := fun l => s.all (hasI l)) HA.out HS.out hq)
        go_wp2_with (go_at_call 107; refine (l22Within_any _ s lo2 hi2 _ l _ _ _ (h2.below hbel hh2) (by omega) hm2 hrl.rd (by omega) hll).mono ?_; rintro e w' ⟨rfl, rfl⟩; rw [hq])
        go_roundw
        case rel => exact ⟨k + 1, by omega, by go_num, HN, hbel⟩
        case measure => simp [intOf]; omega
    · have HF := Lib.hid (show against L s = true by unfold against; rw [any_of_take HA.out hlt]; rfl)
      go_wp2_with fail
      go_ret
      exact ⟨ret_bool HF.out.symm, hbel⟩
set_option maxRecDepth 100000 in
set_option maxHeartbeats 4000000 in
theorem isConflict_any (v : Value) (L : List (List Int)) (lo hi : Nat) (v2 : Value) (s : List Int) (lo2 hi2 : Nat) (w : World) (h : RdII w lo hi v L) (hh : hi ≤ w.heap.size) (hl : L.length ≤ 1048576) (hr : ∀ l ∈ L, l.length ≤ 1048576) (h2 : RdF encInt 1 w lo2 hi2 v2 s) (hh2 : hi2 ≤ w.heap.size) (hm2 : s.length ≤ 1048576) :
    Calls Tryz.prog 71 #[v, v2] w fun e w' => e = .returned (.bool (isConf L s)) ∧ Below w.heap.size w w' := by
  obtain ⟨A, c, rfl, hcap⟩ := h.form
  obtain ⟨A2, c2, rfl, hcap2⟩ := h2.form
  have HR := Lib.hid hr; clear hr
  go_enter Tryz.func71, Tryz.ntmps71
  go_wp2_with fail
  go_loopw [6, 9] (fun _ j wr => ∃ k : Nat, k ≤ s.length ∧ j = .int .i64 k ∧ Hid (((s.take k).all fun i => !against L (withoutL s [i])) = true) ∧ Below w.heap.size w wr) (fun _ j _ => s.length - (intOf j).toNat)
  case atStart => exact ⟨0, Nat.zero_le _, rfl, rfl, Below.refl _ _⟩
  case round =>
    obtain ⟨k, hk, rfl, HA, hbel⟩ := hrel
    have z0 := hbel.size
    by_cases hlt : k < s.length
    · have hki : (k : Int) < (s.length : Int) := by omega
      obtain ⟨x, b, off, HS, rfl, hbw, c0⟩ := RdF.int h2 hbel (by omega) hlt
      have hb1 : Below wr.heap.size wr (wr.alloc (.cells #[.int .i64 x] 2)) := (Below.refl _ _).alloc (Nat.le_refl _) _
      have hz1 : (wr.alloc (.cells #[.int .i64 x] 2)).heap.size = wr.heap.size + 1 := by simp
      have hone : RdF encInt 1 (wr.alloc (.cells #[.int .i64 x] 2)) 0 (wr.heap.size + 1) (.slice (some ⟨wr.heap.size, 0, none⟩) 1 1) [x] := RdF.one (enc := encInt) (Blk.newAt rfl) rfl (Nat.zero_le _) (Nat.lt_succ_self _)
      have hb2 := Below.step hb1 z0 hbel
      go_wp2_with fail
      refine (without_any _ s lo2 hi2 _ [x] _ _ _ (h2.below hb2 hh2) (by omega) hm2 hone (by omega) (by simp)).mono ?_
      rintro e w5 ⟨v5, rfl, hw5, b5⟩
      have z5 := b5.size
      have hb3 := Below.step b5 (by omega) hb2
      have hwl := withoutL_len s [x]
      go_wp2_with fail
      refine (contradict_any _ L lo hi _ (withoutL s [x]) _ _ _ (h.below hb3 hh) (by omega) hl HR.out hw5.rd (Nat.le_refl _) (by omega)).mono ?_
      rintro e w6 ⟨rfl, b6⟩
      have z6 := b6.size
      replace hbel := Below.step b6 (by omega) hb3
      clear hb1 hb2 hb3 b5 b6 hone
      cases hq : against L (withoutL s [x]) with
      | true =>
        have HF := Lib.hid (show isConf L s = false by unfold isConf; rw [all_false_of (p := fun i => !against L (withoutL s [i])) HS.out (by rw [hq]; rfl), Bool.and_false])
        clear hq
        go_wp2_with fail
        go_ret
        exact ⟨ret_bool HF.out.symm, hbel⟩
      | false =>
        have HN := Lib.hid (take_all_succ (p := fun i => !against L (withoutL s [i])) HA.out HS.out (by rw [hq]; rfl))
        clear hq
        go_wp2_with fail
        go_roundw
        case rel => exact ⟨k + 1, by omega, by go_num, HN, hbel⟩
        case measure => simp [intOf]; omega
    · have HF := Lib.hid (show isConf L s = against L s by unfold isConf; rw [all_of_take HA.out hlt, Bool.and_true])
      go_wp2_with fail
      refine (contradict_any _ L lo hi _ s lo2 hi2 _ (h.below hbel hh) (by omega) hl HR.out (h2.below hbel hh2) (by omega) hm2).mono ?_
      rintro e w6 ⟨rfl, b6⟩
      go_wp2_with fail
      go_ret
      exact ⟨ret_bool HF.out.symm, Below.step b6 z0 hbel⟩
set_option maxRecDepth 100000 in
set_option maxHeartbeats 4000000 in
theorem l22Conflict_any (v : Value) (L : List (List Int)) (lo hi : Nat) (v2 : Value) (s : List Int) (lo2 hi2 : Nat) (w : World) (h : RdII w lo hi v L) (hh : hi ≤ w.heap.size) (hl : L.length ≤ 1048576) (hr : ∀ l ∈ L, l.length ≤ 1048576) (h2 : RdF encInt 1 w lo2 hi2 v2 s) (hh2 : hi2 ≤ w.heap.size) (hm2 : s.length ≤ 1048576) (hris : ∃ n, Ris n 0 s) :
    Calls Tryz.prog 83 #[v, v2] w fun e w' => e = .returned (.bool (isConf L s)) ∧ Below w.heap.size w w' := by
  obtain ⟨A, c, rfl, hcap⟩ := h.form
  obtain ⟨A2, c2, rfl, hcap2⟩ := h2.form
  have HR := Lib.hid hr; clear hr
  have HRI := Lib.hid hris; clear hris
  go_enter Tryz.func83, Tryz.ntmps83
  go_wp2_with fail
  refine (l22Against_any _ L lo hi _ s lo2 hi2 _ h hh hl HR.out h2 hh2 hm2).mono ?_
  rintro e w1 ⟨rfl, b1⟩
  have z1 := b1.size
  replace h := h.below b1 hh
  replace h2 := h2.below b1 hh2
  cases hag : against L s with
  | false =>
    have HF := Lib.hid (show isConf L s = false by unfold isConf; rw [hag]; rfl)
    go_wp2_with fail
    go_ret
    exact ⟨ret_bool HF.out.symm, b1⟩
  | true =>
    have HG := Lib.hid hag
    clear hag
    go_wp2_with fail
    go_loopw [5] (fun j wr => ∃ k : Nat, k ≤ s.length ∧ j = .int .i64 k ∧ Hid (((s.take k).all fun i => !against L (withoutL s [i])) = true) ∧ Below w1.heap.size w1 wr) (fun j _ => s.length - (intOf j).toNat)
    case atStart => exact ⟨0, Nat.zero_le _, rfl, rfl, Below.refl _ _⟩
    case round =>
      obtain ⟨k, hk, rfl, HA, hbel⟩ := hrel
      have z0 := hbel.size
      by_cases hlt : k < s.length
      · have hki : (k : Int) < (s.length : Int) := by omega
        obtain ⟨x, b, off, HS, rfl, hbw, c0⟩ := RdF.int h2 (Below.refl w1.heap.size w1) (by omega) hlt
        clear c0
        have HWO := Lib.hid (show withoutL s [x] = s.take k ++ s.drop (k + 1) from (HRI.out).elim fun n hn => without_one hn HS.out)
        have hpre := (h2.pre (k := k) (by omega)).below hbel (by omega)
        have hln : (s.take k).length ≤ 1048576 := by simp; omega
        have hln2 : (s.take k).length + (s.drop (k + 1)).length ≤ 1048576 := by simp; omega
        have hln3 : (s.take k ++ s.drop (k + 1)).length ≤ 1048576 := by rw [List.length_append]; exact hln2
        have hw1 : IntKind.i64.wrap ((k : Int) + 1) = (k : Int) + 1 := IntWalk.i64_in _ (by omega)
        have hk1 : 0 ≤ (k : Int) + 1 := by omega
        have hk2 : ((k : Int) + 1).toNat = k + 1 := by omega
        have hk3 : (k : Int) + 1 ≤ (s.length : Int) := by omega
        have hk4 : (k : Int) ≤ (c2 : Int) := by omega
        have hk5 : (k : Int) + 1 ≤ (c2 : Int) := by omega
        have hL := h.below hbel (by omega)
        by_cases hcp : c2 = k + 1
        · subst hcp
          have hk6 : (k : Int) ≤ (k : Int) + 1 := by omega
          have hsl : s.drop (k + 1) = [] := List.drop_eq_nil_of_le (by omega)
          have hsuf : RdF encInt 1 wr lo2 hi2 (.slice (some ⟨b, off, none⟩) 0 0) (s.drop (k + 1)) := by rw [hsl]; exact RdF.zeroLen rfl
          clear hsl
          cases hq : against L (withoutL s [x]) with
          | true =>
            have HF := Lib.hid (show isConf L s = false by unfold isConf; rw [all_false_of (p := fun i => !against L (withoutL s [i])) HS.out (by rw [hq]; rfl), Bool.and_false])
            have HQ := Lib.hid (show against L (s.take k ++ s.drop (k + 1)) = true by rw [← HWO.out]; exact hq)
            clear hq
            go_wp2_with fail
            go_region_held3 (fun w' => True) (trivial)
              (first
                | (go_at_call 84; refine (l22Against_any _ L lo hi _ (s.take k ++ s.drop (k + 1)) _ _ _ (hL.below b6 (by omega)) (by omega) hl HR.out (hown6.rdw (fun _ => rfl)).rd (Nat.le_refl _) hln3).mono ?_; rintro e w7 ⟨rfl, b7⟩; rw [HQ.out]; have hb7 : Below w1.heap.size w1 w7 := Below.step b7 (by omega) (Below.step b6 z0 hbel))
                | (go_at_call 100; refine (l01Own_any _ (s.take k) lo2 hi2 _ (hpre.below (B := wr.heap.size) (Below.refl _ wr).drew (by omega)) (by show _ ≤ wr.heap.size; omega) hln).mono ?_; rintro e w5 ⟨v5, rfl, ho5, b5⟩; replace b5 : Below wr.heap.size wr w5 := Below.undrew b5; have z5 := b5.size)
                | (rw [if_pos (by rfl)]; refine wp_app (enc := encInt) _ _ _ _ (by rfl) wr.heap.size 2 (.int .i64 0) 1 8 Tryz.underlying29 (by kernel_rfl) rfl (by omega) (fun _ => rfl) encInt_one (by omega) _ _ (s.take k) (s.drop (k + 1)) lo2 hi2 (by rfl) (by rfl) ho5 (hsuf.below b5 (by omega)) (by omega) (by omega) ?_; intro v6 w6 hown6 hg6 hk6; have b6 : Below wr.heap.size wr w6 := hk6 _ _ (Nat.le_refl _) b5; have z6 := b6.size))
            go_wp2_with fail
            go_ret
            exact ⟨ret_bool HF.out.symm, Below.step hb7 z1 b1⟩
          | false =>
            have HN := Lib.hid (take_all_succ (p := fun i => !against L (withoutL s [i])) HA.out HS.out (by rw [hq]; rfl))
            have HQ := Lib.hid (show against L (s.take k ++ s.drop (k + 1)) = false by rw [← HWO.out]; exact hq)
            clear hq
            go_wp2_with fail
            go_region_held3 (fun w' => True) (trivial)
              (first
                | (go_at_call 84; refine (l22Against_any _ L lo hi _ (s.take k ++ s.drop (k + 1)) _ _ _ (hL.below b6 (by omega)) (by omega) hl HR.out (hown6.rdw (fun _ => rfl)).rd (Nat.le_refl _) hln3).mono ?_; rintro e w7 ⟨rfl, b7⟩; rw [HQ.out]; have hb7 : Below w1.heap.size w1 w7 := Below.step b7 (by omega) (Below.step b6 z0 hbel))
                | (go_at_call 100; refine (l01Own_any _ (s.take k) lo2 hi2 _ (hpre.below (B := wr.heap.size) (Below.refl _ wr).drew (by omega)) (by show _ ≤ wr.heap.size; omega) hln).mono ?_; rintro e w5 ⟨v5, rfl, ho5, b5⟩; replace b5 : Below wr.heap.size wr w5 := Below.undrew b5; have z5 := b5.size)
                | (rw [if_pos (by rfl)]; refine wp_app (enc := encInt) _ _ _ _ (by rfl) wr.heap.size 2 (.int .i64 0) 1 8 Tryz.underlying29 (by kernel_rfl) rfl (by omega) (fun _ => rfl) encInt_one (by omega) _ _ (s.take k) (s.drop (k + 1)) lo2 hi2 (by rfl) (by rfl) ho5 (hsuf.below b5 (by omega)) (by omega) (by omega) ?_; intro v6 w6 hown6 hg6 hk6; have b6 : Below wr.heap.size wr w6 := hk6 _ _ (Nat.le_refl _) b5; have z6 := b6.size))
            clear hw1 hk2
            go_wp2_with fail
            go_roundw
            case rel => exact ⟨k + 1, by omega, by go_num, HN, hb7⟩
            case measure => simp [intOf]; omega
        · have hsuf : RdF encInt 1 wr lo2 hi2 (.slice (some ⟨b, off + (k + 1), none⟩) (s.length - (k + 1)) (c2 - (k + 1))) (s.drop (k + 1)) := (h2.dropC (k := k + 1) (by omega)).below hbel (by omega)
          cases hq : against L (withoutL s [x]) with
          | true =>
            have HF := Lib.hid (show isConf L s = false by unfold isConf; rw [all_false_of (p := fun i => !against L (withoutL s [i])) HS.out (by rw [hq]; rfl), Bool.and_false])
            have HQ := Lib.hid (show against L (s.take k ++ s.drop (k + 1)) = true by rw [← HWO.out]; exact hq)
            clear hq
            go_wp2_with fail
            go_region_held3 (fun w' => True) (trivial)
              (first
                | (go_at_call 84; refine (l22Against_any _ L lo hi _ (s.take k ++ s.drop (k + 1)) _ _ _ (hL.below b6 (by omega)) (by omega) hl HR.out (hown6.rdw (fun _ => rfl)).rd (Nat.le_refl _) hln3).mono ?_; rintro e w7 ⟨rfl, b7⟩; rw [HQ.out]; have hb7 : Below w1.heap.size w1 w7 := Below.step b7 (by omega) (Below.step b6 z0 hbel))
                | (go_at_call 100; refine (l01Own_any _ (s.take k) lo2 hi2 _ (hpre.below (B := wr.heap.size) (Below.refl _ wr).drew (by omega)) (by show _ ≤ wr.heap.size; omega) hln).mono ?_; rintro e w5 ⟨v5, rfl, ho5, b5⟩; replace b5 : Below wr.heap.size wr w5 := Below.undrew b5; have z5 := b5.size)
                | (rw [if_pos (by rfl)]; refine wp_app (enc := encInt) _ _ _ _ (by rfl) wr.heap.size 2 (.int .i64 0) 1 8 Tryz.underlying29 (by kernel_rfl) rfl (by omega) (fun _ => rfl) encInt_one (by omega) _ _ (s.take k) (s.drop (k + 1)) lo2 hi2 (by rfl) (by rfl) ho5 (hsuf.below b5 (by omega)) (by omega) (by omega) ?_; intro v6 w6 hown6 hg6 hk6; have b6 : Below wr.heap.size wr w6 := hk6 _ _ (Nat.le_refl _) b5; have z6 := b6.size))
            go_wp2_with fail
            go_ret
            exact ⟨ret_bool HF.out.symm, Below.step hb7 z1 b1⟩
          | false =>
            have HN := Lib.hid (take_all_succ (p := fun i => !against L (withoutL s [i])) HA.out HS.out (by rw [hq]; rfl))
            have HQ := Lib.hid (show against L (s.take k ++ s.drop (k + 1)) = false by rw [← HWO.out]; exact hq)
            clear hq
            go_wp2_with fail
            go_region_held3 (fun w' => True) (trivial)
              (first
                | (go_at_call 84; refine (l22Against_any _ L lo hi _ (s.take k ++ s.drop (k + 1)) _ _ _ (hL.below b6 (by omega)) (by omega) hl HR.out (hown6.rdw (fun _ => rfl)).rd (Nat.le_refl _) hln3).mono ?_; rintro e w7 ⟨rfl, b7⟩; rw [HQ.out]; have hb7 : Below w1.heap.size w1 w7 := Below.step b7 (by omega) (Below.step b6 z0 hbel))
                | (go_at_call 100; refine (l01Own_any _ (s.take k) lo2 hi2 _ (hpre.below (B := wr.heap.size) (Below.refl _ wr).drew (by omega)) (by show _ ≤ wr.heap.size; omega) hln).mono ?_; rintro e w5 ⟨v5, rfl, ho5, b5⟩; replace b5 : Below wr.heap.size wr w5 := Below.undrew b5; have z5 := b5.size)
                | (rw [if_pos (by rfl)]; refine wp_app (enc := encInt) _ _ _ _ (by rfl) wr.heap.size 2 (.int .i64 0) 1 8 Tryz.underlying29 (by kernel_rfl) rfl (by omega) (fun _ => rfl) encInt_one (by omega) _ _ (s.take k) (s.drop (k + 1)) lo2 hi2 (by rfl) (by rfl) ho5 (hsuf.below b5 (by omega)) (by omega) (by omega) ?_; intro v6 w6 hown6 hg6 hk6; have b6 : Below wr.heap.size wr w6 := hk6 _ _ (Nat.le_refl _) b5; have z6 := b6.size))
            clear hw1 hk2
            go_wp2_with fail
            go_roundw
            case rel => exact ⟨k + 1, by omega, by go_num, HN, hb7⟩
            case measure => simp [intOf]; omega
      · have HF := Lib.hid (show isConf L s = true by unfold isConf; rw [all_of_take HA.out hlt, HG.out]; rfl)
        go_wp2_with fail
        go_ret
        exact ⟨ret_bool HF.out.symm, Below.step hbel z1 b1⟩
set_option maxRecDepth 100000 in
set_option maxHeartbeats 4000000 in
theorem l01Rises_any (v : Value) (xs : List Int) (lo hi : Nat) (n : Nat) (w : World) (h : RdF encInt 1 w lo hi v xs) (hh : hi ≤ w.heap.size) (hm : xs.length ≤ 1048576) (hn : n ≤ 1048576) :
    Calls Tryz.prog 106 #[v, .int .i64 (n : Int)] w fun e w' => e = .returned (.bool (incr 0 ((n : Int) - 1) xs)) ∧ Below w.heap.size w w' := by
  obtain ⟨A, c, rfl, hc⟩ := h.form
  have HW0 := Lib.hid (show IntKind.i64.wrap ((n : Int) - 1) = (n : Int) - 1 from IntWalk.i64_in _ (by omega))
  go_enter Tryz.func106, Tryz.ntmps106
  go_wp2_with fail
  go_loopw [5] (fun i wr => ∃ k : Nat, k ≤ xs.length ∧ i = .int .i64 k ∧ Hid (prefAll (incrP 0 ((n : Int) - 1)) xs k = true) ∧ Below w.heap.size w wr) (fun i _ => xs.length - (intOf i).toNat)
  case atStart => exact ⟨0, Nat.zero_le _, rfl, rfl, Below.refl _ _⟩
  case round =>
    obtain ⟨k, hk, rfl, HA, hb⟩ := hrel
    have z0 := hb.size
    by_cases hlt : k < xs.length
    · obtain ⟨s, b, off, HS, rfl, hbw, c0⟩ := RdF.int h hb hh hlt
      have hki : (k : Int) < (xs.length : Int) := by omega
      have hww := HW0.out
      cases hr : inR s 0 ((n : Int) - 1) with
      | false =>
        have HP := Lib.hid (show incr 0 ((n : Int) - 1) xs = false by rw [incr, prefOk_false HS.out (by rw [incrP, hr]; rfl)])
        go_wp2_with fail
        go_quiet ((go_at_call 89; exact Calls.quiet_of_same ((l01In_any _ _ _ _).mono (by rintro e w' ⟨rfl, rfl⟩; exact ⟨by rw [hr], rfl⟩))))
        clear hww
        go_wp2_with fail
        go_ret
        exact ⟨ret_bool HP.out.symm, by (repeat (first | with_reducible assumption | with_reducible exact Below.refl _ _ | with_reducible refine Below.setCell ?_ ?_ _ | with_reducible refine Below.alloc ?_ ?_ _ | with_reducible refine Below.drew ?_ | with_reducible refine below_drewN ?_ _ | with_reducible refine Below.step (by with_reducible assumption) ?_ ?_ | omega | (simp <;> omega) | (simp; done)))⟩
      | true =>
        by_cases hk0 : k = 0
        · have hkz : decide (0 < k) = false := by simp; omega
          have HP := Lib.hid (show incrP 0 ((n : Int) - 1) (xs.take k) s = true by rw [hk0, incrP, hr]; rfl)
          clear hk0
          go_wp2_with fail
          go_quiet ((go_at_call 89; exact Calls.quiet_of_same ((l01In_any _ _ _ _).mono (by rintro e w' ⟨rfl, rfl⟩; exact ⟨by rw [hr], rfl⟩))))
          clear hww
          go_wp2_with fail
          go_roundw
          case rel => exact ⟨k + 1, by omega, by go_num, prefAll_succ HA.out HS.out HP.out, by (repeat (first | with_reducible assumption | with_reducible exact Below.refl _ _ | with_reducible refine Below.setCell ?_ ?_ _ | with_reducible refine Below.alloc ?_ ?_ _ | with_reducible refine Below.drew ?_ | with_reducible refine below_drewN ?_ _ | with_reducible refine Below.step (by with_reducible assumption) ?_ ?_ | omega | (simp <;> omega) | (simp; done)))⟩
          case measure => simp [intOf]; omega
        · obtain ⟨t, b2, off2, HT, hA2, hbw2, c1⟩ := RdF.int h hb hh (show k - 1 < xs.length by omega)
          injection hA2 with hA2; injection hA2 with e1 e2; subst e1 e2
          have HP := Lib.hid (show incrP 0 ((n : Int) - 1) (xs.take k) s = decide (t < s) by have e := take_last HT.out; rw [show k - 1 + 1 = k by omega] at e; rw [incrP, hr, e]; rfl)
          have hkp : 1 ≤ (k : Int) := by omega
          have hkq : decide (0 < (k : Int)) = true := by simp; omega
          have hkr : decide (0 < k) = true := by simp; omega
          have hks : 0 < k := by omega
          have hkw : IntKind.i64.wrap ((k : Int) - 1) = (k : Int) - 1 := IntWalk.i64_in _ (by omega)
          have hk1 : 0 ≤ (k : Int) - 1 := by omega
          have hk2 : (k : Int) - 1 < (xs.length : Int) := by omega
          have hk3 : ((k : Int) - 1).toNat = k - 1 := by omega
          clear hk0
          by_cases hts : t < s
          · have ht1 : decide (s ≤ t) = false := by simpa using hts
            go_wp2_with fail
            go_quiet ((go_at_call 89; exact Calls.quiet_of_same ((l01In_any _ _ _ _).mono (by rintro e w' ⟨rfl, rfl⟩; exact ⟨by rw [hr], rfl⟩))))
            clear hww hkw hk3
            go_wp2_with fail
            go_roundw
            case rel => exact ⟨k + 1, by omega, by go_num, prefAll_succ HA.out HS.out (by rw [HP.out]; simpa using hts), by (repeat (first | with_reducible assumption | with_reducible exact Below.refl _ _ | with_reducible refine Below.setCell ?_ ?_ _ | with_reducible refine Below.alloc ?_ ?_ _ | with_reducible refine Below.drew ?_ | with_reducible refine below_drewN ?_ _ | with_reducible refine Below.step (by with_reducible assumption) ?_ ?_ | omega | (simp <;> omega) | (simp; done)))⟩
            case measure => simp [intOf]; omega
          · have ht1 : decide (s ≤ t) = true := by simpa using hts
            have HF := Lib.hid (show incr 0 ((n : Int) - 1) xs = false by rw [incr, prefOk_false HS.out (by rw [HP.out]; simpa using hts)])
            go_wp2_with fail
            go_quiet ((go_at_call 89; exact Calls.quiet_of_same ((l01In_any _ _ _ _).mono (by rintro e w' ⟨rfl, rfl⟩; exact ⟨by rw [hr], rfl⟩))))
            clear hww hkw hk3
            go_wp2_with fail
            go_ret
            exact ⟨ret_bool HF.out.symm, by (repeat (first | with_reducible assumption | with_reducible exact Below.refl _ _ | with_reducible refine Below.setCell ?_ ?_ _ | with_reducible refine Below.alloc ?_ ?_ _ | with_reducible refine Below.drew ?_ | with_reducible refine below_drewN ?_ _ | with_reducible refine Below.step (by with_reducible assumption) ?_ ?_ | omega | (simp <;> omega) | (simp; done)))⟩
    · have HF := Lib.hid (show incr 0 ((n : Int) - 1) xs = true by rw [incr, prefOk_of HA.out hk hlt])
      go_wp2_with fail
      go_ret
      exact ⟨ret_bool HF.out.symm, by (repeat (first | with_reducible assumption | with_reducible exact Below.refl _ _ | with_reducible refine Below.setCell ?_ ?_ _ | with_reducible refine Below.alloc ?_ ?_ _ | with_reducible refine Below.drew ?_ | with_reducible refine below_drewN ?_ _ | with_reducible refine Below.step (by with_reducible assumption) ?_ ?_ | omega | (simp <;> omega) | (simp; done)))⟩
set_option maxRecDepth 100000 in
set_option maxHeartbeats 4000000 in
theorem someCode_any (v : Value) (xs : List Hearing) (lo hi : Nat) (v2 : Value) (ps : List Slot) (lo2 hi2 : Nat) (v3 : Value) (ds : List Demand) (lo3 hi3 : Nat) (v4 : Value) (s : List Int) (lo4 hi4 : Nat) (w : World) (h : RdHearing w lo hi v xs) (hh : hi ≤ w.heap.size) (hm : xs.length ≤ 1048576) (hms : ∀ x ∈ xs, Hearing.small x) (h2 : RdF Slot.enc 3 w lo2 hi2 v2 ps) (hh2 : hi2 ≤ w.heap.size) (hm2 : ps.length ≤ 1048576) (h3 : RdF Demand.enc 3 w lo3 hi3 v3 ds) (hh3 : hi3 ≤ w.heap.size) (hm3 : ds.length ≤ 1048576) (h4 : RdF encInt 1 w lo4 hi4 v4 s) (hh4 : hi4 ≤ w.heap.size) (hm4 : s.length ≤ 1048576) :
    Calls Tryz.prog 63 #[v, v2, v3, v4] w fun e w' => e = .returned (.int .i64 (someC xs ps ds s)) ∧ Below w.heap.size w w' := by
  obtain ⟨A3, c3, rfl, hcap3⟩ := h3.form
  go_enter Tryz.func63, Tryz.ntmps63
  go_wp2_with fail
  refine (areDemands_any _ xs lo hi _ ps lo2 hi2 _ ds lo3 hi3 _ h hh hm hms h2 hh2 hm2 h3 hh3 hm3).mono ?_
  rintro e w1 ⟨rfl, b1⟩
  have z1 := b1.size
  replace h4 := h4.below b1 (by omega)
  clear h h2 h3
  cases hc : areDemands xs ps ds with
  | false =>
    have HF := Lib.hid (someC_bad (s := s) hc)
    go_wp2_with fail
    go_ret
    exact ⟨ret_int HF.out.symm, b1⟩
  | true =>
    have HC := Lib.hid hc
    clear hc
    go_wp2_with fail
    refine (increasing_any _ s lo4 hi4 0 ((ds.length : Int) - 1) _ h4 (by omega) hm4).mono ?_
    rintro e w2 ⟨rfl, rfl⟩
    cases hi : incr 0 ((ds.length : Int) - 1) s with
    | false =>
      have HF := Lib.hid (someC_incr HC.out hi)
      go_wp2_with fail
      go_ret
      exact ⟨ret_int HF.out.symm, b1⟩
    | true =>
      have HF := Lib.hid (someC_ok HC.out hi)
      go_wp2_with fail
      go_ret
      exact ⟨ret_int HF.out.symm, b1⟩
set_option maxRecDepth 100000 in
set_option maxHeartbeats 4000000 in
theorem l22Code_any (v : Value) (xs : List Hearing) (lo hi : Nat) (v2 : Value) (ps : List Slot) (lo2 hi2 : Nat) (v3 : Value) (ds : List Demand) (lo3 hi3 : Nat) (v4 : Value) (s : List Int) (lo4 hi4 : Nat) (w : World) (h : RdHearing w lo hi v xs) (hh : hi ≤ w.heap.size) (hm : xs.length ≤ 1048576) (hms : ∀ x ∈ xs, Hearing.small x) (h2 : RdF Slot.enc 3 w lo2 hi2 v2 ps) (hh2 : hi2 ≤ w.heap.size) (hm2 : ps.length ≤ 1048576) (h3 : RdF Demand.enc 3 w lo3 hi3 v3 ds) (hh3 : hi3 ≤ w.heap.size) (hm3 : ds.length ≤ 1048576) (h4 : RdF encInt 1 w lo4 hi4 v4 s) (hh4 : hi4 ≤ w.heap.size) (hm4 : s.length ≤ 1048576) :
    Calls Tryz.prog 82 #[v, v2, v3, v4] w fun e w' => e = .returned (.int .i64 (someC xs ps ds s)) ∧ Below w.heap.size w w' := by
  obtain ⟨A3, c3, rfl, hcap3⟩ := h3.form
  go_enter Tryz.func82, Tryz.ntmps82
  go_wp2_with fail
  refine (sAreDemands_any _ xs lo hi _ ps lo2 hi2 _ ds lo3 hi3 _ h hh hm hms h2 hh2 hm2 h3 hh3 hm3).mono ?_
  rintro e w1 ⟨rfl, b1⟩
  have z1 := b1.size
  replace h4 := h4.below b1 (by omega)
  clear h h2 h3
  cases hc : areDemands xs ps ds with
  | false =>
    have HF := Lib.hid (someC_bad (s := s) hc)
    go_wp2_with fail
    go_ret
    exact ⟨ret_int HF.out.symm, b1⟩
  | true =>
    have HC := Lib.hid hc
    clear hc
    go_wp2_with fail
    refine (l01Rises_any _ s lo4 hi4 ds.length _ h4 (by omega) hm4 hm3).mono ?_
    rintro e w2 ⟨rfl, b2⟩
    cases hi : incr 0 ((ds.length : Int) - 1) s with
    | false =>
      have HF := Lib.hid (someC_incr HC.out hi)
      go_wp2_with fail
      go_ret
      exact ⟨ret_int HF.out.symm, Below.step b2 z1 b1⟩
    | true =>
      have HF := Lib.hid (someC_ok HC.out hi)
      go_wp2_with fail
      go_ret
      exact ⟨ret_int HF.out.symm, Below.step b2 z1 b1⟩
end Go.Proofs.YtgpknnlphabpkaaGreat
