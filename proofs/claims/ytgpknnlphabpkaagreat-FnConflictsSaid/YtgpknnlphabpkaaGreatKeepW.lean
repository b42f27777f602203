/- Walks: BestKeeping. Written by a program (gen_confx.py). -/
import Derived.Test.YtgpknnlphabpkaaGreatFirstW
import Derived.BigQuiet
import Derived.Deep.QuietTactic
namespace Go.Proofs.YtgpknnlphabpkaaGreat
open Go.RowKit
set_option linter.unusedVariables false

theorem bestOf_one {f : List Int → Int} {q : List Int → Bool} {L : List (List Int)} {k : Nat} {c : List Int} (h : L[k]? = some c) (hq : q c = true) (hz : (keepTo q L k).length = 0) : bestOf f (keepTo q L (k + 1)) = c := by
  rw [keepTo_yes h hq, bestOf_snoc, if_pos hz]
theorem bestOf_yes {f : List Int → Int} {q : List Int → Bool} {L : List (List Int)} {k : Nat} {c : List Int} (h : L[k]? = some c) (hq : q c = true) (hz : ¬ (keepTo q L k).length = 0) (hf : f c < f (bestOf f (keepTo q L k))) : bestOf f (keepTo q L (k + 1)) = c := by
  rw [keepTo_yes h hq, bestOf_snoc, if_neg hz, pick, if_pos hf]
theorem bestOf_no {f : List Int → Int} {q : List Int → Bool} {L : List (List Int)} {k : Nat} {c : List Int} (h : L[k]? = some c) (hq : q c = true) (hz : ¬ (keepTo q L k).length = 0) (hf : ¬ f c < f (bestOf f (keepTo q L k))) : bestOf f (keepTo q L (k + 1)) = bestOf f (keepTo q L k) := by
  rw [keepTo_yes h hq, bestOf_snoc, if_neg hz, pick, if_neg hf]
theorem keepTo_all {q : List Int → Bool} {L : List (List Int)} {k : Nat} (h : k = L.length) : keepTo q L k = L.filter q := by
  unfold keepTo
  rw [h, List.take_length]

set_option maxRecDepth 100000 in
set_option maxHeartbeats 4000000 in
theorem impBestKeeping_any (v : Value) (xs : List Hearing) (lo hi : Nat) (v2 : Value) (ps : List Slot) (lo2 hi2 : Nat) (v3 : Value) (ds : List Demand) (lo3 hi3 : Nat) (w : World) (h : RdHearing w lo hi v xs) (hh : hi ≤ w.heap.size) (hm : xs.length ≤ 1048576) (hms : ∀ x ∈ xs, Hearing.small x) (h2 : RdF Slot.enc 3 w lo2 hi2 v2 ps) (hh2 : hi2 ≤ w.heap.size) (hm2 : ps.length ≤ 1048576) (h3 : RdF Demand.enc 3 w lo3 hi3 v3 ds) (hh3 : hi3 ≤ w.heap.size) (hm3 : ds.length ≤ 1048576) :
    Calls Tryz.prog 41 #[v, v2, v3] w fun e w' => RetVC (fun v' w' => RdW encInt 1 2 w' w.heap.size w'.heap.size v' (bestKeep xs ps ds).1) (bestKeep xs ps ds).2 w e w' := by
  obtain ⟨A3, c3, rfl, hcap3⟩ := h3.form
  go_enter Tryz.func41, Tryz.ntmps41
  go_wp2_with fail
  refine (areDemands_any _ xs lo hi _ ps lo2 hi2 _ ds lo3 hi3 _ h hh hm hms h2 hh2 hm2 h3 hh3 hm3).mono ?_
  rintro e w1 ⟨rfl, b1⟩
  have z1 := b1.size
  replace h := h.below b1 (by omega)
  replace h2 := h2.below b1 (by omega)
  replace h3 := h3.below b1 (by omega)
  cases hc : areDemands xs ps ds with
  | false =>
    have HF := Lib.hid (bestKeep_bad hc)
    go_wp2_with fail
    go_ret2
    rw [HF.out]
    exact ⟨_, rfl, RdW.nil, b1⟩
  | true =>
    have hdl := areDemands_len hc
    have hbl := bothOk_len (areDemands_both hc)
    have hbl1 := hbl.1
    have hbl2 := hbl.2
    clear hbl
    have HSL := Lib.hid (slotsOk_all (bothOk_sx (areDemands_both hc)))
    have HBX := Lib.hid (hearingsOk_all (bothOk_hx (areDemands_both hc)))
    have HDP := Lib.hid (areDemands_parts hc)
    have HMS := Lib.hid hms
    have HS := Lib.hid (fun hl => bestKeep_some (xs := xs) (ps := ps) (ds := ds) hc hl)
    have HN := Lib.hid (fun hl => bestKeep_none (xs := xs) (ps := ps) (ds := ds) hc hl)
    have HKP := Lib.hid (show keepers xs ps ds = (cals xs ps).filter (keepsAll ps ds) from rfl)
    have hnl := cals_le (xs := xs) (ps := ps) hbl2 hbl1
    have HCM := Lib.hid (fun c (hcm : c ∈ cals xs ps) => cals_mem hcm)
    clear hc hms
    have hb : Below w1.heap.size w1 (w1.alloc (.cells #[] 29)) := (Below.refl _ _).alloc (Nat.le_refl _) _
    have hz := hb.size
    have HO0 : OwnII (w1.alloc (.cells #[] 29)) w1.heap.size w1.heap.size (.slice (some ⟨w1.heap.size, 0, none⟩) 0 0) [] := OwnII.emptyAt rfl (Nat.le_refl _)
    go_wp2_with fail
    refine (calendars_any _ xs lo hi _ ps lo2 hi2 _ (h.below hb (by omega)) (by omega) (h2.below hb (by omega)) (by omega) hbl1 HMS.out HBX.out hbl2 HSL.out).mono ?_
    rintro e w2 ⟨y2, rfl, ho, b2⟩
    have z2 := b2.size
    have hown0 := HO0.below b2
    have hrd := ho.rd (Nat.le_refl _)
    have hbk := Below.step b2 hz hb
    have zk := hbk.size
    obtain ⟨AL, cL, rfl, hcL⟩ := ho.form
    clear HO0 ho b2 h
    generalize cals xs ps = L at *
    generalize hkq : keepsAll ps ds = q at *
    have HQE := Lib.hid hkq; clear hkq
    go_wp2_with fail
    go_loopw [8, 10, 21] (fun u _ j wr => ∃ k : Nat, k ≤ L.length ∧ j = .int .i64 k ∧ OwnII wr w1.heap.size w1.heap.size u (keepTo q L k) ∧ Chg w1.heap.size (w1.heap.size + 1) w2 wr ∧ Hid (∀ g, u.ownBlock = some g → g = w1.heap.size ∨ w2.heap.size ≤ g)) (fun _ _ j _ => L.length - (intOf j).toNat)
    case atStart => exact ⟨0, Nat.zero_le _, rfl, hown0, Chg.refl _ _ _, fun g hg => (by simp only [Value.ownBlock, Option.some.injEq] at hg; exact .inl hg.symm)⟩
    case round =>
      obtain ⟨k, hk, rfl, hown, hcg, HOB⟩ := hrel
      have z0 := hcg.size
      have hbw2 : Below w1.heap.size w1 wr := hbk.trans (hcg.below (Nat.le_refl _) zk)
      have hkl := keepTo_len q L k
      by_cases hlt : k < L.length
      · have hki : (k : Int) < (L.length : Int) := by omega
        obtain ⟨c, ac, cc, b, off, HS', rfl, hbw, x1, hrc⟩ := RdII.at (hrd.chg hcg (Nat.le_refl _) (.inr (by simp))) (Below.refl wr.heap.size wr) z0 hlt
        have HCC := Lib.hid (HCM.out c (List.mem_of_getElem? HS'.out))
        have hcl5 : c.length ≤ 5 := by have := HCC.out.1; omega
        have hb0 := hbw2
        go_wp2_with fail
        refine (keptByL_any _ ps lo2 hi2 _ ds lo3 hi3 _ c _ _ _ (h2.below hb0 (by omega)) (by omega) (by omega) (h3.below hb0 (by omega)) (by omega) (by omega) hrc.rd (by omega) (by omega) HCC.out.2 (by rw [HCC.out.1]; exact HDP.out)).mono ?_
        rintro e w5 ⟨v5, rfl, ho5, b5⟩
        have z5 := b5.size
        obtain ⟨A5, c5, rfl, hc5⟩ := RdF.form (ho5.rdw (fun _ => rfl)).rd
        have HKQ := Lib.hid (show keepsAll ps ds c = decide ((keptIdx ps c ds ds.length).length = ds.length) from rfl)
        generalize keptIdx ps c ds ds.length = kk at *
        clear ho5
        replace hown := hown.below b5
        have hrc5 := hrc.below b5 z0
        have hcg5 : Chg w1.heap.size (w1.heap.size + 1) w2 w5 := hcg.trans (Chg.of_below b5)
        by_cases he : kk.length = ds.length
        · have hqc : q c = true := by rw [← HQE.out, HKQ.out]; exact decide_eq_true he
          have HY := Lib.hid (keepTo_yes HS'.out hqc)
          have hei : ((kk.length : Int) == (ds.length : Int)) = true := by rw [beq_iff_eq]; omega
          obtain ⟨rs, ers, lrs, ors, hrs⟩ := hown.parts
          have lrs2 : rs.length ≤ 100000 := by rw [lrs]; omega
          have hqs : RowsW w5 w1.heap.size w5.heap.size [⟨c, ac, cc⟩] := fun r hr => by
            simp at hr
            subst hr
            exact hrc5.wide (by omega) (by omega)
          have HE := Lib.hid (show keepTo q L (k + 1) = rs.map RowI.xs ++ [(⟨c, ac, cc⟩ : RowI)].map RowI.xs by rw [HY.out, ers]; rfl)
          have hzz : 0 < 1 := by omega
          clear lrs ers hown he hqc b5
          go_wp2_with (at_builtin; refine wpList_push2 (enc := RowI.enc) _ _ (by first | rfl | simp) rfl (.tmp 33) (.tmp 35) 62 rfl w1.heap.size 29 _ (.slice none 0 0) 1 24 Tryz.underlying62 (by kernel_rfl) rfl (by omega) _ rs ⟨c, ac, cc⟩ _ rfl rfl (RowI.one _) rfl rfl ors (by omega) (by omega) (by (first | omega | (simp; omega) | (simp; done))) ?_; intro v9 w9 hown9 hg9 hk9)
          go_roundw
          case rel => exact ⟨k + 1, by omega, by go_num, (by rw [HE.out]; exact OwnII.join ors hg9 hrs hqs hown9), hcg5.grown hg9 (fun g hg => by rcases HOB.out g hg with h | h <;> omega), fun g hg => by rcases hk9 with h | h <;> rw [h] at hg; exact HOB.out g hg; injection hg with hg; right; omega⟩
          case measure => simp [intOf]; omega
        · have hqc : q c = false := by rw [← HQE.out, HKQ.out]; exact decide_eq_false he
          have HY := Lib.hid (keepTo_no HS'.out hqc)
          have hei : ((kk.length : Int) == (ds.length : Int)) = false := by rw [beq_eq_false_iff_ne]; omega
          clear hqc
          go_wp2_with fail
          go_roundw
          case rel => exact ⟨k + 1, by omega, by go_num, (by rw [HY.out]; exact hown), hcg5, HOB⟩
          case measure => simp [intOf]; omega
      · have HE := Lib.hid (show keepers xs ps ds = keepTo q L k by rw [HKP.out, keepTo_all (by omega)])
        have hmm := fun c (hcm : c ∈ keepTo q L k) => HCM.out c (keepTo_mem hcm)
        have HMM := Lib.hid hmm; clear hmm
        obtain ⟨AK, cK, rfl, hcK⟩ := hown.form
        have hro := hown.rd (Nat.le_refl _)
        generalize keepTo q L k = K at *
        by_cases hl : K.length = 0
        · have HF := Lib.hid (HN.out (by rw [HE.out]; exact hl))
          have hli : (K.length : Int) = 0 := by omega
          go_wp2_with fail
          go_ret2
          rw [HF.out]
          exact ⟨_, rfl, RdW.nil, Below.step hbw2 (by omega) b1⟩
        · have HF := Lib.hid (HS.out (by rw [HE.out]; exact hl))
          have hli : ¬ (K.length : Int) = 0 := by omega
          go_wp2_with fail
          refine (best_any _ ps lo2 hi2 _ K _ _ _ (h2.below hbw2 (by omega)) (by omega) hbl2 HSL.out hro (Nat.le_refl _) (by omega) (by omega) (fun c hcm => ⟨by have := (HMM.out c hcm).1; omega, (HMM.out c hcm).2⟩)).mono ?_
          rintro e w3 ⟨y3, rfl, hy3, b3⟩
          have z3 := b3.size
          go_wp2_with fail
          go_ret2
          rw [HF.out, HE.out]
          exact ⟨_, rfl, hy3.wide (by omega) z3, Below.step b3 (by omega) (Below.step hbw2 (by omega) b1)⟩
set_option maxRecDepth 100000 in
set_option maxHeartbeats 4000000 in
theorem sBestKeeping_any (v : Value) (xs : List Hearing) (lo hi : Nat) (v2 : Value) (ps : List Slot) (lo2 hi2 : Nat) (v3 : Value) (ds : List Demand) (lo3 hi3 : Nat) (w : World) (h : RdHearing w lo hi v xs) (hh : hi ≤ w.heap.size) (hm : xs.length ≤ 1048576) (hms : ∀ x ∈ xs, Hearing.small x) (h2 : RdF Slot.enc 3 w lo2 hi2 v2 ps) (hh2 : hi2 ≤ w.heap.size) (hm2 : ps.length ≤ 1048576) (h3 : RdF Demand.enc 3 w lo3 hi3 v3 ds) (hh3 : hi3 ≤ w.heap.size) (hm3 : ds.length ≤ 1048576) :
    Calls Tryz.prog 42 #[v, v2, v3] w fun e w' => RetVC (fun v' w' => RdW encInt 1 2 w' w.heap.size w'.heap.size v' (bestKeep xs ps ds).1) (bestKeep xs ps ds).2 w e w' := by
  obtain ⟨A3, c3, rfl, hcap3⟩ := h3.form
  go_enter Tryz.func42, Tryz.ntmps42
  go_wp2_with fail
  refine (sAreDemands_any _ xs lo hi _ ps lo2 hi2 _ ds lo3 hi3 _ h hh hm hms h2 hh2 hm2 h3 hh3 hm3).mono ?_
  rintro e w1 ⟨rfl, b1⟩
  have z1 := b1.size
  replace h := h.below b1 (by omega)
  replace h2 := h2.below b1 (by omega)
  replace h3 := h3.below b1 (by omega)
  cases hc : areDemands xs ps ds with
  | false =>
    have HF := Lib.hid (bestKeep_bad hc)
    go_wp2_with fail
    go_ret2
    rw [HF.out]
    exact ⟨_, rfl, RdW.nil, b1⟩
  | true =>
    have hdl := areDemands_len hc
    have hbl := bothOk_len (areDemands_both hc)
    have hbl1 := hbl.1
    have hbl2 := hbl.2
    clear hbl
    have HSL := Lib.hid (slotsOk_all (bothOk_sx (areDemands_both hc)))
    have HBX := Lib.hid (hearingsOk_all (bothOk_hx (areDemands_both hc)))
    have HDP := Lib.hid (areDemands_parts hc)
    have HMS := Lib.hid hms
    have HS := Lib.hid (fun hl => bestKeep_some (xs := xs) (ps := ps) (ds := ds) hc hl)
    have HN := Lib.hid (fun hl => bestKeep_none (xs := xs) (ps := ps) (ds := ds) hc hl)
    have HKP := Lib.hid (show keepers xs ps ds = (cals xs ps).filter (keepsAll ps ds) from rfl)
    have hnl := cals_le (xs := xs) (ps := ps) hbl2 hbl1
    have HCM := Lib.hid (fun c (hcm : c ∈ cals xs ps) => cals_mem hcm)
    clear hc hms
    go_wp2_with fail
    refine (l21All_top _ xs lo hi _ ps lo2 hi2 _ h (by omega) h2 (by omega) hbl1 HMS.out HBX.out hbl2 HSL.out).mono ?_
    rintro e w2 ⟨y2, rfl, ho, hbk⟩
    have zk := hbk.size
    have hrd := ho.rd (Nat.le_refl _)
    obtain ⟨AL, cL, rfl, hcL⟩ := ho.form
    clear ho h
    generalize cals xs ps = L at *
    generalize hkq : keepsAll ps ds = q at *
    have HQE := Lib.hid hkq; clear hkq
    go_wp2_with fail
    go_loopw [9, 10, 11] (fun u p j wr => ∃ k : Nat, k ≤ L.length ∧ j = .int .i64 k ∧ p = .bool (decide (0 < (keepTo q L k).length)) ∧ (∃ a1 n1 c1, u = .slice a1 n1 c1) ∧ Hid (0 < (keepTo q L k).length → ∃ a1 c1, u = .slice a1 (bestOf (costL ps) (keepTo q L k)).length c1 ∧ RdW encInt 1 2 w2 w1.heap.size w2.heap.size (.slice a1 (bestOf (costL ps) (keepTo q L k)).length c1) (bestOf (costL ps) (keepTo q L k))) ∧ Below w2.heap.size w2 wr) (fun _ _ j _ => L.length - (intOf j).toNat)
    case atStart => exact ⟨0, Nat.zero_le _, rfl, rfl, ⟨_, _, _, rfl⟩, (fun h => absurd h (by simp [keepTo])), (Below.refl _ _).alloc (Nat.le_refl _) _⟩
    case round =>
      obtain ⟨k, hk, rfl, rfl, ⟨a0, n0, c0, rfl⟩, HB, hbel⟩ := hrel
      have z0 := hbel.size
      have hb0 := Below.step hbel zk hbk
      have hkl := keepTo_len q L k
      by_cases hlt : k < L.length
      · have hki : (k : Int) < (L.length : Int) := by omega
        obtain ⟨c, ac, cc, b, off, HS', rfl, hbw, x0, hr2⟩ := RdII.at hrd (Below.refl w2.heap.size w2) (Nat.le_refl _) hlt
        have x1 := (hbel.cell (p := ⟨b, off + k, none⟩) hbw).trans x0
        have hrc := hr2.below hbel (Nat.le_refl _)
        have HCC := Lib.hid (HCM.out c (List.mem_of_getElem? HS'.out))
        have hcl5 : c.length ≤ 5 := by have := HCC.out.1; omega
        clear x0
        by_cases hp : 0 < (keepTo q L k).length
        · obtain ⟨a1, c1, eu, hrb⟩ := HB.out hp
          injection eu with e1 e2 e3
          subst e1 e2 e3
          have hmb := bestOf_mem (f := costL ps) (show ¬ (keepTo q L k).length = 0 by omega)
          have HBM := Lib.hid (HCM.out _ (keepTo_mem hmb))
          have hbl5 : (bestOf (costL ps) (keepTo q L k)).length ≤ 5 := by have := HBM.out.1; omega
          clear hmb
          have hpd : decide (0 < (keepTo q L k).length) = true := decide_eq_true hp
          rw [hpd]
          go_wp2_with fail
          refine (l22Kept_any _ ps lo2 hi2 _ ds lo3 hi3 _ c _ _ _ (h2.below hb0 (by omega)) (by omega) (by omega) (h3.below hb0 (by omega)) (by omega) (by omega) hrc.rd (by omega) (by omega) HCC.out.2 (by rw [HCC.out.1]; exact HDP.out)).mono ?_
          rintro e w5 ⟨v5, rfl, ho5, b5⟩
          have z5 := b5.size
          obtain ⟨A5, c5, rfl, hc5⟩ := RdF.form (ho5.rdw (fun _ => rfl)).rd
          have HKQ := Lib.hid (show keepsAll ps ds c = decide ((keptIdx ps c ds ds.length).length = ds.length) from rfl)
          generalize keptIdx ps c ds ds.length = kk at *
          clear ho5
          have x2 := (b5.cell (p := ⟨b, off + k, none⟩) (by show b < _; omega)).trans x1
          have hb5 := Below.step b5 z0 hbel
          clear b5 x1
          by_cases he : kk.length = ds.length
          · have hqc : q c = true := by rw [← HQE.out, HKQ.out]; exact decide_eq_true he
            have hei : ((kk.length : Int) == (ds.length : Int)) = true := by rw [beq_iff_eq]; omega
            have HP2 := Lib.hid (show decide (0 < (keepTo q L (k + 1)).length) = true by rw [keepTo_yes HS'.out hqc]; simp)
            have HQC := Lib.hid hqc
            clear he hqc
            go_wp2_with fail
            refine (l21Cost_any _ ps lo2 hi2 _ c _ _ _ (h2.below (Below.step hb5 zk hbk) (by omega)) (by omega) (by omega) (hr2.below hb5 (Nat.le_refl _)).rd (by omega) (by omega) HSL.out HCC.out.2).mono ?_
            rintro e w6 ⟨rfl, b6⟩
            have z6 := b6.size
            have x3 := (b6.cell (p := ⟨b, off + k, none⟩) (by show b < _; omega)).trans x2
            have hb6 := Below.step b6 (by omega) hb5
            clear b6 x2
            go_wp2_with fail
            refine (l21Cost_any _ ps lo2 hi2 _ (bestOf (costL ps) (keepTo q L k)) _ _ _ (h2.below (Below.step hb6 zk hbk) (by omega)) (by omega) (by omega) (hrb.below hb6 (Nat.le_refl _)).rd (by omega) (by omega) HSL.out HBM.out.2).mono ?_
            rintro e w7 ⟨rfl, b7⟩
            have z7 := b7.size
            have x4 := (b7.cell (p := ⟨b, off + k, none⟩) (by show b < _; omega)).trans x3
            have hb7 := Below.step b7 (by omega) hb6
            clear b7 x3
            by_cases hf : costL ps c < costL ps (bestOf (costL ps) (keepTo q L k))
            · have HY := Lib.hid (bestOf_yes (f := costL ps) HS'.out HQC.out (by omega) hf)
              go_wp2_with fail
              go_roundw
              case rel => exact ⟨k + 1, by omega, by go_num, by rw [HP2.out], ⟨_, _, _, rfl⟩, (fun _ => ⟨ac, cc, by rw [HY.out], by rw [HY.out]; exact hr2⟩), hb7⟩
              case measure => simp [intOf]; omega
            · have HY := Lib.hid (bestOf_no (f := costL ps) HS'.out HQC.out (by omega) hf)
              go_wp2_with fail
              go_roundw
              case rel => exact ⟨k + 1, by omega, by go_num, by rw [HP2.out], ⟨_, _, _, rfl⟩, (fun _ => ⟨a0, c0, by rw [HY.out], by rw [HY.out]; exact hrb⟩), hb7⟩
              case measure => simp [intOf]; omega
          · have hqc : q c = false := by rw [← HQE.out, HKQ.out]; exact decide_eq_false he
            have HY := Lib.hid (keepTo_no HS'.out hqc)
            have hei : ((kk.length : Int) == (ds.length : Int)) = false := by rw [beq_eq_false_iff_ne]; omega
            have HPD := Lib.hid hpd
            clear hqc hpd
            go_wp2_with fail
            go_roundw
            case rel => exact ⟨k + 1, by omega, by go_num, by rw [HY.out, HPD.out], ⟨_, _, _, rfl⟩, (fun _ => ⟨a0, c0, by rw [HY.out], by rw [HY.out]; exact hrb⟩), hb5⟩
            case measure => simp [intOf]; omega
        · have hpd : decide (0 < (keepTo q L k).length) = false := decide_eq_false hp
          have HZ0 := Lib.hid (show (keepTo q L k).length = 0 by omega)
          rw [hpd]
          go_wp2_with fail
          refine (l22Kept_any _ ps lo2 hi2 _ ds lo3 hi3 _ c _ _ _ (h2.below hb0 (by omega)) (by omega) (by omega) (h3.below hb0 (by omega)) (by omega) (by omega) hrc.rd (by omega) (by omega) HCC.out.2 (by rw [HCC.out.1]; exact HDP.out)).mono ?_
          rintro e w5 ⟨v5, rfl, ho5, b5⟩
          have z5 := b5.size
          obtain ⟨A5, c5, rfl, hc5⟩ := RdF.form (ho5.rdw (fun _ => rfl)).rd
          have HKQ := Lib.hid (show keepsAll ps ds c = decide ((keptIdx ps c ds ds.length).length = ds.length) from rfl)
          generalize keptIdx ps c ds ds.length = kk at *
          clear ho5
          have x2 := (b5.cell (p := ⟨b, off + k, none⟩) (by show b < _; omega)).trans x1
          have hb5 := Below.step b5 z0 hbel
          clear b5 x1
          by_cases he : kk.length = ds.length
          · have hqc : q c = true := by rw [← HQE.out, HKQ.out]; exact decide_eq_true he
            have hei : ((kk.length : Int) == (ds.length : Int)) = true := by rw [beq_iff_eq]; omega
            have HP2 := Lib.hid (show decide (0 < (keepTo q L (k + 1)).length) = true by rw [keepTo_yes HS'.out hqc]; simp)
            have HY := Lib.hid (bestOf_one (f := costL ps) HS'.out hqc HZ0.out)
            clear he hqc
            go_wp2_with fail
            go_roundw
            case rel => exact ⟨k + 1, by omega, by go_num, by rw [HP2.out], ⟨_, _, _, rfl⟩, (fun _ => ⟨ac, cc, by rw [HY.out], by rw [HY.out]; exact hr2⟩), hb5⟩
            case measure => simp [intOf]; omega
          · have hqc : q c = false := by rw [← HQE.out, HKQ.out]; exact decide_eq_false he
            have HY := Lib.hid (keepTo_no HS'.out hqc)
            have hei : ((kk.length : Int) == (ds.length : Int)) = false := by rw [beq_eq_false_iff_ne]; omega
            have HPD := Lib.hid hpd
            clear hqc hpd
            go_wp2_with fail
            go_roundw
            case rel => exact ⟨k + 1, by omega, by go_num, by rw [HY.out, HPD.out], ⟨_, _, _, rfl⟩, (fun h => absurd h (by rw [HY.out]; exact hp)), hb5⟩
            case measure => simp [intOf]; omega
      · have HE := Lib.hid (show keepers xs ps ds = keepTo q L k by rw [HKP.out, keepTo_all (by omega)])
        by_cases hp : 0 < (keepTo q L k).length
        · obtain ⟨a1, c1, eu, hrb⟩ := HB.out hp
          injection eu with e1 e2 e3
          subst e1 e2 e3
          have HF := Lib.hid (HS.out (by rw [HE.out]; omega))
          have hpd : decide (0 < (keepTo q L k).length) = true := decide_eq_true hp
          rw [hpd]
          clear hpd
          go_wp2_with fail
          go_ret2
          rw [HF.out, HE.out]
          exact ⟨_, rfl, (hrb.below hbel (Nat.le_refl _)).wide z1 z0, Below.step hb0 z1 b1⟩
        · have HF := Lib.hid (HN.out (by rw [HE.out]; omega))
          have hpd : decide (0 < (keepTo q L k).length) = false := decide_eq_false hp
          rw [hpd]
          clear hpd
          go_wp2_with fail
          go_ret2
          rw [HF.out]
          exact ⟨_, rfl, RdW.nil, Below.step hb0 z1 b1⟩
end Go.Proofs.YtgpknnlphabpkaaGreat
