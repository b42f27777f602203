/- Walks: SmallestConflict. Written by a program (gen_confx.py). -/
import Derived.Test.YtgpknnlphabpkaaGreatFirstW
import Derived.BigQuiet
import Derived.Deep.QuietTactic
namespace Go.Proofs.YtgpknnlphabpkaaGreat
open Go.RowKit
set_option linter.unusedVariables false

def FoundIs (w : World) (lo hi : Nat) (u : Value) : Option (List Int) → Prop
  | none => u = .slice none 0 0
  | some f => ∃ g c, u = .slice (some ⟨g, 0, none⟩) f.length c ∧ RdW encInt 1 2 w lo hi (.slice (some ⟨g, 0, none⟩) f.length c) f
theorem FoundIs.below {w w' : World} {lo hi B : Nat} {u : Value} : ∀ {r : Option (List Int)}, FoundIs w lo hi u r → Below B w w' → hi ≤ B → FoundIs w' lo hi u r
  | none, h, _, _ => h
  | some f, ⟨g, c, h1, h2⟩, hb, hB => ⟨g, c, h1, h2.below hb hB⟩
theorem FoundIs.wide {w : World} {lo hi lo' hi' : Nat} {u : Value} : ∀ {r : Option (List Int)}, FoundIs w lo hi u r → lo' ≤ lo → hi ≤ hi' → FoundIs w lo' hi' u r
  | none, h, _, _ => h
  | some f, ⟨g, c, h1, h2⟩, hl, hh => ⟨g, c, h1, h2.wide hl hh⟩
theorem pow2_le8 {n : Nat} (h : n ≤ 8) : 2 ^ n ≤ 256 := Nat.pow_le_pow_right (n := 2) (j := 8) (by omega) h
theorem finerO_some {s f : List Int} : finerO s (some f) = finer s f := rfl

set_option maxRecDepth 100000 in
set_option maxHeartbeats 4000000 in
theorem sSmallestConflict_any (v : Value) (xs : List Hearing) (lo hi : Nat) (v2 : Value) (ps : List Slot) (lo2 hi2 : Nat) (v3 : Value) (ds : List Demand) (lo3 hi3 : Nat) (w : World) (h : RdHearing w lo hi v xs) (hh : hi ≤ w.heap.size) (hm : xs.length ≤ 1048576) (hms : ∀ x ∈ xs, Hearing.small x) (h2 : RdF Slot.enc 3 w lo2 hi2 v2 ps) (hh2 : hi2 ≤ w.heap.size) (hm2 : ps.length ≤ 1048576) (h3 : RdF Demand.enc 3 w lo3 hi3 v3 ds) (hh3 : hi3 ≤ w.heap.size) (hm3 : ds.length ≤ 1048576) :
    Calls Tryz.prog 26 #[v, v2, v3] w fun e w' => RetVC (fun v' w' => RdW encInt 1 2 w' w.heap.size w'.heap.size v' (smallest xs ps ds).1) (smallest xs ps ds).2 w e w' := by
  obtain ⟨A3, c3, rfl, hcap3⟩ := h3.form
  go_enter Tryz.func26, Tryz.ntmps26
  go_wp2_with fail
  refine (sAreDemands_any _ xs lo hi _ ps lo2 hi2 _ ds lo3 hi3 _ h hh hm hms h2 hh2 hm2 h3 hh3 hm3).mono ?_
  rintro e w1 ⟨rfl, b1⟩
  have z1 := b1.size
  replace h := h.below b1 (by omega)
  replace h2 := h2.below b1 (by omega)
  replace h3 := h3.below b1 (by omega)
  cases hc : areDemands xs ps ds with
  | false =>
    have HF := Lib.hid (smallest_bad hc)
    go_wp2_with fail
    go_ret2
    rw [HF.out]
    exact ⟨_, rfl, RdW.nil, b1⟩
  | true =>
    have hdl := areDemands_len hc
    have hbl := bothOk_len (areDemands_both hc)
    have hbl1 := hbl.1
    have hbl2 := hbl.2
    clear hbl
    have hnl := cals_le (xs := xs) (ps := ps) hbl2 hbl1
    have htl := tabs_len xs ps ds
    have HR := Lib.hid (show ∀ l ∈ tabs xs ps ds, l.length ≤ ds.length from fun l hl => tabs_row hl)
    have htl2 : (tabs xs ps ds).length ≤ 100000 := by omega
    clear htl
    go_wp2_with fail
    refine (l22Tables_any _ xs lo hi _ ps lo2 hi2 _ ds lo3 hi3 _ h (by omega) hm hms h2 (by omega) hm2 h3 (by omega) hm3 hc).mono ?_
    rintro e w2 ⟨y2, rfl, ho, b2⟩
    have z2 := b2.size
    have hrd := ho.rd (Nat.le_refl _)
    have hbk := Below.step b2 z1 b1
    obtain ⟨AL, cL, rfl, hcL⟩ := ho.form
    have HC := Lib.hid hc
    clear ho h h2 h3 hc
    have HCF := Lib.hid (show conflictOf (tabs xs ps ds) ds.length = leastS (against (tabs xs ps ds)) ds.length (ds.length + 1) 0 from rfl)
    have HS := Lib.hid (fun s (hs : conflictOf (tabs xs ps ds) ds.length = some s) => smallest_some HC.out hs)
    have HN := Lib.hid (fun (hs : conflictOf (tabs xs ps ds) ds.length = none) => smallest_none HC.out hs)
    generalize tabs xs ps ds = L at *
    go_wp2_with fail
    go_loopw [9, 10, 11] (fun j _ _ wr => ∃ k : Nat, k ≤ ds.length + 1 ∧ j = .int .i64 k ∧ Hid (conflictOf L ds.length = leastS (against L) ds.length (ds.length + 1 - k) k) ∧ Below w2.heap.size w2 wr) (fun j _ _ _ => ds.length + 1 - (intOf j).toNat)
    case atStart => exact ⟨0, Nat.zero_le _, rfl, HCF, Below.refl _ _⟩
    case round =>
      obtain ⟨k, hk, rfl, HE, hbel⟩ := hrel
      have z0 := hbel.size
      by_cases hlt : k ≤ ds.length
      · have hki : (k : Int) ≤ (ds.length : Int) := by omega
        have hb : Below wr.heap.size wr (wr.alloc (.cells #[] 2)) := (Below.refl _ _).alloc (Nat.le_refl _) _
        have hz := hb.size
        have hbl := Below.step hb z0 hbel
        go_wp2_with fail
        refine (l22First_any L ds.length hdl (by omega) (fun l hl => Nat.le_trans (HR.out l hl) hm3) k [] 0 _ _ _ _ wr.heap.size _ (hrd.below hbl (Nat.le_refl _)) (by omega) (RdW.emptyAt wr) hz (by simp only [List.length_nil]; omega) (by omega)).mono ?_
        rintro e w5 ⟨v5, rfl, hs5, b5⟩
        have z5 := b5.size
        replace hbel := Below.step b5 (by omega) hbl
        clear hb hbl
        cases hfe : few (against L) ds.length k [] 0 with
        | none =>
          have HX := Lib.hid (show conflictOf L ds.length = leastS (against L) ds.length (ds.length + 1 - (k + 1)) (k + 1) by
            rw [HE.out, show ds.length + 1 - k = (ds.length + 1 - (k + 1)) + 1 by omega]
            simp only [leastS, hfe])
          clear hfe hs5
          go_wp2_with fail
          go_roundw
          case rel => exact ⟨k + 1, by omega, by go_num, HX, hbel⟩
          case measure => simp [intOf]; omega
        | some s =>
          have HX := Lib.hid (HS.out s (by
            rw [HE.out, show ds.length + 1 - k = (ds.length + 1 - (k + 1)) + 1 by omega]
            simp only [leastS, hfe]))
          have HW := hs5 s hfe
          clear hfe hs5
          go_wp2_with fail
          go_ret2
          rw [HX.out]
          exact ⟨_, rfl, HW.wide (by omega) (Nat.le_refl _), Below.step hbel (by omega) hbk⟩
      · have HX := Lib.hid (HN.out (by rw [HE.out, show ds.length + 1 - k = 0 by omega]; rfl))
        go_wp2_with fail
        go_ret2
        rw [HX.out]
        exact ⟨_, rfl, RdW.nil, Below.step hbel (by omega) hbk⟩
set_option maxRecDepth 100000 in
set_option maxHeartbeats 4000000 in
theorem impSmallestConflict_any (v : Value) (xs : List Hearing) (lo hi : Nat) (v2 : Value) (ps : List Slot) (lo2 hi2 : Nat) (v3 : Value) (ds : List Demand) (lo3 hi3 : Nat) (w : World) (h : RdHearing w lo hi v xs) (hh : hi ≤ w.heap.size) (hm : xs.length ≤ 1048576) (hms : ∀ x ∈ xs, Hearing.small x) (h2 : RdF Slot.enc 3 w lo2 hi2 v2 ps) (hh2 : hi2 ≤ w.heap.size) (hm2 : ps.length ≤ 1048576) (h3 : RdF Demand.enc 3 w lo3 hi3 v3 ds) (hh3 : hi3 ≤ w.heap.size) (hm3 : ds.length ≤ 1048576) :
    Calls Tryz.prog 30 #[v, v2, v3] w fun e w' => RetVC (fun v' w' => RdW encInt 1 2 w' w.heap.size w'.heap.size v' (smallest xs ps ds).1) (smallest xs ps ds).2 w e w' := by
  obtain ⟨A3, c3, rfl, hcap3⟩ := h3.form
  go_enter Tryz.func30, Tryz.ntmps30
  go_wp2_with fail
  refine (areDemands_any _ xs lo hi _ ps lo2 hi2 _ ds lo3 hi3 _ h hh hm hms h2 hh2 hm2 h3 hh3 hm3).mono ?_
  rintro e w1 ⟨rfl, b1⟩
  have z1 := b1.size
  replace h := h.below b1 (by omega)
  replace h2 := h2.below b1 (by omega)
  replace h3 := h3.below b1 (by omega)
  cases hc : areDemands xs ps ds with
  | false =>
    have HF := Lib.hid (smallest_bad hc)
    go_wp2_with fail
    go_ret2
    rw [HF.out]
    exact ⟨_, rfl, RdW.nil, b1⟩
  | true =>
    have hdl := areDemands_len hc
    have hbl := bothOk_len (areDemands_both hc)
    have hbl1 := hbl.1
    have hbl2 := hbl.2
    clear hbl
    have hnl := cals_le (xs := xs) (ps := ps) hbl2 hbl1
    have htl := tabs_len xs ps ds
    have HR := Lib.hid (show ∀ l ∈ tabs xs ps ds, l.length ≤ ds.length from fun l hl => tabs_row hl)
    have htl2 : (tabs xs ps ds).length ≤ 100000 := by omega
    clear htl
    go_wp2_with fail
    refine (keptLists_any _ xs lo hi _ ps lo2 hi2 _ ds lo3 hi3 _ h (by omega) hm hms h2 (by omega) hm2 h3 (by omega) hm3 hc).mono ?_
    rintro e w2 ⟨y2, rfl, ho, b2⟩
    have z2 := b2.size
    have hrd := ho.rd (Nat.le_refl _)
    have hbk := Below.step b2 z1 b1
    obtain ⟨AL, cL, rfl, hcL⟩ := ho.form
    have HC := Lib.hid hc
    clear ho h h2 h3 hc
    have HCF := Lib.hid (conflict_eq (tabs xs ps ds) ds.length)
    have HS := Lib.hid (fun s (hs : conflictOf (tabs xs ps ds) ds.length = some s) => smallest_some HC.out hs)
    have HN := Lib.hid (fun (hs : conflictOf (tabs xs ps ds) ds.length = none) => smallest_none HC.out hs)
    generalize tabs xs ps ds = L at *
    have hp2 := pow2_le8 hdl
    obtain ⟨N, hN⟩ : ∃ N : Nat, N = 2 ^ ds.length := ⟨_, rfl⟩
    have hN32 : N ≤ 256 := by omega
    have hNc : (2 : Int) ^ ds.length = (N : Int) := by rw [hN]; simp
    have hw : IntKind.i64.wrap ((2 : Int) ^ ds.length) = (N : Int) := by rw [hNc, IntWalk.i64_in _ (by omega)]
    have HNN := Lib.hid hN
    clear hN hNc hp2
    have hxi : (ds.length : Int) ≤ 64 := by omega
    go_wp2_with fail
    clear hw
    go_loopw [9, 10, 11, 24] (fun u _ _ j wr => ∃ k : Nat, k ≤ N ∧ j = .int .i64 k ∧ FoundIs wr w2.heap.size wr.heap.size u (leastTo (isConf L) ds.length k) ∧ Below w2.heap.size w2 wr) (fun _ _ _ j _ => N - (intOf j).toNat)
    case atStart => exact ⟨0, Nat.zero_le _, rfl, rfl, Below.refl _ _⟩
    case round =>
      obtain ⟨k, hk, rfl, hu, hbel⟩ := hrel
      have z0 := hbel.size
      by_cases hlt : k < N
      · have hki : (k : Int) < (N : Int) := by omega
        have hsl := subs_len k ds.length
        go_wp2_with fail
        refine (subset2_any k ds.length _ (by omega) (by omega)).mono ?_
        rintro e w4 ⟨v4, rfl, ⟨g3, c4, rfl, hs3⟩, b4⟩
        have z4 := b4.size
        replace hu := (hu.below b4 (Nat.le_refl _)).wide (lo' := w2.heap.size) (hi' := w4.heap.size) (Nat.le_refl _) z4
        replace hbel := Below.step b4 z0 hbel
        clear b4
        cases hlt' : leastTo (isConf L) ds.length k with
        | none =>
          rw [hlt'] at hu
          have HBT := Lib.hid (show finerO (subs k ds.length) (leastTo (isConf L) ds.length k) = true by rw [hlt']; rfl)
          have HLT := Lib.hid hlt'
          clear hlt'
          obtain rfl : _ = Value.slice none 0 0 := hu
          have hu : FoundIs w4 w2.heap.size w4.heap.size (.slice none 0 0) none := rfl
          go_wp2_with fail
          refine (isConflict_any _ L _ _ _ (subs k ds.length) _ _ _ (hrd.below hbel (Nat.le_refl _)) (by omega) (by omega) (fun l hl => Nat.le_trans (HR.out l hl) hm3) hs3.rd (Nat.le_refl _) (by omega)).mono ?_
          rintro e w6 ⟨rfl, b6⟩
          have z6 := b6.size
          replace hbel := Below.step b6 (by omega) hbel
          replace hs3 := (hs3.below b6 (Nat.le_refl _)).wide (lo' := w2.heap.size) (hi' := w6.heap.size) (by omega) z6
          replace hu := (hu.below b6 (Nat.le_refl _)).wide (lo' := w2.heap.size) (hi' := w6.heap.size) (Nat.le_refl _) z6
          clear b6
          cases hq : isConf L (subs k ds.length) with
          | true =>
            have HX := Lib.hid (leastTo_yes HBT.out hq)
            clear hq
            go_wp2_with fail
            go_roundw
            case rel => exact ⟨k + 1, by omega, by go_num, (by rw [HX.out]; exact ⟨g3, c4, rfl, hs3⟩), hbel⟩
            case measure => simp [intOf]; omega
          | false =>
            have HX := Lib.hid (leastTo_no2 (n := ds.length) hq)
            clear hq
            go_wp2_with fail
            go_roundw
            case rel => exact ⟨k + 1, by omega, by go_num, (by rw [HX.out]; exact HLT.out ▸ hu), hbel⟩
            case measure => simp [intOf]; omega
        | some f =>
          rw [hlt'] at hu
          have hfl := leastTo_len hlt'
          have HLT := Lib.hid hlt'
          clear hlt'
          obtain ⟨g5, c5, rfl, hf5⟩ := hu
          have hu : FoundIs w4 w2.heap.size w4.heap.size (.slice (some ⟨g5, 0, none⟩) f.length c5) (some f) := ⟨g5, c5, rfl, hf5⟩
          by_cases q1 : f.length < (subs k ds.length).length
          · have HX := Lib.hid (leastTo_no (n := ds.length) (k := k) (P := isConf L) (by rw [HLT.out, finerO_some]; unfold finer; rw [decide_eq_false (by omega), decide_eq_false (by omega)]; rfl))
            have q1i : (f.length : Int) < ((subs k ds.length).length : Int) := by omega
            go_wp2_with fail
            go_roundw
            case rel => exact ⟨k + 1, by omega, by go_num, (by rw [HX.out, HLT.out]; exact hu), hbel⟩
            case measure => simp [intOf]; omega
          have q1i : ¬ (f.length : Int) < ((subs k ds.length).length : Int) := by omega
          by_cases q2 : (subs k ds.length).length = f.length
          · have q2i : (((subs k ds.length).length : Int) == (f.length : Int)) = true := by rw [beq_iff_eq]; omega
            have HQ2 := Lib.hid q2; clear q2
            cases hle : lessL (subs k ds.length) f with
            | false =>
              have HX := Lib.hid (leastTo_no (n := ds.length) (k := k) (P := isConf L) (by rw [HLT.out, finerO_some]; unfold finer; rw [hle, Bool.and_false, decide_eq_false (by have := HQ2.out; omega)]; rfl))
              go_wp2_with (go_at_call 53; refine (less_any _ (subs k ds.length) _ _ _ f _ _ _ hs3.rd (Nat.le_refl _) (by omega) hf5.rd (Nat.le_refl _) (by omega)).mono ?_; rintro e w5 ⟨rfl, b5⟩; rw [hle])
              replace hbel := Below.step b5 (by omega) hbel
              have z5 := b5.size
              replace hu := (hu.below b5 (Nat.le_refl _)).wide (lo' := w2.heap.size) (hi' := w5.heap.size) (Nat.le_refl _) z5
              go_roundw
              case rel => exact ⟨k + 1, by omega, by go_num, (by rw [HX.out, HLT.out]; exact hu), hbel⟩
              case measure => simp [intOf]; omega
            | true =>
              have HBT := Lib.hid (show finerO (subs k ds.length) (leastTo (isConf L) ds.length k) = true by rw [HLT.out, finerO_some]; unfold finer; rw [hle, decide_eq_true HQ2.out]; simp)
              go_wp2_with (go_at_call 53; refine (less_any _ (subs k ds.length) _ _ _ f _ _ _ hs3.rd (Nat.le_refl _) (by omega) hf5.rd (Nat.le_refl _) (by omega)).mono ?_; rintro e w5 ⟨rfl, b5⟩; rw [hle])
              replace hbel := Below.step b5 (by omega) hbel
              have z5 := b5.size
              replace hu := (hu.below b5 (Nat.le_refl _)).wide (lo' := w2.heap.size) (hi' := w5.heap.size) (Nat.le_refl _) z5
              replace hs3 := (hs3.below b5 (Nat.le_refl _)).wide (lo' := w2.heap.size) (hi' := w5.heap.size) (by omega) z5
              clear hle b5
              go_wp2_with fail
              refine (isConflict_any _ L _ _ _ (subs k ds.length) _ _ _ (hrd.below hbel (Nat.le_refl _)) (by omega) (by omega) (fun l hl => Nat.le_trans (HR.out l hl) hm3) hs3.rd (Nat.le_refl _) (by omega)).mono ?_
              rintro e w6 ⟨rfl, b6⟩
              have z6 := b6.size
              replace hbel := Below.step b6 (by omega) hbel
              replace hs3 := (hs3.below b6 (Nat.le_refl _)).wide (lo' := w2.heap.size) (hi' := w6.heap.size) (by omega) z6
              replace hu := (hu.below b6 (Nat.le_refl _)).wide (lo' := w2.heap.size) (hi' := w6.heap.size) (Nat.le_refl _) z6
              clear b6
              cases hq : isConf L (subs k ds.length) with
              | true =>
                have HX := Lib.hid (leastTo_yes HBT.out hq)
                clear hq
                go_wp2_with fail
                go_roundw
                case rel => exact ⟨k + 1, by omega, by go_num, (by rw [HX.out]; exact ⟨g3, c4, rfl, hs3⟩), hbel⟩
                case measure => simp [intOf]; omega
              | false =>
                have HX := Lib.hid (leastTo_no2 (n := ds.length) hq)
                clear hq
                go_wp2_with fail
                go_roundw
                case rel => exact ⟨k + 1, by omega, by go_num, (by rw [HX.out]; exact HLT.out ▸ hu), hbel⟩
                case measure => simp [intOf]; omega
          · have q2i : (((subs k ds.length).length : Int) == (f.length : Int)) = false := by rw [beq_eq_false_iff_ne]; omega
            have HBT := Lib.hid (show finerO (subs k ds.length) (leastTo (isConf L) ds.length k) = true by rw [HLT.out, finerO_some]; unfold finer; rw [decide_eq_true (by omega)]; rfl)
            go_wp2_with fail
            refine (isConflict_any _ L _ _ _ (subs k ds.length) _ _ _ (hrd.below hbel (Nat.le_refl _)) (by omega) (by omega) (fun l hl => Nat.le_trans (HR.out l hl) hm3) hs3.rd (Nat.le_refl _) (by omega)).mono ?_
            rintro e w6 ⟨rfl, b6⟩
            have z6 := b6.size
            replace hbel := Below.step b6 (by omega) hbel
            replace hs3 := (hs3.below b6 (Nat.le_refl _)).wide (lo' := w2.heap.size) (hi' := w6.heap.size) (by omega) z6
            replace hu := (hu.below b6 (Nat.le_refl _)).wide (lo' := w2.heap.size) (hi' := w6.heap.size) (Nat.le_refl _) z6
            clear b6
            cases hq : isConf L (subs k ds.length) with
            | true =>
              have HX := Lib.hid (leastTo_yes HBT.out hq)
              clear hq
              go_wp2_with fail
              go_roundw
              case rel => exact ⟨k + 1, by omega, by go_num, (by rw [HX.out]; exact ⟨g3, c4, rfl, hs3⟩), hbel⟩
              case measure => simp [intOf]; omega
            | false =>
              have HX := Lib.hid (leastTo_no2 (n := ds.length) hq)
              clear hq
              go_wp2_with fail
              go_roundw
              case rel => exact ⟨k + 1, by omega, by go_num, (by rw [HX.out]; exact HLT.out ▸ hu), hbel⟩
              case measure => simp [intOf]; omega
      · have HE := Lib.hid (show conflictOf L ds.length = leastTo (isConf L) ds.length k by rw [← HCF.out, show k = 2 ^ ds.length by have := HNN.out; omega])
        cases hlt' : leastTo (isConf L) ds.length k with
        | none =>
          rw [hlt'] at hu
          have HX := Lib.hid (HN.out (by rw [HE.out, hlt']))
          clear hlt'
          obtain rfl : _ = Value.slice none 0 0 := hu
          have hnil := fun W => Lib.run_eql_slice_nil (P := Tryz.prog) W 29 2 none 0 0 0 0 Tryz.underlying29
          go_wp2_with fail
          go_ret2
          rw [HX.out]
          exact ⟨_, rfl, RdW.nil, Below.step hbel (by omega) hbk⟩
        | some f =>
          rw [hlt'] at hu
          have HX := Lib.hid (HS.out f (by rw [HE.out, hlt']))
          clear hlt'
          obtain ⟨g5, c5, rfl, hf5⟩ := hu
          have hnil := fun W => Lib.run_eql_slice_nil (P := Tryz.prog) W 29 2 (some ⟨g5, 0, none⟩) f.length c5 0 0 Tryz.underlying29
          go_wp2_with fail
          go_ret2
          rw [HX.out]
          exact ⟨_, rfl, hf5.wide (by omega) (Nat.le_refl _), Below.step hbel (by omega) hbk⟩
end Go.Proofs.YtgpknnlphabpkaaGreat
