/- Walks: the first list that contradicts itself, order of lists of one length, lists of set bits with their block. Written by a program (gen_confx.py). -/
import Derived.Test.YtgpknnlphabpkaaGreatConfW
import Derived.Test.YtgpknnlphabpkaaGreatFewW
import Derived.BigQuiet
import Derived.Deep.QuietTactic
namespace Go.Proofs.YtgpknnlphabpkaaGreat
open Go.RowKit
set_option linter.unusedVariables false

set_option maxRecDepth 100000 in
set_option maxHeartbeats 4000000 in
theorem l22First_any (L : List (List Int)) (n : Nat) (hn8 : n ≤ 8) (hl : L.length ≤ 1048576) (hr : ∀ l ∈ L, l.length ≤ 1048576) : ∀ (m : Nat) (c : List Int) (f : Nat) (v : Value) (lo hi : Nat) (v3 : Value) (lo3 : Nat) (w : World) (h : RdII w lo hi v L) (hh : hi ≤ w.heap.size) (h3 : RdW encInt 1 2 w lo3 w.heap.size v3 c) (hh3 : lo3 ≤ w.heap.size) (hcl : c.length + m ≤ 8) (hf : f ≤ 8),
    Calls Tryz.prog 66 #[v, .int .i64 (n : Int), v3, .int .i64 (f : Int), .int .i64 (m : Int)] w fun e w' => FewV (few (against L) n m c f) lo3 w e w' := by
  intro m
  induction m with
  | zero =>
    intro c f v lo hi v3 lo3 w h hh h3 hh3 hcl hf
    have HR := Lib.hid hr
    rw [show ((0 : Nat) : Int) = 0 from rfl]
    go_enter Tryz.func66, Tryz.ntmps66
    go_wp2_with fail
    refine (l22Against_any _ L lo hi _ c lo3 w.heap.size _ h hh hl HR.out h3.rd (Nat.le_refl _) (by omega)).mono ?_
    rintro e w1 ⟨rfl, b1⟩
    have z1 := b1.size
    cases hag : against L c with
    | true =>
      have HF := Lib.hid (show few (against L) n 0 c f = some c by unfold few; rw [hag]; rfl)
      go_wp2_with fail
      go_ret2
      rw [HF.out]
      exact ⟨_, rfl, fun s hs => by injection hs with hs; subst hs; exact (h3.below b1 (Nat.le_refl _)).wide (Nat.le_refl _) z1, b1⟩
    | false =>
      have HF := Lib.hid (show few (against L) n 0 c f = none by unfold few; rw [hag]; rfl)
      go_wp2_with fail
      go_ret2
      rw [HF.out]
      exact ⟨_, rfl, fun s hs => (by cases hs), b1⟩
  | succ m ih =>
    intro c f v lo hi v3 lo3 w h hh h3 hh3 hcl hf
    have HIH := Lib.hid ih; clear ih
    have hm0 : ((m : Int) + 1 == 0) = false := by rw [beq_eq_false_iff_ne]; omega
    rw [show ((m + 1 : Nat) : Int) = (m : Int) + 1 by omega]
    have HFW := Lib.hid (show few (against L) n (m + 1) c f = fewL (fun i => few (against L) n m (c ++ [(i : Int)]) (i + 1)) (n - f) f from rfl)
    go_enter Tryz.func66, Tryz.ntmps66
    go_wp2_with fail
    go_loopw [12, 13, 14] (fun j _ _ wr => ∃ k : Nat, f ≤ k ∧ k ≤ 8 ∧ j = .int .i64 k ∧ Hid (few (against L) n (m + 1) c f = fewL (fun i => few (against L) n m (c ++ [(i : Int)]) (i + 1)) (n - k) k) ∧ Below w.heap.size w wr) (fun j _ _ _ => n - (intOf j).toNat)
    case atStart => exact ⟨f, Nat.le_refl _, hf, rfl, HFW, Below.refl _ _⟩
    case round =>
      obtain ⟨k, hfk, hk5, rfl, HE, hbel⟩ := hrel
      have z0 := hbel.size
      by_cases hlt : k < n
      · have hki : (k : Int) < (n : Int) := by omega
        have g3 := h3.below hbel (Nat.le_refl _)
        go_wp2_with fail
        refine (l01Own_any _ c lo3 w.heap.size _ g3.rd z0 (by omega)).mono ?_
        rintro e w1 ⟨v1, rfl, hown1, b1⟩
        have z1 := b1.size
        clear g3
        go_wp2_with (at_builtin; refine wpList_push (enc := encInt) _ _ (by first | rfl | simp) rfl (.tmp 31) (.tmp 33) 29 rfl wr.heap.size 2 _ (.int .i64 0) 1 8 Tryz.underlying29 (by kernel_rfl) rfl (by omega) _ c (k : Int) _ rfl rfl (encInt_one _) rfl rfl hown1 (by omega) (by omega) (by (first | omega | (simp; omega) | (simp; done))) ?_; intro v9 w9 hown9 hg9 hk9)
        have b9 : Below wr.heap.size wr w9 := hk9 _ _ (Nat.le_refl _) b1
        have z9 := b9.size
        replace hbel := Below.step b9 z0 hbel
        have hr9 := hown9.rdw (fun _ => rfl)
        clear b1 b9 hk9 hg9 hown1 hown9
        have hkc2 : (k : Int) + 1 = ((k + 1 : Nat) : Int) := by omega
        rw [hkc2]
        refine (HIH.out (c ++ [(k : Int)]) (k + 1) _ lo hi _ lo3 w9 (h.below hbel hh) (by omega) (hr9.wide (by omega) (Nat.le_refl _)) (by omega) (by simp; omega) (by omega)).mono ?_
        rintro e w10 ⟨v10, rfl, hs10, b10⟩
        have z10 := b10.size
        replace hbel := Below.step b10 (by omega) hbel
        clear hkc2
        cases hfe : few (against L) n m (c ++ [(k : Int)]) (k + 1) with
        | none =>
          have HN := Lib.hid (show few (against L) n (m + 1) c f = fewL (fun i => few (against L) n m (c ++ [(i : Int)]) (i + 1)) (n - (k + 1)) (k + 1) by
            rw [HE.out, show n - k = (n - (k + 1)) + 1 by omega]
            simp only [fewL, hfe])
          clear hfe hs10
          go_wp2_with fail
          go_roundw
          case rel => exact ⟨k + 1, by omega, by omega, by go_num, HN, hbel⟩
          case measure => simp [intOf]; omega
        | some s =>
          have HN := Lib.hid (show few (against L) n (m + 1) c f = some s by
            rw [HE.out, show n - k = (n - (k + 1)) + 1 by omega]
            simp only [fewL, hfe])
          have HS := hs10 s hfe
          clear hfe hs10
          go_wp2_with fail
          go_ret2
          rw [HN.out]
          exact ⟨_, rfl, fun s' hs => by injection hs with hs; subst hs; exact HS, hbel⟩
      · have HN := Lib.hid (show few (against L) n (m + 1) c f = none by
          rw [HE.out, show n - k = 0 by omega]
          rfl)
        go_wp2_with fail
        go_ret2
        rw [HN.out]
        exact ⟨_, rfl, fun s hs => (by cases hs), hbel⟩
set_option maxRecDepth 100000 in
set_option maxHeartbeats 4000000 in
theorem l22Less_any (v : Value) (a : List Int) (lo hi : Nat) (v2 : Value) (b : List Int) (lo2 hi2 : Nat) (w : World) (h : RdF encInt 1 w lo hi v a) (hh : hi ≤ w.heap.size) (hm : a.length ≤ 1048576) (h2 : RdF encInt 1 w lo2 hi2 v2 b) (hh2 : hi2 ≤ w.heap.size) (hm2 : b.length ≤ 1048576) (hl : a.length = b.length) :
    Calls Tryz.prog 55 #[v, v2] w fun e w' => e = .returned (.bool (lessL a b)) ∧ Below w.heap.size w w' := by
  obtain ⟨A, c, rfl, hcap⟩ := h.form
  obtain ⟨A2, c2, rfl, hcap2⟩ := h2.form
  have hl1 : a.length ≤ b.length := by omega
  have HL := Lib.hid hl; clear hl
  go_enter Tryz.func55, Tryz.ntmps55
  go_wp2_with fail
  go_loopw [5] (fun j wr => ∃ k : Nat, k ≤ a.length ∧ j = .int .i64 k ∧ Hid (lessL a b = lessL (a.drop k) (b.drop k)) ∧ Below w.heap.size w wr) (fun j _ => a.length - (intOf j).toNat)
  case atStart => exact ⟨0, Nat.zero_le _, rfl, by simp [Hid], by (repeat (first | with_reducible assumption | with_reducible exact Below.refl _ _ | with_reducible refine Below.setCell ?_ ?_ _ | with_reducible refine Below.alloc ?_ ?_ _ | with_reducible refine Below.drew ?_ | with_reducible refine below_drewN ?_ _ | with_reducible refine Below.step (by with_reducible assumption) ?_ ?_ | omega | (simp <;> omega) | (simp; done)))⟩
  case round =>
    obtain ⟨k, hk, rfl, HE, hbel⟩ := hrel
    have z0 := hbel.size
    by_cases hlt : k < a.length
    · have hka : k < a.length := by omega
      have hkb : k < b.length := by omega
      have hki : (k : Int) < (a.length : Int) := by omega
      have hkj : (k : Int) < (b.length : Int) := by omega
      obtain ⟨x, g, off, HX, rfl, hbw, c0⟩ := RdF.int h hbel (by omega) hka
      obtain ⟨y, g2, off2, HY, rfl, hbw2, d0⟩ := RdF.int h2 hbel (by omega) hkb
      have HD := Lib.hid (lessL_drop HX.out HY.out)
      by_cases hxy : x = y
      · have HN := Lib.hid (show lessL a b = lessL (a.drop (k + 1)) (b.drop (k + 1)) by rw [HE.out, HD.out, if_pos hxy])
        subst hxy
        go_wp2_with fail
        go_quiet (fail)
        go_wp2_with fail
        go_roundw
        case rel => exact ⟨k + 1, by omega, by go_num, HN, by (repeat (first | with_reducible assumption | with_reducible exact Below.refl _ _ | with_reducible refine Below.setCell ?_ ?_ _ | with_reducible refine Below.alloc ?_ ?_ _ | with_reducible refine Below.drew ?_ | with_reducible refine below_drewN ?_ _ | with_reducible refine Below.step (by with_reducible assumption) ?_ ?_ | omega | (simp <;> omega) | (simp; done)))⟩
        case measure => simp [intOf]; omega
      · have HN := Lib.hid (show lessL a b = decide (x < y) by rw [HE.out, HD.out, if_neg hxy])
        have q1 : (x != y) = true := by simpa using hxy
        have q2 : (y != x) = true := by simpa using fun e => hxy e.symm
        go_wp2_with fail
        go_quiet (fail)
        go_wp2_with fail
        go_quiet (fail)
        go_wp2_with fail
        go_ret
        exact ⟨ret_bool (by rw [HN.out]), by (repeat (first | with_reducible assumption | with_reducible exact Below.refl _ _ | with_reducible refine Below.setCell ?_ ?_ _ | with_reducible refine Below.alloc ?_ ?_ _ | with_reducible refine Below.drew ?_ | with_reducible refine below_drewN ?_ _ | with_reducible refine Below.step (by with_reducible assumption) ?_ ?_ | omega | (simp <;> omega) | (simp; done)))⟩
    · have HN := Lib.hid (show lessL a b = false by rw [HE.out, lessL_end (by have := HL.out; omega)]; exact decide_eq_false (by have := HL.out; omega))
      go_wp2_with fail
      go_ret
      exact ⟨ret_bool HN.out.symm, by (repeat (first | with_reducible assumption | with_reducible exact Below.refl _ _ | with_reducible refine Below.setCell ?_ ?_ _ | with_reducible refine Below.alloc ?_ ?_ _ | with_reducible refine Below.drew ?_ | with_reducible refine below_drewN ?_ _ | with_reducible refine Below.step (by with_reducible assumption) ?_ ?_ | omega | (simp <;> omega) | (simp; done)))⟩
set_option maxRecDepth 100000 in
set_option maxHeartbeats 4000000 in
theorem subset2_any (set n : Nat) (w : World) (hs : set ≤ 1048576) (hn : n ≤ 20) :
    Calls Tryz.prog 70 #[.int .i64 (set : Int), .int .i64 (n : Int)] w fun e w' => RetV (fun v' w' => ∃ g c, v' = .slice (some ⟨g, 0, none⟩) (subs set n).length c ∧ RdW encInt 1 2 w' w.heap.size w'.heap.size (.slice (some ⟨g, 0, none⟩) (subs set n).length c) (subs set n)) w e w' := by
  go_enter Tryz.func70, Tryz.ntmps70
  go_wp2_with fail
  go_loopw [5, 6, 9] (fun u _ j wr => ∃ k : Nat, k ≤ n ∧ j = .int .i64 k ∧ OwnL encInt 1 2 wr w.heap.size u (subs set k) ∧ Hid (u.ownBlock ≠ none) ∧ Below w.heap.size w wr) (fun _ _ j _ => n - (intOf j).toNat)
  case atStart => exact ⟨0, Nat.zero_le _, rfl, OwnL.emptyAt rfl (Nat.le_refl _), (by simp [Hid, Value.ownBlock]), by (repeat (first | with_reducible assumption | with_reducible exact Below.refl _ _ | with_reducible refine Below.setCell ?_ ?_ _ | with_reducible refine Below.alloc ?_ ?_ _ | with_reducible refine Below.drew ?_ | with_reducible refine below_drewN ?_ _ | with_reducible refine Below.step (by with_reducible assumption) ?_ ?_ | omega | (simp <;> omega) | (simp; done)))⟩
  case round =>
    obtain ⟨k, hk, rfl, hown, HOB, hbel⟩ := hrel
    have z0 := hbel.size
    have hsl := subs_len set k
    by_cases hlt : k < n
    · have hki : (k : Int) < (n : Int) := by omega
      have hki64 : (k : Int) ≤ 64 := by omega
      have hb := bit_val set k hs
      cases ht : set.testBit k with
      | false =>
        rw [ht] at hb
        have HN := Lib.hid (subs_no ht)
        clear ht
        go_wp2_with fail
        go_roundw
        case rel => exact ⟨k + 1, by omega, by go_num, (by rw [HN.out]; exact hown), HOB, hbel⟩
        case measure => simp [intOf]; omega
      | true =>
        rw [ht] at hb
        have HN := Lib.hid (subs_yes ht)
        clear ht
        go_wp2_with (at_builtin; refine wpList_push2 (enc := encInt) _ _ (by first | rfl | simp) rfl (.tmp 17) (.tmp 19) 29 rfl w.heap.size 2 _ (.int .i64 0) 1 8 Tryz.underlying29 (by kernel_rfl) rfl (by omega) _ (subs set k) (k : Int) _ rfl rfl (encInt_one _) rfl rfl hown (by omega) (by omega) (by (first | omega | (simp; omega) | (simp; done))) ?_; intro v9 w9 hown9 hg9 hk9)
        have hb9 : Below w.heap.size w w9 := hbel.grown hg9 z0 (fun q hq => OwnL.block_ge hown q hq)
        go_roundw
        case rel => exact ⟨k + 1, by omega, by go_num, (by rw [HN.out]; exact hown9), (fun e => by rcases hk9 with h | h <;> rw [h] at e <;> first | exact HOB.out e | cases e), hb9⟩
        case measure => simp [intOf]; omega
    · have hkn : k = n := by omega
      subst hkn
      have hrw := hown.rdw (fun _ => rfl)
      obtain ⟨A9, c9, rfl, hc9⟩ := RdF.form hrw.rd
      cases A9 with
      | none => exact absurd rfl HOB.out
      | some a9 =>
        obtain ⟨g, rfl⟩ : ∃ g, a9 = ⟨g, 0, none⟩ := by
          rcases hown.2 with ⟨h, -⟩ | ⟨g, cap, cur, h, -⟩
          · injection h with h; cases h
          · injection h with h; injection h with h; exact ⟨g, h⟩
        go_wp2_with fail
        go_ret
        exact ⟨_, rfl, ⟨g, c9, rfl, hrw⟩, hbel⟩
end Go.Proofs.YtgpknnlphabpkaaGreat
