/- Draws of the law of calendars. Written by a program (gen_drawco.py). -/
import Derived.Test.YtmgdkblleljdaaaGreatDrawCal
import Derived.Test.YtmgdkblleljdaaaGreatBestW
namespace Go.Proofs.YtmgdkblleljdaaaGreat
open Go.RowKit
set_option linter.unusedVariables false


set_option maxRecDepth 100000 in
set_option maxHeartbeats 4000000 in
theorem drawBest_any (v : Value) (bs : List Int) (lo hi : Nat) (w : World) (h : RdF encByte 1 w lo hi v bs) (hh : hi ≤ w.heap.size) (hm : bs.length ≤ 4096) (hb : ∀ x ∈ bs, 0 ≤ x ∧ x ≤ 255) :
    Calls Tryz.prog 5 #[v] w fun e w' => ∃ (v1 : Value) (xs : List Hearing) (v2 : Value) (ps : List Slot), e = .returned (.tuple #[v1, v2]) ∧ xs.length ≤ 6 ∧ (∀ x ∈ xs, Hearing.by_ 64 x) ∧ ps.length ≤ 120 ∧ RdHearing w' w.heap.size w'.heap.size v1 xs ∧ RdF Slot.enc 3 w' w.heap.size w'.heap.size v2 ps ∧ Below w.heap.size w w' := by
  have bb : Below w.heap.size w w := Below.refl _ _
  go_enter Tryz.func5, Tryz.ntmps5
  go_wp2_with fail
  refine (l01From_any _ bs lo hi _ h (by omega) hm hb).mono ?_
  rintro e w1 ⟨q, rfl, hq, s, b1⟩
  have zb1 := b1.size
  replace h := h.below b1 (by omega)
  replace bb := Below.step b1 (by omega) bb
  clear b1
  have hql := s.lt
  clear h
  go_wp2_with fail
  refine (l21Draw_any q _ s).mono ?_
  rintro e w2 ⟨v1, xs, v2, ps, rfl, hx6, hxb, hp9, h1, h2, s', c2⟩
  clear s
  have s := s'
  clear s'
  have zc2 := c2.size
  replace bb := bb.trans (c2.below (by omega) (by omega))
  clear c2
  have HX := Lib.hid hxb
  clear hxb
  go_wp2_with fail
  go_ret2
  exact ⟨v1, xs, v2, ps, rfl, hx6, HX.out, hp9, h1.wide (by omega) (by omega), h2.wide (by omega) (by omega), bb⟩
set_option maxRecDepth 100000 in
set_option maxHeartbeats 4000000 in
theorem drawIsCal_any (v : Value) (bs : List Int) (lo hi : Nat) (w : World) (h : RdF encByte 1 w lo hi v bs) (hh : hi ≤ w.heap.size) (hm : bs.length ≤ 4096) (hb : ∀ x ∈ bs, 0 ≤ x ∧ x ≤ 255) :
    Calls Tryz.prog 36 #[v] w fun e w' => ∃ (v1 : Value) (xs : List Hearing) (v2 : Value) (ps : List Slot) (v3 : Value) (cal : List Int), e = .returned (.tuple #[v1, v2, v3]) ∧ xs.length ≤ 6 ∧ (∀ x ∈ xs, Hearing.by_ 64 x) ∧ ps.length ≤ 120 ∧ cal.length ≤ 1048576 ∧ RdHearing w' w.heap.size w'.heap.size v1 xs ∧ RdF Slot.enc 3 w' w.heap.size w'.heap.size v2 ps ∧ RdF encInt 1 w' w.heap.size w'.heap.size v3 cal ∧ Below w.heap.size w w' := by
  have bb : Below w.heap.size w w := Below.refl _ _
  go_enter Tryz.func36, Tryz.ntmps36
  go_wp2_with fail
  refine (l01From_any _ bs lo hi _ h (by omega) hm hb).mono ?_
  rintro e w1 ⟨q, rfl, hq, s, b1⟩
  have zb1 := b1.size
  replace h := h.below b1 (by omega)
  replace bb := Below.step b1 (by omega) bb
  clear b1
  have hql := s.lt
  clear h
  go_wp2_with fail
  refine (l21Draw_any q _ s).mono ?_
  rintro e w2 ⟨v1, xs, v2, ps, rfl, hx6, hxb, hp9, h1, h2, s', c2⟩
  clear s
  have s := s'
  clear s'
  have zc2 := c2.size
  replace bb := bb.trans (c2.below (by omega) (by omega))
  clear c2
  have HX := Lib.hid hxb
  clear hxb
  obtain ⟨A1, c1, rfl, hcap1⟩ : ∃ A c, v1 = .slice A xs.length c ∧ xs.length ≤ c := by
    obtain ⟨rs, rfl, hR, -⟩ := h1
    obtain ⟨A, c, hv, hc⟩ := hR.form
    exact ⟨A, c, by rw [hv, List.length_map], by rw [List.length_map]; exact hc⟩
  obtain ⟨A2, c2, rfl, hcap2⟩ := h2.form
  have HS := Lib.hid (show ∀ x ∈ xs, Hearing.small x from fun x hx => Hearing.small_of (HX.out x hx) (by omega))
  go_wp2_with fail
  refine (sBestCalendar_any _ xs _ _ _ ps _ _ _ h1 (by omega) (by omega) HS.out h2 (by omega) (by omega)).mono ?_
  rintro e w3 ⟨yb, rfl, hy, b3⟩
  have zb3 := b3.size
  replace bb := Below.step b3 (by omega) bb
  replace s := s.below b3 (by omega)
  replace h1 := h1.below b3 (by omega)
  replace h2 := h2.below b3 (by omega)
  clear b3
  have hbl : (bestCal xs ps).1.length ≤ 1048576 := bestCal_len
  by_cases hbz : (bestCal xs ps).2.2 = 0
  · rw [hbz]
    go_wp2_with fail
    refine (l01Next_any q 2 _ s (by omega)).mono ?_
    rintro e w4 ⟨r4, rfl, a4, a4', s', c4⟩
    clear s
    have s := s'
    clear s'
    have zc4 := c4.size
    replace bb := bb.trans (c4.below (by omega) (by omega))
    replace h1 := h1.chg c4 (by omega) (by omega)
    replace h2 := h2.chg c4 (by omega) (by omega)
    replace hy := hy.chg c4 (by omega) (by omega)
    clear c4
    by_cases h0 : r4 = 0
    · subst h0
      go_wp2_with fail
      go_ret3
      exact ⟨_, xs, _, ps, _, _, rfl, hx6, HX.out, hp9, by exact hbl, h1.wide (by omega) (by omega), h2.wide (by omega) (by omega), hy.rd.wide (by omega) (by omega), bb⟩
    have hz0 : (r4 == 0) = false := by simpa using h0
    clear hy
    go_wp2_with fail
    have ho : OwnL encInt 1 2 (w4.alloc (.cells #[] 2)) w4.heap.size (.slice (some ⟨w4.heap.size, 0, none⟩) 0 0) ([] : List Int) := OwnL.emptyAt rfl (Nat.le_refl _)
    have b5 : Below w4.heap.size w4 (w4.alloc (.cells #[] 2)) := (Below.refl _ _).alloc (Nat.le_refl _) _
    have zz5 : (w4.alloc (.cells #[] 2)).heap.size = w4.heap.size + 1 := by simp
    have zb5 := b5.size
    replace bb := Below.step b5 (by omega) bb
    replace s := s.below b5 (by omega)
    replace h1 := h1.below b5 (by omega)
    replace h2 := h2.below b5 (by omega)
    clear b5
    generalize (w4.alloc (.cells #[] 2)) = w5 at *
    go_loopw [11, 12] (fun u i wr => ∃ (k : Nat) (cal : List Int), i = .int .i64 k ∧ k ≤ xs.length ∧ cal.length = k ∧ OwnL encInt 1 2 wr w4.heap.size u cal ∧ Src wr q ∧ RdHearing wr w1.heap.size w2.heap.size (.slice A1 xs.length c1) xs ∧ RdF Slot.enc 3 wr w1.heap.size w2.heap.size (.slice A2 ps.length c2) ps ∧ Below w.heap.size w wr ∧ w5.heap.size ≤ wr.heap.size) (fun _ i _ => xs.length - (intOf i).toNat)
    case atStart => exact ⟨0, [], rfl, Nat.zero_le _, rfl, ho, s, h1, h2, bb, Nat.le_refl _⟩
    case round =>
      obtain ⟨k, cal, rfl, hk, hcl, ho, s, h1, h2, bb, z0⟩ := hrel
      by_cases hlt : k < xs.length
      · have hki : (k : Int) < (xs.length : Int) := by omega
        go_wp2_with fail
        refine (l01Next_any q 12 _ s (by omega)).mono ?_
        rintro e w26 ⟨r26, rfl, a26, a26', s', c26⟩
        clear s
        have s := s'
        clear s'
        have zc26 := c26.size
        replace ho := ho.chg c26 (by omega)
        replace h1 := h1.chg c26 (by omega) (by omega)
        replace h2 := h2.chg c26 (by omega) (by omega)
        replace bb := bb.trans (c26.below (by omega) (by omega))
        clear c26
        have ha : 0 ≤ r26 ∧ r26 ≤ 11 := by omega
        have hdv : 0 ≤ r26 / 11 ∧ r26 / 11 ≤ 1 := by omega
        go_wp2_with fail
        refine (l01Next_any q ((ps.length : Int) + r26 / 11) _ s (by omega)).mono ?_
        rintro e w27 ⟨r27, rfl, a27, a27', s', c27⟩
        clear s
        have s := s'
        clear s'
        have zc27 := c27.size
        replace ho := ho.chg c27 (by omega)
        replace h1 := h1.chg c27 (by omega) (by omega)
        replace h2 := h2.chg c27 (by omega) (by omega)
        replace bb := bb.trans (c27.below (by omega) (by omega))
        clear c27
        have hw := s.lt
        go_wp2_with (at_builtin; refine wpList_push (enc := encInt) _ _ (by first | rfl | simp) rfl (.tmp 44) (.tmp 53) 28 rfl w4.heap.size 2 _ (.int .i64 0) 1 8 Tryz.underlying28 (by kernel_rfl) rfl (by omega) _ cal (r27) _ rfl rfl (encInt_one _) rfl rfl ho (by omega) (by omega) (by (first | omega | (simp; omega) | (simp; done))) ?_; intro v9 w9 hown9 hg9 hk9)
        have b9 := hk9 _ _ (Nat.le_refl _) (Below.refl _ w27)
        try go_wp2_with fail
        go_roundw
        case rel => exact ⟨k + 1, _, by go_num, by omega, by simp; omega, hown9, s.below b9 (by omega), h1.below b9 (by omega), h2.below b9 (by omega), Below.step b9 (by omega) bb, by have := b9.size; omega⟩
        case measure => simp [intOf]; omega
      · have hkn : k = xs.length := by omega
        go_wp2_with fail
        refine (l01Next_any q 24 _ s (by omega)).mono ?_
        rintro e w46 ⟨r46, rfl, a46, a46', s', c46⟩
        clear s
        have s := s'
        clear s'
        have zc46 := c46.size
        replace ho := ho.chg c46 (by omega)
        replace h1 := h1.chg c46 (by omega) (by omega)
        replace h2 := h2.chg c46 (by omega) (by omega)
        replace bb := bb.trans (c46.below (by omega) (by omega))
        clear c46
        by_cases h0 : r46 = 0
        · subst h0
          go_wp2_with (at_builtin; refine wpList_push (enc := encInt) _ _ (by first | rfl | simp) rfl (.tmp 58) (.tmp 59) 28 rfl w4.heap.size 2 _ (.int .i64 0) 1 8 Tryz.underlying28 (by kernel_rfl) rfl (by omega) _ cal (0) _ rfl rfl (encInt_one _) rfl rfl ho (by omega) (by omega) (by (first | omega | (simp; omega) | (simp; done))) ?_; intro v9 w9 hown9 hg9 hk9)
          have b9 := hk9 _ _ (Nat.le_refl _) (Below.refl _ w46)
          have z9 := b9.size
          replace h1 := h1.below b9 (by omega)
          replace h2 := h2.below b9 (by omega)
          have hr9 := (hown9.rdw (fun _ => rfl)).rd
          try go_wp2_with fail
          go_ret3
          exact ⟨_, xs, _, ps, _, _, rfl, hx6, HX.out, hp9, by simp; omega, h1.wide (by omega) (by omega), h2.wide (by omega) (by omega), hr9.wide (by omega) (by omega), Below.step b9 (by omega) bb⟩
        have hz0 : (r46 == 0) = false := by simpa using h0
        have hr9 := (ho.rdw (fun _ => rfl)).rd
        go_wp2_with fail
        go_ret3
        exact ⟨_, xs, _, ps, _, _, rfl, hx6, HX.out, hp9, by omega, h1.wide (by omega) (by omega), h2.wide (by omega) (by omega), hr9.wide (by omega) (by omega), bb⟩
  · have hz1 : ((bestCal xs ps).2.2 == 0) = false := by simpa using hbz
    generalize (bestCal xs ps).2.2 = bd at *
    clear hy
    go_wp2_with fail
    have ho : OwnL encInt 1 2 (w3.alloc (.cells #[] 2)) w3.heap.size (.slice (some ⟨w3.heap.size, 0, none⟩) 0 0) ([] : List Int) := OwnL.emptyAt rfl (Nat.le_refl _)
    have b4 : Below w3.heap.size w3 (w3.alloc (.cells #[] 2)) := (Below.refl _ _).alloc (Nat.le_refl _) _
    have zz4 : (w3.alloc (.cells #[] 2)).heap.size = w3.heap.size + 1 := by simp
    have zb4 := b4.size
    replace bb := Below.step b4 (by omega) bb
    replace s := s.below b4 (by omega)
    replace h1 := h1.below b4 (by omega)
    replace h2 := h2.below b4 (by omega)
    clear b4
    generalize (w3.alloc (.cells #[] 2)) = w4 at *
    go_loopw [11, 12] (fun u i wr => ∃ (k : Nat) (cal : List Int), i = .int .i64 k ∧ k ≤ xs.length ∧ cal.length = k ∧ OwnL encInt 1 2 wr w3.heap.size u cal ∧ Src wr q ∧ RdHearing wr w1.heap.size w2.heap.size (.slice A1 xs.length c1) xs ∧ RdF Slot.enc 3 wr w1.heap.size w2.heap.size (.slice A2 ps.length c2) ps ∧ Below w.heap.size w wr ∧ w4.heap.size ≤ wr.heap.size) (fun _ i _ => xs.length - (intOf i).toNat)
    case atStart => exact ⟨0, [], rfl, Nat.zero_le _, rfl, ho, s, h1, h2, bb, Nat.le_refl _⟩
    case round =>
      obtain ⟨k, cal, rfl, hk, hcl, ho, s, h1, h2, bb, z0⟩ := hrel
      by_cases hlt : k < xs.length
      · have hki : (k : Int) < (xs.length : Int) := by omega
        go_wp2_with fail
        refine (l01Next_any q 12 _ s (by omega)).mono ?_
        rintro e w25 ⟨r25, rfl, a25, a25', s', c25⟩
        clear s
        have s := s'
        clear s'
        have zc25 := c25.size
        replace ho := ho.chg c25 (by omega)
        replace h1 := h1.chg c25 (by omega) (by omega)
        replace h2 := h2.chg c25 (by omega) (by omega)
        replace bb := bb.trans (c25.below (by omega) (by omega))
        clear c25
        have ha : 0 ≤ r25 ∧ r25 ≤ 11 := by omega
        have hdv : 0 ≤ r25 / 11 ∧ r25 / 11 ≤ 1 := by omega
        go_wp2_with fail
        refine (l01Next_any q ((ps.length : Int) + r25 / 11) _ s (by omega)).mono ?_
        rintro e w26 ⟨r26, rfl, a26, a26', s', c26⟩
        clear s
        have s := s'
        clear s'
        have zc26 := c26.size
        replace ho := ho.chg c26 (by omega)
        replace h1 := h1.chg c26 (by omega) (by omega)
        replace h2 := h2.chg c26 (by omega) (by omega)
        replace bb := bb.trans (c26.below (by omega) (by omega))
        clear c26
        have hw := s.lt
        go_wp2_with (at_builtin; refine wpList_push (enc := encInt) _ _ (by first | rfl | simp) rfl (.tmp 44) (.tmp 53) 28 rfl w3.heap.size 2 _ (.int .i64 0) 1 8 Tryz.underlying28 (by kernel_rfl) rfl (by omega) _ cal (r26) _ rfl rfl (encInt_one _) rfl rfl ho (by omega) (by omega) (by (first | omega | (simp; omega) | (simp; done))) ?_; intro v9 w9 hown9 hg9 hk9)
        have b9 := hk9 _ _ (Nat.le_refl _) (Below.refl _ w26)
        try go_wp2_with fail
        go_roundw
        case rel => exact ⟨k + 1, _, by go_num, by omega, by simp; omega, hown9, s.below b9 (by omega), h1.below b9 (by omega), h2.below b9 (by omega), Below.step b9 (by omega) bb, by have := b9.size; omega⟩
        case measure => simp [intOf]; omega
      · have hkn : k = xs.length := by omega
        go_wp2_with fail
        refine (l01Next_any q 24 _ s (by omega)).mono ?_
        rintro e w45 ⟨r45, rfl, a45, a45', s', c45⟩
        clear s
        have s := s'
        clear s'
        have zc45 := c45.size
        replace ho := ho.chg c45 (by omega)
        replace h1 := h1.chg c45 (by omega) (by omega)
        replace h2 := h2.chg c45 (by omega) (by omega)
        replace bb := bb.trans (c45.below (by omega) (by omega))
        clear c45
        by_cases h0 : r45 = 0
        · subst h0
          go_wp2_with (at_builtin; refine wpList_push (enc := encInt) _ _ (by first | rfl | simp) rfl (.tmp 58) (.tmp 59) 28 rfl w3.heap.size 2 _ (.int .i64 0) 1 8 Tryz.underlying28 (by kernel_rfl) rfl (by omega) _ cal (0) _ rfl rfl (encInt_one _) rfl rfl ho (by omega) (by omega) (by (first | omega | (simp; omega) | (simp; done))) ?_; intro v9 w9 hown9 hg9 hk9)
          have b9 := hk9 _ _ (Nat.le_refl _) (Below.refl _ w45)
          have z9 := b9.size
          replace h1 := h1.below b9 (by omega)
          replace h2 := h2.below b9 (by omega)
          have hr9 := (hown9.rdw (fun _ => rfl)).rd
          try go_wp2_with fail
          go_ret3
          exact ⟨_, xs, _, ps, _, _, rfl, hx6, HX.out, hp9, by simp; omega, h1.wide (by omega) (by omega), h2.wide (by omega) (by omega), hr9.wide (by omega) (by omega), Below.step b9 (by omega) bb⟩
        have hz0 : (r45 == 0) = false := by simpa using h0
        have hr9 := (ho.rdw (fun _ => rfl)).rd
        go_wp2_with fail
        go_ret3
        exact ⟨_, xs, _, ps, _, _, rfl, hx6, HX.out, hp9, by omega, h1.wide (by omega) (by omega), h2.wide (by omega) (by omega), hr9.wide (by omega) (by omega), bb⟩
set_option maxRecDepth 100000 in
set_option maxHeartbeats 4000000 in
theorem drawCostOf_any (v : Value) (bs : List Int) (lo hi : Nat) (w : World) (h : RdF encByte 1 w lo hi v bs) (hh : hi ≤ w.heap.size) (hm : bs.length ≤ 4096) (hb : ∀ x ∈ bs, 0 ≤ x ∧ x ≤ 255) :
    Calls Tryz.prog 14 #[v] w fun e w' => ∃ (v1 : Value) (xs : List Hearing) (v2 : Value) (ps : List Slot) (v3 : Value) (cal : List Int), e = .returned (.tuple #[v1, v2, v3]) ∧ xs.length ≤ 6 ∧ (∀ x ∈ xs, Hearing.by_ 64 x) ∧ ps.length ≤ 120 ∧ cal.length ≤ 1048576 ∧ RdHearing w' w.heap.size w'.heap.size v1 xs ∧ RdF Slot.enc 3 w' w.heap.size w'.heap.size v2 ps ∧ RdF encInt 1 w' w.heap.size w'.heap.size v3 cal ∧ Below w.heap.size w w' := by
  go_enter Tryz.func14, Tryz.ntmps14
  go_wp2_with fail
  refine (drawIsCal_any _ bs lo hi _ h hh hm hb).mono ?_
  rintro e w1 ⟨v1, xs, v2, ps, v3, cal, rfl, h1, h2, h3, h4, h5, h6, h7, b1⟩
  go_wp2_with fail
  go_ret3
  exact ⟨v1, xs, v2, ps, v3, cal, rfl, h1, h2, h3, h4, h5, h6, h7, b1⟩
end Go.Proofs.YtmgdkblleljdaaaGreat
