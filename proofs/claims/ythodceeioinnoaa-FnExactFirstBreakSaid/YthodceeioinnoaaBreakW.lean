/- Walks: the first break of a chain of custody. -/
import Derived.Test.YthodceeioinnoaaExhibitW
import Derived.StillTailTactics
import Derived.Deep.RegionHeld3
namespace Go.Proofs.Ythodceeioinnoaa
open Go.RowKit
set_option linter.unusedVariables false

set_option maxHeartbeats 800000 in
theorem holder_any (x : Exhibit) (p0 : Value) (lo hi : Nat) (k : Nat) (w : World) (h0 : RdF Handing.enc 4 w lo hi p0 x.chain) (hh : hi ≤ w.heap.size) (hs : x.small) (hk : k ≤ x.chain.length) :
    Calls Try.prog 103 #[.agg #[.string x.code, .string x.found, .int .i64 x.day, .int .i64 x.sl, p0], .int .i64 (k : Int)] w fun e w' => e = .returned (.string (x.holderAt k)) ∧ Below w.heap.size w w' := by
  have hl0 := hs.len0
  by_cases hk0 : k = 0
  · have HB := Lib.hid (show x.holderAt k = x.found by rw [hk0]; rfl)
    have hkb : ((k : Int) == 0) = true := by simp [hk0]
    clear hk0
    go_enter Try.func103, Try.ntmps103
    go_wp2
    go_ret
    rw [HB.out]
    exact ⟨rfl, by (repeat (first | with_reducible assumption | with_reducible exact Below.refl _ _ | with_reducible refine Below.setCell ?_ ?_ _ | with_reducible refine Below.alloc ?_ ?_ _ | with_reducible refine Below.drew ?_ | with_reducible refine below_drewN ?_ _ | with_reducible refine Below.step (by with_reducible assumption) ?_ ?_ | omega | (simp <;> omega) | (simp; done)))⟩
  · obtain ⟨A, c, rfl, hc⟩ := h0.form
    have hb1 : Below w.heap.size w (w.alloc (.cells #[.string x.code, .string x.found, .int .i64 x.day, .int .i64 x.sl, .slice A x.chain.length c] 70)) := (Below.refl _ _).alloc (Nat.le_refl _) _
    obtain ⟨s, b, off, HS, rfl, -, hbw, c0, c1, c2, c3⟩ := Handing.at h0 hb1 hh (show k - 1 < x.chain.length by omega)
    have HB := Lib.hid (show x.holderAt k = s.to_ by
      obtain ⟨j, rfl⟩ : ∃ j, k = j + 1 := ⟨k - 1, by omega⟩
      have := HS.out
      simp only [Nat.add_sub_cancel] at this
      exact Exhibit.holderAt_succ this)
    have hkp : 1 ≤ (k : Int) := by omega
    have hk1 : k - 1 < x.chain.length := by omega
    have hkb : ((k : Int) == 0) = false := by simpa using hk0
    clear hk0
    go_enter Try.func103, Try.ntmps103
    go_wp2
    go_ret
    rw [HB.out]
    exact ⟨rfl, by (repeat (first | with_reducible assumption | with_reducible exact Below.refl _ _ | with_reducible refine Below.setCell ?_ ?_ _ | with_reducible refine Below.alloc ?_ ?_ _ | with_reducible refine Below.drew ?_ | with_reducible refine below_drewN ?_ _ | with_reducible refine Below.step (by with_reducible assumption) ?_ ?_ | omega | (simp <;> omega) | (simp; done)))⟩

theorem badH_1 {d : Int} {n : ByteArray} {h : Handing} (h1 : h.day < d) : badH d n h = true := by simp [badH, h1]
theorem badH_2 {d : Int} {n : ByteArray} {h : Handing} (h1 : (h.frm.toList == n.toList) = false) : badH d n h = true := by simp [badH, h1]
theorem badH_3 {d : Int} {n : ByteArray} {h : Handing} (h1 : (h.to_.toList == h.frm.toList) = true) : badH d n h = true := by simp [badH, h1]
theorem badH_no {d : Int} {n : ByteArray} {h : Handing} (h1 : ¬ h.day < d) (h2 : (h.frm.toList == n.toList) = true) (h3 : (h.to_.toList == h.frm.toList) = false) : badH d n h = false := by simp [badH, h1, h2, h3]

set_option maxRecDepth 100000 in
set_option maxHeartbeats 4000000 in
theorem firstBreak_any (x : Exhibit) (p0 : Value) (lo hi : Nat) (w : World) (h0 : RdF Handing.enc 4 w lo hi p0 x.chain) (hh : hi ≤ w.heap.size) (hs : x.small) :
    Calls Try.prog 93 #[.agg #[.string x.code, .string x.found, .int .i64 x.day, .int .i64 x.sl, p0]] w fun e w' => e = .returned (.int .i64 (x.brk : Int)) ∧ Below w.heap.size w w' := by
  have hl0 := hs.len0
  obtain ⟨A, c, rfl, hc⟩ := h0.form
  have kX := Blk.newAt (w := w) (n := w.heap.size) (t := 70) (cs := #[.string x.code, .string x.found, .int .i64 x.day, .int .i64 x.sl, .slice A x.chain.length c]) rfl
  have hbkX : Below w.heap.size w (w.alloc (.cells #[.string x.code, .string x.found, .int .i64 x.day, .int .i64 x.sl, .slice A x.chain.length c] 70)) := (Below.refl _ _).alloc (Nat.le_refl _) _
  have hzkX : (w.alloc (.cells #[.string x.code, .string x.found, .int .i64 x.day, .int .i64 x.sl, .slice A x.chain.length c] 70)).heap.size = w.heap.size + 1 := by simp
  replace h0 := h0.below hbkX hh
  go_enter Try.func93, Try.ntmps93
  go_wp2
  generalize (w.alloc (.cells #[.string x.code, .string x.found, .int .i64 x.day, .int .i64 x.sl, .slice A x.chain.length c] 70)) = W0 at *
  go_loopw [3, 4, 5, 11] (fun d _ _ i wr => ∃ k : Nat, k ≤ x.chain.length ∧ i = .int .i64 k ∧ d = .int .i64 (x.dayAt k) ∧ Hid (firstN x.badAt k = k) ∧ Below W0.heap.size W0 wr) (fun _ _ _ i _ => x.chain.length - (intOf i).toNat)
  case atStart => exact ⟨0, Nat.zero_le _, rfl, rfl, rfl, Below.refl _ _⟩
  case round =>
    obtain ⟨k, hk, rfl, rfl, HA, hb⟩ := hrel
    have z0 := hb.size
    have kR := kX.below hb (by omega)
    by_cases hlt : k < x.chain.length
    · obtain ⟨s, b, off, HS, rfl, -, hbw, c0, c1, c2, c3⟩ := Handing.at h0 hb (by omega) hlt
      have HD := Lib.hid (Exhibit.dayAt_succ HS.out)
      have HB := Lib.hid (Exhibit.badAt_of HS.out)
      have hki : (k : Int) < (x.chain.length : Int) := by omega
      have kS := Blk.newAt (w := wr) (n := wr.heap.size) (t := 102) (cs := #[.int .i64 s.day, .string s.frm, .string s.to_, .int .i64 s.sl]) rfl
      have hbS : Below wr.heap.size wr (wr.alloc (.cells #[.int .i64 s.day, .string s.frm, .string s.to_, .int .i64 s.sl] 102)) := (Below.refl _ _).alloc (Nat.le_refl _) _
      have hzS : (wr.alloc (.cells #[.int .i64 s.day, .string s.frm, .string s.to_, .int .i64 s.sl] 102)).heap.size = wr.heap.size + 1 := by simp
      have hW := Below.step hbS (by omega) hb
      replace kR := kR.below hbS (by omega)
      have hR := (h0.below hb (by omega)).below hbS (by omega)
      go_wp2_with fail
      clear c0 c1 c2 c3 hbS hb
      generalize (wr.alloc (.cells #[.int .i64 s.day, .string s.frm, .string s.to_, .int .i64 s.sl] 102)) = wo at *
      obtain ⟨g0', g1', g2', g3'⟩ := kS.c4
      have g0 := Cls.cell (p := ⟨wr.heap.size, 0, none⟩) kS.lt g0'
      have g1 := Cls.cell (p := ⟨wr.heap.size, 1, none⟩) kS.lt g1'
      have g2 := Cls.cell (p := ⟨wr.heap.size, 2, none⟩) kS.lt g2'
      have g3 := Cls.cell (p := ⟨wr.heap.size, 3, none⟩) kS.lt g3'
      clear g0' g1' g2' g3'
      obtain ⟨q0', q1', q2', q3', q4'⟩ := kR.c5
      have q0 := Cls.cell (p := ⟨w.heap.size, 0, none⟩) kR.lt q0'
      have q1 := Cls.cell (p := ⟨w.heap.size, 1, none⟩) kR.lt q1'
      have q2 := Cls.cell (p := ⟨w.heap.size, 2, none⟩) kR.lt q2'
      have q3 := Cls.cell (p := ⟨w.heap.size, 3, none⟩) kR.lt q3'
      have q4 := Cls.cell (p := ⟨w.heap.size, 4, none⟩) kR.lt q4'
      clear q0' q1' q2' q3' q4'
      have gh : ∀ n : Cls wo.heap.size wo, RdF Handing.enc 4 n.w lo hi (.slice (some ⟨b, off, none⟩) x.chain.length c) x.chain := fun n => hR.below n.h (by omega)
      have gz : ∀ n : Cls wo.heap.size wo, hi ≤ n.w.heap.size := fun n => by have := n.h.size; omega
      generalize hdn : x.dayAt k = d at *
      by_cases h1 : s.day < d
      · have HX := Lib.hid (show x.badAt k = true by rw [HB.out]; exact badH_1 h1)
        have hd1 : decide (s.day < d) = true := by simpa using h1
        clear hdn
        refine wp_region_cls wo.heap.size wo (by kernel_rfl) (by kernel_rfl) (Below.refl _ _) ?_
        repeat (go_big_quiet_step ((first | (go_at_call 103; refine Calls.cls (Nat.le_refl _) (holder_any x _ lo hi k _ (gh _) (gz _) hs hk)))))
        refine wpQuiet_nil ?_
        rintro _ ⟨⟨w1, hb1⟩, rfl⟩
        clear g0 g1 g2 g3 q0 q1 q2 q3 q4 gh gz
        go_wp2_with fail
        go_ret
        exact ⟨ret_int (by rw [Exhibit.brk, firstN_stay HA.out HX.out _ hlt]), by (repeat (first | with_reducible assumption | with_reducible exact Below.refl _ _ | with_reducible refine Below.setCell ?_ ?_ _ | with_reducible refine Below.alloc ?_ ?_ _ | with_reducible refine Below.drew ?_ | with_reducible refine below_drewN ?_ _ | with_reducible refine Below.step (by with_reducible assumption) ?_ ?_ | omega | (simp <;> omega) | (simp; done)))⟩
      · have hd1 : decide (s.day < d) = false := by simpa using h1
        cases h2 : (s.frm.toList == (x.holderAt k).toList) with
        | false =>
          have HX := Lib.hid (show x.badAt k = true by rw [HB.out]; exact badH_2 h2)
          clear hdn
          refine wp_region_cls wo.heap.size wo (by kernel_rfl) (by kernel_rfl) (Below.refl _ _) ?_
          repeat (go_big_quiet_step ((first | (go_at_call 103; refine Calls.cls (Nat.le_refl _) (holder_any x _ lo hi k _ (gh _) (gz _) hs hk)))))
          refine wpQuiet_nil ?_
          rintro _ ⟨⟨w1, hb1⟩, rfl⟩
          clear g0 g1 g2 g3 q0 q1 q2 q3 q4 gh gz
          go_wp2_with fail
          go_ret
          exact ⟨ret_int (by rw [Exhibit.brk, firstN_stay HA.out HX.out _ hlt]), by (repeat (first | with_reducible assumption | with_reducible exact Below.refl _ _ | with_reducible refine Below.setCell ?_ ?_ _ | with_reducible refine Below.alloc ?_ ?_ _ | with_reducible refine Below.drew ?_ | with_reducible refine below_drewN ?_ _ | with_reducible refine Below.step (by with_reducible assumption) ?_ ?_ | omega | (simp <;> omega) | (simp; done)))⟩
        | true =>
          cases h3 : (s.to_.toList == s.frm.toList) with
          | true =>
            have HX := Lib.hid (show x.badAt k = true by rw [HB.out]; exact badH_3 h3)
            clear hdn
            refine wp_region_cls wo.heap.size wo (by kernel_rfl) (by kernel_rfl) (Below.refl _ _) ?_
            repeat (go_big_quiet_step ((first | (go_at_call 103; refine Calls.cls (Nat.le_refl _) (holder_any x _ lo hi k _ (gh _) (gz _) hs hk)))))
            refine wpQuiet_nil ?_
            rintro _ ⟨⟨w1, hb1⟩, rfl⟩
            clear g0 g1 g2 g3 q0 q1 q2 q3 q4 gh gz
            go_wp2_with fail
            go_ret
            exact ⟨ret_int (by rw [Exhibit.brk, firstN_stay HA.out HX.out _ hlt]), by (repeat (first | with_reducible assumption | with_reducible exact Below.refl _ _ | with_reducible refine Below.setCell ?_ ?_ _ | with_reducible refine Below.alloc ?_ ?_ _ | with_reducible refine Below.drew ?_ | with_reducible refine below_drewN ?_ _ | with_reducible refine Below.step (by with_reducible assumption) ?_ ?_ | omega | (simp <;> omega) | (simp; done)))⟩
          | false =>
            have HX := Lib.hid (show x.badAt k = false by rw [HB.out]; exact badH_no h1 h2 h3)
            clear hdn
            refine wp_region_cls wo.heap.size wo (by kernel_rfl) (by kernel_rfl) (Below.refl _ _) ?_
            repeat (go_big_quiet_step ((first | (go_at_call 103; refine Calls.cls (Nat.le_refl _) (holder_any x _ lo hi k _ (gh _) (gz _) hs hk)))))
            refine wpQuiet_nil ?_
            rintro _ ⟨⟨w1, hb1⟩, rfl⟩
            have z1 := hb1.size
            clear g0 g1 g2 g3 q0 q1 q2 q3 q4 gh gz
            obtain ⟨t0, t1, t2, t3⟩ := (kS.below hb1 kS.lt).c4
            go_wp2_with fail
            go_roundw
            case rel => exact ⟨k + 1, by omega, by go_num, by rw [HD.out], firstN_next HA.out HX.out, by (repeat (first | with_reducible assumption | with_reducible exact Below.refl _ _ | with_reducible refine Below.setCell ?_ ?_ _ | with_reducible refine Below.alloc ?_ ?_ _ | with_reducible refine Below.drew ?_ | with_reducible refine below_drewN ?_ _ | with_reducible refine Below.step (by with_reducible assumption) ?_ ?_ | omega | (simp <;> omega) | (simp; done)))⟩
            case measure => simp [intOf]; omega
    · have hke : k = x.chain.length := by omega
      have HK := Lib.hid (show x.brk = x.chain.length by have := HA.out; rw [hke] at this; exact this)
      clear hke
      obtain ⟨q0, q1, q2, q3, q4⟩ := kR.c5
      go_wp2_with fail
      go_ret
      exact ⟨ret_int (by rw [HK.out]), by (repeat (first | with_reducible assumption | with_reducible exact Below.refl _ _ | with_reducible refine Below.setCell ?_ ?_ _ | with_reducible refine Below.alloc ?_ ?_ _ | with_reducible refine Below.drew ?_ | with_reducible refine below_drewN ?_ _ | with_reducible refine Below.step (by with_reducible assumption) ?_ ?_ | omega | (simp <;> omega) | (simp; done)))⟩

set_option maxRecDepth 100000 in
set_option maxHeartbeats 2000000 in
theorem unbroken_any (x : Exhibit) (p0 : Value) (lo hi : Nat) (w : World) (h0 : RdF Handing.enc 4 w lo hi p0 x.chain) (hh : hi ≤ w.heap.size) (hs : x.small) :
    Calls Try.prog 92 #[.agg #[.string x.code, .string x.found, .int .i64 x.day, .int .i64 x.sl, p0]] w fun e w' => e = .returned (.bool (decide (x.brk = x.chain.length))) ∧ Below w.heap.size w w' := by
  have hl0 := hs.len0
  obtain ⟨A, c, rfl, hc⟩ := h0.form
  have kX := Blk.newAt (w := w) (n := w.heap.size) (t := 70) (cs := #[.string x.code, .string x.found, .int .i64 x.day, .int .i64 x.sl, .slice A x.chain.length c]) rfl
  have hbkX : Below w.heap.size w (w.alloc (.cells #[.string x.code, .string x.found, .int .i64 x.day, .int .i64 x.sl, .slice A x.chain.length c] 70)) := (Below.refl _ _).alloc (Nat.le_refl _) _
  have hzkX : (w.alloc (.cells #[.string x.code, .string x.found, .int .i64 x.day, .int .i64 x.sl, .slice A x.chain.length c] 70)).heap.size = w.heap.size + 1 := by simp
  replace h0 := h0.below hbkX hh
  go_enter Try.func92, Try.ntmps92
  go_wp2_with fail
  generalize (w.alloc (.cells #[.string x.code, .string x.found, .int .i64 x.day, .int .i64 x.sl, .slice A x.chain.length c] 70)) = W0 at *
  obtain ⟨q0', q1', q2', q3', q4'⟩ := kX.c5
  have q0 := Cls.cell (p := ⟨w.heap.size, 0, none⟩) kX.lt q0'
  have q1 := Cls.cell (p := ⟨w.heap.size, 1, none⟩) kX.lt q1'
  have q2 := Cls.cell (p := ⟨w.heap.size, 2, none⟩) kX.lt q2'
  have q3 := Cls.cell (p := ⟨w.heap.size, 3, none⟩) kX.lt q3'
  have q4 := Cls.cell (p := ⟨w.heap.size, 4, none⟩) kX.lt q4'
  clear q0' q1' q2' q3' q4'
  have gh : ∀ n : Cls W0.heap.size W0, RdF Handing.enc 4 n.w lo hi (.slice A x.chain.length c) x.chain := fun n => h0.below n.h (by omega)
  have gz : ∀ n : Cls W0.heap.size W0, hi ≤ n.w.heap.size := fun n => by have := n.h.size; omega
  refine wp_region_cls W0.heap.size W0 (by kernel_rfl) (by kernel_rfl) (Below.refl _ _) ?_
  repeat (go_big_quiet_step ((first | (go_at_call 93; refine Calls.cls (Nat.le_refl _) (firstBreak_any x _ lo hi _ (gh _) (gz _) hs)))))
  refine wpQuiet_nil ?_
  rintro _ ⟨⟨w1, hb1⟩, rfl⟩
  clear q0 q1 q2 q3 q4 gh gz
  go_wp2_with fail
  go_ret
  exact ⟨ret_bool (by rw [Bool.eq_iff_iff]; simp <;> omega), by (repeat (first | with_reducible assumption | with_reducible exact Below.refl _ _ | with_reducible refine Below.setCell ?_ ?_ _ | with_reducible refine Below.alloc ?_ ?_ _ | with_reducible refine Below.drew ?_ | with_reducible refine below_drewN ?_ _ | with_reducible refine Below.step (by with_reducible assumption) ?_ ?_ | omega | (simp <;> omega) | (simp; done)))⟩

set_option maxRecDepth 100000 in
set_option maxHeartbeats 2000000 in
theorem impFirstBreak_any (x : Exhibit) (p0 : Value) (lo hi : Nat) (w : World) (h0 : RdF Handing.enc 4 w lo hi p0 x.chain) (hh : hi ≤ w.heap.size) (hs : x.small) :
    Calls Try.prog 54 #[.agg #[.string x.code, .string x.found, .int .i64 x.day, .int .i64 x.sl, p0]] w fun e w' => e = .returned (.tuple #[.int .i64 (firstBreak x).1, .int .i64 (firstBreak x).2]) ∧ Below w.heap.size w w' := by
  have kX := Blk.newAt (w := w) (n := w.heap.size) (t := 70) (cs := #[.string x.code, .string x.found, .int .i64 x.day, .int .i64 x.sl, p0]) rfl
  have hbkX : Below w.heap.size w (w.alloc (.cells #[.string x.code, .string x.found, .int .i64 x.day, .int .i64 x.sl, p0] 70)) := (Below.refl _ _).alloc (Nat.le_refl _) _
  have hzkX : (w.alloc (.cells #[.string x.code, .string x.found, .int .i64 x.day, .int .i64 x.sl, p0] 70)).heap.size = w.heap.size + 1 := by simp
  replace h0 := h0.below hbkX hh
  go_enter Try.func54, Try.ntmps54
  go_wp2_with fail
  generalize (w.alloc (.cells #[.string x.code, .string x.found, .int .i64 x.day, .int .i64 x.sl, p0] 70)) = W0 at *
  refine (isExhibit_any x p0 lo hi _ h0 (by omega) hs).mono ?_
  rintro e w1 ⟨rfl, b1⟩
  have z1 := b1.size
  replace kX := kX.below b1 (by omega)
  replace h0 := h0.below b1 (by omega)
  replace hbkX := Below.step b1 (by omega) hbkX
  clear b1
  obtain ⟨q0, q1, q2, q3, q4⟩ := kX.c5
  cases ho : x.ok with
  | false =>
    have HF := Lib.hid (show firstBreak x = (0, 1) by rw [firstBreak, ho]; rfl)
    go_wp2_with fail
    go_ret2
    rw [HF.out]
    exact ⟨rfl, by (repeat (first | with_reducible assumption | with_reducible exact Below.refl _ _ | with_reducible refine Below.setCell ?_ ?_ _ | with_reducible refine Below.alloc ?_ ?_ _ | with_reducible refine Below.drew ?_ | with_reducible refine below_drewN ?_ _ | with_reducible refine Below.step (by with_reducible assumption) ?_ ?_ | omega | (simp <;> omega) | (simp; done)))⟩
  | true =>
    go_wp2_with fail
    refine (unbroken_any x p0 lo hi _ h0 (by omega) hs).mono ?_
    rintro e w2 ⟨rfl, b2⟩
    have z2 := b2.size
    replace kX := kX.below b2 (by omega)
    replace h0 := h0.below b2 (by omega)
    replace hbkX := Below.step b2 (by omega) hbkX
    clear b2 q0 q1 q2 q3 q4
    obtain ⟨q0, q1, q2, q3, q4⟩ := kX.c5
    by_cases hbk : x.brk = x.chain.length
    · have HF := Lib.hid (show firstBreak x = (0, 4) by rw [firstBreak, ho, if_pos hbk]; rfl)
      rw [show decide (x.brk = x.chain.length) = true from by simpa using hbk]
      clear hbk
      go_wp2_with fail
      go_ret2
      rw [HF.out]
      exact ⟨rfl, by (repeat (first | with_reducible assumption | with_reducible exact Below.refl _ _ | with_reducible refine Below.setCell ?_ ?_ _ | with_reducible refine Below.alloc ?_ ?_ _ | with_reducible refine Below.drew ?_ | with_reducible refine below_drewN ?_ _ | with_reducible refine Below.step (by with_reducible assumption) ?_ ?_ | omega | (simp <;> omega) | (simp; done)))⟩
    · have HF := Lib.hid (show firstBreak x = ((x.brk : Int), 0) by rw [firstBreak, ho, if_neg hbk]; rfl)
      rw [show decide (x.brk = x.chain.length) = false from by simpa using hbk]
      clear hbk
      go_wp2_with fail
      refine (firstBreak_any x p0 lo hi _ h0 (by omega) hs).mono ?_
      rintro e w3 ⟨rfl, b3⟩
      go_wp2_with fail
      go_ret2
      rw [HF.out]
      exact ⟨rfl, by (repeat (first | with_reducible assumption | with_reducible exact Below.refl _ _ | with_reducible refine Below.setCell ?_ ?_ _ | with_reducible refine Below.alloc ?_ ?_ _ | with_reducible refine Below.drew ?_ | with_reducible refine below_drewN ?_ _ | with_reducible refine Below.step (by with_reducible assumption) ?_ ?_ | omega | (simp <;> omega) | (simp; done)))⟩

def brkOr (x : Exhibit) : Int := if x.brk = x.chain.length then -1 else (x.brk : Int)
set_option maxRecDepth 100000 in
set_option maxHeartbeats 4000000 in
theorem l23Break_any (x : Exhibit) (p0 : Value) (lo hi : Nat) (w : World) (h0 : RdF Handing.enc 4 w lo hi p0 x.chain) (hh : hi ≤ w.heap.size) (hs : x.small) :
    Calls Try.prog 91 #[.agg #[.string x.code, .string x.found, .int .i64 x.day, .int .i64 x.sl, p0]] w fun e w' => e = .returned (.int .i64 (brkOr x)) ∧ Below w.heap.size w w' := by
  have hl0 := hs.len0
  obtain ⟨A, c, rfl, hc⟩ := h0.form
  have kX := Blk.newAt (w := w) (n := w.heap.size) (t := 70) (cs := #[.string x.code, .string x.found, .int .i64 x.day, .int .i64 x.sl, .slice A x.chain.length c]) rfl
  have hbkX : Below w.heap.size w (w.alloc (.cells #[.string x.code, .string x.found, .int .i64 x.day, .int .i64 x.sl, .slice A x.chain.length c] 70)) := (Below.refl _ _).alloc (Nat.le_refl _) _
  have hzkX : (w.alloc (.cells #[.string x.code, .string x.found, .int .i64 x.day, .int .i64 x.sl, .slice A x.chain.length c] 70)).heap.size = w.heap.size + 1 := by simp
  replace h0 := h0.below hbkX hh
  go_enter Try.func91, Try.ntmps91
  go_wp2_with fail
  generalize (w.alloc (.cells #[.string x.code, .string x.found, .int .i64 x.day, .int .i64 x.sl, .slice A x.chain.length c] 70)) = W0 at *
  obtain ⟨q0, q1, q2, q3, q4⟩ := kX.c5
  go_quiet (fail)
  clear q0 q1 q2 q3 q4
  obtain ⟨WD, hWD⟩ : ∃ WD : World, WD = W0.drewN nq := ⟨_, rfl⟩
  have hbD : Below W0.heap.size W0 WD := by rw [hWD]; exact below_drewN (Below.refl _ _) _
  rw [← hWD]
  clear hWD
  have zD := hbD.size
  replace kX := kX.below hbD (by omega)
  replace h0 := h0.below hbD (by omega)
  go_wp2_with fail
  go_loopw [3, 4, 5, 6] (fun d n i _ wr => ∃ k : Nat, k ≤ x.chain.length ∧ i = .int .i64 k ∧ d = .int .i64 (x.dayAt k) ∧ n = .string (x.holderAt k) ∧ Hid (firstN x.badAt k = k) ∧ Below WD.heap.size WD wr) (fun _ _ i _ _ => x.chain.length - (intOf i).toNat)
  case atStart => exact ⟨0, Nat.zero_le _, rfl, rfl, rfl, rfl, Below.refl _ _⟩
  case round =>
    obtain ⟨k, hk, rfl, rfl, rfl, HA, hb⟩ := hrel
    have z0 := hb.size
    have kR := kX.below hb (by omega)
    obtain ⟨q0, q1, q2, q3, q4⟩ := kR.c5
    by_cases hlt : k < x.chain.length
    · obtain ⟨s, b, off, HS, rfl, -, hbw, c0, c1, c2, c3⟩ := Handing.at h0 hb (by omega) hlt
      have HD := Lib.hid (Exhibit.dayAt_succ HS.out)
      have HN := Lib.hid (Exhibit.holderAt_succ HS.out)
      have HB := Lib.hid (Exhibit.badAt_of HS.out)
      have hki : (k : Int) < (x.chain.length : Int) := by omega
      generalize hdn : x.dayAt k = d at *
      generalize hnn : x.holderAt k = nn at *
      by_cases h1 : s.day < d
      · have HX := Lib.hid (show x.badAt k = true by rw [HB.out]; exact badH_1 h1)
        clear hdn hnn
        go_wp2_with fail
        go_ret
        exact ⟨ret_int (by rw [brkOr, Exhibit.brk, firstN_stay HA.out HX.out _ hlt, if_neg (by omega)]), by (repeat (first | with_reducible assumption | with_reducible exact Below.refl _ _ | with_reducible refine Below.setCell ?_ ?_ _ | with_reducible refine Below.alloc ?_ ?_ _ | with_reducible refine Below.drew ?_ | with_reducible refine below_drewN ?_ _ | with_reducible refine Below.step (by with_reducible assumption) ?_ ?_ | omega | (simp <;> omega) | (simp; done)))⟩
      · cases h2 : (s.frm.toList == nn.toList) with
        | false =>
          have HX := Lib.hid (show x.badAt k = true by rw [HB.out]; exact badH_2 h2)
          clear hdn hnn
          go_wp2_with fail
          go_ret
          exact ⟨ret_int (by rw [brkOr, Exhibit.brk, firstN_stay HA.out HX.out _ hlt, if_neg (by omega)]), by (repeat (first | with_reducible assumption | with_reducible exact Below.refl _ _ | with_reducible refine Below.setCell ?_ ?_ _ | with_reducible refine Below.alloc ?_ ?_ _ | with_reducible refine Below.drew ?_ | with_reducible refine below_drewN ?_ _ | with_reducible refine Below.step (by with_reducible assumption) ?_ ?_ | omega | (simp <;> omega) | (simp; done)))⟩
        | true =>
          cases h3 : (s.to_.toList == s.frm.toList) with
          | true =>
            have HX := Lib.hid (show x.badAt k = true by rw [HB.out]; exact badH_3 h3)
            clear hdn hnn
            go_wp2_with fail
            go_ret
            exact ⟨ret_int (by rw [brkOr, Exhibit.brk, firstN_stay HA.out HX.out _ hlt, if_neg (by omega)]), by (repeat (first | with_reducible assumption | with_reducible exact Below.refl _ _ | with_reducible refine Below.setCell ?_ ?_ _ | with_reducible refine Below.alloc ?_ ?_ _ | with_reducible refine Below.drew ?_ | with_reducible refine below_drewN ?_ _ | with_reducible refine Below.step (by with_reducible assumption) ?_ ?_ | omega | (simp <;> omega) | (simp; done)))⟩
          | false =>
            have HX := Lib.hid (show x.badAt k = false by rw [HB.out]; exact badH_no h1 h2 h3)
            clear hdn hnn
            go_wp2_with fail
            go_roundw
            case rel => exact ⟨k + 1, by omega, by go_num, by rw [HD.out], by rw [HN.out], firstN_next HA.out HX.out, by (repeat (first | with_reducible assumption | with_reducible exact Below.refl _ _ | with_reducible refine Below.setCell ?_ ?_ _ | with_reducible refine Below.alloc ?_ ?_ _ | with_reducible refine Below.drew ?_ | with_reducible refine below_drewN ?_ _ | with_reducible refine Below.step (by with_reducible assumption) ?_ ?_ | omega | (simp <;> omega) | (simp; done)))⟩
            case measure => simp [intOf]; omega
    · have hke : k = x.chain.length := by omega
      have HK := Lib.hid (show x.brk = x.chain.length by have := HA.out; rw [hke] at this; exact this)
      clear hke
      go_wp2_with fail
      go_ret
      exact ⟨ret_int (by rw [brkOr, if_pos HK.out]), by (repeat (first | with_reducible assumption | with_reducible exact Below.refl _ _ | with_reducible refine Below.setCell ?_ ?_ _ | with_reducible refine Below.alloc ?_ ?_ _ | with_reducible refine Below.drew ?_ | with_reducible refine below_drewN ?_ _ | with_reducible refine Below.step (by with_reducible assumption) ?_ ?_ | omega | (simp <;> omega) | (simp; done)))⟩

set_option maxRecDepth 100000 in
set_option maxHeartbeats 2000000 in
theorem sFirstBreak_any (x : Exhibit) (p0 : Value) (lo hi : Nat) (w : World) (h0 : RdF Handing.enc 4 w lo hi p0 x.chain) (hh : hi ≤ w.heap.size) (hs : x.small) :
    Calls Try.prog 53 #[.agg #[.string x.code, .string x.found, .int .i64 x.day, .int .i64 x.sl, p0]] w fun e w' => e = .returned (.tuple #[.int .i64 (firstBreak x).1, .int .i64 (firstBreak x).2]) ∧ Below w.heap.size w w' := by
  have kX := Blk.newAt (w := w) (n := w.heap.size) (t := 70) (cs := #[.string x.code, .string x.found, .int .i64 x.day, .int .i64 x.sl, p0]) rfl
  have hbkX : Below w.heap.size w (w.alloc (.cells #[.string x.code, .string x.found, .int .i64 x.day, .int .i64 x.sl, p0] 70)) := (Below.refl _ _).alloc (Nat.le_refl _) _
  have hzkX : (w.alloc (.cells #[.string x.code, .string x.found, .int .i64 x.day, .int .i64 x.sl, p0] 70)).heap.size = w.heap.size + 1 := by simp
  replace h0 := h0.below hbkX hh
  go_enter Try.func53, Try.ntmps53
  go_wp2_with fail
  generalize (w.alloc (.cells #[.string x.code, .string x.found, .int .i64 x.day, .int .i64 x.sl, p0] 70)) = W0 at *
  refine (sIsExhibit_any x p0 lo hi _ h0 (by omega) hs).mono ?_
  rintro e w1 ⟨rfl, b1⟩
  have z1 := b1.size
  replace kX := kX.below b1 (by omega)
  replace h0 := h0.below b1 (by omega)
  replace hbkX := Below.step b1 (by omega) hbkX
  clear b1
  obtain ⟨q0, q1, q2, q3, q4⟩ := kX.c5
  cases ho : x.ok with
  | false =>
    have HF := Lib.hid (show firstBreak x = (0, 1) by rw [firstBreak, ho]; rfl)
    go_wp2_with fail
    go_ret2
    rw [HF.out]
    exact ⟨rfl, by (repeat (first | with_reducible assumption | with_reducible exact Below.refl _ _ | with_reducible refine Below.setCell ?_ ?_ _ | with_reducible refine Below.alloc ?_ ?_ _ | with_reducible refine Below.drew ?_ | with_reducible refine below_drewN ?_ _ | with_reducible refine Below.step (by with_reducible assumption) ?_ ?_ | omega | (simp <;> omega) | (simp; done)))⟩
  | true =>
    go_wp2_with fail
    refine (l23Break_any x p0 lo hi _ h0 (by omega) hs).mono ?_
    rintro e w2 ⟨rfl, b2⟩
    by_cases hbk : x.brk = x.chain.length
    · have HF := Lib.hid (show firstBreak x = (0, 4) by rw [firstBreak, ho, if_pos hbk]; rfl)
      rw [show brkOr x = -1 from if_pos hbk]
      clear hbk
      go_wp2_with fail
      go_ret2
      rw [HF.out]
      exact ⟨rfl, by (repeat (first | with_reducible assumption | with_reducible exact Below.refl _ _ | with_reducible refine Below.setCell ?_ ?_ _ | with_reducible refine Below.alloc ?_ ?_ _ | with_reducible refine Below.drew ?_ | with_reducible refine below_drewN ?_ _ | with_reducible refine Below.step (by with_reducible assumption) ?_ ?_ | omega | (simp <;> omega) | (simp; done)))⟩
    · have HF := Lib.hid (show firstBreak x = ((x.brk : Int), 0) by rw [firstBreak, ho, if_neg hbk]; rfl)
      rw [show brkOr x = (x.brk : Int) from if_neg hbk]
      clear hbk
      go_wp2_with fail
      go_ret2
      rw [HF.out]
      exact ⟨rfl, by (repeat (first | with_reducible assumption | with_reducible exact Below.refl _ _ | with_reducible refine Below.setCell ?_ ?_ _ | with_reducible refine Below.alloc ?_ ?_ _ | with_reducible refine Below.drew ?_ | with_reducible refine below_drewN ?_ _ | with_reducible refine Below.step (by with_reducible assumption) ?_ ?_ | omega | (simp <;> omega) | (simp; done)))⟩
end Go.Proofs.Ythodceeioinnoaa
