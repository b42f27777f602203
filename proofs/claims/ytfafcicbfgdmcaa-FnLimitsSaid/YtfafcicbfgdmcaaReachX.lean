/- Walks: ReachStage, ExtendStage. Written by a program (gen_reach2.py). -/
import Derived.Test.YtfafcicbfgdmcaaReachP
import Derived.BigQuiet
import Derived.Deep.QuietTactic
namespace Go.Proofs.Ytfafcicbfgdmcaa
open Go.RowKit
set_option linter.unusedVariables false

set_option maxRecDepth 100000 in
set_option maxHeartbeats 4000000 in
theorem impReachStage_any (v1 : Value) (rules : List Stage) (lo1 hi1 : Nat) (v2 : Value) (hol : List Int) (lo2 hi2 : Nat) (c : Custody) (p0 p1 : Value) (lo3 hi3 : Nat) (day : Int) (w : World) (hr : RdF Stage.enc 3 w lo1 hi1 v1 rules) (hh1 : hi1 ≤ w.heap.size) (hm1 : rules.length ≤ 1048576) (hms1 : ∀ x ∈ rules, Stage.small x) (hv : RdF encInt 1 w lo2 hi2 v2 hol) (hh2 : hi2 ≤ w.heap.size) (hm2 : hol.length ≤ 1048576) (hc0 : RdF encInt 1 w lo3 hi3 p0 c.done) (hc1 : RdF encBool 1 w lo3 hi3 p1 c.ext) (hh3 : hi3 ≤ w.heap.size) (hcs : c.small) :
    Calls Try.prog 13 #[v1, v2, .agg #[.int .i64 c.start, p0, p1], .int .i64 day] w fun e w' => RetCust (reachStage rules hol c day) w e w' := by
  obtain ⟨A0, C0, rfl, hC0⟩ := hc0.form
  obtain ⟨A1, C1, rfl, hC1⟩ := hc1.form
  obtain ⟨AR, CR, rfl, hCR⟩ := hr.form
  obtain ⟨AH, CH, rfl, hCH⟩ := hv.form
  have hl0 := hcs.len0
  have hl1 := hcs.len1
  have hbk : Below w.heap.size w ((w.alloc (.cells #[.int .i64 c.start, .slice A0 c.done.length C0, .slice A1 c.ext.length C1] 28)).alloc (.cells #[.int .i64 0, .slice none 0 0, .slice none 0 0] 28)) := ((Below.refl _ _).alloc (Nat.le_refl _) _).alloc (by simp) _
  have hzk : ((w.alloc (.cells #[.int .i64 c.start, .slice A0 c.done.length C0, .slice A1 c.ext.length C1] 28)).alloc (.cells #[.int .i64 0, .slice none 0 0, .slice none 0 0] 28)).heap.size = w.heap.size + 2 := by simp
  have kX := (Blk.newAt (w := w) (n := w.heap.size) (t := 28) (cs := #[.int .i64 c.start, .slice A0 c.done.length C0, .slice A1 c.ext.length C1]) rfl).alloc (.cells #[.int .i64 0, .slice none 0 0, .slice none 0 0] 28)
  have kZ := Blk.newAt (w := w.alloc (.cells #[.int .i64 c.start, .slice A0 c.done.length C0, .slice A1 c.ext.length C1] 28)) (n := w.heap.size + 1) (t := 28) (cs := #[.int .i64 0, .slice none 0 0, .slice none 0 0]) (by simp)
  replace hc0 := hc0.below hbk hh3
  replace hc1 := hc1.below hbk hh3
  replace hr := hr.below hbk hh1
  replace hv := hv.below hbk hh2
  go_enter Try.func13, Try.ntmps13
  go_wp2_with fail
  generalize ((w.alloc (.cells #[.int .i64 c.start, .slice A0 c.done.length C0, .slice A1 c.ext.length C1] 28)).alloc (.cells #[.int .i64 0, .slice none 0 0, .slice none 0 0] 28)) = W0 at *
  refine (stageCode_any _ rules lo1 hi1 _ hol lo2 hi2 c _ _ lo3 hi3 day _ hr (by omega) hm1 hms1 hv (by omega) hm2 hc0 hc1 (by omega) hcs).mono ?_
  rintro e w1 ⟨rfl, b1⟩
  have zb1 := b1.size
  replace hc0 := hc0.below b1 (by omega)
  replace hc1 := hc1.below b1 (by omega)
  replace hr := hr.below b1 (by omega)
  replace hv := hv.below b1 (by omega)
  replace kX := kX.below b1 (by omega)
  replace kZ := kZ.below b1 (by omega)
  replace hbk := Below.step b1 (by omega) hbk
  clear b1
  obtain ⟨q10, q11, q12⟩ := kX.c3
  obtain ⟨t10, t11, t12⟩ := kZ.c3
  have f10 := kZ.frozen 0
  have f11 := kZ.frozen 1
  have f12 := kZ.frozen 2
  by_cases hz : stageCode rules hol c day = 0
  rotate_left
  · have HF := Lib.hid (reach_code hz)
    have hne : (stageCode rules hol c day != 0) = true := by simpa using hz
    have hne2 : (stageCode rules hol c day == 0) = false := by simpa using hz
    generalize stageCode rules hol c day = cd at *
    go_wp2_with fail
    refine bodyPost_ret (v := .tuple #[.agg #[.int .i64 0, .slice none 0 0, .slice none 0 0], .int .i64 cd]) (by simp [results, Try.results13, go_sem, *]) rfl ?_
    rw [HF.out]
    exact ⟨_, _, rfl, RdW.nil, RdW.nil, by first | exact ((hbk.setCell (p := ⟨w.heap.size + 1, 0, none⟩) (by show w.heap.size ≤ w.heap.size + 1; omega) _).setCell (p := ⟨w.heap.size + 1, 1, none⟩) (by show w.heap.size ≤ w.heap.size + 1; omega) _).setCell (p := ⟨w.heap.size + 1, 2, none⟩) (by show w.heap.size ≤ w.heap.size + 1; omega) _ | exact (((below_drewN hbk _).setCell (p := ⟨w.heap.size + 1, 0, none⟩) (by show w.heap.size ≤ w.heap.size + 1; omega) _).setCell (p := ⟨w.heap.size + 1, 1, none⟩) (by show w.heap.size ≤ w.heap.size + 1; omega) _).setCell (p := ⟨w.heap.size + 1, 2, none⟩) (by show w.heap.size ≤ w.heap.size + 1; omega) _⟩
  have hk := stageCode_ok hz
  have HB := Lib.hid (fun h => reach_bad (rules := rules) (hol := hol) (c := c) (day := day) hz h)
  have HG := Lib.hid (fun h => reach_ok (rules := rules) (hol := hol) (c := c) (day := day) hz h)
  rw [hz]
  clear hz
  have hok := hk.2.1
  have hlt := hk.2.2.2
  have hext := (Custody.ok_parts hok).2.2.2.2
  have h6 := (stagesOk_len (Custody.ok_parts hok).2.1).2
  have HOK := Lib.hid hok
  have hlt2 : c.done.length < c.ext.length := by omega
  have HEX := Lib.hid hext
  clear hk hok hext
  go_wp2_with fail
  refine (before_any c _ _ lo3 hi3 c.done.length _ hc0 hc1 (by omega) hcs (Nat.le_refl _)).mono ?_
  rintro e w2 ⟨rfl, b2⟩
  clear q10 q11 q12 t10 t11 t12 f10 f11 f12
  have zb2 := b2.size
  replace hc0 := hc0.below b2 (by omega)
  replace hc1 := hc1.below b2 (by omega)
  replace hr := hr.below b2 (by omega)
  replace hv := hv.below b2 (by omega)
  replace kX := kX.below b2 (by omega)
  replace kZ := kZ.below b2 (by omega)
  replace hbk := Below.step b2 (by omega) hbk
  clear b2
  obtain ⟨q20, q21, q22⟩ := kX.c3
  obtain ⟨t20, t21, t22⟩ := kZ.c3
  have f20 := kZ.frozen 0
  have f21 := kZ.frozen 1
  have f22 := kZ.frozen 2
  by_cases h1 : day < c.befAt c.done.length
  · have HF := Lib.hid (HB.out (by unfold reachBad; rw [decide_eq_true h1]; rfl))
    go_wp2_with fail
    refine bodyPost_ret (v := .tuple #[.agg #[.int .i64 0, .slice none 0 0, .slice none 0 0], .int .i64 5]) (by simp [results, Try.results13, go_sem, *]) rfl ?_
    rw [HF.out]
    exact ⟨_, _, rfl, RdW.nil, RdW.nil, by first | exact ((hbk.setCell (p := ⟨w.heap.size + 1, 0, none⟩) (by show w.heap.size ≤ w.heap.size + 1; omega) _).setCell (p := ⟨w.heap.size + 1, 1, none⟩) (by show w.heap.size ≤ w.heap.size + 1; omega) _).setCell (p := ⟨w.heap.size + 1, 2, none⟩) (by show w.heap.size ≤ w.heap.size + 1; omega) _ | exact (((below_drewN hbk _).setCell (p := ⟨w.heap.size + 1, 0, none⟩) (by show w.heap.size ≤ w.heap.size + 1; omega) _).setCell (p := ⟨w.heap.size + 1, 1, none⟩) (by show w.heap.size ≤ w.heap.size + 1; omega) _).setCell (p := ⟨w.heap.size + 1, 2, none⟩) (by show w.heap.size ≤ w.heap.size + 1; omega) _⟩
  go_wp2_with fail
  refine (nextLimit_any c _ _ lo3 hi3 _ rules lo1 hi1 _ hol lo2 hi2 _ hc0 hc1 (by omega) hcs hr (by omega) hm1 hms1 hv (by omega) hm2 HOK.out hlt).mono ?_
  rintro e w3 ⟨rfl, b3⟩
  clear q20 q21 q22 t20 t21 t22 f20 f21 f22
  have zb3 := b3.size
  replace hc0 := hc0.below b3 (by omega)
  replace hc1 := hc1.below b3 (by omega)
  replace hr := hr.below b3 (by omega)
  replace hv := hv.below b3 (by omega)
  replace kX := kX.below b3 (by omega)
  replace kZ := kZ.below b3 (by omega)
  replace hbk := Below.step b3 (by omega) hbk
  clear b3
  obtain ⟨q30, q31, q32⟩ := kX.c3
  obtain ⟨t30, t31, t32⟩ := kZ.c3
  have f30 := kZ.frozen 0
  have f31 := kZ.frozen 1
  have f32 := kZ.frozen 2
  by_cases h2 : nextLimit rules hol c < day
  · have HF := Lib.hid (HB.out (by unfold reachBad; rw [decide_eq_true h2, Bool.or_true]))
    go_wp2_with fail
    refine bodyPost_ret (v := .tuple #[.agg #[.int .i64 0, .slice none 0 0, .slice none 0 0], .int .i64 5]) (by simp [results, Try.results13, go_sem, *]) rfl ?_
    rw [HF.out]
    exact ⟨_, _, rfl, RdW.nil, RdW.nil, by first | exact ((hbk.setCell (p := ⟨w.heap.size + 1, 0, none⟩) (by show w.heap.size ≤ w.heap.size + 1; omega) _).setCell (p := ⟨w.heap.size + 1, 1, none⟩) (by show w.heap.size ≤ w.heap.size + 1; omega) _).setCell (p := ⟨w.heap.size + 1, 2, none⟩) (by show w.heap.size ≤ w.heap.size + 1; omega) _ | exact (((below_drewN hbk _).setCell (p := ⟨w.heap.size + 1, 0, none⟩) (by show w.heap.size ≤ w.heap.size + 1; omega) _).setCell (p := ⟨w.heap.size + 1, 1, none⟩) (by show w.heap.size ≤ w.heap.size + 1; omega) _).setCell (p := ⟨w.heap.size + 1, 2, none⟩) (by show w.heap.size ≤ w.heap.size + 1; omega) _⟩
  have HF := Lib.hid (HG.out (by unfold reachBad; rw [decide_eq_false (by omega), decide_eq_false (by omega)]; rfl))
  go_wp2_with fail
  clear q30 q31 q32 t30 t31 t32 f30 f31 f32
  refine (copyCustody_any c _ _ lo3 hi3 _ hc0 hc1 (by omega) hcs).mono ?_
  rintro e w4 ⟨A5, A6, C5, C6, rfl, ho0, ho1, b4⟩
  have zb4 := b4.size
  replace hc0 := hc0.below b4 (by omega)
  replace hc1 := hc1.below b4 (by omega)
  replace hr := hr.below b4 (by omega)
  replace hv := hv.below b4 (by omega)
  replace kX := kX.below b4 (by omega)
  replace kZ := kZ.below b4 (by omega)
  replace hbk := Below.step b4 (by omega) hbk
  clear b4
  obtain ⟨q40, q41, q42⟩ := kX.c3
  obtain ⟨t40, t41, t42⟩ := kZ.c3
  have f40 := kZ.frozen 0
  have f41 := kZ.frozen 1
  have f42 := kZ.frozen 2
  have kC := Blk.newAt (w := w4) (n := w4.heap.size) (t := 28) (cs := #[.int .i64 c.start, .slice A5 c.done.length C5, .slice A6 c.ext.length C6]) rfl
  have hown := (ho0.mono (show w.heap.size ≤ _ by omega)).alloc (.cells #[.int .i64 c.start, .slice A5 c.done.length C5, .slice A6 c.ext.length C6] 28)
  have kZa := kZ.alloc (.cells #[.int .i64 c.start, .slice A5 c.done.length C5, .slice A6 c.ext.length C6] 28)
  have ho1a := ho1.alloc (.cells #[.int .i64 c.start, .slice A5 c.done.length C5, .slice A6 c.ext.length C6] 28)
  go_wp2_with ((at_builtin; refine wpList_push (enc := encInt) _ _ (by first | rfl | simp) rfl (.tmp 40) (.tmp 42) 25 rfl w.heap.size 2 _ (.int .i64 0) 1 8 Try.underlying25 (by kernel_rfl) rfl (by omega) _ c.done day _ rfl rfl (encInt_one _) rfl rfl hown (by omega) (by omega) (by first | omega | (simp; omega)) ?_; intro v9 w9 hown9 hg9 hk9; obtain ⟨A9, c9, rfl, hc9⟩ := RdF.form (hown9.rdw (fun _ => rfl)).rd; have hl9 : (c.done ++ [day]).length = c.done.length + 1 := (by simp); rw [hl9] at hown9 hc9 ⊢; have kC9 := Blk.grown hg9 kC (own_ne hown kC (by decide)); have kZ9 := Blk.grown hg9 kZa (own_ne hown kZa (by decide)); obtain ⟨u0, u1, u2⟩ := kC9.c3; have g1 := kC9.frozen 1; obtain ⟨y0, y1, y2⟩ := kZ9.c3; have j0 := kZ9.frozen 0; have j1 := kZ9.frozen 1; have j2 := kZ9.frozen 2))
  refine bodyPost_ret (v := .tuple #[.agg #[.int .i64 c.start, .slice A9 (c.done.length + 1) c9, .slice A6 c.ext.length C6], .int .i64 0]) (by simp [results, Try.results13, go_sem, *]) rfl ?_
  rw [HF.out]
  have hn1 : w.heap.size + 1 ≠ w4.heap.size := by omega
  have z9 : w4.heap.size ≤ w9.heap.size := by have := hg9.size; simp at this; omega
  have hb9 : Below w.heap.size w w9 := hk9 _ _ (by omega) (hbk.alloc (by omega) _)
  refine ⟨_, _, rfl, ?_, ?_, ?_⟩
  · have hR := hown9.rdw (fun _ => rfl)
    exact (hR.mono_blk (fun g ar hb => by
      have n1 := hb.ne kC9 (by decide)
      have n2 := hb.ne kZ9 (by decide)
      exact (((hb.far (p := ⟨w4.heap.size, 1, none⟩) n1 _).far (p := ⟨w.heap.size + 1, 0, none⟩) n2 _).far (p := ⟨w.heap.size + 1, 1, none⟩) n2 _).far (p := ⟨w.heap.size + 1, 2, none⟩) n2 _)).wide (by omega) (by simp [World.setCell])
  · have hR := (OwnL.grown2 ho1a hown hg9 (by decide)).rdw (fun _ => rfl)
    exact (hR.mono_blk (fun g ar hb => by
      have n1 := hb.ne kC9 (by decide)
      have n2 := hb.ne kZ9 (by decide)
      exact (((hb.far (p := ⟨w4.heap.size, 1, none⟩) n1 _).far (p := ⟨w.heap.size + 1, 0, none⟩) n2 _).far (p := ⟨w.heap.size + 1, 1, none⟩) n2 _).far (p := ⟨w.heap.size + 1, 2, none⟩) n2 _)).wide (by omega) (by simp [World.setCell])
  · exact (((hb9.setCell (p := ⟨w4.heap.size, 1, none⟩) (by show w.heap.size ≤ w4.heap.size; omega) _).setCell (p := ⟨w.heap.size + 1, 0, none⟩) (by show w.heap.size ≤ w.heap.size + 1; omega) _).setCell (p := ⟨w.heap.size + 1, 1, none⟩) (by show w.heap.size ≤ w.heap.size + 1; omega) _).setCell (p := ⟨w.heap.size + 1, 2, none⟩) (by show w.heap.size ≤ w.heap.size + 1; omega) _
set_option maxRecDepth 100000 in
set_option maxHeartbeats 4000000 in
theorem sReachStage_any (v1 : Value) (rules : List Stage) (lo1 hi1 : Nat) (v2 : Value) (hol : List Int) (lo2 hi2 : Nat) (c : Custody) (p0 p1 : Value) (lo3 hi3 : Nat) (day : Int) (w : World) (hr : RdF Stage.enc 3 w lo1 hi1 v1 rules) (hh1 : hi1 ≤ w.heap.size) (hm1 : rules.length ≤ 1048576) (hms1 : ∀ x ∈ rules, Stage.small x) (hv : RdF encInt 1 w lo2 hi2 v2 hol) (hh2 : hi2 ≤ w.heap.size) (hm2 : hol.length ≤ 1048576) (hc0 : RdF encInt 1 w lo3 hi3 p0 c.done) (hc1 : RdF encBool 1 w lo3 hi3 p1 c.ext) (hh3 : hi3 ≤ w.heap.size) (hcs : c.small) :
    Calls Try.prog 15 #[v1, v2, .agg #[.int .i64 c.start, p0, p1], .int .i64 day] w fun e w' => RetCust (reachStage rules hol c day) w e w' := by
  obtain ⟨A0, C0, rfl, hC0⟩ := hc0.form
  obtain ⟨A1, C1, rfl, hC1⟩ := hc1.form
  obtain ⟨AR, CR, rfl, hCR⟩ := hr.form
  obtain ⟨AH, CH, rfl, hCH⟩ := hv.form
  have hl0 := hcs.len0
  have hl1 := hcs.len1
  have hbk : Below w.heap.size w ((w.alloc (.cells #[.int .i64 c.start, .slice A0 c.done.length C0, .slice A1 c.ext.length C1] 28)).alloc (.cells #[.int .i64 0, .slice none 0 0, .slice none 0 0] 28)) := ((Below.refl _ _).alloc (Nat.le_refl _) _).alloc (by simp) _
  have hzk : ((w.alloc (.cells #[.int .i64 c.start, .slice A0 c.done.length C0, .slice A1 c.ext.length C1] 28)).alloc (.cells #[.int .i64 0, .slice none 0 0, .slice none 0 0] 28)).heap.size = w.heap.size + 2 := by simp
  have kX := (Blk.newAt (w := w) (n := w.heap.size) (t := 28) (cs := #[.int .i64 c.start, .slice A0 c.done.length C0, .slice A1 c.ext.length C1]) rfl).alloc (.cells #[.int .i64 0, .slice none 0 0, .slice none 0 0] 28)
  have kZ := Blk.newAt (w := w.alloc (.cells #[.int .i64 c.start, .slice A0 c.done.length C0, .slice A1 c.ext.length C1] 28)) (n := w.heap.size + 1) (t := 28) (cs := #[.int .i64 0, .slice none 0 0, .slice none 0 0]) (by simp)
  replace hc0 := hc0.below hbk hh3
  replace hc1 := hc1.below hbk hh3
  replace hr := hr.below hbk hh1
  replace hv := hv.below hbk hh2
  go_enter Try.func15, Try.ntmps15
  go_wp2_with fail
  generalize ((w.alloc (.cells #[.int .i64 c.start, .slice A0 c.done.length C0, .slice A1 c.ext.length C1] 28)).alloc (.cells #[.int .i64 0, .slice none 0 0, .slice none 0 0] 28)) = W0 at *
  refine (l20Code_any _ rules lo1 hi1 _ hol lo2 hi2 c _ _ lo3 hi3 day _ hr (by omega) hm1 hms1 hv (by omega) hm2 hc0 hc1 (by omega) hcs).mono ?_
  rintro e w1 ⟨rfl, b1⟩
  have zb1 := b1.size
  replace hc0 := hc0.below b1 (by omega)
  replace hc1 := hc1.below b1 (by omega)
  replace hr := hr.below b1 (by omega)
  replace hv := hv.below b1 (by omega)
  replace kX := kX.below b1 (by omega)
  replace kZ := kZ.below b1 (by omega)
  replace hbk := Below.step b1 (by omega) hbk
  clear b1
  obtain ⟨q10, q11, q12⟩ := kX.c3
  obtain ⟨t10, t11, t12⟩ := kZ.c3
  have f10 := kZ.frozen 0
  have f11 := kZ.frozen 1
  have f12 := kZ.frozen 2
  by_cases hz : stageCode rules hol c day = 0
  rotate_left
  · have HF := Lib.hid (reach_code hz)
    have hne : (stageCode rules hol c day != 0) = true := by simpa using hz
    have hne2 : (stageCode rules hol c day == 0) = false := by simpa using hz
    generalize stageCode rules hol c day = cd at *
    go_wp2_with fail
    try (go_quiet (fail))
    go_wp2_with fail
    refine bodyPost_ret (v := .tuple #[.agg #[.int .i64 0, .slice none 0 0, .slice none 0 0], .int .i64 cd]) (by simp [results, Try.results15, go_sem, *]) rfl ?_
    rw [HF.out]
    exact ⟨_, _, rfl, RdW.nil, RdW.nil, by first | exact ((hbk.setCell (p := ⟨w.heap.size + 1, 0, none⟩) (by show w.heap.size ≤ w.heap.size + 1; omega) _).setCell (p := ⟨w.heap.size + 1, 1, none⟩) (by show w.heap.size ≤ w.heap.size + 1; omega) _).setCell (p := ⟨w.heap.size + 1, 2, none⟩) (by show w.heap.size ≤ w.heap.size + 1; omega) _ | exact (((below_drewN hbk _).setCell (p := ⟨w.heap.size + 1, 0, none⟩) (by show w.heap.size ≤ w.heap.size + 1; omega) _).setCell (p := ⟨w.heap.size + 1, 1, none⟩) (by show w.heap.size ≤ w.heap.size + 1; omega) _).setCell (p := ⟨w.heap.size + 1, 2, none⟩) (by show w.heap.size ≤ w.heap.size + 1; omega) _⟩
  have hk := stageCode_ok hz
  have HB := Lib.hid (fun h => reach_bad (rules := rules) (hol := hol) (c := c) (day := day) hz h)
  have HG := Lib.hid (fun h => reach_ok (rules := rules) (hol := hol) (c := c) (day := day) hz h)
  rw [hz]
  clear hz
  have hok := hk.2.1
  have hlt := hk.2.2.2
  have hext := (Custody.ok_parts hok).2.2.2.2
  have h6 := (stagesOk_len (Custody.ok_parts hok).2.1).2
  have HOK := Lib.hid hok
  have hlt2 : c.done.length < c.ext.length := by omega
  have HEX := Lib.hid hext
  clear hk hok hext
  go_wp2_with fail
  have HIN := Lib.hid (show inR day (c.befAt c.done.length) (nextLimit rules hol c) = !reachBad rules hol c day by
    unfold inR reachBad
    rw [Bool.eq_iff_iff]
    simp)
  cases hbad : reachBad rules hol c day
  all_goals
    rw [hbad] at HIN
    go_region_held3 (fun w' => w'.cell? ⟨w.heap.size, 0, none⟩ = some (.int .i64 c.start) ∧ w'.cell? ⟨w.heap.size, 1, none⟩ = some (.slice A0 c.done.length C0) ∧ w'.cell? ⟨w.heap.size, 2, none⟩ = some (.slice A1 c.ext.length C1)) (go_keep)
      (first
        | (go_at_call 40; refine (l01In_any _ _ _ _).mono ?_; rintro e w' ⟨rfl, rfl⟩; rw [HIN.out])
        | (go_at_call 29; refine (l20Next_any _ rules lo1 hi1 _ hol lo2 hi2 c _ _ lo3 hi3 _ hr (by omega) hm1 hms1 hv (by omega) hm2 hc0 hc1 (by omega) hcs HOK.out hlt).mono ?_; rintro e w3 ⟨rfl, b3⟩; have zb3 := b3.size; replace hc0 := hc0.below b3 (by omega); replace hc1 := hc1.below b3 (by omega); replace kX := kX.below b3 (by omega); replace kZ := kZ.below b3 (by omega); replace hbk := Below.step b3 (by omega) hbk; obtain ⟨q30, q31, q32⟩ := kX.c3; obtain ⟨t30, t31, t32⟩ := kZ.c3; have f30 := kZ.frozen 0; have f31 := kZ.frozen 1; have f32 := kZ.frozen 2)
        | (go_at_call 34; refine (l20Before_any c _ _ lo3 hi3 c.done.length _ (hc0.below (B := w1.heap.size) (Below.refl _ w1).drew (by omega)) (hc1.below (B := w1.heap.size) (Below.refl _ w1).drew (by omega)) (by show _ ≤ w1.heap.size; omega) hcs (Nat.le_refl _)).mono ?_; rintro e w2 ⟨rfl, b2⟩; replace b2 : Below w1.heap.size w1 w2 := Below.undrew b2; have zb2 := b2.size; replace hc0 := hc0.below b2 (by omega); replace hc1 := hc1.below b2 (by omega); replace hr := hr.below b2 (by omega); replace hv := hv.below b2 (by omega); replace kX := kX.below b2 (by omega); replace kZ := kZ.below b2 (by omega); replace hbk := Below.step b2 (by omega) hbk; clear b2; obtain ⟨q20, q21, q22⟩ := kX.c3))
  · have HF := Lib.hid (HG.out hbad)
    clear hbad
    go_wp2_with fail
    refine (l20Own_any c _ _ lo3 hi3 _ hc0 hc1 (by omega) hcs).mono ?_
    rintro e w4 ⟨A5, A6, C5, C6, rfl, ho0, ho1, b4⟩
    have zb4 := b4.size
    clear hc0 hc1
    clear hr hv
    replace kX := kX.below b4 (by omega)
    replace kZ := kZ.below b4 (by omega)
    replace hbk := Below.step b4 (by omega) hbk
    clear b4
    obtain ⟨q40, q41, q42⟩ := kX.c3
    obtain ⟨t40, t41, t42⟩ := kZ.c3
    have f40 := kZ.frozen 0
    have f41 := kZ.frozen 1
    have f42 := kZ.frozen 2
    have kC := Blk.newAt (w := w4) (n := w4.heap.size) (t := 28) (cs := #[.int .i64 c.start, .slice A5 c.done.length C5, .slice A6 c.ext.length C6]) rfl
    have hown := (ho0.mono (show w.heap.size ≤ _ by omega)).alloc (.cells #[.int .i64 c.start, .slice A5 c.done.length C5, .slice A6 c.ext.length C6] 28)
    have kZa := kZ.alloc (.cells #[.int .i64 c.start, .slice A5 c.done.length C5, .slice A6 c.ext.length C6] 28)
    have ho1a := ho1.alloc (.cells #[.int .i64 c.start, .slice A5 c.done.length C5, .slice A6 c.ext.length C6] 28)
    go_wp2_with ((at_builtin; refine wpList_push (enc := encInt) _ _ (by first | rfl | simp) rfl (.tmp 40) (.tmp 42) 25 rfl w.heap.size 2 _ (.int .i64 0) 1 8 Try.underlying25 (by kernel_rfl) rfl (by omega) _ c.done day _ rfl rfl (encInt_one _) rfl rfl hown (by omega) (by omega) (by first | omega | (simp; omega)) ?_; intro v9 w9 hown9 hg9 hk9; obtain ⟨A9, c9, rfl, hc9⟩ := RdF.form (hown9.rdw (fun _ => rfl)).rd; have hl9 : (c.done ++ [day]).length = c.done.length + 1 := (by simp); rw [hl9] at hown9 hc9 ⊢; have kC9 := Blk.grown hg9 kC (own_ne hown kC (by decide)); have kZ9 := Blk.grown hg9 kZa (own_ne hown kZa (by decide)); obtain ⟨u0, u1, u2⟩ := kC9.c3; have g1 := kC9.frozen 1; obtain ⟨y0, y1, y2⟩ := kZ9.c3; have j0 := kZ9.frozen 0; have j1 := kZ9.frozen 1; have j2 := kZ9.frozen 2))
    refine bodyPost_ret (v := .tuple #[.agg #[.int .i64 c.start, .slice A9 (c.done.length + 1) c9, .slice A6 c.ext.length C6], .int .i64 0]) (by simp [results, Try.results15, go_sem, *]) rfl ?_
    rw [HF.out]
    have hn1 : w.heap.size + 1 ≠ w4.heap.size := by omega
    have z9 : w4.heap.size ≤ w9.heap.size := by have := hg9.size; simp at this; omega
    have hb9 : Below w.heap.size w w9 := hk9 _ _ (by omega) (hbk.alloc (by omega) _)
    refine ⟨_, _, rfl, ?_, ?_, ?_⟩
    · have hR := hown9.rdw (fun _ => rfl)
      exact (hR.mono_blk (fun g ar hb => by
        have n1 := hb.ne kC9 (by decide)
        have n2 := hb.ne kZ9 (by decide)
        exact (((hb.far (p := ⟨w4.heap.size, 1, none⟩) n1 _).far (p := ⟨w.heap.size + 1, 0, none⟩) n2 _).far (p := ⟨w.heap.size + 1, 1, none⟩) n2 _).far (p := ⟨w.heap.size + 1, 2, none⟩) n2 _)).wide (by omega) (by simp [World.setCell])
    · have hR := (OwnL.grown2 ho1a hown hg9 (by decide)).rdw (fun _ => rfl)
      exact (hR.mono_blk (fun g ar hb => by
        have n1 := hb.ne kC9 (by decide)
        have n2 := hb.ne kZ9 (by decide)
        exact (((hb.far (p := ⟨w4.heap.size, 1, none⟩) n1 _).far (p := ⟨w.heap.size + 1, 0, none⟩) n2 _).far (p := ⟨w.heap.size + 1, 1, none⟩) n2 _).far (p := ⟨w.heap.size + 1, 2, none⟩) n2 _)).wide (by omega) (by simp [World.setCell])
    · exact (((hb9.setCell (p := ⟨w4.heap.size, 1, none⟩) (by show w.heap.size ≤ w4.heap.size; omega) _).setCell (p := ⟨w.heap.size + 1, 0, none⟩) (by show w.heap.size ≤ w.heap.size + 1; omega) _).setCell (p := ⟨w.heap.size + 1, 1, none⟩) (by show w.heap.size ≤ w.heap.size + 1; omega) _).setCell (p := ⟨w.heap.size + 1, 2, none⟩) (by show w.heap.size ≤ w.heap.size + 1; omega) _
  · have HF := Lib.hid (HB.out hbad)
    clear hbad
    go_wp2_with fail
    refine bodyPost_ret (v := .tuple #[.agg #[.int .i64 0, .slice none 0 0, .slice none 0 0], .int .i64 5]) (by simp [results, Try.results15, go_sem, *]) rfl ?_
    rw [HF.out]
    exact ⟨_, _, rfl, RdW.nil, RdW.nil, by first | exact ((hbk.setCell (p := ⟨w.heap.size + 1, 0, none⟩) (by show w.heap.size ≤ w.heap.size + 1; omega) _).setCell (p := ⟨w.heap.size + 1, 1, none⟩) (by show w.heap.size ≤ w.heap.size + 1; omega) _).setCell (p := ⟨w.heap.size + 1, 2, none⟩) (by show w.heap.size ≤ w.heap.size + 1; omega) _ | exact (((below_drewN hbk _).setCell (p := ⟨w.heap.size + 1, 0, none⟩) (by show w.heap.size ≤ w.heap.size + 1; omega) _).setCell (p := ⟨w.heap.size + 1, 1, none⟩) (by show w.heap.size ≤ w.heap.size + 1; omega) _).setCell (p := ⟨w.heap.size + 1, 2, none⟩) (by show w.heap.size ≤ w.heap.size + 1; omega) _⟩
set_option maxRecDepth 100000 in
set_option maxHeartbeats 4000000 in
theorem impExtendStage_any (v1 : Value) (rules : List Stage) (lo1 hi1 : Nat) (v2 : Value) (hol : List Int) (lo2 hi2 : Nat) (c : Custody) (p0 p1 : Value) (lo3 hi3 : Nat) (day : Int) (w : World) (hr : RdF Stage.enc 3 w lo1 hi1 v1 rules) (hh1 : hi1 ≤ w.heap.size) (hm1 : rules.length ≤ 1048576) (hms1 : ∀ x ∈ rules, Stage.small x) (hv : RdF encInt 1 w lo2 hi2 v2 hol) (hh2 : hi2 ≤ w.heap.size) (hm2 : hol.length ≤ 1048576) (hc0 : RdF encInt 1 w lo3 hi3 p0 c.done) (hc1 : RdF encBool 1 w lo3 hi3 p1 c.ext) (hh3 : hi3 ≤ w.heap.size) (hcs : c.small) :
    Calls Try.prog 16 #[v1, v2, .agg #[.int .i64 c.start, p0, p1], .int .i64 day] w fun e w' => RetCust (extendStage rules hol c day) w e w' := by
  obtain ⟨A0, C0, rfl, hC0⟩ := hc0.form
  obtain ⟨A1, C1, rfl, hC1⟩ := hc1.form
  obtain ⟨AR, CR, rfl, hCR⟩ := hr.form
  obtain ⟨AH, CH, rfl, hCH⟩ := hv.form
  have hl0 := hcs.len0
  have hl1 := hcs.len1
  have hbk : Below w.heap.size w ((w.alloc (.cells #[.int .i64 c.start, .slice A0 c.done.length C0, .slice A1 c.ext.length C1] 28)).alloc (.cells #[.int .i64 0, .slice none 0 0, .slice none 0 0] 28)) := ((Below.refl _ _).alloc (Nat.le_refl _) _).alloc (by simp) _
  have hzk : ((w.alloc (.cells #[.int .i64 c.start, .slice A0 c.done.length C0, .slice A1 c.ext.length C1] 28)).alloc (.cells #[.int .i64 0, .slice none 0 0, .slice none 0 0] 28)).heap.size = w.heap.size + 2 := by simp
  have kX := (Blk.newAt (w := w) (n := w.heap.size) (t := 28) (cs := #[.int .i64 c.start, .slice A0 c.done.length C0, .slice A1 c.ext.length C1]) rfl).alloc (.cells #[.int .i64 0, .slice none 0 0, .slice none 0 0] 28)
  have kZ := Blk.newAt (w := w.alloc (.cells #[.int .i64 c.start, .slice A0 c.done.length C0, .slice A1 c.ext.length C1] 28)) (n := w.heap.size + 1) (t := 28) (cs := #[.int .i64 0, .slice none 0 0, .slice none 0 0]) (by simp)
  replace hc0 := hc0.below hbk hh3
  replace hc1 := hc1.below hbk hh3
  replace hr := hr.below hbk hh1
  replace hv := hv.below hbk hh2
  go_enter Try.func16, Try.ntmps16
  go_wp2_with fail
  generalize ((w.alloc (.cells #[.int .i64 c.start, .slice A0 c.done.length C0, .slice A1 c.ext.length C1] 28)).alloc (.cells #[.int .i64 0, .slice none 0 0, .slice none 0 0] 28)) = W0 at *
  refine (stageCode_any _ rules lo1 hi1 _ hol lo2 hi2 c _ _ lo3 hi3 day _ hr (by omega) hm1 hms1 hv (by omega) hm2 hc0 hc1 (by omega) hcs).mono ?_
  rintro e w1 ⟨rfl, b1⟩
  have zb1 := b1.size
  replace hc0 := hc0.below b1 (by omega)
  replace hc1 := hc1.below b1 (by omega)
  replace hr := hr.below b1 (by omega)
  replace hv := hv.below b1 (by omega)
  replace kX := kX.below b1 (by omega)
  replace kZ := kZ.below b1 (by omega)
  replace hbk := Below.step b1 (by omega) hbk
  clear b1
  obtain ⟨q10, q11, q12⟩ := kX.c3
  obtain ⟨t10, t11, t12⟩ := kZ.c3
  have f10 := kZ.frozen 0
  have f11 := kZ.frozen 1
  have f12 := kZ.frozen 2
  by_cases hz : stageCode rules hol c day = 0
  rotate_left
  · have HF := Lib.hid (extend_code hz)
    have hne : (stageCode rules hol c day != 0) = true := by simpa using hz
    have hne2 : (stageCode rules hol c day == 0) = false := by simpa using hz
    generalize stageCode rules hol c day = cd at *
    go_wp2_with fail
    refine bodyPost_ret (v := .tuple #[.agg #[.int .i64 0, .slice none 0 0, .slice none 0 0], .int .i64 cd]) (by simp [results, Try.results16, go_sem, *]) rfl ?_
    rw [HF.out]
    exact ⟨_, _, rfl, RdW.nil, RdW.nil, by first | exact ((hbk.setCell (p := ⟨w.heap.size + 1, 0, none⟩) (by show w.heap.size ≤ w.heap.size + 1; omega) _).setCell (p := ⟨w.heap.size + 1, 1, none⟩) (by show w.heap.size ≤ w.heap.size + 1; omega) _).setCell (p := ⟨w.heap.size + 1, 2, none⟩) (by show w.heap.size ≤ w.heap.size + 1; omega) _ | exact (((below_drewN hbk _).setCell (p := ⟨w.heap.size + 1, 0, none⟩) (by show w.heap.size ≤ w.heap.size + 1; omega) _).setCell (p := ⟨w.heap.size + 1, 1, none⟩) (by show w.heap.size ≤ w.heap.size + 1; omega) _).setCell (p := ⟨w.heap.size + 1, 2, none⟩) (by show w.heap.size ≤ w.heap.size + 1; omega) _⟩
  have hk := stageCode_ok hz
  have HB := Lib.hid (fun h => extend_bad (rules := rules) (hol := hol) (c := c) (day := day) hz h)
  have HG := Lib.hid (fun h => extend_ok (rules := rules) (hol := hol) (c := c) (day := day) hz h)
  rw [hz]
  clear hz
  have hok := hk.2.1
  have hlt := hk.2.2.2
  have hext := (Custody.ok_parts hok).2.2.2.2
  have h6 := (stagesOk_len (Custody.ok_parts hok).2.1).2
  have HOK := Lib.hid hok
  have hlt2 : c.done.length < c.ext.length := by omega
  have HEX := Lib.hid hext
  clear hk hok hext
  obtain ⟨x, b, off, HX, rfl, hbx, x0⟩ := RdF.bool hc1 (Below.refl w1.heap.size w1) (by omega) hlt2
  obtain ⟨s, bR, offR, HS, rfl, -, hbR, s0, s1, s2⟩ := Stage.at hr (Below.refl w1.heap.size w1) (by omega) hlt
  have hli : (c.done.length : Int) < (c.ext.length : Int) := by omega
  have hlj : (c.done.length : Int) < (rules.length : Int) := by omega
  have HXA := Lib.hid (show extAt c = x by unfold extAt; rw [HX.out]; rfl)
  have HMA := Lib.hid (show moreAt rules c = s.more by unfold moreAt; rw [HS.out])
  clear HX HS
  cases x with
  | true =>
    have HF := Lib.hid (HB.out (by unfold extendBad; rw [HXA.out]; rfl))
    go_wp2_with fail
    refine bodyPost_ret (v := .tuple #[.agg #[.int .i64 0, .slice none 0 0, .slice none 0 0], .int .i64 5]) (by simp [results, Try.results16, go_sem, *]) rfl ?_
    rw [HF.out]
    exact ⟨_, _, rfl, RdW.nil, RdW.nil, by first | exact ((hbk.setCell (p := ⟨w.heap.size + 1, 0, none⟩) (by show w.heap.size ≤ w.heap.size + 1; omega) _).setCell (p := ⟨w.heap.size + 1, 1, none⟩) (by show w.heap.size ≤ w.heap.size + 1; omega) _).setCell (p := ⟨w.heap.size + 1, 2, none⟩) (by show w.heap.size ≤ w.heap.size + 1; omega) _ | exact (((below_drewN hbk _).setCell (p := ⟨w.heap.size + 1, 0, none⟩) (by show w.heap.size ≤ w.heap.size + 1; omega) _).setCell (p := ⟨w.heap.size + 1, 1, none⟩) (by show w.heap.size ≤ w.heap.size + 1; omega) _).setCell (p := ⟨w.heap.size + 1, 2, none⟩) (by show w.heap.size ≤ w.heap.size + 1; omega) _⟩
  | false =>
    by_cases hm : s.more = 0
    · have HF := Lib.hid (HB.out (by unfold extendBad; rw [HXA.out, HMA.out, decide_eq_true hm]; rfl))
      have hmb : (s.more == 0) = true := by simpa using hm
      rw [hm] at s2
      clear hm hmb
      go_wp2_with fail
      refine bodyPost_ret (v := .tuple #[.agg #[.int .i64 0, .slice none 0 0, .slice none 0 0], .int .i64 5]) (by simp [results, Try.results16, go_sem, *]) rfl ?_
      rw [HF.out]
      exact ⟨_, _, rfl, RdW.nil, RdW.nil, by first | exact ((hbk.setCell (p := ⟨w.heap.size + 1, 0, none⟩) (by show w.heap.size ≤ w.heap.size + 1; omega) _).setCell (p := ⟨w.heap.size + 1, 1, none⟩) (by show w.heap.size ≤ w.heap.size + 1; omega) _).setCell (p := ⟨w.heap.size + 1, 2, none⟩) (by show w.heap.size ≤ w.heap.size + 1; omega) _ | exact (((below_drewN hbk _).setCell (p := ⟨w.heap.size + 1, 0, none⟩) (by show w.heap.size ≤ w.heap.size + 1; omega) _).setCell (p := ⟨w.heap.size + 1, 1, none⟩) (by show w.heap.size ≤ w.heap.size + 1; omega) _).setCell (p := ⟨w.heap.size + 1, 2, none⟩) (by show w.heap.size ≤ w.heap.size + 1; omega) _⟩
    have hmb : (s.more == 0) = false := by simpa using hm
    go_wp2_with fail
    refine (nextLimit_any c _ _ lo3 hi3 _ rules lo1 hi1 _ hol lo2 hi2 _ hc0 hc1 (by omega) hcs hr (by omega) hm1 hms1 hv (by omega) hm2 HOK.out hlt).mono ?_
    rintro e w3 ⟨rfl, b3⟩
    clear x0 s0 s1 s2
    clear q10 q11 q12 t10 t11 t12 f10 f11 f12
    have zb3 := b3.size
    replace hc0 := hc0.below b3 (by omega)
    replace hc1 := hc1.below b3 (by omega)
    replace hr := hr.below b3 (by omega)
    replace hv := hv.below b3 (by omega)
    replace kX := kX.below b3 (by omega)
    replace kZ := kZ.below b3 (by omega)
    replace hbk := Below.step b3 (by omega) hbk
    clear b3
    obtain ⟨q30, q31, q32⟩ := kX.c3
    obtain ⟨t30, t31, t32⟩ := kZ.c3
    have f30 := kZ.frozen 0
    have f31 := kZ.frozen 1
    have f32 := kZ.frozen 2
    by_cases h2 : nextLimit rules hol c < day
    · have HF := Lib.hid (HB.out (by unfold extendBad; rw [decide_eq_true h2]; simp))
      go_wp2_with fail
      refine bodyPost_ret (v := .tuple #[.agg #[.int .i64 0, .slice none 0 0, .slice none 0 0], .int .i64 5]) (by simp [results, Try.results16, go_sem, *]) rfl ?_
      rw [HF.out]
      exact ⟨_, _, rfl, RdW.nil, RdW.nil, by first | exact ((hbk.setCell (p := ⟨w.heap.size + 1, 0, none⟩) (by show w.heap.size ≤ w.heap.size + 1; omega) _).setCell (p := ⟨w.heap.size + 1, 1, none⟩) (by show w.heap.size ≤ w.heap.size + 1; omega) _).setCell (p := ⟨w.heap.size + 1, 2, none⟩) (by show w.heap.size ≤ w.heap.size + 1; omega) _ | exact (((below_drewN hbk _).setCell (p := ⟨w.heap.size + 1, 0, none⟩) (by show w.heap.size ≤ w.heap.size + 1; omega) _).setCell (p := ⟨w.heap.size + 1, 1, none⟩) (by show w.heap.size ≤ w.heap.size + 1; omega) _).setCell (p := ⟨w.heap.size + 1, 2, none⟩) (by show w.heap.size ≤ w.heap.size + 1; omega) _⟩
    have HF := Lib.hid (HG.out (by unfold extendBad; rw [HXA.out, HMA.out, decide_eq_false hm, decide_eq_false h2]; rfl))
    go_wp2_with fail
    refine (copyCustody_any c _ _ lo3 hi3 _ hc0 hc1 (by omega) hcs).mono ?_
    rintro e w4 ⟨A5, A6, C5, C6, rfl, ho0, ho1, b4⟩
    have zb4 := b4.size
    replace hc0 := hc0.below b4 (by omega)
    replace hc1 := hc1.below b4 (by omega)
    replace hr := hr.below b4 (by omega)
    replace hv := hv.below b4 (by omega)
    replace kX := kX.below b4 (by omega)
    replace kZ := kZ.below b4 (by omega)
    replace hbk := Below.step b4 (by omega) hbk
    clear b4
    have kC := Blk.newAt (w := w4) (n := w4.heap.size) (t := 28) (cs := #[.int .i64 c.start, .slice A5 c.done.length C5, .slice A6 c.ext.length C6]) rfl
    have hD := (((ho0.mono (show w.heap.size ≤ _ by omega)).alloc (.cells #[.int .i64 c.start, .slice A5 c.done.length C5, .slice A6 c.ext.length C6] 28)).rdw (fun _ => rfl))
    have hE := (((ho1.mono (show w.heap.size ≤ _ by omega)).alloc (.cells #[.int .i64 c.start, .slice A5 c.done.length C5, .slice A6 c.ext.length C6] 28)).rdw (fun _ => rfl))
    have kZa := kZ.alloc (.cells #[.int .i64 c.start, .slice A5 c.done.length C5, .slice A6 c.ext.length C6] 28)
    have hba : Below w.heap.size w (w4.alloc (.cells #[.int .i64 c.start, .slice A5 c.done.length C5, .slice A6 c.ext.length C6] 28)) := hbk.alloc (by omega) _
    have hza : (w4.alloc (.cells #[.int .i64 c.start, .slice A5 c.done.length C5, .slice A6 c.ext.length C6] 28)).heap.size = w4.heap.size + 1 := by simp
    obtain ⟨g, rfl, hg1, hg2, ⟨ar, kg⟩, ⟨u, cu⟩, fu, hset⟩ := hE.setB hlt2
    have n1 : g ≠ w4.heap.size := kg.ne kC (by decide)
    have n2 : g ≠ w.heap.size + 1 := kg.ne kZa (by decide)
    have n3 := n1.symm
    have n4 := n2.symm
    have n5 : w.heap.size + 1 ≠ w4.heap.size := by omega
    have n6 := n5.symm
    obtain ⟨u0, u1, u2⟩ := kC.c3
    obtain ⟨y0, y1, y2⟩ := kZa.c3
    have j0 := kZa.frozen 0
    have j1 := kZa.frozen 1
    have j2 := kZa.frozen 2
    have hli : (c.done.length : Int) < (c.ext.length : Int) := by omega
    have hs1 := hset true
    have kZs := kZa.far (p := ⟨g, c.done.length, none⟩) n4 (.bool true)
    have kgs := kg.set_ c.done.length (.bool true)
    clear hset
    go_wp2_with fail
    refine bodyPost_ret (v := .tuple #[.agg #[.int .i64 c.start, .slice A5 c.done.length C5, .slice (some ⟨g, 0, none⟩) c.ext.length C6], .int .i64 0]) (by simp [results, Try.results16, go_sem, *]) rfl ?_
    rw [HF.out]
    refine ⟨_, _, rfl, ?_, ?_, ?_⟩
    · exact (hD.mono_blk (fun g' ar' hb => by
        have m1 := hb.ne kg (by decide)
        have m2 := hb.ne kZa (by decide)
        exact (((hb.far (p := ⟨g, c.done.length, none⟩) m1 _).far (p := ⟨w.heap.size + 1, 0, none⟩) m2 _).far (p := ⟨w.heap.size + 1, 1, none⟩) m2 _).far (p := ⟨w.heap.size + 1, 2, none⟩) m2 _)).wide (Nat.le_refl _) (by simp [World.setCell])
    · have hE2 := hs1.mono_blk (w' := (((((w4.alloc (.cells #[.int .i64 c.start, .slice A5 c.done.length C5, .slice (some ⟨g, 0, none⟩) c.ext.length C6] 28)).setCell ⟨g, c.done.length, none⟩ (.bool true)).setCell ⟨w.heap.size + 1, 0, none⟩ (.int .i64 c.start)).setCell ⟨w.heap.size + 1, 1, none⟩ (.slice A5 c.done.length C5)).setCell ⟨w.heap.size + 1, 2, none⟩ (.slice (some ⟨g, 0, none⟩) c.ext.length C6))) (fun g' ar' hb => by
        have m2 := hb.ne kZs (by decide)
        exact ((hb.far (p := ⟨w.heap.size + 1, 0, none⟩) m2 _).far (p := ⟨w.heap.size + 1, 1, none⟩) m2 _).far (p := ⟨w.heap.size + 1, 2, none⟩) m2 _)
      have hle : (c.ext.set c.done.length true).length = c.ext.length := List.length_set
      exact hE2.wide (Nat.le_refl _) (by simp [World.setCell])
    · exact (((hba.setCell (p := ⟨g, c.done.length, none⟩) hg1 _).setCell (p := ⟨w.heap.size + 1, 0, none⟩) (by show w.heap.size ≤ w.heap.size + 1; omega) _).setCell (p := ⟨w.heap.size + 1, 1, none⟩) (by show w.heap.size ≤ w.heap.size + 1; omega) _).setCell (p := ⟨w.heap.size + 1, 2, none⟩) (by show w.heap.size ≤ w.heap.size + 1; omega) _
set_option maxRecDepth 100000 in
set_option maxHeartbeats 4000000 in
theorem sExtendStage_any (v1 : Value) (rules : List Stage) (lo1 hi1 : Nat) (v2 : Value) (hol : List Int) (lo2 hi2 : Nat) (c : Custody) (p0 p1 : Value) (lo3 hi3 : Nat) (day : Int) (w : World) (hr : RdF Stage.enc 3 w lo1 hi1 v1 rules) (hh1 : hi1 ≤ w.heap.size) (hm1 : rules.length ≤ 1048576) (hms1 : ∀ x ∈ rules, Stage.small x) (hv : RdF encInt 1 w lo2 hi2 v2 hol) (hh2 : hi2 ≤ w.heap.size) (hm2 : hol.length ≤ 1048576) (hc0 : RdF encInt 1 w lo3 hi3 p0 c.done) (hc1 : RdF encBool 1 w lo3 hi3 p1 c.ext) (hh3 : hi3 ≤ w.heap.size) (hcs : c.small) :
    Calls Try.prog 17 #[v1, v2, .agg #[.int .i64 c.start, p0, p1], .int .i64 day] w fun e w' => RetCust (extendStage rules hol c day) w e w' := by
  obtain ⟨A0, C0, rfl, hC0⟩ := hc0.form
  obtain ⟨A1, C1, rfl, hC1⟩ := hc1.form
  obtain ⟨AR, CR, rfl, hCR⟩ := hr.form
  obtain ⟨AH, CH, rfl, hCH⟩ := hv.form
  have hl0 := hcs.len0
  have hl1 := hcs.len1
  have hbk : Below w.heap.size w ((w.alloc (.cells #[.int .i64 c.start, .slice A0 c.done.length C0, .slice A1 c.ext.length C1] 28)).alloc (.cells #[.int .i64 0, .slice none 0 0, .slice none 0 0] 28)) := ((Below.refl _ _).alloc (Nat.le_refl _) _).alloc (by simp) _
  have hzk : ((w.alloc (.cells #[.int .i64 c.start, .slice A0 c.done.length C0, .slice A1 c.ext.length C1] 28)).alloc (.cells #[.int .i64 0, .slice none 0 0, .slice none 0 0] 28)).heap.size = w.heap.size + 2 := by simp
  have kX := (Blk.newAt (w := w) (n := w.heap.size) (t := 28) (cs := #[.int .i64 c.start, .slice A0 c.done.length C0, .slice A1 c.ext.length C1]) rfl).alloc (.cells #[.int .i64 0, .slice none 0 0, .slice none 0 0] 28)
  have kZ := Blk.newAt (w := w.alloc (.cells #[.int .i64 c.start, .slice A0 c.done.length C0, .slice A1 c.ext.length C1] 28)) (n := w.heap.size + 1) (t := 28) (cs := #[.int .i64 0, .slice none 0 0, .slice none 0 0]) (by simp)
  replace hc0 := hc0.below hbk hh3
  replace hc1 := hc1.below hbk hh3
  replace hr := hr.below hbk hh1
  replace hv := hv.below hbk hh2
  go_enter Try.func17, Try.ntmps17
  go_wp2_with fail
  generalize ((w.alloc (.cells #[.int .i64 c.start, .slice A0 c.done.length C0, .slice A1 c.ext.length C1] 28)).alloc (.cells #[.int .i64 0, .slice none 0 0, .slice none 0 0] 28)) = W0 at *
  refine (l20Code_any _ rules lo1 hi1 _ hol lo2 hi2 c _ _ lo3 hi3 day _ hr (by omega) hm1 hms1 hv (by omega) hm2 hc0 hc1 (by omega) hcs).mono ?_
  rintro e w1 ⟨rfl, b1⟩
  have zb1 := b1.size
  replace hc0 := hc0.below b1 (by omega)
  replace hc1 := hc1.below b1 (by omega)
  replace hr := hr.below b1 (by omega)
  replace hv := hv.below b1 (by omega)
  replace kX := kX.below b1 (by omega)
  replace kZ := kZ.below b1 (by omega)
  replace hbk := Below.step b1 (by omega) hbk
  clear b1
  obtain ⟨q10, q11, q12⟩ := kX.c3
  obtain ⟨t10, t11, t12⟩ := kZ.c3
  have f10 := kZ.frozen 0
  have f11 := kZ.frozen 1
  have f12 := kZ.frozen 2
  by_cases hz : stageCode rules hol c day = 0
  rotate_left
  · have HF := Lib.hid (extend_code hz)
    have hne : (stageCode rules hol c day != 0) = true := by simpa using hz
    have hne2 : (stageCode rules hol c day == 0) = false := by simpa using hz
    generalize stageCode rules hol c day = cd at *
    go_wp2_with fail
    go_wp2_with fail
    refine bodyPost_ret (v := .tuple #[.agg #[.int .i64 0, .slice none 0 0, .slice none 0 0], .int .i64 cd]) (by simp [results, Try.results17, go_sem, *]) rfl ?_
    rw [HF.out]
    exact ⟨_, _, rfl, RdW.nil, RdW.nil, by first | exact ((hbk.setCell (p := ⟨w.heap.size + 1, 0, none⟩) (by show w.heap.size ≤ w.heap.size + 1; omega) _).setCell (p := ⟨w.heap.size + 1, 1, none⟩) (by show w.heap.size ≤ w.heap.size + 1; omega) _).setCell (p := ⟨w.heap.size + 1, 2, none⟩) (by show w.heap.size ≤ w.heap.size + 1; omega) _ | exact (((below_drewN hbk _).setCell (p := ⟨w.heap.size + 1, 0, none⟩) (by show w.heap.size ≤ w.heap.size + 1; omega) _).setCell (p := ⟨w.heap.size + 1, 1, none⟩) (by show w.heap.size ≤ w.heap.size + 1; omega) _).setCell (p := ⟨w.heap.size + 1, 2, none⟩) (by show w.heap.size ≤ w.heap.size + 1; omega) _⟩
  have hk := stageCode_ok hz
  have HB := Lib.hid (fun h => extend_bad (rules := rules) (hol := hol) (c := c) (day := day) hz h)
  have HG := Lib.hid (fun h => extend_ok (rules := rules) (hol := hol) (c := c) (day := day) hz h)
  rw [hz]
  clear hz
  have hok := hk.2.1
  have hlt := hk.2.2.2
  have hext := (Custody.ok_parts hok).2.2.2.2
  have h6 := (stagesOk_len (Custody.ok_parts hok).2.1).2
  have HOK := Lib.hid hok
  have hlt2 : c.done.length < c.ext.length := by omega
  have HEX := Lib.hid hext
  clear hk hok hext
  obtain ⟨x, b, off, HX, rfl, hbx, x0⟩ := RdF.bool hc1 (Below.refl w1.heap.size w1) (by omega) hlt2
  obtain ⟨s, bR, offR, HS, rfl, -, hbR, s0, s1, s2⟩ := Stage.at hr (Below.refl w1.heap.size w1) (by omega) hlt
  have hli : (c.done.length : Int) < (c.ext.length : Int) := by omega
  have hlj : (c.done.length : Int) < (rules.length : Int) := by omega
  have HXA := Lib.hid (show extAt c = x by unfold extAt; rw [HX.out]; rfl)
  have HMA := Lib.hid (show moreAt rules c = s.more by unfold moreAt; rw [HS.out])
  clear HX HS
  cases x with
  | true =>
    have HF := Lib.hid (HB.out (by unfold extendBad; rw [HXA.out]; rfl))
    go_wp2_with fail
    refine bodyPost_ret (v := .tuple #[.agg #[.int .i64 0, .slice none 0 0, .slice none 0 0], .int .i64 5]) (by simp [results, Try.results17, go_sem, *]) rfl ?_
    rw [HF.out]
    exact ⟨_, _, rfl, RdW.nil, RdW.nil, by first | exact ((hbk.setCell (p := ⟨w.heap.size + 1, 0, none⟩) (by show w.heap.size ≤ w.heap.size + 1; omega) _).setCell (p := ⟨w.heap.size + 1, 1, none⟩) (by show w.heap.size ≤ w.heap.size + 1; omega) _).setCell (p := ⟨w.heap.size + 1, 2, none⟩) (by show w.heap.size ≤ w.heap.size + 1; omega) _ | exact (((below_drewN hbk _).setCell (p := ⟨w.heap.size + 1, 0, none⟩) (by show w.heap.size ≤ w.heap.size + 1; omega) _).setCell (p := ⟨w.heap.size + 1, 1, none⟩) (by show w.heap.size ≤ w.heap.size + 1; omega) _).setCell (p := ⟨w.heap.size + 1, 2, none⟩) (by show w.heap.size ≤ w.heap.size + 1; omega) _⟩
  | false =>
    by_cases hm : s.more = 0
    · have HF := Lib.hid (HB.out (by unfold extendBad; rw [HXA.out, HMA.out, decide_eq_true hm]; rfl))
      have hmb : (s.more == 0) = true := by simpa using hm
      rw [hm] at s2
      clear hm hmb
      go_wp2_with fail
      refine bodyPost_ret (v := .tuple #[.agg #[.int .i64 0, .slice none 0 0, .slice none 0 0], .int .i64 5]) (by simp [results, Try.results17, go_sem, *]) rfl ?_
      rw [HF.out]
      exact ⟨_, _, rfl, RdW.nil, RdW.nil, by first | exact ((hbk.setCell (p := ⟨w.heap.size + 1, 0, none⟩) (by show w.heap.size ≤ w.heap.size + 1; omega) _).setCell (p := ⟨w.heap.size + 1, 1, none⟩) (by show w.heap.size ≤ w.heap.size + 1; omega) _).setCell (p := ⟨w.heap.size + 1, 2, none⟩) (by show w.heap.size ≤ w.heap.size + 1; omega) _ | exact (((below_drewN hbk _).setCell (p := ⟨w.heap.size + 1, 0, none⟩) (by show w.heap.size ≤ w.heap.size + 1; omega) _).setCell (p := ⟨w.heap.size + 1, 1, none⟩) (by show w.heap.size ≤ w.heap.size + 1; omega) _).setCell (p := ⟨w.heap.size + 1, 2, none⟩) (by show w.heap.size ≤ w.heap.size + 1; omega) _⟩
    have hmb : (s.more == 0) = false := by simpa using hm
    go_wp2_with fail
    refine (l20Next_any _ rules lo1 hi1 _ hol lo2 hi2 c _ _ lo3 hi3 _ hr (by omega) hm1 hms1 hv (by omega) hm2 hc0 hc1 (by omega) hcs HOK.out hlt).mono ?_
    rintro e w3 ⟨rfl, b3⟩
    clear x0 s0 s1 s2
    clear q10 q11 q12 t10 t11 t12 f10 f11 f12
    have zb3 := b3.size
    replace hc0 := hc0.below b3 (by omega)
    replace hc1 := hc1.below b3 (by omega)
    replace hr := hr.below b3 (by omega)
    replace hv := hv.below b3 (by omega)
    replace kX := kX.below b3 (by omega)
    replace kZ := kZ.below b3 (by omega)
    replace hbk := Below.step b3 (by omega) hbk
    clear b3
    obtain ⟨q30, q31, q32⟩ := kX.c3
    obtain ⟨t30, t31, t32⟩ := kZ.c3
    have f30 := kZ.frozen 0
    have f31 := kZ.frozen 1
    have f32 := kZ.frozen 2
    by_cases h2 : nextLimit rules hol c < day
    · have HF := Lib.hid (HB.out (by unfold extendBad; rw [decide_eq_true h2]; simp))
      go_wp2_with fail
      refine bodyPost_ret (v := .tuple #[.agg #[.int .i64 0, .slice none 0 0, .slice none 0 0], .int .i64 5]) (by simp [results, Try.results17, go_sem, *]) rfl ?_
      rw [HF.out]
      exact ⟨_, _, rfl, RdW.nil, RdW.nil, by first | exact ((hbk.setCell (p := ⟨w.heap.size + 1, 0, none⟩) (by show w.heap.size ≤ w.heap.size + 1; omega) _).setCell (p := ⟨w.heap.size + 1, 1, none⟩) (by show w.heap.size ≤ w.heap.size + 1; omega) _).setCell (p := ⟨w.heap.size + 1, 2, none⟩) (by show w.heap.size ≤ w.heap.size + 1; omega) _ | exact (((below_drewN hbk _).setCell (p := ⟨w.heap.size + 1, 0, none⟩) (by show w.heap.size ≤ w.heap.size + 1; omega) _).setCell (p := ⟨w.heap.size + 1, 1, none⟩) (by show w.heap.size ≤ w.heap.size + 1; omega) _).setCell (p := ⟨w.heap.size + 1, 2, none⟩) (by show w.heap.size ≤ w.heap.size + 1; omega) _⟩
    have HF := Lib.hid (HG.out (by unfold extendBad; rw [HXA.out, HMA.out, decide_eq_false hm, decide_eq_false h2]; rfl))
    go_wp2_with fail
    refine (l20Own_any c _ _ lo3 hi3 _ hc0 hc1 (by omega) hcs).mono ?_
    rintro e w4 ⟨A5, A6, C5, C6, rfl, ho0, ho1, b4⟩
    have zb4 := b4.size
    replace hc0 := hc0.below b4 (by omega)
    replace hc1 := hc1.below b4 (by omega)
    replace hr := hr.below b4 (by omega)
    replace hv := hv.below b4 (by omega)
    replace kX := kX.below b4 (by omega)
    replace kZ := kZ.below b4 (by omega)
    replace hbk := Below.step b4 (by omega) hbk
    clear b4
    have kC := Blk.newAt (w := w4) (n := w4.heap.size) (t := 28) (cs := #[.int .i64 c.start, .slice A5 c.done.length C5, .slice A6 c.ext.length C6]) rfl
    have hD := (((ho0.mono (show w.heap.size ≤ _ by omega)).alloc (.cells #[.int .i64 c.start, .slice A5 c.done.length C5, .slice A6 c.ext.length C6] 28)).rdw (fun _ => rfl))
    have hE := (((ho1.mono (show w.heap.size ≤ _ by omega)).alloc (.cells #[.int .i64 c.start, .slice A5 c.done.length C5, .slice A6 c.ext.length C6] 28)).rdw (fun _ => rfl))
    have kZa := kZ.alloc (.cells #[.int .i64 c.start, .slice A5 c.done.length C5, .slice A6 c.ext.length C6] 28)
    have hba : Below w.heap.size w (w4.alloc (.cells #[.int .i64 c.start, .slice A5 c.done.length C5, .slice A6 c.ext.length C6] 28)) := hbk.alloc (by omega) _
    have hza : (w4.alloc (.cells #[.int .i64 c.start, .slice A5 c.done.length C5, .slice A6 c.ext.length C6] 28)).heap.size = w4.heap.size + 1 := by simp
    obtain ⟨g, rfl, hg1, hg2, ⟨ar, kg⟩, ⟨u, cu⟩, fu, hset⟩ := hE.setB hlt2
    have n1 : g ≠ w4.heap.size := kg.ne kC (by decide)
    have n2 : g ≠ w.heap.size + 1 := kg.ne kZa (by decide)
    have n3 := n1.symm
    have n4 := n2.symm
    have n5 : w.heap.size + 1 ≠ w4.heap.size := by omega
    have n6 := n5.symm
    obtain ⟨u0, u1, u2⟩ := kC.c3
    obtain ⟨y0, y1, y2⟩ := kZa.c3
    have j0 := kZa.frozen 0
    have j1 := kZa.frozen 1
    have j2 := kZa.frozen 2
    have hli : (c.done.length : Int) < (c.ext.length : Int) := by omega
    have hs1 := hset true
    have kZs := kZa.far (p := ⟨g, c.done.length, none⟩) n4 (.bool true)
    have kgs := kg.set_ c.done.length (.bool true)
    clear hset
    go_wp2_with fail
    refine bodyPost_ret (v := .tuple #[.agg #[.int .i64 c.start, .slice A5 c.done.length C5, .slice (some ⟨g, 0, none⟩) c.ext.length C6], .int .i64 0]) (by simp [results, Try.results17, go_sem, *]) rfl ?_
    rw [HF.out]
    refine ⟨_, _, rfl, ?_, ?_, ?_⟩
    · exact (hD.mono_blk (fun g' ar' hb => by
        have m1 := hb.ne kg (by decide)
        have m2 := hb.ne kZa (by decide)
        exact (((hb.far (p := ⟨g, c.done.length, none⟩) m1 _).far (p := ⟨w.heap.size + 1, 0, none⟩) m2 _).far (p := ⟨w.heap.size + 1, 1, none⟩) m2 _).far (p := ⟨w.heap.size + 1, 2, none⟩) m2 _)).wide (Nat.le_refl _) (by simp [World.setCell])
    · have hE2 := hs1.mono_blk (w' := (((((w4.alloc (.cells #[.int .i64 c.start, .slice A5 c.done.length C5, .slice (some ⟨g, 0, none⟩) c.ext.length C6] 28)).setCell ⟨g, c.done.length, none⟩ (.bool true)).setCell ⟨w.heap.size + 1, 0, none⟩ (.int .i64 c.start)).setCell ⟨w.heap.size + 1, 1, none⟩ (.slice A5 c.done.length C5)).setCell ⟨w.heap.size + 1, 2, none⟩ (.slice (some ⟨g, 0, none⟩) c.ext.length C6))) (fun g' ar' hb => by
        have m2 := hb.ne kZs (by decide)
        exact ((hb.far (p := ⟨w.heap.size + 1, 0, none⟩) m2 _).far (p := ⟨w.heap.size + 1, 1, none⟩) m2 _).far (p := ⟨w.heap.size + 1, 2, none⟩) m2 _)
      have hle : (c.ext.set c.done.length true).length = c.ext.length := List.length_set
      exact hE2.wide (Nat.le_refl _) (by simp [World.setCell])
    · exact (((hba.setCell (p := ⟨g, c.done.length, none⟩) hg1 _).setCell (p := ⟨w.heap.size + 1, 0, none⟩) (by show w.heap.size ≤ w.heap.size + 1; omega) _).setCell (p := ⟨w.heap.size + 1, 1, none⟩) (by show w.heap.size ≤ w.heap.size + 1; omega) _).setCell (p := ⟨w.heap.size + 1, 2, none⟩) (by show w.heap.size ≤ w.heap.size + 1; omega) _
end Go.Proofs.Ytfafcicbfgdmcaa
