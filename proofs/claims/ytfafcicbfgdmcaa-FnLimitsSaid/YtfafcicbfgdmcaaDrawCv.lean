/- Draws of the laws of custody. Written by a program (gen_drawcv.py). -/
import Derived.Test.YtfafcicbfgdmcaaDrawCw
namespace Go.Proofs.Ytfafcicbfgdmcaa
open Go.RowKit
set_option linter.unusedVariables false

theorem Blk.chgAt' {w w' : World} {g lo hi : Nat} {t : TypeId} {cs : Array Value} (h : Blk w g t cs) (hc : Chg lo hi w w') (hd : hi ≤ g) : Blk w' g t cs := h.chg hc h.lt (.inr hd)
set_option maxRecDepth 100000 in
set_option maxHeartbeats 8000000 in
theorem drawLatest_any (v : Value) (bs : List Int) (lo hi : Nat) (w : World) (h : RdF encByte 1 w lo hi v bs) (hh : hi ≤ w.heap.size) (hm : bs.length ≤ 4096) (hb : ∀ x ∈ bs, 0 ≤ x ∧ x ≤ 255) :
    Calls Try.prog 9 #[v] w fun e w' => ∃ (v1 : Value) (rules : List Stage) (v2 : Value) (hol : List Int) (c : Custody) (p0 p1 : Value), e = .returned (.tuple #[v1, v2, .agg #[.int .i64 c.start, p0, p1]]) ∧ rules.length ≤ 3 ∧ (∀ x ∈ rules, x.name.size ≤ 64 ∧ -1 ≤ x.days ∧ x.days ≤ 500) ∧ hol.length ≤ 60 ∧ c.done.length ≤ 4 ∧ c.ext.length ≤ 4 ∧ -1 ≤ c.start ∧ c.start ≤ 20001 ∧ RdF Stage.enc 3 w' w.heap.size w'.heap.size v1 rules ∧ RdF encInt 1 w' w.heap.size w'.heap.size v2 hol ∧ RdF encInt 1 w' w.heap.size w'.heap.size p0 c.done ∧ RdF encBool 1 w' w.heap.size w'.heap.size p1 c.ext ∧ Below w.heap.size w w' := by
  have kR : Blk (w.alloc (.cells #[.int .i64 0, .slice none 0 0, .slice none 0 0] 28)) w.heap.size 28 #[.int .i64 0, .slice none 0 0, .slice none 0 0] := Blk.newAt rfl
  have BB : Below w.heap.size w (w.alloc (.cells #[.int .i64 0, .slice none 0 0, .slice none 0 0] 28)) := (Below.refl _ _).alloc (Nat.le_refl _) _
  have zW : w.heap.size < (w.alloc (.cells #[.int .i64 0, .slice none 0 0, .slice none 0 0] 28)).heap.size := by simp
  replace h := h.below BB hh
  go_enter Try.func9, Try.ntmps9
  go_wp2_with fail
  generalize (w.alloc (.cells #[.int .i64 0, .slice none 0 0, .slice none 0 0] 28)) = W0 at *
  refine (l01From_any _ bs lo hi _ h (by omega) hm hb).mono ?_
  rintro e wF ⟨q, rfl, hq, s, bF⟩
  have zF := bF.size
  replace kR := kR.below bF (by omega)
  replace BB := Below.step bF (by omega) BB
  have hsq := s.lt
  clear bF h
  go_wp2_with fail
  refine (l20Draw_any q _ s).mono ?_
  rintro e wL ⟨v1, rules, v2, hol, c, p0, p1, rfl, hn3, hrb, hh60, hcd, hce, hs0, hs1, h1, h2, h3, h4, s', cL⟩
  have zL := cL.size
  replace kR := kR.chg cL (by omega) (.inl (by omega))
  replace BB := BB.trans (cL.below (by omega) (by omega))
  have HR := Lib.hid hrb
  clear hrb cL s
  have s := s'
  clear s'
  obtain ⟨A1, C1, rfl, hC1⟩ := h1.form
  obtain ⟨A2, C2, rfl, hC2⟩ := h2.form
  obtain ⟨A3, C3, rfl, hC3⟩ := h3.form
  obtain ⟨A4, C4, rfl, hC4⟩ := h4.form
  obtain ⟨e0, e1, e2⟩ := kR.c3
  have fe0 := kR.frozen 0
  have fe1 := kR.frozen 1
  have fe2 := kR.frozen 2
  have zR := kR.lt
  go_wp2_with fail
  have dS := (((Chg.refl w.heap.size (w.heap.size + 1) wL).setCell (p := ⟨w.heap.size, 0, none⟩) (Nat.le_refl _) (Nat.lt_succ_self _) (.int .i64 c.start)).setCell (p := ⟨w.heap.size, 1, none⟩) (Nat.le_refl _) (Nat.lt_succ_self _) (.slice A3 c.done.length C3)).setCell (p := ⟨w.heap.size, 2, none⟩) (Nat.le_refl _) (Nat.lt_succ_self _) (.slice A4 c.ext.length C4)
  have zS := dS.size
  have g1 := (h1.chg dS (by omega) (.inr (by omega))).wide (lo' := w.heap.size) (by omega) (Nat.le_trans (by omega : _ ≤ wL.heap.size) zS)
  have g2 := (h2.chg dS (by omega) (.inr (by omega))).wide (lo' := w.heap.size) (by omega) (Nat.le_trans (by omega : _ ≤ wL.heap.size) zS)
  have g3 := (h3.chg dS (by omega) (.inr (by omega))).wide (lo' := w.heap.size) (by omega) (Nat.le_trans (by omega : _ ≤ wL.heap.size) zS)
  have g4 := (h4.chg dS (by omega) (.inr (by omega))).wide (lo' := w.heap.size) (by omega) (Nat.le_trans (by omega : _ ≤ wL.heap.size) zS)
  refine bodyPost_ret (v := .tuple #[.slice A1 rules.length C1, .slice A2 hol.length C2, .agg #[.int .i64 c.start, .slice A3 c.done.length C3, .slice A4 c.ext.length C4]]) (by simp [results, Try.results9, go_sem, *]) rfl ?_
  exact ⟨_, rules, _, hol, c, _, _, rfl, hn3, HR.out, hh60, hcd, hce, hs0, hs1, g1, g2, g3, g4, BB.trans (dS.below (Nat.le_refl _) (by omega))⟩
set_option maxRecDepth 100000 in
set_option maxHeartbeats 8000000 in
theorem drawReach_any (v : Value) (bs : List Int) (lo hi : Nat) (w : World) (h : RdF encByte 1 w lo hi v bs) (hh : hi ≤ w.heap.size) (hm : bs.length ≤ 4096) (hb : ∀ x ∈ bs, 0 ≤ x ∧ x ≤ 255) :
    Calls Try.prog 14 #[v] w fun e w' => ∃ (v1 : Value) (rules : List Stage) (v2 : Value) (hol : List Int) (c : Custody) (p0 p1 : Value) (day : Int), e = .returned (.tuple #[v1, v2, .agg #[.int .i64 c.start, p0, p1], .int .i64 day]) ∧ rules.length ≤ 3 ∧ (∀ x ∈ rules, x.name.size ≤ 64 ∧ -1 ≤ x.days ∧ x.days ≤ 500) ∧ hol.length ≤ 60 ∧ c.done.length ≤ 4 ∧ c.ext.length ≤ 4 ∧ -1 ≤ c.start ∧ c.start ≤ 20001 ∧ RdF Stage.enc 3 w' w.heap.size w'.heap.size v1 rules ∧ RdF encInt 1 w' w.heap.size w'.heap.size v2 hol ∧ RdF encInt 1 w' w.heap.size w'.heap.size p0 c.done ∧ RdF encBool 1 w' w.heap.size w'.heap.size p1 c.ext ∧ Below w.heap.size w w' := by
  have kR : Blk (w.alloc (.cells #[.int .i64 0, .slice none 0 0, .slice none 0 0] 28)) w.heap.size 28 #[.int .i64 0, .slice none 0 0, .slice none 0 0] := Blk.newAt rfl
  have BB : Below w.heap.size w (w.alloc (.cells #[.int .i64 0, .slice none 0 0, .slice none 0 0] 28)) := (Below.refl _ _).alloc (Nat.le_refl _) _
  have zW : w.heap.size < (w.alloc (.cells #[.int .i64 0, .slice none 0 0, .slice none 0 0] 28)).heap.size := by simp
  replace h := h.below BB hh
  go_enter Try.func14, Try.ntmps14
  go_wp2_with fail
  generalize (w.alloc (.cells #[.int .i64 0, .slice none 0 0, .slice none 0 0] 28)) = W0 at *
  refine (l01From_any _ bs lo hi _ h (by omega) hm hb).mono ?_
  rintro e wF ⟨q, rfl, hq, s, bF⟩
  have zF := bF.size
  replace kR := kR.below bF (by omega)
  replace BB := Below.step bF (by omega) BB
  have hsq := s.lt
  clear bF h
  go_wp2_with fail
  refine (l20Draw_any q _ s).mono ?_
  rintro e wL ⟨v1, rules, v2, hol, c, p0, p1, rfl, hn3, hrb, hh60, hcd, hce, hs0, hs1, h1, h2, h3, h4, s', cL⟩
  have zL := cL.size
  replace kR := kR.chg cL (by omega) (.inl (by omega))
  replace BB := BB.trans (cL.below (by omega) (by omega))
  have HR := Lib.hid hrb
  clear hrb cL s
  have s := s'
  clear s'
  obtain ⟨A1, C1, rfl, hC1⟩ := h1.form
  obtain ⟨A2, C2, rfl, hC2⟩ := h2.form
  obtain ⟨A3, C3, rfl, hC3⟩ := h3.form
  obtain ⟨A4, C4, rfl, hC4⟩ := h4.form
  have hsr : ∀ x ∈ rules, Stage.small x := fun x hx => by
    have := HR.out x hx
    unfold Stage.small
    omega
  have hsc : Custody.small c := ⟨by omega, by omega⟩
  go_wp2_with fail
  have bC : Below wL.heap.size wL (wL.alloc (.cells #[.int .i64 c.start, .slice A3 c.done.length C3, .slice A4 c.ext.length C4] 28)) := (Below.refl _ _).alloc (Nat.le_refl _) _
  have zC0 : wL.heap.size < (wL.alloc (.cells #[.int .i64 c.start, .slice A3 c.done.length C3, .slice A4 c.ext.length C4] 28)).heap.size := by simp
  have kC : Blk (wL.alloc (.cells #[.int .i64 c.start, .slice A3 c.done.length C3, .slice A4 c.ext.length C4] 28)) wL.heap.size 28 #[.int .i64 c.start, .slice A3 c.done.length C3, .slice A4 c.ext.length C4] := Blk.newAt rfl
  replace kR := kR.below bC (by omega)
  replace BB := Below.step bC (by omega) BB
  replace s := s.below bC s.lt
  replace h1 := h1.below bC (by omega)
  replace h2 := h2.below bC (by omega)
  replace h3 := h3.below bC (by omega)
  replace h4 := h4.below bC (by omega)
  generalize (wL.alloc (.cells #[.int .i64 c.start, .slice A3 c.done.length C3, .slice A4 c.ext.length C4] 28)) = wC at *
  clear bC
  generalize wL.heap.size = gC at *
  refine (sLimitOf_any _ rules _ _ _ hol _ _ c _ _ _ _ _ h1 (by omega) (by omega) hsr h2 (by omega) (by omega) h3 h4 (by omega) hsc).mono ?_
  rintro e wM ⟨rfl, bM⟩
  have zM := bM.size
  have hsq2 := s.lt
  replace kR := kR.below bM (by omega)
  replace kC := kC.below bM (by omega)
  replace BB := Below.step bM (by omega) BB
  replace s := s.below bM s.lt
  replace h1 := h1.below bM (by omega)
  replace h2 := h2.below bM (by omega)
  replace h3 := h3.below bM (by omega)
  replace h4 := h4.below bM (by omega)
  clear bM
  generalize (limitOf rules hol c).1 = lim at *
  by_cases hbad : (limitOf rules hol c).2 = 0
  · rw [hbad]
    go_wp2_with fail
    refine (l01Next_any q 6 _ s (by omega)).mono ?_
    rintro e wN ⟨rN, rfl, aN, aN', s', cN⟩
    have zN := cN.size
    replace kR := kR.chg cN kR.lt (.inl (by omega))
    replace kC := kC.chg cN kC.lt (.inr (by omega))
    replace BB := BB.trans (cN.below (by omega) (by omega))
    replace h1 := h1.chg cN (by omega) (by omega)
    replace h2 := h2.chg cN (by omega) (by omega)
    replace h3 := h3.chg cN (by omega) (by omega)
    replace h4 := h4.chg cN (by omega) (by omega)
    clear cN s
    have s := s'
    clear s'
    have hsq3 := s.lt
    by_cases hN : rN = 0
    · subst hN
      have zC := kC.lt
      have zR := kR.lt
      have nC : gC ≠ w.heap.size := by omega
      have nR := nC.symm
      obtain ⟨q0, q1, q2⟩ := kC.c3
      go_wp2_with fail
      go_region_held3 (fun w' => w'.cell? ⟨gC, 0, none⟩ = some (.int .i64 c.start) ∧ w'.cell? ⟨gC, 1, none⟩ = some (.slice A3 c.done.length C3) ∧ w'.cell? ⟨gC, 2, none⟩ = some (.slice A4 c.ext.length C4)) (go_keep)
        (first
          | (go_at_call 39; refine (l02Day_any q _ (s.below (B := wN.heap.size) (by (repeat (first | with_reducible assumption | with_reducible exact Below.refl _ _ | with_reducible refine Below.setCell ?_ ?_ _ | with_reducible refine Below.alloc ?_ ?_ _ | with_reducible refine Below.drew ?_ | with_reducible refine below_drewN ?_ _ | with_reducible refine Below.step (by with_reducible assumption) ?_ ?_ | omega | (simp <;> omega) | (simp; done)))) s.lt)).mono ?_; rintro e wA ⟨rA, rfl, aA, aA', sA, cA⟩; have DD : Chg q (q + 1) wN wA := Chg.trans (by repeat (first | exact Chg.refl _ _ _ | refine Chg.drew ?_ | refine Chg.allocd ?_ _)) cA; have zD := DD.size; have kCx := kC.chgAt' DD (by omega); obtain ⟨t0, t1, t2⟩ := kCx.c3; have kRx := Blk.chg kR DD kR.lt (.inl (by omega)); obtain ⟨e0, e1, e2⟩ := kRx.c3; have fe0 := kRx.frozen 0; have fe1 := kRx.frozen 1; have fe2 := kRx.frozen 2; have zx := kRx.lt; have zy := kCx.lt))
      all_goals (
        try go_wp2_with fail
        replace h1 := h1.chg DD (by omega) (by omega)
        replace h2 := h2.chg DD (by omega) (by omega)
        replace h3 := h3.chg DD (by omega) (by omega)
        replace h4 := h4.chg DD (by omega) (by omega)
        have dS := (((Chg.refl w.heap.size (w.heap.size + 1) wA).setCell (p := ⟨w.heap.size, 0, none⟩) (Nat.le_refl _) (Nat.lt_succ_self _) (.int .i64 c.start)).setCell (p := ⟨w.heap.size, 1, none⟩) (Nat.le_refl _) (Nat.lt_succ_self _) (.slice A3 c.done.length C3)).setCell (p := ⟨w.heap.size, 2, none⟩) (Nat.le_refl _) (Nat.lt_succ_self _) (.slice A4 c.ext.length C4)
        have zS := dS.size
        have g1 := (h1.chg dS (by omega) (.inr (by omega))).wide (lo' := w.heap.size) (by omega) (Nat.le_trans (by omega : _ ≤ wA.heap.size) zS)
        have g2 := (h2.chg dS (by omega) (.inr (by omega))).wide (lo' := w.heap.size) (by omega) (Nat.le_trans (by omega : _ ≤ wA.heap.size) zS)
        have g3 := (h3.chg dS (by omega) (.inr (by omega))).wide (lo' := w.heap.size) (by omega) (Nat.le_trans (by omega : _ ≤ wA.heap.size) zS)
        have g4 := (h4.chg dS (by omega) (.inr (by omega))).wide (lo' := w.heap.size) (by omega) (Nat.le_trans (by omega : _ ≤ wA.heap.size) zS)
        refine bodyPost_ret (v := .tuple #[.slice A1 rules.length C1, .slice A2 hol.length C2, .agg #[.int .i64 c.start, .slice A3 c.done.length C3, .slice A4 c.ext.length C4], .int .i64 rA]) (by simp [results, Try.results14, go_sem, *]) rfl ?_
        exact ⟨_, rules, _, hol, c, _, _, rA, rfl, hn3, HR.out, hh60, hcd, hce, hs0, hs1, g1, g2, g3, g4, (BB.trans (DD.below (by omega) (by omega))).trans (dS.below (Nat.le_refl _) (by omega))⟩)
    · have hgN : (0 : Int) < rN := by omega
      obtain ⟨x1, hx1⟩ : ∃ x1, IntKind.i64.wrap (lim + 1) = x1 := ⟨_, rfl⟩
      have hx3 : IntKind.i64.wrap (c.start - 1) = c.start - 1 := by simp [IntKind.wrap, IntKind.bits, IntKind.signed]; omega
      have zC := kC.lt
      have zR := kR.lt
      have nC : gC ≠ w.heap.size := by omega
      have nR := nC.symm
      obtain ⟨q0, q1, q2⟩ := kC.c3
      go_wp2_with fail
      go_region_held3 (fun w' => w'.cell? ⟨gC, 0, none⟩ = some (.int .i64 c.start) ∧ w'.cell? ⟨gC, 1, none⟩ = some (.slice A3 c.done.length C3) ∧ w'.cell? ⟨gC, 2, none⟩ = some (.slice A4 c.ext.length C4)) (go_keep)
        (first
          | (go_at_call 37; refine (l01Next_any q 5 _ (s.below (B := wN.heap.size) (by (repeat (first | with_reducible assumption | with_reducible exact Below.refl _ _ | with_reducible refine Below.setCell ?_ ?_ _ | with_reducible refine Below.alloc ?_ ?_ _ | with_reducible refine Below.drew ?_ | with_reducible refine below_drewN ?_ _ | with_reducible refine Below.step (by with_reducible assumption) ?_ ?_ | omega | (simp <;> omega) | (simp; done)))) s.lt) (by omega)).mono ?_; rintro e wA ⟨rA, rfl, aA, aA', sA, cA⟩; have DD : Chg q (q + 1) wN wA := Chg.trans (by repeat (first | exact Chg.refl _ _ _ | refine Chg.drew ?_ | refine Chg.allocd ?_ _)) cA; have zD := DD.size; have kCx := kC.chgAt' DD (by omega); obtain ⟨t0, t1, t2⟩ := kCx.c3; have kRx := Blk.chg kR DD kR.lt (.inl (by omega)); obtain ⟨e0, e1, e2⟩ := kRx.c3; have fe0 := kRx.frozen 0; have fe1 := kRx.frozen 1; have fe2 := kRx.frozen 2; have zx := kRx.lt; have zy := kCx.lt; have DA := DD; have hsA := sA.lt; obtain ⟨x2, hx2⟩ : ∃ x2, IntKind.i64.wrap (lim - rA) = x2 := ⟨_, rfl⟩)
          | (go_at_call 38; refine (l01Pick_any q _ [lim, x1, x2, c.start, c.start - 1] _ _ _ (sA.alloc _) (rdInts (w := wA) (n := wA.heap.size) [lim, x1, x2, c.start, c.start - 1] (cs := #[.int .i64 lim, .int .i64 x1, .int .i64 x2, .int .i64 c.start, .int .i64 (c.start - 1)]) rfl rfl) (by simp) (.inr (by omega)) (by simp) (by simp)).mono ?_; rintro e wB ⟨rB, rfl, hpB, sB, cB⟩; clear DD zD kCx t0 t1 t2 kRx e0 e1 e2 fe0 fe1 fe2 zx zy; have DD : Chg q (q + 1) wN wB := DA.trans (((Chg.refl _ _ _).allocd _).trans cB); have zD := DD.size; have kCx := kC.chgAt' DD (by omega); obtain ⟨t0, t1, t2⟩ := kCx.c3; have kRx := Blk.chg kR DD kR.lt (.inl (by omega)); obtain ⟨e0, e1, e2⟩ := kRx.c3; have fe0 := kRx.frozen 0; have fe1 := kRx.frozen 1; have fe2 := kRx.frozen 2; have zx := kRx.lt; have zy := kCx.lt))
      all_goals (
        try go_wp2_with fail
        replace h1 := h1.chg DD (by omega) (by omega)
        replace h2 := h2.chg DD (by omega) (by omega)
        replace h3 := h3.chg DD (by omega) (by omega)
        replace h4 := h4.chg DD (by omega) (by omega)
        have dS := (((Chg.refl w.heap.size (w.heap.size + 1) wB).setCell (p := ⟨w.heap.size, 0, none⟩) (Nat.le_refl _) (Nat.lt_succ_self _) (.int .i64 c.start)).setCell (p := ⟨w.heap.size, 1, none⟩) (Nat.le_refl _) (Nat.lt_succ_self _) (.slice A3 c.done.length C3)).setCell (p := ⟨w.heap.size, 2, none⟩) (Nat.le_refl _) (Nat.lt_succ_self _) (.slice A4 c.ext.length C4)
        have zS := dS.size
        have g1 := (h1.chg dS (by omega) (.inr (by omega))).wide (lo' := w.heap.size) (by omega) (Nat.le_trans (by omega : _ ≤ wB.heap.size) zS)
        have g2 := (h2.chg dS (by omega) (.inr (by omega))).wide (lo' := w.heap.size) (by omega) (Nat.le_trans (by omega : _ ≤ wB.heap.size) zS)
        have g3 := (h3.chg dS (by omega) (.inr (by omega))).wide (lo' := w.heap.size) (by omega) (Nat.le_trans (by omega : _ ≤ wB.heap.size) zS)
        have g4 := (h4.chg dS (by omega) (.inr (by omega))).wide (lo' := w.heap.size) (by omega) (Nat.le_trans (by omega : _ ≤ wB.heap.size) zS)
        refine bodyPost_ret (v := .tuple #[.slice A1 rules.length C1, .slice A2 hol.length C2, .agg #[.int .i64 c.start, .slice A3 c.done.length C3, .slice A4 c.ext.length C4], .int .i64 rB]) (by simp [results, Try.results14, go_sem, *]) rfl ?_
        exact ⟨_, rules, _, hol, c, _, _, rB, rfl, hn3, HR.out, hh60, hcd, hce, hs0, hs1, g1, g2, g3, g4, (BB.trans (DD.below (by omega) (by omega))).trans (dS.below (Nat.le_refl _) (by omega))⟩)
  · have hb0 : ((limitOf rules hol c).2 == 0) = false := by simpa using hbad
    generalize (limitOf rules hol c).2 = bad at *
    have zC := kC.lt
    have zR := kR.lt
    have nC : gC ≠ w.heap.size := by omega
    have nR := nC.symm
    obtain ⟨q0, q1, q2⟩ := kC.c3
    go_wp2_with fail
    go_region_held3 (fun w' => w'.cell? ⟨gC, 0, none⟩ = some (.int .i64 c.start) ∧ w'.cell? ⟨gC, 1, none⟩ = some (.slice A3 c.done.length C3) ∧ w'.cell? ⟨gC, 2, none⟩ = some (.slice A4 c.ext.length C4)) (go_keep)
      (first
        | (go_at_call 39; refine (l02Day_any q _ (s.below (B := wM.heap.size) (by (repeat (first | with_reducible assumption | with_reducible exact Below.refl _ _ | with_reducible refine Below.setCell ?_ ?_ _ | with_reducible refine Below.alloc ?_ ?_ _ | with_reducible refine Below.drew ?_ | with_reducible refine below_drewN ?_ _ | with_reducible refine Below.step (by with_reducible assumption) ?_ ?_ | omega | (simp <;> omega) | (simp; done)))) s.lt)).mono ?_; rintro e wA ⟨rA, rfl, aA, aA', sA, cA⟩; have DD : Chg q (q + 1) wM wA := Chg.trans (by repeat (first | exact Chg.refl _ _ _ | refine Chg.drew ?_ | refine Chg.allocd ?_ _)) cA; have zD := DD.size; have kCx := kC.chgAt' DD (by omega); obtain ⟨t0, t1, t2⟩ := kCx.c3; have kRx := Blk.chg kR DD kR.lt (.inl (by omega)); obtain ⟨e0, e1, e2⟩ := kRx.c3; have fe0 := kRx.frozen 0; have fe1 := kRx.frozen 1; have fe2 := kRx.frozen 2; have zx := kRx.lt; have zy := kCx.lt))
    all_goals (
      try go_wp2_with fail
      replace h1 := h1.chg DD (by omega) (by omega)
      replace h2 := h2.chg DD (by omega) (by omega)
      replace h3 := h3.chg DD (by omega) (by omega)
      replace h4 := h4.chg DD (by omega) (by omega)
      have dS := (((Chg.refl w.heap.size (w.heap.size + 1) wA).setCell (p := ⟨w.heap.size, 0, none⟩) (Nat.le_refl _) (Nat.lt_succ_self _) (.int .i64 c.start)).setCell (p := ⟨w.heap.size, 1, none⟩) (Nat.le_refl _) (Nat.lt_succ_self _) (.slice A3 c.done.length C3)).setCell (p := ⟨w.heap.size, 2, none⟩) (Nat.le_refl _) (Nat.lt_succ_self _) (.slice A4 c.ext.length C4)
      have zS := dS.size
      have g1 := (h1.chg dS (by omega) (.inr (by omega))).wide (lo' := w.heap.size) (by omega) (Nat.le_trans (by omega : _ ≤ wA.heap.size) zS)
      have g2 := (h2.chg dS (by omega) (.inr (by omega))).wide (lo' := w.heap.size) (by omega) (Nat.le_trans (by omega : _ ≤ wA.heap.size) zS)
      have g3 := (h3.chg dS (by omega) (.inr (by omega))).wide (lo' := w.heap.size) (by omega) (Nat.le_trans (by omega : _ ≤ wA.heap.size) zS)
      have g4 := (h4.chg dS (by omega) (.inr (by omega))).wide (lo' := w.heap.size) (by omega) (Nat.le_trans (by omega : _ ≤ wA.heap.size) zS)
      refine bodyPost_ret (v := .tuple #[.slice A1 rules.length C1, .slice A2 hol.length C2, .agg #[.int .i64 c.start, .slice A3 c.done.length C3, .slice A4 c.ext.length C4], .int .i64 rA]) (by simp [results, Try.results14, go_sem, *]) rfl ?_
      exact ⟨_, rules, _, hol, c, _, _, rA, rfl, hn3, HR.out, hh60, hcd, hce, hs0, hs1, g1, g2, g3, g4, (BB.trans (DD.below (by omega) (by omega))).trans (dS.below (Nat.le_refl _) (by omega))⟩)
set_option maxRecDepth 100000 in
set_option maxHeartbeats 8000000 in
theorem drawDays_any (v : Value) (bs : List Int) (lo hi : Nat) (w : World) (h : RdF encByte 1 w lo hi v bs) (hh : hi ≤ w.heap.size) (hm : bs.length ≤ 4096) (hb : ∀ x ∈ bs, 0 ≤ x ∧ x ≤ 255) :
    Calls Try.prog 6 #[v] w fun e w' => ∃ (v1 : Value) (rules : List Stage) (v2 : Value) (hol : List Int) (c : Custody) (p0 p1 : Value) (day : Int), e = .returned (.tuple #[v1, v2, .agg #[.int .i64 c.start, p0, p1], .int .i64 day]) ∧ rules.length ≤ 3 ∧ (∀ x ∈ rules, x.name.size ≤ 64 ∧ -1 ≤ x.days ∧ x.days ≤ 500) ∧ hol.length ≤ 60 ∧ c.done.length ≤ 4 ∧ c.ext.length ≤ 4 ∧ -1 ≤ c.start ∧ c.start ≤ 20001 ∧ RdF Stage.enc 3 w' w.heap.size w'.heap.size v1 rules ∧ RdF encInt 1 w' w.heap.size w'.heap.size v2 hol ∧ RdF encInt 1 w' w.heap.size w'.heap.size p0 c.done ∧ RdF encBool 1 w' w.heap.size w'.heap.size p1 c.ext ∧ Below w.heap.size w w' := by
  have kR : Blk (w.alloc (.cells #[.int .i64 0, .slice none 0 0, .slice none 0 0] 28)) w.heap.size 28 #[.int .i64 0, .slice none 0 0, .slice none 0 0] := Blk.newAt rfl
  have BB : Below w.heap.size w (w.alloc (.cells #[.int .i64 0, .slice none 0 0, .slice none 0 0] 28)) := (Below.refl _ _).alloc (Nat.le_refl _) _
  have zW : w.heap.size < (w.alloc (.cells #[.int .i64 0, .slice none 0 0, .slice none 0 0] 28)).heap.size := by simp
  replace h := h.below BB hh
  go_enter Try.func6, Try.ntmps6
  go_wp2_with fail
  generalize (w.alloc (.cells #[.int .i64 0, .slice none 0 0, .slice none 0 0] 28)) = W0 at *
  refine (drawReach_any _ bs lo hi _ h (by omega) hm hb).mono ?_
  rintro e wL ⟨v1, rules, v2, hol, c, p0, p1, day, rfl, hn3, hrb, hh60, hcd, hce, hs0, hs1, h1, h2, h3, h4, bL⟩
  have zL := bL.size
  replace kR := kR.below bL (by omega)
  replace BB := Below.step bL (by omega) BB
  have HR := Lib.hid hrb
  clear hrb bL h
  obtain ⟨A1, C1, rfl, hC1⟩ := h1.form
  obtain ⟨A2, C2, rfl, hC2⟩ := h2.form
  obtain ⟨A3, C3, rfl, hC3⟩ := h3.form
  obtain ⟨A4, C4, rfl, hC4⟩ := h4.form
  obtain ⟨e0, e1, e2⟩ := kR.c3
  have fe0 := kR.frozen 0
  have fe1 := kR.frozen 1
  have fe2 := kR.frozen 2
  have zR := kR.lt
  go_wp2_with fail
  have dS := (((Chg.refl w.heap.size (w.heap.size + 1) wL).setCell (p := ⟨w.heap.size, 0, none⟩) (Nat.le_refl _) (Nat.lt_succ_self _) (.int .i64 c.start)).setCell (p := ⟨w.heap.size, 1, none⟩) (Nat.le_refl _) (Nat.lt_succ_self _) (.slice A3 c.done.length C3)).setCell (p := ⟨w.heap.size, 2, none⟩) (Nat.le_refl _) (Nat.lt_succ_self _) (.slice A4 c.ext.length C4)
  have zS := dS.size
  have g1 := (h1.chg dS (by omega) (.inr (by omega))).wide (lo' := w.heap.size) (by omega) (Nat.le_trans (by omega : _ ≤ wL.heap.size) zS)
  have g2 := (h2.chg dS (by omega) (.inr (by omega))).wide (lo' := w.heap.size) (by omega) (Nat.le_trans (by omega : _ ≤ wL.heap.size) zS)
  have g3 := (h3.chg dS (by omega) (.inr (by omega))).wide (lo' := w.heap.size) (by omega) (Nat.le_trans (by omega : _ ≤ wL.heap.size) zS)
  have g4 := (h4.chg dS (by omega) (.inr (by omega))).wide (lo' := w.heap.size) (by omega) (Nat.le_trans (by omega : _ ≤ wL.heap.size) zS)
  refine bodyPost_ret (v := .tuple #[.slice A1 rules.length C1, .slice A2 hol.length C2, .agg #[.int .i64 c.start, .slice A3 c.done.length C3, .slice A4 c.ext.length C4], .int .i64 day]) (by simp [results, Try.results6, go_sem, *]) rfl ?_
  exact ⟨_, rules, _, hol, c, _, _, day, rfl, hn3, HR.out, hh60, hcd, hce, hs0, hs1, g1, g2, g3, g4, BB.trans (dS.below (Nat.le_refl _) (by omega))⟩
end Go.Proofs.Ytfafcicbfgdmcaa
