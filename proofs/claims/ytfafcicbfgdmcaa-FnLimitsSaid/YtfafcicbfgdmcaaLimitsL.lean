/- Days that are left lead to the limit, and the latest end is reached from limit to limit: returns true for all arguments. No conditions. -/
import Derived.Test.YtfafcicbfgdmcaaCustL
import Derived.Test.YtfafcicbfgdmcaaDrawCv
import Derived.Test.YtfafcicbfgdmcaaLike
import Derived.Test.YtfafcicbfgdmcaaOpenB
import Derived.Test.YtfafcicbfgdmcaaReachX
import Derived.Test.YtfafcicbfgdmcaaCustodyX
namespace Go.Proofs.Ytfafcicbfgdmcaa.limitsL
open Go.ChangeShapes Go.WideShapes Go.ChangeAt Go.RowKit
open Go.ChangeMaps (open_string shut_string)
set_option linter.unusedVariables false

theorem own : ownKnob Try.prog.godebug = none := by kernel_rfl
theorem laidOut : laidOutB Try.prog = true := by kernel_rfl

def lenAt (w : World) (g : Nat) : Nat := match w.cell? ⟨g, 1, none⟩ with
  | some v => sliceLen v
  | none => 0
theorem lenAt_eq {w : World} {g n c : Nat} {A : Option Addr} (h : w.cell? ⟨g, 1, none⟩ = some (.slice A n c)) : lenAt w g = n := by
  unfold lenAt
  rw [h]
  rfl
theorem limit_in {rules : List Stage} {hol : List Int} {c : Custody} (h : (limitOf rules hol c).2 = 0) : 0 ≤ (limitOf rules hol c).1 ∧ (limitOf rules hol c).1 ≤ 30000 := by
  unfold limitOf at h ⊢
  split at h
  · next hc =>
    rw [if_pos hc]
    obtain ⟨h1, h2, h3, h4⟩ := stageCode_ok hc
    have a := limitAt_bd (hol := hol) (day := c.befAt c.done.length) h2 h4
    have b := befAt_bd h2 c.done.length (Nat.le_refl _)
    have e : nextLimit rules hol c = limitAt rules hol c c.done.length (c.befAt c.done.length) := rfl
    simp only
    omega
  · next hc => rw [if_neg hc]; simp only at h; exact absurd h hc

set_option maxRecDepth 100000 in
set_option maxHeartbeats 40000000 in
theorem walk (v0 : Value) (code : List Int) (w : World) (hx0 : RdF encByte 1 w 0 w.heap.size v0 code) (hl0 : code.length ≤ maxLen) (hq0 : ∀ x ∈ code, 0 ≤ x ∧ x ≤ 255) :
    Calls Try.prog 3 #[v0] w fun e w' => e = .returned (.bool true) ∧ Below w.heap.size w w' := by
  try unfold maxLen at *
  obtain ⟨A0, C0, rfl, hc0⟩ := hx0.form
  by_cases hbig : (4096 : Int) < (code.length : Int)
  · go_enter Try.func3, Try.ntmps3
    go_wp2_with fail
    refine (big_any A0 C0 code.length _).mono ?_
    rintro e w1 ⟨rfl, b1⟩
    rw [decide_eq_true hbig]
    go_wp2_with fail
    go_ret
    exact ⟨rfl, b1⟩
  go_enter Try.func3, Try.ntmps3
  have BB : Below w.heap.size w w := Below.refl _ _
  go_wp2_with fail
  refine (big_any A0 C0 code.length _).mono ?_
  rintro e w1 ⟨rfl, b1⟩
  have zb1 := b1.size
  replace hx0 := hx0.below b1 (by omega)
  replace BB := Below.step b1 (by omega) BB
  clear b1
  rw [decide_eq_false (show ¬ (4096 : Int) < (code.length : Int) by omega)]
  go_wp2_with fail
  refine (drawDays_any _ code _ _ _ hx0 (by omega) (by omega) hq0).mono ?_
  rintro e w2 ⟨v1, rules, v2, hol, c, p0, p1, day, rfl, hn3, hrb, hh60, hcd, hce, hst, hst', h1, h2, h3, h4, b2⟩
  have zb2 := b2.size
  replace hx0 := hx0.below b2 (by omega)
  replace BB := Below.step b2 (by omega) BB
  clear b2
  obtain ⟨A1, C1, rfl, hC1⟩ := h1.form
  obtain ⟨A2, C2, rfl, hC2⟩ := h2.form
  obtain ⟨A3, C3, rfl, hC3⟩ := h3.form
  obtain ⟨A4, C4, rfl, hC4⟩ := h4.form
  have hsr : ∀ x ∈ rules, Stage.small x := fun x hx => by
    have := hrb x hx
    unfold Stage.small
    omega
  clear hrb
  have hsc : Custody.small c := ⟨by omega, by omega⟩
  go_wp2_with fail
  have bA : Below w2.heap.size w2 (w2.alloc (.cells #[.int .i64 c.start, .slice A3 c.done.length C3, .slice A4 c.ext.length C4] 28)) := (Below.refl _ _).alloc (Nat.le_refl _) _
  have zzA : (w2.alloc (.cells #[.int .i64 c.start, .slice A3 c.done.length C3, .slice A4 c.ext.length C4] 28)).heap.size = w2.heap.size + 1 := by simp
  have kc : Blk (w2.alloc (.cells #[.int .i64 c.start, .slice A3 c.done.length C3, .slice A4 c.ext.length C4] 28)) (w2.heap.size) 28 #[.int .i64 c.start, .slice A3 c.done.length C3, .slice A4 c.ext.length C4] := Blk.newAt rfl
  have zbA := bA.size
  replace hx0 := hx0.below bA (by omega)
  replace h1 := h1.below bA (by omega)
  replace h2 := h2.below bA (by omega)
  replace h3 := h3.below bA (by omega)
  replace h4 := h4.below bA (by omega)
  replace BB := Below.step bA (by omega) BB
  clear bA
  generalize (w2.alloc (.cells #[.int .i64 c.start, .slice A3 c.done.length C3, .slice A4 c.ext.length C4] 28)) = wA at *
  refine (daysLeft_any _ rules _ _ _ hol _ _ c (.slice A3 c.done.length C3) (.slice A4 c.ext.length C4) _ _ day _ h1 (by omega) (by omega) hsr h2 (by omega) (by omega) h3 h4 (by omega) hsc).mono ?_
  rintro e w3 ⟨rfl, b3⟩
  have zb3 := b3.size
  replace hx0 := hx0.below b3 (by omega)
  replace h1 := h1.below b3 (by omega)
  replace h2 := h2.below b3 (by omega)
  replace h3 := h3.below b3 (by omega)
  replace h4 := h4.below b3 (by omega)
  replace kc := kc.below b3 (by omega)
  replace BB := Below.step b3 (by omega) BB
  clear b3
  obtain ⟨q0, q1, q2⟩ := kc.c3
  go_wp2_with fail
  refine (sDaysLeft_any _ rules _ _ _ hol _ _ c (.slice A3 c.done.length C3) (.slice A4 c.ext.length C4) _ _ day _ h1 (by omega) (by omega) hsr h2 (by omega) (by omega) h3 h4 (by omega) hsc).mono ?_
  rintro e w4 ⟨rfl, b4⟩
  have zb4 := b4.size
  replace hx0 := hx0.below b4 (by omega)
  replace h1 := h1.below b4 (by omega)
  replace h2 := h2.below b4 (by omega)
  replace h3 := h3.below b4 (by omega)
  replace h4 := h4.below b4 (by omega)
  replace kc := kc.below b4 (by omega)
  replace BB := Below.step b4 (by omega) BB
  clear b4
  clear q0 q1 q2
  go_wp2_with fail
  refine (drawLatest_any _ code _ _ _ hx0 (by omega) (by omega) hq0).mono ?_
  rintro e w5 ⟨v1, rules', v2, hol', c', p0, p1, rfl, hn3', hrb', hh60', hcd', hce', hst', hst'', h1', h2', h3', h4', b5⟩
  have zb5 := b5.size
  replace hx0 := hx0.below b5 (by omega)
  replace h1 := h1.below b5 (by omega)
  replace h2 := h2.below b5 (by omega)
  replace h3 := h3.below b5 (by omega)
  replace h4 := h4.below b5 (by omega)
  replace kc := kc.below b5 (by omega)
  replace BB := Below.step b5 (by omega) BB
  clear b5
  obtain ⟨A1', C1', rfl, hC1'⟩ := h1'.form
  obtain ⟨A2', C2', rfl, hC2'⟩ := h2'.form
  obtain ⟨A3', C3', rfl, hC3'⟩ := h3'.form
  obtain ⟨A4', C4', rfl, hC4'⟩ := h4'.form
  have hsr' : ∀ x ∈ rules', Stage.small x := fun x hx => by
    have := hrb' x hx
    unfold Stage.small
    omega
  clear hrb'
  have hsc' : Custody.small c' := ⟨by omega, by omega⟩
  clear hx0
  go_wp2_with fail
  have bB : Below w5.heap.size w5 (w5.alloc (.cells #[.int .i64 c'.start, .slice A3' c'.done.length C3', .slice A4' c'.ext.length C4'] 28)) := (Below.refl _ _).alloc (Nat.le_refl _) _
  have zzB : (w5.alloc (.cells #[.int .i64 c'.start, .slice A3' c'.done.length C3', .slice A4' c'.ext.length C4'] 28)).heap.size = w5.heap.size + 1 := by simp
  have kz : Blk (w5.alloc (.cells #[.int .i64 c'.start, .slice A3' c'.done.length C3', .slice A4' c'.ext.length C4'] 28)) (w5.heap.size) 28 #[.int .i64 c'.start, .slice A3' c'.done.length C3', .slice A4' c'.ext.length C4'] := Blk.newAt rfl
  have zbB := bB.size
  replace h1 := h1.below bB (by omega)
  replace h2 := h2.below bB (by omega)
  replace h3 := h3.below bB (by omega)
  replace h4 := h4.below bB (by omega)
  replace kc := kc.below bB (by omega)
  replace h1' := h1'.below bB (by omega)
  replace h2' := h2'.below bB (by omega)
  replace h3' := h3'.below bB (by omega)
  replace h4' := h4'.below bB (by omega)
  replace BB := Below.step bB (by omega) BB
  clear bB
  generalize (w5.alloc (.cells #[.int .i64 c'.start, .slice A3' c'.done.length C3', .slice A4' c'.ext.length C4'] 28)) = wB at *
  refine (latestEnd_any _ rules' _ _ _ hol' _ _ c' (.slice A3' c'.done.length C3') (.slice A4' c'.ext.length C4') _ _ _ h1' (by omega) (by omega) hsr' h2' (by omega) (by omega) h3' h4' (by omega) hsc').mono ?_
  rintro e w6 ⟨rfl, b6⟩
  have zb6 := b6.size
  replace h1 := h1.below b6 (by omega)
  replace h2 := h2.below b6 (by omega)
  replace h3 := h3.below b6 (by omega)
  replace h4 := h4.below b6 (by omega)
  replace kc := kc.below b6 (by omega)
  replace h1' := h1'.below b6 (by omega)
  replace h2' := h2'.below b6 (by omega)
  replace h3' := h3'.below b6 (by omega)
  replace h4' := h4'.below b6 (by omega)
  replace kz := kz.below b6 (by omega)
  replace BB := Below.step b6 (by omega) BB
  clear b6
  obtain ⟨q0, q1, q2⟩ := kz.c3
  go_wp2_with fail
  refine (sLatestEnd_any _ rules' _ _ _ hol' _ _ c' (.slice A3' c'.done.length C3') (.slice A4' c'.ext.length C4') _ _ _ h1' (by omega) (by omega) hsr' h2' (by omega) (by omega) h3' h4' (by omega) hsc').mono ?_
  rintro e w7 ⟨rfl, b7⟩
  have zb7 := b7.size
  replace h1 := h1.below b7 (by omega)
  replace h2 := h2.below b7 (by omega)
  replace h3 := h3.below b7 (by omega)
  replace h4 := h4.below b7 (by omega)
  replace kc := kc.below b7 (by omega)
  replace h1' := h1'.below b7 (by omega)
  replace h2' := h2'.below b7 (by omega)
  replace h3' := h3'.below b7 (by omega)
  replace h4' := h4'.below b7 (by omega)
  replace kz := kz.below b7 (by omega)
  replace BB := Below.step b7 (by omega) BB
  clear b7
  clear q0 q1 q2
  have HDL := Lib.hid (@daysLeft_law rules hol c day)
  have HLE := Lib.hid (@latestEnd_law rules' hol' c')
  by_cases h1z : (latestEnd rules' hol' c').2 = 0
  · obtain ⟨hho, hok0, hlt0, hle⟩ := HLE.out h1z
    have HO := Lib.hid hho
    have HLE2 := Lib.hid hle
    rw [h1z]
    clear HLE h1z hho hle
    have hn0 : 0 < rules'.length - c'.done.length := by omega
    obtain ⟨q0, q1, q2⟩ := kz.c3
    go_wp2_with fail
    clear q0 q1 q2
    have kK0 : Blk (w7.alloc (.cells #[.int .i64 c'.start, .slice A3' c'.done.length C3', .slice A4' c'.ext.length C4'] 28)) w7.heap.size 28 #[.int .i64 c'.start, .slice A3' c'.done.length C3', .slice A4' c'.ext.length C4'] := Blk.newAt rfl
    have bK0 : Below w7.heap.size w7 (w7.alloc (.cells #[.int .i64 c'.start, .slice A3' c'.done.length C3', .slice A4' c'.ext.length C4'] 28)) := (Below.refl _ _).alloc (Nat.le_refl _) _
    have zK0 : w7.heap.size < (w7.alloc (.cells #[.int .i64 c'.start, .slice A3' c'.done.length C3', .slice A4' c'.ext.length C4'] 28)).heap.size := by simp
    generalize (w7.alloc (.cells #[.int .i64 c'.start, .slice A3' c'.done.length C3', .slice A4' c'.ext.length C4'] 28)) = wK at *
    go_loopw [19] (fun l wr => ∃ (j : Nat) (lv : Int) (p0 p1 : Value) (lo hi : Nat), j ≤ (rules'.length - c'.done.length) ∧ l = .int .i64 lv ∧ Hid (lv = if j = 0 then -1 else latTo rules' hol' c' j) ∧ Hid ((latC rules' hol' c' j).ok rules' = true) ∧ RdF encInt 1 wr lo hi p0 (latC rules' hol' c' j).done ∧ RdF encBool 1 wr lo hi p1 (latC rules' hol' c' j).ext ∧ hi ≤ wr.heap.size ∧ (hi ≤ w7.heap.size ∨ w7.heap.size < lo) ∧ Blk wr w7.heap.size 28 #[.int .i64 (latC rules' hol' c' j).start, p0, p1] ∧ Below w7.heap.size w7 wr) (fun _ wr => rules'.length - lenAt wr w7.heap.size)
    case atStart => exact ⟨0, -1, _, _, _, _, Nat.zero_le _, rfl, Lib.hid (by simp), Lib.hid (by rw [latC_zero]; exact hok0), by rw [latC_zero]; exact h3'.below bK0 (by omega), by rw [latC_zero]; exact h4'.below bK0 (by omega), by omega, .inl (by omega), by rw [latC_zero]; exact kK0, bK0⟩
    case round =>
      clear kK0 bK0 zK0
      obtain ⟨j, lv, p0, p1, lo, hi, hj, rfl, HV, HK, r0, r1, hhi, hdis, kK, bel⟩ := hrel
      have zb := bel.size
      have zk := kK.lt
      have hlen := latC_len rules' hol' c' j
      have hsm : Custody.small (latC rules' hol' c' j) := ⟨by omega, by show ((c'.ext.length : Nat) : Int) ≤ 1048576; omega⟩
      obtain ⟨B0, E0, rfl, -⟩ := r0.form
      obtain ⟨B1, E1, rfl, -⟩ := r1.form
      have hla := lenAt_eq (kK.cell 1)
      obtain ⟨k0, k1, k2⟩ := kK.c3
      by_cases hlt : j < (rules'.length - c'.done.length)
      · have hki : ((latC rules' hol' c' j).done.length : Int) < (rules'.length : Int) := by omega
        have HLT := Lib.hid (show c'.done.length + j < rules'.length by omega)
        have HLN := Lib.hid hlen
        clear hlen
        have m1 := h1'.below bel (by omega)
        have m2 := h2'.below bel (by omega)
        go_wp2_with fail
        refine (limitOf_any _ rules' _ _ _ hol' _ _ (latC rules' hol' c' j) _ _ _ _ _ m1 (by omega) (by omega) hsr' m2 (by omega) (by omega) r0 r1 (by omega) hsm).mono ?_
        rintro e wA ⟨rfl, bA⟩
        rw [latC_limit HO.out HK.out HLT.out]
        have zA := bA.size
        replace kK := kK.below bA (by omega)
        replace r0 := r0.below bA (by omega)
        replace r1 := r1.below bA (by omega)
        replace m1 := m1.below bA (by omega)
        replace m2 := m2.below bA (by omega)
        replace bel := Below.step bA (by omega) bel
        clear bA k0 k1 k2
        obtain ⟨k0, k1, k2⟩ := kK.c3
        go_wp2_with fail
        refine (impReachStage_any _ rules' _ _ _ hol' _ _ (latC rules' hol' c' j) _ _ _ _ (latTo rules' hol' c' (j + 1)) _ m1 (by omega) (by omega) hsr' m2 (by omega) (by omega) r0 r1 (by omega) hsm).mono ?_
        rintro e wB ⟨n0, n1, rfl, s0, s1, bB⟩
        have zB := bB.size
        obtain ⟨Y0, Z0, rfl, -⟩ := s0.form
        obtain ⟨Y1, Z1, rfl, -⟩ := s1.form
        replace kK := kK.below bB (by omega)
        replace bel := Below.step bB (by omega) bel
        clear k0 k1 k2 r0 r1 m1 m2 bB
        rcases latC_step HO.out HK.out HLT.out with hs | ⟨hs, hok2⟩
        · rw [hs]
          go_wp2_with fail
          go_ret
          exact ⟨rfl, by (repeat (first | with_reducible assumption | with_reducible exact Below.refl _ _ | with_reducible refine Below.setCell ?_ ?_ _ | with_reducible refine Below.alloc ?_ ?_ _ | with_reducible refine Below.drew ?_ | with_reducible refine below_drewN ?_ _ | with_reducible refine Below.step (by with_reducible assumption) ?_ ?_ | omega | (simp <;> omega) | (simp; done)))⟩
        · rw [hs] at s0 s1 ⊢
          have zk2 := kK.lt
          have HLN2 := Lib.hid (latC_len rules' hol' c' (j + 1))
          obtain ⟨k0, k1, k2⟩ := kK.c3
          have f0 := kK.frozen 0
          have f1 := kK.frozen 1
          have f2 := kK.frozen 2
          have nk : wB.heap.size ≠ w7.heap.size := by omega
          have mk := nk.symm
          go_wp2_with fail
          have kS : Blk _ w7.heap.size 28 #[.int .i64 (latC rules' hol' c' (j + 1)).start, .slice Y0 (latC rules' hol' c' (j + 1)).done.length Z0, .slice Y1 (latC rules' hol' c' (j + 1)).ext.length Z1] := (((kK.set_ 0 (.int .i64 (latC rules' hol' c' (j + 1)).start)).set_ 1 (.slice Y0 (latC rules' hol' c' (j + 1)).done.length Z0)).set_ 2 (.slice Y1 (latC rules' hol' c' (j + 1)).ext.length Z1)).alloc (.cells #[.int .i64 (latC rules' hol' c' (j + 1)).start, .slice Y0 (latC rules' hol' c' (j + 1)).done.length Z0, .slice Y1 (latC rules' hol' c' (j + 1)).ext.length Z1] 28)
          have dS := (((Chg.refl w7.heap.size (w7.heap.size + 1) wB).setCell (p := ⟨w7.heap.size, 0, none⟩) (Nat.le_refl _) (Nat.lt_succ_self _) (.int .i64 (latC rules' hol' c' (j + 1)).start)).setCell (p := ⟨w7.heap.size, 1, none⟩) (Nat.le_refl _) (Nat.lt_succ_self _) (.slice Y0 (latC rules' hol' c' (j + 1)).done.length Z0)).setCell (p := ⟨w7.heap.size, 2, none⟩) (Nat.le_refl _) (Nat.lt_succ_self _) (.slice Y1 (latC rules' hol' c' (j + 1)).ext.length Z1)
          have zS := dS.size
          have aS := (Below.refl _ (((wB.setCell ⟨w7.heap.size, 0, none⟩ (.int .i64 (latC rules' hol' c' (j + 1)).start)).setCell ⟨w7.heap.size, 1, none⟩ (.slice Y0 (latC rules' hol' c' (j + 1)).done.length Z0)).setCell ⟨w7.heap.size, 2, none⟩ (.slice Y1 (latC rules' hol' c' (j + 1)).ext.length Z1))).alloc (Nat.le_refl _) (.cells #[.int .i64 (latC rules' hol' c' (j + 1)).start, .slice Y0 (latC rules' hol' c' (j + 1)).done.length Z0, .slice Y1 (latC rules' hol' c' (j + 1)).ext.length Z1] 28)
          have zF := aS.size
          have t0 := (s0.rd.chg dS (by omega) (.inr (by omega))).below aS (by omega)
          have t1 := (s1.rd.chg dS (by omega) (.inr (by omega))).below aS (by omega)
          have bS := Below.step aS (by omega) (bel.trans (dS.below (Nat.le_refl _) (by omega)))
          have hlb := lenAt_eq (kS.cell 1)
          go_roundw
          case rel => exact ⟨j + 1, _, _, _, _, _, by omega, rfl, Lib.hid (by simp), Lib.hid hok2, t0, t1, by omega, .inr (by omega), kS, bS⟩
          case measure =>
            have hl0 := HLN.out
            have hl1 := HLT.out
            have hl2 := HLN2.out
            first | omega | (simp only [hla, hlb]; omega) | (rw [hla, hlb]; omega)
      · have hki : ¬ ((latC rules' hol' c' j).done.length : Int) < (rules'.length : Int) := by omega
        have hjN : j = (rules'.length - c'.done.length) := by omega
        have hlv : lv = (latestEnd rules' hol' c').1 := by rw [HV.out, HLE2.out, if_neg (by omega), hjN]
        subst hlv
        replace h1 := h1.below bel (by omega)
        replace h2 := h2.below bel (by omega)
        replace h3 := h3.below bel (by omega)
        replace h4 := h4.below bel (by omega)
        replace kc := kc.below bel (by omega)
        replace BB := Below.step bel (by omega) BB
        clear hla hlen hjN HLE2
        by_cases hz : ¬ (daysLeft rules hol c day).2 = 0
        · generalize (daysLeft rules hol c day).2 = bad at *
          have hz' : (bad != 0) = true := by simpa using hz
          go_wp2_with fail
          go_ret
          exact ⟨rfl, by (repeat (first | with_reducible assumption | with_reducible exact Below.refl _ _ | with_reducible refine Below.setCell ?_ ?_ _ | with_reducible refine Below.alloc ?_ ?_ _ | with_reducible refine Below.drew ?_ | with_reducible refine below_drewN ?_ _ | with_reducible refine Below.step (by with_reducible assumption) ?_ ?_ | omega | (simp <;> omega) | (simp; done)))⟩
        · have hz1 : (daysLeft rules hol c day).2 = 0 := by simpa using hz
          obtain ⟨l1, l2⟩ := HDL.out hz1
          have hwr := limit_in (rules := rules) (hol := hol) (c := c) l1
          have hw2 : IntKind.i64.wrap (day + (daysLeft rules hol c day).1) = (limitOf rules hol c).1 := by
            rw [l2]
            obtain ⟨h0, h1⟩ := hwr
            simp [IntKind.wrap, IntKind.bits, IntKind.signed]; omega
          rw [hz1]
          clear hz hz1 hwr HDL
          obtain ⟨q0, q1, q2⟩ := kc.c3
          go_wp2_with fail
          refine (limitOf_any _ rules _ _ _ hol _ _ c (.slice A3 c.done.length C3) (.slice A4 c.ext.length C4) _ _ _ h1 (by omega) (by omega) hsr h2 (by omega) (by omega) h3 h4 (by omega) hsc).mono ?_
          rintro e w8 ⟨rfl, b8⟩
          have zb8 := b8.size
          replace h1 := h1.below b8 (by omega)
          replace h2 := h2.below b8 (by omega)
          replace h3 := h3.below b8 (by omega)
          replace h4 := h4.below b8 (by omega)
          replace kc := kc.below b8 (by omega)
          replace BB := Below.step b8 (by omega) BB
          clear b8
          rw [l1]
          clear l1 l2
          generalize (daysLeft rules hol c day).1 = dl at *
          generalize (limitOf rules hol c).1 = lim at *
          go_wp2_with fail
          go_ret
          exact ⟨rfl, by (repeat (first | with_reducible assumption | with_reducible exact Below.refl _ _ | with_reducible refine Below.setCell ?_ ?_ _ | with_reducible refine Below.alloc ?_ ?_ _ | with_reducible refine Below.drew ?_ | with_reducible refine below_drewN ?_ _ | with_reducible refine Below.step (by with_reducible assumption) ?_ ?_ | omega | (simp <;> omega) | (simp; done)))⟩
  · have h10 : ((latestEnd rules' hol' c').2 == 0) = false := by simpa using h1z
    generalize (latestEnd rules' hol' c').2 = one at *
    clear HLE
    clear kz h1' h2' h3' h4'
    by_cases hz : ¬ (daysLeft rules hol c day).2 = 0
    · generalize (daysLeft rules hol c day).2 = bad at *
      have hz' : (bad != 0) = true := by simpa using hz
      go_wp2_with fail
      go_ret
      exact ⟨rfl, by (repeat (first | with_reducible assumption | with_reducible exact Below.refl _ _ | with_reducible refine Below.setCell ?_ ?_ _ | with_reducible refine Below.alloc ?_ ?_ _ | with_reducible refine Below.drew ?_ | with_reducible refine below_drewN ?_ _ | with_reducible refine Below.step (by with_reducible assumption) ?_ ?_ | omega | (simp <;> omega) | (simp; done)))⟩
    · have hz1 : (daysLeft rules hol c day).2 = 0 := by simpa using hz
      obtain ⟨l1, l2⟩ := HDL.out hz1
      have hwr := limit_in (rules := rules) (hol := hol) (c := c) l1
      have hw2 : IntKind.i64.wrap (day + (daysLeft rules hol c day).1) = (limitOf rules hol c).1 := by
        rw [l2]
        obtain ⟨h0, h1⟩ := hwr
        simp [IntKind.wrap, IntKind.bits, IntKind.signed]; omega
      rw [hz1]
      clear hz hz1 hwr HDL
      obtain ⟨q0, q1, q2⟩ := kc.c3
      go_wp2_with fail
      refine (limitOf_any _ rules _ _ _ hol _ _ c (.slice A3 c.done.length C3) (.slice A4 c.ext.length C4) _ _ _ h1 (by omega) (by omega) hsr h2 (by omega) (by omega) h3 h4 (by omega) hsc).mono ?_
      rintro e w8 ⟨rfl, b8⟩
      have zb8 := b8.size
      replace h1 := h1.below b8 (by omega)
      replace h2 := h2.below b8 (by omega)
      replace h3 := h3.below b8 (by omega)
      replace h4 := h4.below b8 (by omega)
      replace kc := kc.below b8 (by omega)
      replace BB := Below.step b8 (by omega) BB
      clear b8
      rw [l1]
      clear l1 l2
      generalize (daysLeft rules hol c day).1 = dl at *
      generalize (limitOf rules hol c).1 = lim at *
      go_wp2_with fail
      go_ret
      exact ⟨rfl, by (repeat (first | with_reducible assumption | with_reducible exact Below.refl _ _ | with_reducible refine Below.setCell ?_ ?_ _ | with_reducible refine Below.alloc ?_ ?_ _ | with_reducible refine Below.drew ?_ | with_reducible refine below_drewN ?_ _ | with_reducible refine Below.step (by with_reducible assumption) ?_ ?_ | omega | (simp <;> omega) | (simp; done)))⟩

set_option maxRecDepth 100000 in
theorem lifted (os : Os) (started : os.Started) (H : Type) (enc : TypeId × Value → H) :
    ReturnsInHanded {} Try.checked os 3 .any (Rows.fnLimitsSpec.pre6 enc Try.prog Try.f3 Rows.fnLimitsRow.domain false) (Rows.fnLimitsSpec.post enc Try.prog Try.f3 false true false false) := by
  refine returnsInHanded_of_change (C := Try.checked) own started (by kernel_rfl) Try.func3
    (ChangeSpec.witness6 (enc := enc) (C := Try.checked) false ⟨#[], #[.slice none 0 0], []⟩ 8 (by kernel_rfl) (by kernel_rfl) (by kernel_rfl) (by kernel_rfl)) ?_
  intro W base args ds gs before hval0 hW hcnd _
  have hval : ∀ (j : Nat) t v, Try.f3.params[j]? = some t → args[j]? = some v → Value.okWide Try.prog W .any base t v := hval0
  have hW' := hW
  obtain ⟨p, q, hA0, hV, rfl, hfz, hnd⟩ := hW
  have hA : DataW.TrodAll enc Try.prog W 0 (fun _ => true) true Try.f3.params.toList args.toList ds p := hA0
  rw [Try.params3] at hA hval
  obtain ⟨v0, vs0, d0, ds0, p0, q0, hargs, rfl, rfl, h0, r0⟩ := trodAll_cons hA
  obtain ⟨rfl, rfl, rfl⟩ := trodAll_nil r0
  obtain rfl : args = #[v0] := by cases args; simp_all
  obtain ⟨rfl, rfl⟩ := trodVars_none hV
  have k0 := h0
  have lt0 : ∀ x ∈ p0, x.block < W.heap.size := by obtain ⟨m, hm⟩ := k0; exact DataW.trod_lt m _ _ _ hm
  obtain ⟨code, hx0, hl0, hq0⟩ := open_bytes Try.underlying22 Try.underlying5 (by kernel_rfl) (hval 0 22 v0 rfl rfl) h0
  clear hA0 hval0
  refine (walk v0 code W hx0 hl0 hq0).mono fun e W' ⟨he, bel⟩ => ?_
  subst he
  exact ⟨_, rfl, _, _, _, [], _, [], hW', trodAll_mk1 (shut_bool Try.underlying4 _), (trodAll_cons_mk (Below.trod laidOut (by kernel_rfl) (of_decide_eq_true (by kernel_rfl)) k0 bel lt0) trodAll_mk0), rfl, bel.frame _, fun h => by cases h⟩

theorem over : Rows.fnLimitsRow.holds Try.pinned (OpenSpec.ofChange Rows.fnLimitsSpec) :=
  OpenClaim.holds_of_wide 3 Try.f3 rfl rfl rfl rfl rfl rfl rfl ⟨rfl, rfl, rfl, rfl, rfl⟩ rfl rfl rfl rfl rfl (by kernel_rfl) Try.func3 (by kernel_rfl)
    (of_decide_eq_true (by kernel_rfl)) (by unfold Func.isWrapper; first | (rw [if_pos (by decide +kernel)]; kernel_rfl) | (rw [if_neg (by decide +kernel)]; exact ⟨rfl, rfl⟩))
    (fun os started H enc _ => lifted os started H enc)

theorem proved : Rows.FnLimitsSaid := over
#print axioms proved
end Go.Proofs.Ytfafcicbfgdmcaa.limitsL
