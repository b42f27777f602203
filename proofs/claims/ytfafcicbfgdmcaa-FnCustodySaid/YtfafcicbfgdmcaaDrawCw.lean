/- Draws of custodies. Written by a program (gen_drawcw.py). -/
import Derived.Test.YtfafcicbfgdmcaaDrawCu
import Derived.Test.YtfafcicbfgdmcaaOwnB
import Derived.Test.YtfafcicbfgdmcaaCustodyX
import Derived.Test.YtfafcicbfgdmcaaReachW
import Derived.Deep.Cut
import Derived.Deep.DeepCutAuto
import Derived.Deep.RegionHeld3
import Derived.BigRegion
import Derived.RegionTactic
namespace Go.Proofs.Ytfafcicbfgdmcaa
open Go.RowKit
set_option linter.unusedVariables false

/-- A custody in a variable of its own, its lists new. -/
def CutD (q : Nat) (w0 : World) (n : Nat) (s7 : Value) (wx : World) : Prop := ∃ (g g0 g1 : Nat) (b : Int), s7 = .pointer (some ⟨g, 0, none⟩) ∧ 100 ≤ b ∧ b ≤ 159 ∧ w0.heap.size ≤ g ∧ Blk wx g 28 #[.int .i64 b, .slice (some ⟨g0, 0, none⟩) 0 0, .slice (some ⟨g1, 0, none⟩) n n] ∧ OwnL encInt 1 2 wx w0.heap.size (.slice (some ⟨g0, 0, none⟩) 0 0) ([] : List Int) ∧ OwnL encBool 1 4 wx w0.heap.size (.slice (some ⟨g1, 0, none⟩) n n) (List.replicate n false) ∧ Src wx q ∧ Chg q (q + 1) w0 wx
theorem Blk.at1 {w : World} {o : Obj} {t : TypeId} {cs : Array Value} : Blk ((w.alloc o).alloc (.cells cs t)) (w.heap.size + 1) t cs := Blk.newAt (by simp)
theorem Blk.at2 {w : World} {o o' : Obj} {t : TypeId} {cs : Array Value} : Blk (((w.alloc o).alloc o').alloc (.cells cs t)) (w.heap.size + 1 + 1) t cs := Blk.newAt (by simp)
theorem Blk.chgAt {w w' : World} {g lo hi : Nat} {t : TypeId} {cs : Array Value} (h : Blk w g t cs) (hc : Chg lo hi w w') (hd : hi ≤ g) : Blk w' g t cs := h.chg hc h.lt (.inr hd)
theorem Src.setFar {w : World} {q : Nat} (h : Src w q) {p : Addr} (hp : q < p.block) (u : Value) : Src (w.setCell p u) q := h.below ((Below.refl (q + 1) w).setCell hp u) (Nat.lt_succ_self q)
theorem Chg.setFar {lo hi : Nat} {a w : World} (h : Chg lo hi a w) {p : Addr} (hp : a.heap.size ≤ p.block) (u : Value) : Chg lo hi a (w.setCell p u) := ⟨h.os, h.tape, h.output, Nat.le_trans h.size (by simp [World.setCell]), fun i hi ho => (Below.heap_setCell w p u i (by omega)).trans (h.block i hi ho)⟩
theorem OwnL.setNe' {α : Type} {enc : α → List Value} {sz : Nat} {t : TypeId} {w : World} {base : Nat} {v : Value} {xs : List α} (h : OwnL enc sz t w base v xs) {p : Addr} (hp : some p.block ≠ v.ownBlock) (u : Value) : OwnL enc sz t (w.setCell p u) base v xs := by
  refine ⟨h.1, ?_⟩
  rcases h.2 with h0 | ⟨g, cap, cur, rfl, h2, hh, rest⟩
  · exact .inl h0
  · have hne : g ≠ p.block := fun e => hp (by rw [← e]; rfl)
    exact .inr ⟨g, cap, cur, rfl, h2, (Below.heap_setCell w p u g hne).trans hh, rest⟩
theorem CutD.make {q n : Nat} {w0 wx : World} {g g0 g1 : Nat} {b : Int} (hB : Blk wx g 28 #[.int .i64 b, .slice (some ⟨g0, 0, none⟩) 0 0, .slice (some ⟨g1, 0, none⟩) n n]) (h1 : 100 ≤ b) (h2 : b ≤ 159) (hg : w0.heap.size ≤ g) (o0 : OwnL encInt 1 2 wx w0.heap.size (.slice (some ⟨g0, 0, none⟩) 0 0) ([] : List Int)) (o1 : OwnL encBool 1 4 wx w0.heap.size (.slice (some ⟨g1, 0, none⟩) n n) (List.replicate n false)) (hs : Src wx q) (hc : Chg q (q + 1) w0 wx) : CutD q w0 n (.pointer (some ⟨g, 0, none⟩)) wx :=
  ⟨g, g0, g1, b, rfl, h1, h2, hg, hB, o0, o1, hs, hc⟩
theorem ownMade' {w : World} {n base g : Nat} {t : TypeId} (hg : g = w.heap.size) (hb : base ≤ w.heap.size) (hn : n ≤ maxLen) : OwnL encBool 1 t (w.alloc (.cells (madeCells #[.bool false] n) t)) base (.slice (some ⟨g, 0, none⟩) n n) (List.replicate n false) := by
  subst hg
  have := ownMade (t := t) hb hn
  rwa [Nat.mul_one] at this

theorem OwnL.grownFar {α : Type} {enc : α → List Value} {sz : Nat} {t : TypeId} {w w' : World} {base : Nat} {v : Value} {xs : List α} {row : Option Nat} (h : OwnL enc sz t w base v xs) (hg : w.grownBy w' row) (hn : ∀ k, v.ownBlock = some k → some k ≠ row) : OwnL enc sz t w' base v xs := by
  refine ⟨h.1, ?_⟩
  rcases h.2 with h0 | ⟨g, cap, cur, rfl, h2, hh, rest⟩
  · exact .inl h0
  · exact .inr ⟨g, cap, cur, rfl, h2, Blk.grown hg hh (hn g rfl), rest⟩
theorem own_own {α β : Type} {enc : α → List Value} {enc' : β → List Value} {sz sz' : Nat} {t t' : TypeId} {w : World} {base base' : Nat} {v v' : Value} {xs : List α} {ys : List β} (h : OwnL enc sz t w base v xs) (h' : OwnL enc' sz' t' w base' v' ys) (hne : t ≠ t') : ∀ k, v.ownBlock = some k → some k ≠ v'.ownBlock := by
  intro k hk
  rcases h.2 with ⟨rfl, -⟩ | ⟨g, cap, cur, rfl, h2, hh, rest⟩
  · simp [Value.ownBlock] at hk
  · have e : g = k := by simpa [Value.ownBlock] using hk
    subst e
    exact own_ne h' hh hne
theorem grown_below {w w' : World} {row : Option Nat} {B : Nat} (hg : w.grownBy w' row) (hB : B ≤ w.heap.size) (hr : ∀ k, row = some k → B ≤ k) : Below B w w' :=
  ⟨hg.os, hg.tape, hg.output, hg.size, fun i hi => hg.block i (by omega) (fun e => by have := hr i e.symm; omega)⟩
theorem OwnL.spot {t : TypeId} {w : World} {base g n c : Nat} {xs : List Bool} (h : OwnL encBool 1 t w base (.slice (some ⟨g, 0, none⟩) n c) xs) {k : Nat} (hk : k < n) : ∃ u, w.cell? ⟨g, k, none⟩ = some u ∧ w.frozen? ⟨g, k, none⟩ = false := by
  rcases h.2 with ⟨h0, -⟩ | ⟨g', cap, cur, e, h1, h2, h3, h4, h5, h6⟩
  · cases h0
  · injection e with e1 e2 e3
    injection e1 with e1
    injection e1 with e1
    subst e1 e3
    have hb : Blk w g t cur := h2
    have hl : k < cur.size := by omega
    exact ⟨cur[k], (hb.cell k).trans (Array.getElem?_eq_getElem hl), hb.frozen k⟩

set_option maxRecDepth 100000 in
set_option maxHeartbeats 40000000 in
theorem l20Draw_any (q : Nat) (w : World) (h : Src w q) :
    Calls Try.prog 30 #[.pointer (some ⟨q, 0, none⟩)] w fun e w' => ∃ (v1 : Value) (rules : List Stage) (v2 : Value) (hol : List Int) (c : Custody) (p0 p1 : Value), e = .returned (.tuple #[v1, v2, .agg #[.int .i64 c.start, p0, p1]]) ∧ rules.length ≤ 3 ∧ (∀ x ∈ rules, x.name.size ≤ 64 ∧ -1 ≤ x.days ∧ x.days ≤ 500) ∧ hol.length ≤ 60 ∧ c.done.length ≤ 4 ∧ c.ext.length ≤ 4 ∧ -1 ≤ c.start ∧ c.start ≤ 20001 ∧ RdF Stage.enc 3 w' w.heap.size w'.heap.size v1 rules ∧ RdF encInt 1 w' w.heap.size w'.heap.size v2 hol ∧ RdF encInt 1 w' w.heap.size w'.heap.size p0 c.done ∧ RdF encBool 1 w' w.heap.size w'.heap.size p1 c.ext ∧ Src w' q ∧ Chg q (q + 1) w w' := by
  have hl := h.lt
  have s := h
  clear h
  have d : Chg q (q + 1) w w := Chg.refl _ _ _
  go_enter Try.func30, Try.ntmps30
  go_wp2_with fail
  have b1 : Below w.heap.size w (w.alloc (.cells #[.int .i64 0, .slice none 0 0, .slice none 0 0] 28)) := (Below.refl _ _).alloc (Nat.le_refl _) _
  have zz1 : (w.alloc (.cells #[.int .i64 0, .slice none 0 0, .slice none 0 0] 28)).heap.size = w.heap.size + 1 := by simp
  have kR : Blk (w.alloc (.cells #[.int .i64 0, .slice none 0 0, .slice none 0 0] 28)) (w.heap.size) 28 #[.int .i64 0, .slice none 0 0, .slice none 0 0] := Blk.newAt rfl
  have zb1 := b1.size
  replace s := s.below b1 (by omega)
  replace d := d.step (b1.mono (by omega))
  clear b1
  generalize (w.alloc (.cells #[.int .i64 0, .slice none 0 0, .slice none 0 0] 28)) = w1 at *
  go_wp2_with fail
  refine (l20Stages_any q _ s).mono ?_
  rintro e w2 ⟨v1, rules, rfl, hn3, hrb, h1, s', c2⟩
  clear s
  have s := s'
  clear s'
  have zc2 := c2.size
  replace d := d.trans c2
  replace kR := kR.chg c2 (by omega) (by omega)
  clear c2
  obtain ⟨A1, C1, rfl, hC1⟩ := h1.form
  have HR := Lib.hid hrb
  clear hrb
  go_wp2_with fail
  refine (l02Holidays_any q _ s).mono ?_
  rintro e w3 ⟨v2, hol, rfl, hh60, h2, s', c3⟩
  clear s
  have s := s'
  clear s'
  have zc3 := c3.size
  replace d := d.trans c3
  replace kR := kR.chg c3 (by omega) (by omega)
  replace h1 := h1.chg c3 (by omega) (by omega)
  clear c3
  obtain ⟨A2, C2, rfl, hC2⟩ := h2.form
  have hs3 := s.lt
  have hk3 := kR.lt
  go_wp2_with fail
  go_upto_region 3 with fail
  go_cut [7] (fun s7 wx => CutD q w3 rules.length s7 wx)
  case first =>
    have hmk := mkRowZ (P := Try.prog) 26 4 Try.underlying26 (.bool false) 1 1 (by kernel_rfl) rules.length (by omega) (by omega)
    have hm9 : rules.length ≤ maxLen := by unfold maxLen; omega
    have hd0 : q + 1 ≤ w3.heap.size := by omega
    have hd1 : q + 1 ≤ w3.heap.size + 1 := by omega
    have hd2 : q + 1 ≤ w3.heap.size + 1 + 1 := by omega
    go_region_held3 (fun w' => True) (trivial)
      (first
        | (go_at_call 37; refine (l01Next_any q 60 _ (s.below (B := w3.heap.size) (by (repeat (first | with_reducible assumption | with_reducible exact Below.refl _ _ | with_reducible refine Below.setCell ?_ ?_ _ | with_reducible refine Below.alloc ?_ ?_ _ | with_reducible refine Below.drew ?_ | with_reducible refine below_drewN ?_ _ | with_reducible refine Below.step (by with_reducible assumption) ?_ ?_ | omega | (simp <;> omega) | (simp; done)))) (by omega)) (by omega)).mono ?_; rintro e w9 ⟨r9, rfl, a9, a9', s9, c9⟩; have z9 : w3.heap.size ≤ w9.heap.size := (by have := c9.size; simp at this; omega); have D9 : Chg q (q + 1) w3 w9 := Chg.trans (by repeat (first | with_reducible exact Chg.refl _ _ _ | with_reducible refine Chg.drew ?_ | with_reducible refine Chg.allocd ?_ _)) c9; (first | (with_reducible (have kA : Blk w9 (w3.heap.size) 28 #[.int .i64 0, .slice none 0 0, .slice none 0 0] := Blk.chgAt (Blk.drew (Blk.newAt rfl)) c9 hd0); have kl := kA.lt; obtain ⟨ka0, ka1, ka2⟩ := kA.c3; have kb0 := kA.frozen 0; have kb1 := kA.frozen 1; have kb2 := kA.frozen 2; have kn0 : w3.heap.size ≠ w9.heap.size := (by omega); have kn1 : w3.heap.size ≠ w9.heap.size + 1 := (by omega); have km0 := kn0.symm; have km1 := kn1.symm) | (with_reducible (have kA : Blk w9 (w3.heap.size) 28 #[.int .i64 0, .slice none 0 0, .slice none 0 0] := Blk.chgAt (Blk.drew (Blk.alloc (Blk.newAt rfl) _)) c9 hd0); have kl := kA.lt; obtain ⟨ka0, ka1, ka2⟩ := kA.c3; have kb0 := kA.frozen 0; have kb1 := kA.frozen 1; have kb2 := kA.frozen 2; have kn0 : w3.heap.size ≠ w9.heap.size := (by omega); have kn1 : w3.heap.size ≠ w9.heap.size + 1 := (by omega); have km0 := kn0.symm; have km1 := kn1.symm) | (with_reducible (have kA : Blk w9 (w3.heap.size + 1) 28 #[.int .i64 0, .slice none 0 0, .slice none 0 0] := Blk.chgAt (Blk.drew (Blk.at1)) c9 hd1); have kl := kA.lt; obtain ⟨ka0, ka1, ka2⟩ := kA.c3; have kb0 := kA.frozen 0; have kb1 := kA.frozen 1; have kb2 := kA.frozen 2; have kn0 : w3.heap.size + 1 ≠ w9.heap.size := (by omega); have kn1 : w3.heap.size + 1 ≠ w9.heap.size + 1 := (by omega); have km0 := kn0.symm; have km1 := kn1.symm) | (with_reducible (have kA : Blk w9 (w3.heap.size) 28 #[.int .i64 0, .slice none 0 0, .slice none 0 0] := Blk.chgAt (Blk.drew (Blk.alloc (Blk.alloc (Blk.newAt rfl) _) _)) c9 hd0); have kl := kA.lt; obtain ⟨ka0, ka1, ka2⟩ := kA.c3; have kb0 := kA.frozen 0; have kb1 := kA.frozen 1; have kb2 := kA.frozen 2; have kn0 : w3.heap.size ≠ w9.heap.size := (by omega); have kn1 : w3.heap.size ≠ w9.heap.size + 1 := (by omega); have km0 := kn0.symm; have km1 := kn1.symm) | (with_reducible (have kA : Blk w9 (w3.heap.size + 1) 28 #[.int .i64 0, .slice none 0 0, .slice none 0 0] := Blk.chgAt (Blk.drew (Blk.alloc Blk.at1 _)) c9 hd1); have kl := kA.lt; obtain ⟨ka0, ka1, ka2⟩ := kA.c3; have kb0 := kA.frozen 0; have kb1 := kA.frozen 1; have kb2 := kA.frozen 2; have kn0 : w3.heap.size + 1 ≠ w9.heap.size := (by omega); have kn1 : w3.heap.size + 1 ≠ w9.heap.size + 1 := (by omega); have km0 := kn0.symm; have km1 := kn1.symm) | (with_reducible (have kA : Blk w9 (w3.heap.size + 1 + 1) 28 #[.int .i64 0, .slice none 0 0, .slice none 0 0] := Blk.chgAt (Blk.drew (Blk.at2)) c9 hd2); have kl := kA.lt; obtain ⟨ka0, ka1, ka2⟩ := kA.c3; have kb0 := kA.frozen 0; have kb1 := kA.frozen 1; have kb2 := kA.frozen 2; have kn0 : w3.heap.size + 1 + 1 ≠ w9.heap.size := (by omega); have kn1 : w3.heap.size + 1 + 1 ≠ w9.heap.size + 1 := (by omega); have km0 := kn0.symm; have km1 := kn1.symm) | skip)))
    all_goals (
      go_wp2_with fail
      go_meet
      have e9 : IntKind.i64.wrap (100 + r9) = 100 + r9 := by simp [IntKind.wrap, IntKind.bits, IntKind.signed]; omega
      apply CutD.make
      · first | with_reducible exact Blk.newAt rfl | with_reducible exact Blk.at1 | with_reducible exact Blk.at2 | with_reducible exact Blk.alloc (Blk.newAt rfl) _ | with_reducible exact Blk.alloc Blk.at1 _ | with_reducible exact Blk.alloc (Blk.alloc (Blk.newAt rfl) _) _ | ((repeat (with_reducible refine Blk.alloc ?_ _)); exact ((kA.set_ 0 _).set_ 1 _).set_ 2 _) | exact Blk.newAt rfl | exact Blk.at1 | exact Blk.at2 | exact Blk.alloc (Blk.newAt rfl) _ | exact Blk.alloc Blk.at1 _ | exact Blk.alloc (Blk.alloc (Blk.newAt rfl) _) _
      · first | omega | (rw [e9]; omega)
      · first | omega | (rw [e9]; omega)
      · omega
      · repeat (first | (with_reducible refine OwnL.emptyAt ?_ ?_ <;> (first | rfl | omega | (simp; done) | (simp <;> omega))) | with_reducible refine OwnL.alloc ?_ _ | (with_reducible refine OwnL.setNe' ?_ ?_ _; rotate_left 1; (simp [Value.ownBlock] <;> omega)) | with_reducible refine OwnL.drew ?_ | with_reducible refine OwnL.chg ?_ c9 (by omega))
      · repeat (first | (with_reducible refine ownMade' ?_ ?_ hm9 <;> (first | rfl | omega | (simp; done) | (simp <;> omega))) | with_reducible refine OwnL.alloc ?_ _ | (with_reducible refine OwnL.setNe' ?_ ?_ _; rotate_left 1; (simp [Value.ownBlock] <;> omega)) | with_reducible refine OwnL.drew ?_ | with_reducible refine OwnL.chg ?_ c9 (by omega))
      · repeat (first | with_reducible exact s9 | with_reducible refine Src.alloc ?_ _ | (with_reducible refine Src.setFar ?_ ?_ _; rotate_left 1; (dsimp only; omega)))
      · repeat (first | with_reducible exact D9 | with_reducible refine Chg.allocd ?_ _ | (with_reducible refine Chg.setFar ?_ ?_ _; rotate_left 1; (dsimp only; omega))))
  case rest =>
    obtain ⟨g, g0, g1, b0, rfl, hb0, hb1, hg, kC, o0, o1, sx, dx⟩ := hcut
    have zc := dx.size
    obtain ⟨q0, q1, q2⟩ := kC.c3
    go_wp2_with fail
    clear q0 q1 q2
    go_loopw [8, 9] (fun o i wr => ∃ (k : Nat) (dv : Int) (ds : List Int) (es : List Bool) (p0 : Value), k ≤ rules.length ∧ i = .int .i64 k ∧ o = .int .i64 dv ∧ 0 ≤ dv ∧ dv ≤ 159 + 400 * (k : Int) ∧ Hid (ds.length = k ∧ es.length = rules.length) ∧ Blk wr g 28 #[.int .i64 b0, p0, (.slice (some ⟨g1, 0, none⟩) rules.length rules.length)] ∧ OwnL encInt 1 2 wr w3.heap.size p0 ds ∧ OwnL encBool 1 4 wr w3.heap.size (.slice (some ⟨g1, 0, none⟩) rules.length rules.length) es ∧ Src wr q ∧ Chg q (q + 1) w3 wr) (fun _ i _ => rules.length - (intOf i).toNat)
    case atStart => exact ⟨0, b0, [], _, _, Nat.zero_le _, rfl, rfl, by omega, by omega, Lib.hid ⟨rfl, by simp⟩, kC, o0, o1, sx, dx⟩
    case round =>
      clear kC o0 o1 sx dx
      obtain ⟨k, dv, ds, es, p0, hk, rfl, rfl, hd0, hd1, HL, kC, o0, o1, s, D⟩ := hrel
      have z0 := D.size
      by_cases hlt : k < rules.length
      · have hki : (k : Int) < (rules.length : Int) := by omega
        have hdl : ds.length ≤ 3 := by have := HL.out; omega
        have hel : es.length ≤ 3 := by have := HL.out; omega
        go_wp2_with fail
        refine (l01Next_any q 3 _ s (by omega)).mono ?_
        rintro e w21 ⟨r21, rfl, a21, a21', s', c21⟩
        have zc21 := c21.size
        replace kC := kC.chg c21 kC.lt (.inr (by omega))
        replace o0 := o0.chg c21 (by omega)
        replace o1 := o1.chg c21 (by omega)
        replace D := D.trans c21
        clear c21 s
        have s := s'
        clear s'
        by_cases hA : r21 = 0
        · subst hA
          go_wp2_with fail
          refine (l01Next_any q 40 _ s (by omega)).mono ?_
          rintro e w22 ⟨r22, rfl, a22, a22', s', c22⟩
          have zc22 := c22.size
          replace kC := kC.chg c22 kC.lt (.inr (by omega))
          replace o0 := o0.chg c22 (by omega)
          replace o1 := o1.chg c22 (by omega)
          replace D := D.trans c22
          clear c22 s
          have s := s'
          clear s'
          by_cases y0 : r22 = 0
          · subst y0
            have ne9 := own_ne o1 kC (by decide)
            have zl := kC.lt
            obtain ⟨q0, q1, q2⟩ := kC.c3
            go_wp2_with (at_builtin; refine wpList_push2 (enc := encBool) _ _ (by first | rfl | simp) rfl (.tmp 65) (.tmp 66) 26 rfl w3.heap.size 4 _ (.bool false) 1 1 Try.underlying26 (by kernel_rfl) rfl (by omega) _ es true _ rfl rfl (encBool_unit _) rfl rfl o1 (by omega) (by omega) (by (first | omega | (simp; omega) | (simp; done))) ?_; intro v9 w9 own9 gr9 at9; obtain ⟨A9, C9, rfl, -⟩ := (own9.rdw (fun _ => rfl)).rd.form; rw [show (es ++ [true]).length = es.length + 1 from by simp] at own9; have k9 := Blk.grown gr9 kC ne9; have x9 := k9.cell 2; have y9 := k9.frozen 2)
            clear q0 q1 q2 zl
            have m9 := o0.grownFar gr9 (own_own o0 o1 (by decide))
            have b9 : Below w3.heap.size w22 (w9.setCell ⟨g, 2, none⟩ (.slice A9 (es.length + 1) C9)) := (grown_below gr9 (by omega) (fun k hk => o1.block_ge k hk)).setCell (p := ⟨g, 2, none⟩) (by show w3.heap.size ≤ g; omega) _
            have n9 := own_ne own9 k9 (by decide)
            have n8 := own_ne m9 k9 (by decide)
            have zb9 := b9.size
            replace kC : Blk (w9.setCell ⟨g, 2, none⟩ (.slice A9 (es.length + 1) C9)) g 28 #[.int .i64 b0, p0, (.slice A9 (es.length + 1) C9)] := k9.set1 2 (.slice A9 (es.length + 1) C9)
            replace o1 := own9.setNe' (p := ⟨g, 2, none⟩) n9 (.slice A9 (es.length + 1) C9)
            replace o0 := m9.setNe' (p := ⟨g, 2, none⟩) n8 (.slice A9 (es.length + 1) C9)
            replace s := s.below b9 (by omega)
            replace D := D.step (b9.mono (by omega))
            clear b9 m9 k9 x9 y9 n9 n8 own9 ne9
            generalize (w9.setCell ⟨g, 2, none⟩ (.slice A9 (es.length + 1) C9)) = w23 at *
            obtain ⟨Ap, Cp, rfl, -⟩ := (o0.rdw (fun _ => rfl)).rd.form
            replace kR := kR.chg D (by omega) (.inr (by omega))
            replace h1 := h1.chg D (by omega) (by omega)
            replace h2 := h2.chg D (by omega) (by omega)
            have zl := kC.lt
            have zr := kR.lt
            obtain ⟨q0, q1, q2⟩ := kC.c3
            obtain ⟨e0, e1, e2⟩ := kR.c3
            have f0 := kR.frozen 0
            have f1 := kR.frozen 1
            have f2 := kR.frozen 2
            have n0 : g ≠ w.heap.size := by omega
            have m0 := n0.symm
            go_wp2_with fail
            go_region
            try go_wp2_with fail
            try simp only [Exit.inBlock, Exit.then]
            have dS := (((Chg.refl w.heap.size (w.heap.size + 1) w23).setCell (p := ⟨w.heap.size, 0, none⟩) (Nat.le_refl _) (Nat.lt_succ_self _) (.int .i64 (b0))).setCell (p := ⟨w.heap.size, 1, none⟩) (Nat.le_refl _) (Nat.lt_succ_self _) ((.slice Ap ds.length Cp))).setCell (p := ⟨w.heap.size, 2, none⟩) (Nat.le_refl _) (Nat.lt_succ_self _) ((.slice A9 (es.length + 1) C9))
            have bS := (((Below.refl w.heap.size w23).setCell (p := ⟨w.heap.size, 0, none⟩) (Nat.le_refl _) (.int .i64 (b0))).setCell (p := ⟨w.heap.size, 1, none⟩) (Nat.le_refl _) ((.slice Ap ds.length Cp))).setCell (p := ⟨w.heap.size, 2, none⟩) (Nat.le_refl _) ((.slice A9 (es.length + 1) C9))
            have zS := dS.size
            have g0' := ((o0.rdw (fun _ => rfl)).rd.chg dS (Nat.le_refl _) (.inr (by omega))).wide (lo' := w.heap.size) (by omega) zS
            have g1' := ((o1.rdw (fun _ => rfl)).rd.chg dS (Nat.le_refl _) (.inr (by omega))).wide (lo' := w.heap.size) (by omega) zS
            have g2' := (h1.chg dS (by omega) (.inr (by omega))).wide (lo' := w.heap.size) (by omega) (Nat.le_trans (by omega : _ ≤ w23.heap.size) zS)
            have g3' := (h2.chg dS (by omega) (.inr (by omega))).wide (lo' := w.heap.size) (by omega) (Nat.le_trans (by omega : _ ≤ w23.heap.size) zS)
            have HL' := HL.out
            refine bodyPost_ret (v := .tuple #[.slice A1 rules.length C1, .slice A2 hol.length C2, .agg #[.int .i64 (b0), (.slice Ap ds.length Cp), (.slice A9 (es.length + 1) C9)]]) (by simp [results, Try.results30, go_sem, *]) rfl ?_
            exact ⟨_, rules, _, hol, ⟨b0, ds, es ++ [true]⟩, _, _, rfl, hn3, HR.out, hh60, by simp <;> omega, by simp <;> omega, by show -1 ≤ b0; omega, by show b0 ≤ 20001; omega, g2', g3', g0', g1', s.below bS.drew hl, (d.trans D).step bS.drew⟩
          by_cases y1 : r22 = 1
          · subst y1
            have zl := kC.lt
            obtain ⟨q0, q1, q2⟩ := kC.c3
            have f1 := kC.frozen 1
            have hsq := s.lt
            have hv1 : IntKind.i64.wrap (b0 - 1) = b0 - 1 := by simp [IntKind.wrap, IntKind.bits, IntKind.signed]; omega
            have hv2 : IntKind.i64.wrap (dv + 300) = dv + 300 := by simp [IntKind.wrap, IntKind.bits, IntKind.signed]; omega
            go_wp2_with fail
            go_region_law
              (first
                | (refine step_app (enc := encInt) _ rfl (.tmp 72) (.tmp 81) 25 (by rfl) w3.heap.size 2 (.int .i64 0) 1 8 Try.underlying25 (by kernel_rfl) rfl (by omega) (fun _ => rfl) encInt_one (by omega) _ _ ds [rP] 0 (wP.heap.size + 1) (by rfl) (by rfl) (oP.alloc _) (RdF.one (enc := encInt) (sz := 1) (x := rP) (Blk.new wP 2 #[.int .i64 rP]) rfl (Nat.zero_le _) (Nat.lt_succ_self _)) (by (first | omega | (simp; omega) | (simp; done))) (by simp <;> omega) ?_; intro v9 w9 own9 gr9 at9; obtain ⟨A9, C9, rfl, -⟩ := (own9.rdw (fun _ => rfl)).rd.form; rw [show (ds ++ [rP]).length = ds.length + 1 from by simp] at own9; have k9 := Blk.grown gr9 (kP.alloc _) nP; have x9 := k9.cell 1; have y9 := k9.frozen 1)
                | (go_simp; go_wp2_with (go_at_call 38; refine (l01Pick_any q _ [b0 - 1, dv + 300, 20001] _ _ _ (s.below (B := w22.heap.size) (by (repeat (first | with_reducible assumption | with_reducible exact Below.refl _ _ | with_reducible refine Below.setCell ?_ ?_ _ | with_reducible refine Below.alloc ?_ ?_ _ | with_reducible refine Below.drew ?_ | with_reducible refine below_drewN ?_ _ | with_reducible refine Below.step (by with_reducible assumption) ?_ ?_ | omega | (simp <;> omega) | (simp; done)))) hsq) (rdInts (w := w22.drew) (n := w22.heap.size) [b0 - 1, dv + 300, 20001] (cs := #[.int .i64 (b0 - 1), .int .i64 (dv + 300), .int .i64 20001]) rfl rfl) (by simp) (.inr (by omega)) (by simp) (by simp)).mono ?_; rintro e wP ⟨rP, rfl, hpP, sP, cP⟩; have zP : w22.heap.size ≤ wP.heap.size := (by have := cP.size; simp at this; omega); have kP := Blk.chgAt (Blk.alloc (Blk.drew kC) _) cP (by omega); have oP := OwnL.chg (OwnL.alloc (OwnL.drew o0) _) cP (by omega); have eP := OwnL.chg (OwnL.alloc (OwnL.drew o1) _) cP (by omega); have DP : Chg q (q + 1) w22 wP := Chg.trans (by repeat (first | exact Chg.refl _ _ _ | refine Chg.drew ?_ | refine Chg.allocd ?_ _)) cP; have lP := kP.lt; obtain ⟨p0', p1', p2'⟩ := kP.c3; have fP := kP.frozen 1; have nP := own_ne oP kP (by decide)))
                | (go_simp; go_wp2_with (go_at_call 38; refine (l01Pick_any q _ [b0 - 1, dv + 300, 20001] _ _ _ (s.below (B := w22.heap.size) (by (repeat (first | with_reducible assumption | with_reducible exact Below.refl _ _ | with_reducible refine Below.setCell ?_ ?_ _ | with_reducible refine Below.alloc ?_ ?_ _ | with_reducible refine Below.drew ?_ | with_reducible refine below_drewN ?_ _ | with_reducible refine Below.step (by with_reducible assumption) ?_ ?_ | omega | (simp <;> omega) | (simp; done)))) hsq) (RdF.below (rdInts (w := w22) (n := w22.heap.size) [b0 - 1, dv + 300, 20001] (cs := #[.int .i64 (b0 - 1), .int .i64 (dv + 300), .int .i64 20001]) rfl rfl) (Below.refl (w22.heap.size + 1) _).drew (Nat.le_refl _)) (by simp) (.inr (by omega)) (by simp) (by simp)).mono ?_; rintro e wP ⟨rP, rfl, hpP, sP, cP⟩; have zP : w22.heap.size ≤ wP.heap.size := (by have := cP.size; simp at this; omega); have kP := Blk.chgAt (Blk.drew (Blk.alloc kC _)) cP (by omega); have oP := OwnL.chg (OwnL.drew (OwnL.alloc o0 _)) cP (by omega); have eP := OwnL.chg (OwnL.drew (OwnL.alloc o1 _)) cP (by omega); have DP : Chg q (q + 1) w22 wP := Chg.trans (by repeat (first | exact Chg.refl _ _ _ | refine Chg.drew ?_ | refine Chg.allocd ?_ _)) cP; have lP := kP.lt; obtain ⟨p0', p1', p2'⟩ := kP.c3; have fP := kP.frozen 1; have nP := own_ne oP kP (by decide))))
            all_goals (
              have m9 := (eP.alloc (.cells #[.int .i64 rP] 2)).grownFar gr9 (own_own (eP.alloc _) (oP.alloc (.cells #[.int .i64 rP] 2)) (by decide))
              have ba : Below w3.heap.size wP (wP.alloc (.cells #[.int .i64 rP] 2)) := (Below.refl _ _).alloc (by omega) _
              have b9 : Below w3.heap.size wP (w9.setCell ⟨g, 1, none⟩ (.slice A9 (ds.length + 1) C9)) := (ba.trans (grown_below gr9 (by simp; omega) (fun k hk => (oP.alloc (.cells #[.int .i64 rP] 2)).block_ge k hk))).setCell (p := ⟨g, 1, none⟩) (by show w3.heap.size ≤ g; omega) _
              have n9 := own_ne own9 k9 (by decide)
              have n8 := own_ne m9 k9 (by decide)
              have zb9 := b9.size
              replace kC : Blk (w9.setCell ⟨g, 1, none⟩ (.slice A9 (ds.length + 1) C9)) g 28 #[.int .i64 b0, (.slice A9 (ds.length + 1) C9), (.slice (some ⟨g1, 0, none⟩) rules.length rules.length)] := k9.set1 1 (.slice A9 (ds.length + 1) C9)
              replace o0 := own9.setNe' (p := ⟨g, 1, none⟩) n9 (.slice A9 (ds.length + 1) C9)
              replace o1 := m9.setNe' (p := ⟨g, 1, none⟩) n8 (.slice A9 (ds.length + 1) C9)
              replace s := sP.below b9 (by omega)
              replace D := (D.trans DP).step (b9.mono (by omega))
              clear b9 ba m9 k9 x9 y9 n9 n8 own9 gr9 at9 kP oP eP sP cP DP q0 q1 q2 f1 p0' p1' p2' fP nP zl lP
              generalize (w9.setCell ⟨g, 1, none⟩ (.slice A9 (ds.length + 1) C9)) = wQ at *
              replace kR := kR.chg D (by omega) (.inr (by omega))
              replace h1 := h1.chg D (by omega) (by omega)
              replace h2 := h2.chg D (by omega) (by omega)
              have zl := kC.lt
              have zr := kR.lt
              obtain ⟨q0, q1, q2⟩ := kC.c3
              obtain ⟨e0, e1, e2⟩ := kR.c3
              have f0 := kR.frozen 0
              have f1 := kR.frozen 1
              have f2 := kR.frozen 2
              have n0 : g ≠ w.heap.size := by omega
              have m0 := n0.symm
              go_wp2_with fail
              go_region
              try go_wp2_with fail
              try simp only [Exit.inBlock, Exit.then]
              have dS := (((Chg.refl w.heap.size (w.heap.size + 1) wQ).setCell (p := ⟨w.heap.size, 0, none⟩) (Nat.le_refl _) (Nat.lt_succ_self _) (.int .i64 (b0))).setCell (p := ⟨w.heap.size, 1, none⟩) (Nat.le_refl _) (Nat.lt_succ_self _) ((.slice A9 (ds.length + 1) C9))).setCell (p := ⟨w.heap.size, 2, none⟩) (Nat.le_refl _) (Nat.lt_succ_self _) ((.slice (some ⟨g1, 0, none⟩) rules.length rules.length))
              have bS := (((Below.refl w.heap.size wQ).setCell (p := ⟨w.heap.size, 0, none⟩) (Nat.le_refl _) (.int .i64 (b0))).setCell (p := ⟨w.heap.size, 1, none⟩) (Nat.le_refl _) ((.slice A9 (ds.length + 1) C9))).setCell (p := ⟨w.heap.size, 2, none⟩) (Nat.le_refl _) ((.slice (some ⟨g1, 0, none⟩) rules.length rules.length))
              have zS := dS.size
              have g0' := ((o0.rdw (fun _ => rfl)).rd.chg dS (Nat.le_refl _) (.inr (by omega))).wide (lo' := w.heap.size) (by omega) zS
              have g1' := ((o1.rdw (fun _ => rfl)).rd.chg dS (Nat.le_refl _) (.inr (by omega))).wide (lo' := w.heap.size) (by omega) zS
              have g2' := (h1.chg dS (by omega) (.inr (by omega))).wide (lo' := w.heap.size) (by omega) (Nat.le_trans (by omega : _ ≤ wQ.heap.size) zS)
              have g3' := (h2.chg dS (by omega) (.inr (by omega))).wide (lo' := w.heap.size) (by omega) (Nat.le_trans (by omega : _ ≤ wQ.heap.size) zS)
              have HL' := HL.out
              refine bodyPost_ret (v := .tuple #[.slice A1 rules.length C1, .slice A2 hol.length C2, .agg #[.int .i64 (b0), (.slice A9 (ds.length + 1) C9), (.slice (some ⟨g1, 0, none⟩) rules.length rules.length)]]) (by simp [results, Try.results30, go_sem, *]) rfl ?_
              exact ⟨_, rules, _, hol, ⟨b0, ds ++ [rP], es⟩, _, _, rfl, hn3, HR.out, hh60, by simp <;> omega, by simp <;> omega, by show -1 ≤ b0; omega, by show b0 ≤ 20001; omega, g2', g3', g0', g1', s.below bS.drew hl, (d.trans D).step bS.drew⟩)
          by_cases y2 : r22 = 2
          · subst y2
            go_wp2_with fail
            have hL := rdInts (w := w22) (n := w22.heap.size) [19995, 20000, 20001] (cs := #[.int .i64 19995, .int .i64 20000, .int .i64 20001]) rfl rfl
            have hsq := s.lt
            refine (l01Pick_any q _ [19995, 20000, 20001] _ _ _ (s.alloc _) hL (by simp) (.inr (by omega)) (by simp) (by simp)).mono ?_
            rintro e wN ⟨rN, rfl, hpN, s', cN⟩
            have zN : w22.heap.size ≤ wN.heap.size := by have := cN.size; simp at this; omega
            replace kC := Blk.chgAt (kC.alloc _) cN (by omega)
            replace o0 := OwnL.chg (o0.alloc _) cN (by omega)
            replace o1 := OwnL.chg (o1.alloc _) cN (by omega)
            replace D := (D.allocd _).trans cN
            clear cN s hL hsq
            simp only [List.mem_cons, List.not_mem_nil, or_false] at hpN
            have hN0 : 19995 ≤ rN ∧ rN ≤ 20001 := by omega
            have zl := kC.lt
            obtain ⟨q0, q1, q2⟩ := kC.c3
            have f0 := kC.frozen 0
            go_wp2_with fail
            have b8 : Below w3.heap.size wN (wN.setCell ⟨g, 0, none⟩ (.int .i64 rN)) := (Below.refl _ _).setCell (p := ⟨g, 0, none⟩) (by show w3.heap.size ≤ g; omega) _
            have n0 := own_ne o0 kC (by decide)
            have n1 := own_ne o1 kC (by decide)
            have zb8 := b8.size
            replace kC : Blk (wN.setCell ⟨g, 0, none⟩ (.int .i64 rN)) g 28 #[.int .i64 rN, p0, (.slice (some ⟨g1, 0, none⟩) rules.length rules.length)] := kC.set1 0 (.int .i64 rN)
            replace o0 := o0.setNe' (p := ⟨g, 0, none⟩) n0 (.int .i64 rN)
            replace o1 := o1.setNe' (p := ⟨g, 0, none⟩) n1 (.int .i64 rN)
            have s := s'.below b8 (by omega)
            replace D := D.step (b8.mono (by omega))
            clear b8 n0 n1 s' q0 q1 q2 f0 zl
            generalize (wN.setCell ⟨g, 0, none⟩ (.int .i64 rN)) = wM at *
            obtain ⟨Ap, Cp, rfl, -⟩ := (o0.rdw (fun _ => rfl)).rd.form
            replace kR := kR.chg D (by omega) (.inr (by omega))
            replace h1 := h1.chg D (by omega) (by omega)
            replace h2 := h2.chg D (by omega) (by omega)
            have zl := kC.lt
            have zr := kR.lt
            obtain ⟨q0, q1, q2⟩ := kC.c3
            obtain ⟨e0, e1, e2⟩ := kR.c3
            have f0 := kR.frozen 0
            have f1 := kR.frozen 1
            have f2 := kR.frozen 2
            have n0 : g ≠ w.heap.size := by omega
            have m0 := n0.symm
            go_wp2_with fail
            go_region
            try go_wp2_with fail
            try simp only [Exit.inBlock, Exit.then]
            have dS := (((Chg.refl w.heap.size (w.heap.size + 1) wM).setCell (p := ⟨w.heap.size, 0, none⟩) (Nat.le_refl _) (Nat.lt_succ_self _) (.int .i64 (rN))).setCell (p := ⟨w.heap.size, 1, none⟩) (Nat.le_refl _) (Nat.lt_succ_self _) ((.slice Ap ds.length Cp))).setCell (p := ⟨w.heap.size, 2, none⟩) (Nat.le_refl _) (Nat.lt_succ_self _) ((.slice (some ⟨g1, 0, none⟩) rules.length rules.length))
            have bS := (((Below.refl w.heap.size wM).setCell (p := ⟨w.heap.size, 0, none⟩) (Nat.le_refl _) (.int .i64 (rN))).setCell (p := ⟨w.heap.size, 1, none⟩) (Nat.le_refl _) ((.slice Ap ds.length Cp))).setCell (p := ⟨w.heap.size, 2, none⟩) (Nat.le_refl _) ((.slice (some ⟨g1, 0, none⟩) rules.length rules.length))
            have zS := dS.size
            have g0' := ((o0.rdw (fun _ => rfl)).rd.chg dS (Nat.le_refl _) (.inr (by omega))).wide (lo' := w.heap.size) (by omega) zS
            have g1' := ((o1.rdw (fun _ => rfl)).rd.chg dS (Nat.le_refl _) (.inr (by omega))).wide (lo' := w.heap.size) (by omega) zS
            have g2' := (h1.chg dS (by omega) (.inr (by omega))).wide (lo' := w.heap.size) (by omega) (Nat.le_trans (by omega : _ ≤ wM.heap.size) zS)
            have g3' := (h2.chg dS (by omega) (.inr (by omega))).wide (lo' := w.heap.size) (by omega) (Nat.le_trans (by omega : _ ≤ wM.heap.size) zS)
            have HL' := HL.out
            refine bodyPost_ret (v := .tuple #[.slice A1 rules.length C1, .slice A2 hol.length C2, .agg #[.int .i64 (rN), (.slice Ap ds.length Cp), (.slice (some ⟨g1, 0, none⟩) rules.length rules.length)]]) (by simp [results, Try.results30, go_sem, *]) rfl ?_
            exact ⟨_, rules, _, hol, ⟨rN, ds, es⟩, _, _, rfl, hn3, HR.out, hh60, by simp <;> omega, by simp <;> omega, by show -1 ≤ rN; omega, by show rN ≤ 20001; omega, g2', g3', g0', g1', s.below bS.drew hl, (d.trans D).step bS.drew⟩
          have hz0 : (r22 == 0) = false := by simpa using y0
          have hz1 : (r22 == 1) = false := by simpa using y1
          have hz2 : (r22 == 2) = false := by simpa using y2
          obtain ⟨Ap, Cp, rfl, -⟩ := (o0.rdw (fun _ => rfl)).rd.form
          replace kR := kR.chg D (by omega) (.inr (by omega))
          replace h1 := h1.chg D (by omega) (by omega)
          replace h2 := h2.chg D (by omega) (by omega)
          have zl := kC.lt
          have zr := kR.lt
          obtain ⟨q0, q1, q2⟩ := kC.c3
          obtain ⟨e0, e1, e2⟩ := kR.c3
          have f0 := kR.frozen 0
          have f1 := kR.frozen 1
          have f2 := kR.frozen 2
          have n0 : g ≠ w.heap.size := by omega
          have m0 := n0.symm
          go_wp2_with fail
          go_region
          try go_wp2_with fail
          try simp only [Exit.inBlock, Exit.then]
          have dS := (((Chg.refl w.heap.size (w.heap.size + 1) w22).setCell (p := ⟨w.heap.size, 0, none⟩) (Nat.le_refl _) (Nat.lt_succ_self _) (.int .i64 (b0))).setCell (p := ⟨w.heap.size, 1, none⟩) (Nat.le_refl _) (Nat.lt_succ_self _) ((.slice Ap ds.length Cp))).setCell (p := ⟨w.heap.size, 2, none⟩) (Nat.le_refl _) (Nat.lt_succ_self _) ((.slice (some ⟨g1, 0, none⟩) rules.length rules.length))
          have bS := (((Below.refl w.heap.size w22).setCell (p := ⟨w.heap.size, 0, none⟩) (Nat.le_refl _) (.int .i64 (b0))).setCell (p := ⟨w.heap.size, 1, none⟩) (Nat.le_refl _) ((.slice Ap ds.length Cp))).setCell (p := ⟨w.heap.size, 2, none⟩) (Nat.le_refl _) ((.slice (some ⟨g1, 0, none⟩) rules.length rules.length))
          have zS := dS.size
          have g0' := ((o0.rdw (fun _ => rfl)).rd.chg dS (Nat.le_refl _) (.inr (by omega))).wide (lo' := w.heap.size) (by omega) zS
          have g1' := ((o1.rdw (fun _ => rfl)).rd.chg dS (Nat.le_refl _) (.inr (by omega))).wide (lo' := w.heap.size) (by omega) zS
          have g2' := (h1.chg dS (by omega) (.inr (by omega))).wide (lo' := w.heap.size) (by omega) (Nat.le_trans (by omega : _ ≤ w22.heap.size) zS)
          have g3' := (h2.chg dS (by omega) (.inr (by omega))).wide (lo' := w.heap.size) (by omega) (Nat.le_trans (by omega : _ ≤ w22.heap.size) zS)
          have HL' := HL.out
          refine bodyPost_ret (v := .tuple #[.slice A1 rules.length C1, .slice A2 hol.length C2, .agg #[.int .i64 (b0), (.slice Ap ds.length Cp), (.slice (some ⟨g1, 0, none⟩) rules.length rules.length)]]) (by simp [results, Try.results30, go_sem, *]) rfl ?_
          exact ⟨_, rules, _, hol, ⟨b0, ds, es⟩, _, _, rfl, hn3, HR.out, hh60, by simp <;> omega, by simp <;> omega, by show -1 ≤ b0; omega, by show b0 ≤ 20001; omega, g2', g3', g0', g1', s.below bS.drew hl, (d.trans D).step bS.drew⟩
        have hgA : (0 : Int) < r21 := by omega
        go_wp2_with fail
        refine (l01Next_any q 3 _ s (by omega)).mono ?_
        rintro e w24 ⟨r24, rfl, a24, a24', s', c24⟩
        have zc24 := c24.size
        replace kC := kC.chg c24 kC.lt (.inr (by omega))
        replace o0 := o0.chg c24 (by omega)
        replace o1 := o1.chg c24 (by omega)
        replace D := D.trans c24
        clear c24 s
        have s := s'
        clear s'
        by_cases hB : r24 = 0
        · subst hB
          obtain ⟨u9, x8, y8⟩ := o1.spot hlt
          have zl := kC.lt
          obtain ⟨q0, q1, q2⟩ := kC.c3
          have hgg : g ≠ g1 := fun e => own_ne o1 kC (by decide) (by rw [e]; rfl)
          have hb8 := o1.block_ge g1 rfl
          go_upto_region 10 with fail
          have b8 : Below w3.heap.size w24 (w24.setCell ⟨g1, k, none⟩ (.bool true)) := (Below.refl _ _).setCell (p := ⟨g1, k, none⟩) (by show w3.heap.size ≤ g1; omega) _
          have zb8 := b8.size
          replace kC := kC.far (p := ⟨g1, k, none⟩) hgg (.bool true)
          replace o0 := o0.setNe' (p := ⟨g1, k, none⟩) (own_own o1 o0 (by decide) g1 rfl) (.bool true)
          replace o1 := o1.setIn k true
          replace s := s.below b8 (by omega)
          replace D := D.step (b8.mono (by omega))
          replace HL : Hid (ds.length = k ∧ (es.set k true).length = rules.length) := Lib.hid (by rw [List.length_set]; exact HL.out)
          clear b8 x8 y8 q0 q1 q2 zl
          generalize es.set k true = es' at *
          generalize (w24.setCell ⟨g1, k, none⟩ (.bool true)) = w8 at *
          obtain ⟨st, bS', offS, HS, rfl, -, hbw, hcell⟩ := RdF.get (h1.chg D (by omega) (by omega)) (Below.refl w8.heap.size w8) (by omega) hlt
          have hst := HR.out st (List.mem_of_getElem? HS.out)
          obtain ⟨hst0, hst1, hst2⟩ := hst
          have xd : w8.cell? ⟨bS', offS + k * 3 + 1, none⟩ = some (.int .i64 st.days) := by simpa [Stage.enc] using hcell 1 _ rfl
          clear hcell
          have hwr : IntKind.i64.wrap (st.days + 1) = st.days + 1 := by simp [IntKind.wrap, IntKind.bits, IntKind.signed]; omega
          go_cut [8] (fun s8 wx => ∃ dv' : Int, s8 = .int .i64 dv' ∧ dv ≤ dv' ∧ dv' ≤ dv + 400 ∧ Src wx q ∧ Chg q (q + 1) w8 wx)
          case first =>
            go_wp2_with fail
            all_goals (
              refine (l01Next_any q _ _ s (by omega)).mono ?_
              rintro e wZ ⟨rZ, rfl, aZ, aZ', sZ, cZ⟩
              have hv3 : IntKind.i64.wrap (dv + rZ) = dv + rZ := by simp [IntKind.wrap, IntKind.bits, IntKind.signed]; omega
              go_wp2_with fail
              go_meet
              exact ⟨dv + rZ, rfl, by omega, by omega, sZ, cZ⟩)
          case rest =>
            obtain ⟨dv', rfl, hv1, hv2, s', cZ⟩ := hcut
            generalize hwx : wc = wZ at *
            clear hwx xd HS hwr
            have zcZ := cZ.size
            replace kC := kC.chg cZ kC.lt (.inr (by omega))
            replace o0 := o0.chg cZ (by omega)
            replace o1 := o1.chg cZ (by omega)
            replace D := D.trans cZ
            clear cZ s
            have s := s'
            clear s'
            have ne9 := own_ne o0 kC (by decide)
            have zl := kC.lt
            obtain ⟨q0, q1, q2⟩ := kC.c3
            go_wp2_with (at_builtin; refine wpList_push2 (enc := encInt) _ _ (by first | rfl | simp) rfl (.tmp 55) (.tmp 57) 25 rfl w3.heap.size 2 _ (.int .i64 0) 1 8 Try.underlying25 (by kernel_rfl) rfl (by omega) _ ds dv' _ rfl rfl (encInt_one _) rfl rfl o0 (by omega) (by omega) (by (first | omega | (simp; omega) | (simp; done))) ?_; intro v9 w9 own9 gr9 at9; obtain ⟨A9, C9, rfl, -⟩ := (own9.rdw (fun _ => rfl)).rd.form; rw [show (ds ++ [dv']).length = ds.length + 1 from by simp] at own9; have k9 := Blk.grown gr9 kC ne9; have x9 := k9.cell 1; have y9 := k9.frozen 1)
            clear q0 q1 q2 zl
            have m9 := o1.grownFar gr9 (own_own o1 o0 (by decide))
            have b9 : Below w3.heap.size wZ (w9.setCell ⟨g, 1, none⟩ (.slice A9 (ds.length + 1) C9)) := (grown_below gr9 (by omega) (fun k hk => o0.block_ge k hk)).setCell (p := ⟨g, 1, none⟩) (by show w3.heap.size ≤ g; omega) _
            have n9 := own_ne own9 k9 (by decide)
            have n8 := own_ne m9 k9 (by decide)
            have zb9 := b9.size
            replace kC : Blk (w9.setCell ⟨g, 1, none⟩ (.slice A9 (ds.length + 1) C9)) g 28 #[.int .i64 b0, (.slice A9 (ds.length + 1) C9), (.slice (some ⟨g1, 0, none⟩) rules.length rules.length)] := k9.set1 1 (.slice A9 (ds.length + 1) C9)
            replace o0 := own9.setNe' (p := ⟨g, 1, none⟩) n9 (.slice A9 (ds.length + 1) C9)
            replace o1 := m9.setNe' (p := ⟨g, 1, none⟩) n8 (.slice A9 (ds.length + 1) C9)
            replace s := s.below b9 (by omega)
            replace D := D.step (b9.mono (by omega))
            clear b9 m9 k9 x9 y9 n9 n8 own9 ne9
            generalize (w9.setCell ⟨g, 1, none⟩ (.slice A9 (ds.length + 1) C9)) = w25 at *
            go_roundw
            case rel => exact ⟨k + 1, dv', ds ++ [dv'], es', _, by omega, by go_num, rfl, by omega, by omega, Lib.hid ⟨by have := HL.out; simp; omega, HL.out.2⟩, kC, o0, o1, s, D⟩
            case measure => simp [intOf] <;> omega
        have hB0 : (r24 == 0) = false := by simpa using hB
        go_upto_region 10 with fail
        obtain ⟨st, bS', offS, HS, rfl, -, hbw, hcell⟩ := RdF.get (h1.chg D (by omega) (by omega)) (Below.refl w24.heap.size w24) (by omega) hlt
        have hst := HR.out st (List.mem_of_getElem? HS.out)
        obtain ⟨hst0, hst1, hst2⟩ := hst
        have xd : w24.cell? ⟨bS', offS + k * 3 + 1, none⟩ = some (.int .i64 st.days) := by simpa [Stage.enc] using hcell 1 _ rfl
        clear hcell
        have hwr : IntKind.i64.wrap (st.days + 1) = st.days + 1 := by simp [IntKind.wrap, IntKind.bits, IntKind.signed]; omega
        go_cut [8] (fun s8 wx => ∃ dv' : Int, s8 = .int .i64 dv' ∧ dv ≤ dv' ∧ dv' ≤ dv + 400 ∧ Src wx q ∧ Chg q (q + 1) w24 wx)
        case first =>
          go_wp2_with fail
          all_goals (
            refine (l01Next_any q _ _ s (by omega)).mono ?_
            rintro e wZ ⟨rZ, rfl, aZ, aZ', sZ, cZ⟩
            have hv3 : IntKind.i64.wrap (dv + rZ) = dv + rZ := by simp [IntKind.wrap, IntKind.bits, IntKind.signed]; omega
            go_wp2_with fail
            go_meet
            exact ⟨dv + rZ, rfl, by omega, by omega, sZ, cZ⟩)
        case rest =>
          obtain ⟨dv', rfl, hv1, hv2, s', cZ⟩ := hcut
          generalize hwx : wc = wZ at *
          clear hwx xd HS hwr
          have zcZ := cZ.size
          replace kC := kC.chg cZ kC.lt (.inr (by omega))
          replace o0 := o0.chg cZ (by omega)
          replace o1 := o1.chg cZ (by omega)
          replace D := D.trans cZ
          clear cZ s
          have s := s'
          clear s'
          have ne9 := own_ne o0 kC (by decide)
          have zl := kC.lt
          obtain ⟨q0, q1, q2⟩ := kC.c3
          go_wp2_with (at_builtin; refine wpList_push2 (enc := encInt) _ _ (by first | rfl | simp) rfl (.tmp 55) (.tmp 57) 25 rfl w3.heap.size 2 _ (.int .i64 0) 1 8 Try.underlying25 (by kernel_rfl) rfl (by omega) _ ds dv' _ rfl rfl (encInt_one _) rfl rfl o0 (by omega) (by omega) (by (first | omega | (simp; omega) | (simp; done))) ?_; intro v9 w9 own9 gr9 at9; obtain ⟨A9, C9, rfl, -⟩ := (own9.rdw (fun _ => rfl)).rd.form; rw [show (ds ++ [dv']).length = ds.length + 1 from by simp] at own9; have k9 := Blk.grown gr9 kC ne9; have x9 := k9.cell 1; have y9 := k9.frozen 1)
          clear q0 q1 q2 zl
          have m9 := o1.grownFar gr9 (own_own o1 o0 (by decide))
          have b9 : Below w3.heap.size wZ (w9.setCell ⟨g, 1, none⟩ (.slice A9 (ds.length + 1) C9)) := (grown_below gr9 (by omega) (fun k hk => o0.block_ge k hk)).setCell (p := ⟨g, 1, none⟩) (by show w3.heap.size ≤ g; omega) _
          have n9 := own_ne own9 k9 (by decide)
          have n8 := own_ne m9 k9 (by decide)
          have zb9 := b9.size
          replace kC : Blk (w9.setCell ⟨g, 1, none⟩ (.slice A9 (ds.length + 1) C9)) g 28 #[.int .i64 b0, (.slice A9 (ds.length + 1) C9), (.slice (some ⟨g1, 0, none⟩) rules.length rules.length)] := k9.set1 1 (.slice A9 (ds.length + 1) C9)
          replace o0 := own9.setNe' (p := ⟨g, 1, none⟩) n9 (.slice A9 (ds.length + 1) C9)
          replace o1 := m9.setNe' (p := ⟨g, 1, none⟩) n8 (.slice A9 (ds.length + 1) C9)
          replace s := s.below b9 (by omega)
          replace D := D.step (b9.mono (by omega))
          clear b9 m9 k9 x9 y9 n9 n8 own9 ne9
          generalize (w9.setCell ⟨g, 1, none⟩ (.slice A9 (ds.length + 1) C9)) = w26 at *
          go_roundw
          case rel => exact ⟨k + 1, dv', ds ++ [dv'], es, _, by omega, by go_num, rfl, by omega, by omega, Lib.hid ⟨by have := HL.out; simp; omega, HL.out.2⟩, kC, o0, o1, s, D⟩
          case measure => simp [intOf] <;> omega
      · have hki : ¬ (k : Int) < (rules.length : Int) := by omega
        have hdl : ds.length ≤ 3 := by have := HL.out; omega
        have hel : es.length ≤ 3 := by have := HL.out; omega
        go_wp2_with fail
        refine (l01Next_any q 40 _ s (by omega)).mono ?_
        rintro e w27 ⟨r27, rfl, a27, a27', s', c27⟩
        have zc27 := c27.size
        replace kC := kC.chg c27 kC.lt (.inr (by omega))
        replace o0 := o0.chg c27 (by omega)
        replace o1 := o1.chg c27 (by omega)
        replace D := D.trans c27
        clear c27 s
        have s := s'
        clear s'
        by_cases y0 : r27 = 0
        · subst y0
          have ne9 := own_ne o1 kC (by decide)
          have zl := kC.lt
          obtain ⟨q0, q1, q2⟩ := kC.c3
          go_wp2_with (at_builtin; refine wpList_push2 (enc := encBool) _ _ (by first | rfl | simp) rfl (.tmp 65) (.tmp 66) 26 rfl w3.heap.size 4 _ (.bool false) 1 1 Try.underlying26 (by kernel_rfl) rfl (by omega) _ es true _ rfl rfl (encBool_unit _) rfl rfl o1 (by omega) (by omega) (by (first | omega | (simp; omega) | (simp; done))) ?_; intro v9 w9 own9 gr9 at9; obtain ⟨A9, C9, rfl, -⟩ := (own9.rdw (fun _ => rfl)).rd.form; rw [show (es ++ [true]).length = es.length + 1 from by simp] at own9; have k9 := Blk.grown gr9 kC ne9; have x9 := k9.cell 2; have y9 := k9.frozen 2)
          clear q0 q1 q2 zl
          have m9 := o0.grownFar gr9 (own_own o0 o1 (by decide))
          have b9 : Below w3.heap.size w27 (w9.setCell ⟨g, 2, none⟩ (.slice A9 (es.length + 1) C9)) := (grown_below gr9 (by omega) (fun k hk => o1.block_ge k hk)).setCell (p := ⟨g, 2, none⟩) (by show w3.heap.size ≤ g; omega) _
          have n9 := own_ne own9 k9 (by decide)
          have n8 := own_ne m9 k9 (by decide)
          have zb9 := b9.size
          replace kC : Blk (w9.setCell ⟨g, 2, none⟩ (.slice A9 (es.length + 1) C9)) g 28 #[.int .i64 b0, p0, (.slice A9 (es.length + 1) C9)] := k9.set1 2 (.slice A9 (es.length + 1) C9)
          replace o1 := own9.setNe' (p := ⟨g, 2, none⟩) n9 (.slice A9 (es.length + 1) C9)
          replace o0 := m9.setNe' (p := ⟨g, 2, none⟩) n8 (.slice A9 (es.length + 1) C9)
          replace s := s.below b9 (by omega)
          replace D := D.step (b9.mono (by omega))
          clear b9 m9 k9 x9 y9 n9 n8 own9 ne9
          generalize (w9.setCell ⟨g, 2, none⟩ (.slice A9 (es.length + 1) C9)) = w28 at *
          obtain ⟨Ap, Cp, rfl, -⟩ := (o0.rdw (fun _ => rfl)).rd.form
          replace kR := kR.chg D (by omega) (.inr (by omega))
          replace h1 := h1.chg D (by omega) (by omega)
          replace h2 := h2.chg D (by omega) (by omega)
          have zl := kC.lt
          have zr := kR.lt
          obtain ⟨q0, q1, q2⟩ := kC.c3
          obtain ⟨e0, e1, e2⟩ := kR.c3
          have f0 := kR.frozen 0
          have f1 := kR.frozen 1
          have f2 := kR.frozen 2
          have n0 : g ≠ w.heap.size := by omega
          have m0 := n0.symm
          go_wp2_with fail
          go_region
          try go_wp2_with fail
          try simp only [Exit.inBlock, Exit.then]
          have dS := (((Chg.refl w.heap.size (w.heap.size + 1) w28).setCell (p := ⟨w.heap.size, 0, none⟩) (Nat.le_refl _) (Nat.lt_succ_self _) (.int .i64 (b0))).setCell (p := ⟨w.heap.size, 1, none⟩) (Nat.le_refl _) (Nat.lt_succ_self _) ((.slice Ap ds.length Cp))).setCell (p := ⟨w.heap.size, 2, none⟩) (Nat.le_refl _) (Nat.lt_succ_self _) ((.slice A9 (es.length + 1) C9))
          have bS := (((Below.refl w.heap.size w28).setCell (p := ⟨w.heap.size, 0, none⟩) (Nat.le_refl _) (.int .i64 (b0))).setCell (p := ⟨w.heap.size, 1, none⟩) (Nat.le_refl _) ((.slice Ap ds.length Cp))).setCell (p := ⟨w.heap.size, 2, none⟩) (Nat.le_refl _) ((.slice A9 (es.length + 1) C9))
          have zS := dS.size
          have g0' := ((o0.rdw (fun _ => rfl)).rd.chg dS (Nat.le_refl _) (.inr (by omega))).wide (lo' := w.heap.size) (by omega) zS
          have g1' := ((o1.rdw (fun _ => rfl)).rd.chg dS (Nat.le_refl _) (.inr (by omega))).wide (lo' := w.heap.size) (by omega) zS
          have g2' := (h1.chg dS (by omega) (.inr (by omega))).wide (lo' := w.heap.size) (by omega) (Nat.le_trans (by omega : _ ≤ w28.heap.size) zS)
          have g3' := (h2.chg dS (by omega) (.inr (by omega))).wide (lo' := w.heap.size) (by omega) (Nat.le_trans (by omega : _ ≤ w28.heap.size) zS)
          have HL' := HL.out
          refine bodyPost_ret (v := .tuple #[.slice A1 rules.length C1, .slice A2 hol.length C2, .agg #[.int .i64 (b0), (.slice Ap ds.length Cp), (.slice A9 (es.length + 1) C9)]]) (by simp [results, Try.results30, go_sem, *]) rfl ?_
          exact ⟨_, rules, _, hol, ⟨b0, ds, es ++ [true]⟩, _, _, rfl, hn3, HR.out, hh60, by simp <;> omega, by simp <;> omega, by show -1 ≤ b0; omega, by show b0 ≤ 20001; omega, g2', g3', g0', g1', s.below bS.drew hl, (d.trans D).step bS.drew⟩
        by_cases y1 : r27 = 1
        · subst y1
          have zl := kC.lt
          obtain ⟨q0, q1, q2⟩ := kC.c3
          have f1 := kC.frozen 1
          have hsq := s.lt
          have hv1 : IntKind.i64.wrap (b0 - 1) = b0 - 1 := by simp [IntKind.wrap, IntKind.bits, IntKind.signed]; omega
          have hv2 : IntKind.i64.wrap (dv + 300) = dv + 300 := by simp [IntKind.wrap, IntKind.bits, IntKind.signed]; omega
          go_wp2_with fail
          go_region_law
            (first
              | (refine step_app (enc := encInt) _ rfl (.tmp 72) (.tmp 81) 25 (by rfl) w3.heap.size 2 (.int .i64 0) 1 8 Try.underlying25 (by kernel_rfl) rfl (by omega) (fun _ => rfl) encInt_one (by omega) _ _ ds [rP] 0 (wP.heap.size + 1) (by rfl) (by rfl) (oP.alloc _) (RdF.one (enc := encInt) (sz := 1) (x := rP) (Blk.new wP 2 #[.int .i64 rP]) rfl (Nat.zero_le _) (Nat.lt_succ_self _)) (by (first | omega | (simp; omega) | (simp; done))) (by simp <;> omega) ?_; intro v9 w9 own9 gr9 at9; obtain ⟨A9, C9, rfl, -⟩ := (own9.rdw (fun _ => rfl)).rd.form; rw [show (ds ++ [rP]).length = ds.length + 1 from by simp] at own9; have k9 := Blk.grown gr9 (kP.alloc _) nP; have x9 := k9.cell 1; have y9 := k9.frozen 1)
              | (go_simp; go_wp2_with (go_at_call 38; refine (l01Pick_any q _ [b0 - 1, dv + 300, 20001] _ _ _ (s.below (B := w27.heap.size) (by (repeat (first | with_reducible assumption | with_reducible exact Below.refl _ _ | with_reducible refine Below.setCell ?_ ?_ _ | with_reducible refine Below.alloc ?_ ?_ _ | with_reducible refine Below.drew ?_ | with_reducible refine below_drewN ?_ _ | with_reducible refine Below.step (by with_reducible assumption) ?_ ?_ | omega | (simp <;> omega) | (simp; done)))) hsq) (rdInts (w := w27.drew) (n := w27.heap.size) [b0 - 1, dv + 300, 20001] (cs := #[.int .i64 (b0 - 1), .int .i64 (dv + 300), .int .i64 20001]) rfl rfl) (by simp) (.inr (by omega)) (by simp) (by simp)).mono ?_; rintro e wP ⟨rP, rfl, hpP, sP, cP⟩; have zP : w27.heap.size ≤ wP.heap.size := (by have := cP.size; simp at this; omega); have kP := Blk.chgAt (Blk.alloc (Blk.drew kC) _) cP (by omega); have oP := OwnL.chg (OwnL.alloc (OwnL.drew o0) _) cP (by omega); have eP := OwnL.chg (OwnL.alloc (OwnL.drew o1) _) cP (by omega); have DP : Chg q (q + 1) w27 wP := Chg.trans (by repeat (first | exact Chg.refl _ _ _ | refine Chg.drew ?_ | refine Chg.allocd ?_ _)) cP; have lP := kP.lt; obtain ⟨p0', p1', p2'⟩ := kP.c3; have fP := kP.frozen 1; have nP := own_ne oP kP (by decide)))
              | (go_simp; go_wp2_with (go_at_call 38; refine (l01Pick_any q _ [b0 - 1, dv + 300, 20001] _ _ _ (s.below (B := w27.heap.size) (by (repeat (first | with_reducible assumption | with_reducible exact Below.refl _ _ | with_reducible refine Below.setCell ?_ ?_ _ | with_reducible refine Below.alloc ?_ ?_ _ | with_reducible refine Below.drew ?_ | with_reducible refine below_drewN ?_ _ | with_reducible refine Below.step (by with_reducible assumption) ?_ ?_ | omega | (simp <;> omega) | (simp; done)))) hsq) (RdF.below (rdInts (w := w27) (n := w27.heap.size) [b0 - 1, dv + 300, 20001] (cs := #[.int .i64 (b0 - 1), .int .i64 (dv + 300), .int .i64 20001]) rfl rfl) (Below.refl (w27.heap.size + 1) _).drew (Nat.le_refl _)) (by simp) (.inr (by omega)) (by simp) (by simp)).mono ?_; rintro e wP ⟨rP, rfl, hpP, sP, cP⟩; have zP : w27.heap.size ≤ wP.heap.size := (by have := cP.size; simp at this; omega); have kP := Blk.chgAt (Blk.drew (Blk.alloc kC _)) cP (by omega); have oP := OwnL.chg (OwnL.drew (OwnL.alloc o0 _)) cP (by omega); have eP := OwnL.chg (OwnL.drew (OwnL.alloc o1 _)) cP (by omega); have DP : Chg q (q + 1) w27 wP := Chg.trans (by repeat (first | exact Chg.refl _ _ _ | refine Chg.drew ?_ | refine Chg.allocd ?_ _)) cP; have lP := kP.lt; obtain ⟨p0', p1', p2'⟩ := kP.c3; have fP := kP.frozen 1; have nP := own_ne oP kP (by decide))))
          all_goals (
            have m9 := (eP.alloc (.cells #[.int .i64 rP] 2)).grownFar gr9 (own_own (eP.alloc _) (oP.alloc (.cells #[.int .i64 rP] 2)) (by decide))
            have ba : Below w3.heap.size wP (wP.alloc (.cells #[.int .i64 rP] 2)) := (Below.refl _ _).alloc (by omega) _
            have b9 : Below w3.heap.size wP (w9.setCell ⟨g, 1, none⟩ (.slice A9 (ds.length + 1) C9)) := (ba.trans (grown_below gr9 (by simp; omega) (fun k hk => (oP.alloc (.cells #[.int .i64 rP] 2)).block_ge k hk))).setCell (p := ⟨g, 1, none⟩) (by show w3.heap.size ≤ g; omega) _
            have n9 := own_ne own9 k9 (by decide)
            have n8 := own_ne m9 k9 (by decide)
            have zb9 := b9.size
            replace kC : Blk (w9.setCell ⟨g, 1, none⟩ (.slice A9 (ds.length + 1) C9)) g 28 #[.int .i64 b0, (.slice A9 (ds.length + 1) C9), (.slice (some ⟨g1, 0, none⟩) rules.length rules.length)] := k9.set1 1 (.slice A9 (ds.length + 1) C9)
            replace o0 := own9.setNe' (p := ⟨g, 1, none⟩) n9 (.slice A9 (ds.length + 1) C9)
            replace o1 := m9.setNe' (p := ⟨g, 1, none⟩) n8 (.slice A9 (ds.length + 1) C9)
            replace s := sP.below b9 (by omega)
            replace D := (D.trans DP).step (b9.mono (by omega))
            clear b9 ba m9 k9 x9 y9 n9 n8 own9 gr9 at9 kP oP eP sP cP DP q0 q1 q2 f1 p0' p1' p2' fP nP zl lP
            generalize (w9.setCell ⟨g, 1, none⟩ (.slice A9 (ds.length + 1) C9)) = wQ at *
            replace kR := kR.chg D (by omega) (.inr (by omega))
            replace h1 := h1.chg D (by omega) (by omega)
            replace h2 := h2.chg D (by omega) (by omega)
            have zl := kC.lt
            have zr := kR.lt
            obtain ⟨q0, q1, q2⟩ := kC.c3
            obtain ⟨e0, e1, e2⟩ := kR.c3
            have f0 := kR.frozen 0
            have f1 := kR.frozen 1
            have f2 := kR.frozen 2
            have n0 : g ≠ w.heap.size := by omega
            have m0 := n0.symm
            go_wp2_with fail
            go_region
            try go_wp2_with fail
            try simp only [Exit.inBlock, Exit.then]
            have dS := (((Chg.refl w.heap.size (w.heap.size + 1) wQ).setCell (p := ⟨w.heap.size, 0, none⟩) (Nat.le_refl _) (Nat.lt_succ_self _) (.int .i64 (b0))).setCell (p := ⟨w.heap.size, 1, none⟩) (Nat.le_refl _) (Nat.lt_succ_self _) ((.slice A9 (ds.length + 1) C9))).setCell (p := ⟨w.heap.size, 2, none⟩) (Nat.le_refl _) (Nat.lt_succ_self _) ((.slice (some ⟨g1, 0, none⟩) rules.length rules.length))
            have bS := (((Below.refl w.heap.size wQ).setCell (p := ⟨w.heap.size, 0, none⟩) (Nat.le_refl _) (.int .i64 (b0))).setCell (p := ⟨w.heap.size, 1, none⟩) (Nat.le_refl _) ((.slice A9 (ds.length + 1) C9))).setCell (p := ⟨w.heap.size, 2, none⟩) (Nat.le_refl _) ((.slice (some ⟨g1, 0, none⟩) rules.length rules.length))
            have zS := dS.size
            have g0' := ((o0.rdw (fun _ => rfl)).rd.chg dS (Nat.le_refl _) (.inr (by omega))).wide (lo' := w.heap.size) (by omega) zS
            have g1' := ((o1.rdw (fun _ => rfl)).rd.chg dS (Nat.le_refl _) (.inr (by omega))).wide (lo' := w.heap.size) (by omega) zS
            have g2' := (h1.chg dS (by omega) (.inr (by omega))).wide (lo' := w.heap.size) (by omega) (Nat.le_trans (by omega : _ ≤ wQ.heap.size) zS)
            have g3' := (h2.chg dS (by omega) (.inr (by omega))).wide (lo' := w.heap.size) (by omega) (Nat.le_trans (by omega : _ ≤ wQ.heap.size) zS)
            have HL' := HL.out
            refine bodyPost_ret (v := .tuple #[.slice A1 rules.length C1, .slice A2 hol.length C2, .agg #[.int .i64 (b0), (.slice A9 (ds.length + 1) C9), (.slice (some ⟨g1, 0, none⟩) rules.length rules.length)]]) (by simp [results, Try.results30, go_sem, *]) rfl ?_
            exact ⟨_, rules, _, hol, ⟨b0, ds ++ [rP], es⟩, _, _, rfl, hn3, HR.out, hh60, by simp <;> omega, by simp <;> omega, by show -1 ≤ b0; omega, by show b0 ≤ 20001; omega, g2', g3', g0', g1', s.below bS.drew hl, (d.trans D).step bS.drew⟩)
        by_cases y2 : r27 = 2
        · subst y2
          go_wp2_with fail
          have hL := rdInts (w := w27) (n := w27.heap.size) [19995, 20000, 20001] (cs := #[.int .i64 19995, .int .i64 20000, .int .i64 20001]) rfl rfl
          have hsq := s.lt
          refine (l01Pick_any q _ [19995, 20000, 20001] _ _ _ (s.alloc _) hL (by simp) (.inr (by omega)) (by simp) (by simp)).mono ?_
          rintro e wN ⟨rN, rfl, hpN, s', cN⟩
          have zN : w27.heap.size ≤ wN.heap.size := by have := cN.size; simp at this; omega
          replace kC := Blk.chgAt (kC.alloc _) cN (by omega)
          replace o0 := OwnL.chg (o0.alloc _) cN (by omega)
          replace o1 := OwnL.chg (o1.alloc _) cN (by omega)
          replace D := (D.allocd _).trans cN
          clear cN s hL hsq
          simp only [List.mem_cons, List.not_mem_nil, or_false] at hpN
          have hN0 : 19995 ≤ rN ∧ rN ≤ 20001 := by omega
          have zl := kC.lt
          obtain ⟨q0, q1, q2⟩ := kC.c3
          have f0 := kC.frozen 0
          go_wp2_with fail
          have b8 : Below w3.heap.size wN (wN.setCell ⟨g, 0, none⟩ (.int .i64 rN)) := (Below.refl _ _).setCell (p := ⟨g, 0, none⟩) (by show w3.heap.size ≤ g; omega) _
          have n0 := own_ne o0 kC (by decide)
          have n1 := own_ne o1 kC (by decide)
          have zb8 := b8.size
          replace kC : Blk (wN.setCell ⟨g, 0, none⟩ (.int .i64 rN)) g 28 #[.int .i64 rN, p0, (.slice (some ⟨g1, 0, none⟩) rules.length rules.length)] := kC.set1 0 (.int .i64 rN)
          replace o0 := o0.setNe' (p := ⟨g, 0, none⟩) n0 (.int .i64 rN)
          replace o1 := o1.setNe' (p := ⟨g, 0, none⟩) n1 (.int .i64 rN)
          have s := s'.below b8 (by omega)
          replace D := D.step (b8.mono (by omega))
          clear b8 n0 n1 s' q0 q1 q2 f0 zl
          generalize (wN.setCell ⟨g, 0, none⟩ (.int .i64 rN)) = wM at *
          obtain ⟨Ap, Cp, rfl, -⟩ := (o0.rdw (fun _ => rfl)).rd.form
          replace kR := kR.chg D (by omega) (.inr (by omega))
          replace h1 := h1.chg D (by omega) (by omega)
          replace h2 := h2.chg D (by omega) (by omega)
          have zl := kC.lt
          have zr := kR.lt
          obtain ⟨q0, q1, q2⟩ := kC.c3
          obtain ⟨e0, e1, e2⟩ := kR.c3
          have f0 := kR.frozen 0
          have f1 := kR.frozen 1
          have f2 := kR.frozen 2
          have n0 : g ≠ w.heap.size := by omega
          have m0 := n0.symm
          go_wp2_with fail
          go_region
          try go_wp2_with fail
          try simp only [Exit.inBlock, Exit.then]
          have dS := (((Chg.refl w.heap.size (w.heap.size + 1) wM).setCell (p := ⟨w.heap.size, 0, none⟩) (Nat.le_refl _) (Nat.lt_succ_self _) (.int .i64 (rN))).setCell (p := ⟨w.heap.size, 1, none⟩) (Nat.le_refl _) (Nat.lt_succ_self _) ((.slice Ap ds.length Cp))).setCell (p := ⟨w.heap.size, 2, none⟩) (Nat.le_refl _) (Nat.lt_succ_self _) ((.slice (some ⟨g1, 0, none⟩) rules.length rules.length))
          have bS := (((Below.refl w.heap.size wM).setCell (p := ⟨w.heap.size, 0, none⟩) (Nat.le_refl _) (.int .i64 (rN))).setCell (p := ⟨w.heap.size, 1, none⟩) (Nat.le_refl _) ((.slice Ap ds.length Cp))).setCell (p := ⟨w.heap.size, 2, none⟩) (Nat.le_refl _) ((.slice (some ⟨g1, 0, none⟩) rules.length rules.length))
          have zS := dS.size
          have g0' := ((o0.rdw (fun _ => rfl)).rd.chg dS (Nat.le_refl _) (.inr (by omega))).wide (lo' := w.heap.size) (by omega) zS
          have g1' := ((o1.rdw (fun _ => rfl)).rd.chg dS (Nat.le_refl _) (.inr (by omega))).wide (lo' := w.heap.size) (by omega) zS
          have g2' := (h1.chg dS (by omega) (.inr (by omega))).wide (lo' := w.heap.size) (by omega) (Nat.le_trans (by omega : _ ≤ wM.heap.size) zS)
          have g3' := (h2.chg dS (by omega) (.inr (by omega))).wide (lo' := w.heap.size) (by omega) (Nat.le_trans (by omega : _ ≤ wM.heap.size) zS)
          have HL' := HL.out
          refine bodyPost_ret (v := .tuple #[.slice A1 rules.length C1, .slice A2 hol.length C2, .agg #[.int .i64 (rN), (.slice Ap ds.length Cp), (.slice (some ⟨g1, 0, none⟩) rules.length rules.length)]]) (by simp [results, Try.results30, go_sem, *]) rfl ?_
          exact ⟨_, rules, _, hol, ⟨rN, ds, es⟩, _, _, rfl, hn3, HR.out, hh60, by simp <;> omega, by simp <;> omega, by show -1 ≤ rN; omega, by show rN ≤ 20001; omega, g2', g3', g0', g1', s.below bS.drew hl, (d.trans D).step bS.drew⟩
        have hz0 : (r27 == 0) = false := by simpa using y0
        have hz1 : (r27 == 1) = false := by simpa using y1
        have hz2 : (r27 == 2) = false := by simpa using y2
        obtain ⟨Ap, Cp, rfl, -⟩ := (o0.rdw (fun _ => rfl)).rd.form
        replace kR := kR.chg D (by omega) (.inr (by omega))
        replace h1 := h1.chg D (by omega) (by omega)
        replace h2 := h2.chg D (by omega) (by omega)
        have zl := kC.lt
        have zr := kR.lt
        obtain ⟨q0, q1, q2⟩ := kC.c3
        obtain ⟨e0, e1, e2⟩ := kR.c3
        have f0 := kR.frozen 0
        have f1 := kR.frozen 1
        have f2 := kR.frozen 2
        have n0 : g ≠ w.heap.size := by omega
        have m0 := n0.symm
        go_wp2_with fail
        go_region
        try go_wp2_with fail
        try simp only [Exit.inBlock, Exit.then]
        have dS := (((Chg.refl w.heap.size (w.heap.size + 1) w27).setCell (p := ⟨w.heap.size, 0, none⟩) (Nat.le_refl _) (Nat.lt_succ_self _) (.int .i64 (b0))).setCell (p := ⟨w.heap.size, 1, none⟩) (Nat.le_refl _) (Nat.lt_succ_self _) ((.slice Ap ds.length Cp))).setCell (p := ⟨w.heap.size, 2, none⟩) (Nat.le_refl _) (Nat.lt_succ_self _) ((.slice (some ⟨g1, 0, none⟩) rules.length rules.length))
        have bS := (((Below.refl w.heap.size w27).setCell (p := ⟨w.heap.size, 0, none⟩) (Nat.le_refl _) (.int .i64 (b0))).setCell (p := ⟨w.heap.size, 1, none⟩) (Nat.le_refl _) ((.slice Ap ds.length Cp))).setCell (p := ⟨w.heap.size, 2, none⟩) (Nat.le_refl _) ((.slice (some ⟨g1, 0, none⟩) rules.length rules.length))
        have zS := dS.size
        have g0' := ((o0.rdw (fun _ => rfl)).rd.chg dS (Nat.le_refl _) (.inr (by omega))).wide (lo' := w.heap.size) (by omega) zS
        have g1' := ((o1.rdw (fun _ => rfl)).rd.chg dS (Nat.le_refl _) (.inr (by omega))).wide (lo' := w.heap.size) (by omega) zS
        have g2' := (h1.chg dS (by omega) (.inr (by omega))).wide (lo' := w.heap.size) (by omega) (Nat.le_trans (by omega : _ ≤ w27.heap.size) zS)
        have g3' := (h2.chg dS (by omega) (.inr (by omega))).wide (lo' := w.heap.size) (by omega) (Nat.le_trans (by omega : _ ≤ w27.heap.size) zS)
        have HL' := HL.out
        refine bodyPost_ret (v := .tuple #[.slice A1 rules.length C1, .slice A2 hol.length C2, .agg #[.int .i64 (b0), (.slice Ap ds.length Cp), (.slice (some ⟨g1, 0, none⟩) rules.length rules.length)]]) (by simp [results, Try.results30, go_sem, *]) rfl ?_
        exact ⟨_, rules, _, hol, ⟨b0, ds, es⟩, _, _, rfl, hn3, HR.out, hh60, by simp <;> omega, by simp <;> omega, by show -1 ≤ b0; omega, by show b0 ≤ 20001; omega, g2', g3', g0', g1', s.below bS.drew hl, (d.trans D).step bS.drew⟩
end Go.Proofs.Ytfafcicbfgdmcaa
