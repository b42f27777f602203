/- Walks: copies of a custody, ReachStage, ExtendStage. Written by a program (gen_reach.py). -/
import Derived.Test.YtfafcicbfgdmcaaCustodyX
import Derived.Test.YtfafcicbfgdmcaaRowI
import Derived.Deep.RegionLaw
namespace Go.Proofs.Ytfafcicbfgdmcaa
open Go.RowKit
set_option linter.unusedVariables false

theorem encBool_one (n : Bool) : ∀ u ∈ encBool n, u.oneCell' = true := by
  intro u hu
  simp [encBool] at hu
  subst hu
  rfl
set_option maxRecDepth 100000 in
set_option maxHeartbeats 4000000 in
theorem cloneBool_any (v : Value) (xs : List Bool) (lo hi : Nat) (w : World) (h : RdF encBool 1 w lo hi v xs) (hh : hi ≤ w.heap.size) (hm : xs.length ≤ 1048576) :
    Calls Try.prog 57 #[v] w fun e w' => RetV (fun v' w' => OwnL encBool 1 4 w' w.heap.size v' xs) w e w' := by
  have h0 := h
  obtain ⟨A, c, rfl, hc, hA⟩ := h
  clear hA
  obtain ⟨arr, hmk, hown⟩ := mkCap (P := Try.prog) (enc := encBool) 26 4 Try.underlying26 (.bool false) 1 1 (by kernel_rfl) rfl xs.length (by omega) (by unfold maxLen; omega)
  have hw := hown w w.heap.size (Nat.le_refl _)
  have hx := h0.below ((Below.refl w.heap.size w).alloc (Nat.le_refl _) (.cells arr 4)) hh
  go_enter Try.func57, Try.ntmps57
  go_wp2_with (at_builtin; refine wpList_app (enc := encBool) _ rfl _ _ _ rfl w.heap.size 4 (.bool false) 1 1 Try.underlying26 (by kernel_rfl) rfl (by omega) (fun _ => rfl) encBool_one (by omega) _ _ [] xs lo hi (by rfl) (by rfl) hw hx (by simp) (by simp; omega) ?_; intro v2 w2 hown2 hg2 hk2)
  go_ret
  exact ⟨_, rfl, by simpa using hown2, hk2 _ _ (Nat.le_refl _) ((Below.refl _ _).alloc (Nat.le_refl _) _)⟩
theorem OwnL.grown2 {α β : Type} {enc : α → List Value} {sz : Nat} {t : TypeId} {enc' : β → List Value} {sz' : Nat} {t' : TypeId} {w w' : World} {base base' : Nat} {v v' : Value} {xs : List α} {ys : List β} (h : OwnL enc' sz' t' w base' v' ys) (ho : OwnL enc sz t w base v xs) (hg : w.grownBy w' v.ownBlock) (hne : t' ≠ t) : OwnL enc' sz' t' w' base' v' ys := by
  refine World.ownsRow.kept h hg ?_
  rcases h.2 with ⟨rfl, h0⟩ | ⟨g, cap, cur, rfl, h1, hh, -⟩
  · exact .inl rfl
  · exact .inr (own_ne ho (show Blk w g t' cur from hh) hne)
theorem OwnL.setFar {α : Type} {enc : α → List Value} {sz : Nat} {t : TypeId} {w : World} {base : Nat} {v : Value} {xs : List α} (h : OwnL enc sz t w base v xs) {p : Addr} (hp : p.block < base) (u : Value) : OwnL enc sz t (w.setCell p u) base v xs := by
  refine ⟨h.1, ?_⟩
  rcases h.2 with h0 | ⟨g, cap, cur, h1, h2, hh, rest⟩
  · exact .inl h0
  · exact .inr ⟨g, cap, cur, h1, h2, (Below.heap_setCell w p u g (by omega)).trans hh, rest⟩
/-- A copy of a custody that one can append to. -/
def CopyTo (c : Custody) (w : World) (e : Ending) (w' : World) : Prop := ∃ (A0 A1 : Option Addr) (C0 C1 : Nat), e = .returned (.agg #[.int .i64 c.start, .slice A0 c.done.length C0, .slice A1 c.ext.length C1]) ∧ OwnL encInt 1 2 w' w.heap.size (.slice A0 c.done.length C0) c.done ∧ OwnL encBool 1 4 w' w.heap.size (.slice A1 c.ext.length C1) c.ext ∧ Below w.heap.size w w'

set_option maxRecDepth 100000 in
set_option maxHeartbeats 4000000 in
theorem copyCustody_any (c : Custody) (p0 p1 : Value) (lo3 hi3 : Nat) (w : World) (hc0 : RdF encInt 1 w lo3 hi3 p0 c.done) (hc1 : RdF encBool 1 w lo3 hi3 p1 c.ext) (hh3 : hi3 ≤ w.heap.size) (hcs : c.small) :
    Calls Try.prog 36 #[.agg #[.int .i64 c.start, p0, p1]] w fun e w' => CopyTo c w e w' := by
  obtain ⟨A0, C0, rfl, hC0⟩ := hc0.form
  obtain ⟨A1, C1, rfl, hC1⟩ := hc1.form
  have hl0 := hcs.len0
  have hl1 := hcs.len1
  have hbk : Below w.heap.size w ((w.alloc (.cells #[.int .i64 c.start, .slice A0 c.done.length C0, .slice A1 c.ext.length C1] 28)).alloc (.cells #[.int .i64 0, .slice none 0 0, .slice none 0 0] 28)) := ((Below.refl _ _).alloc (Nat.le_refl _) _).alloc (by simp) _
  have hzk : ((w.alloc (.cells #[.int .i64 c.start, .slice A0 c.done.length C0, .slice A1 c.ext.length C1] 28)).alloc (.cells #[.int .i64 0, .slice none 0 0, .slice none 0 0] 28)).heap.size = w.heap.size + 2 := by simp
  have kX := (Blk.newAt (w := w) (n := w.heap.size) (t := 28) (cs := #[.int .i64 c.start, .slice A0 c.done.length C0, .slice A1 c.ext.length C1]) rfl).alloc (.cells #[.int .i64 0, .slice none 0 0, .slice none 0 0] 28)
  have kZ := Blk.newAt (w := w.alloc (.cells #[.int .i64 c.start, .slice A0 c.done.length C0, .slice A1 c.ext.length C1] 28)) (n := w.heap.size + 1) (t := 28) (cs := #[.int .i64 0, .slice none 0 0, .slice none 0 0]) (by simp)
  replace hc0 := hc0.below hbk hh3
  replace hc1 := hc1.below hbk hh3
  go_enter Try.func36, Try.ntmps36
  go_wp2_with fail
  generalize ((w.alloc (.cells #[.int .i64 c.start, .slice A0 c.done.length C0, .slice A1 c.ext.length C1] 28)).alloc (.cells #[.int .i64 0, .slice none 0 0, .slice none 0 0] 28)) = W0 at *
  obtain ⟨q0, q1, q2⟩ := kX.c3
  have zl := kX.lt
  go_region_held3 (fun w' => w'.cell? ⟨w.heap.size, 0, none⟩ = some (.int .i64 c.start) ∧ w'.cell? ⟨w.heap.size, 1, none⟩ = some (.slice A0 c.done.length C0) ∧ w'.cell? ⟨w.heap.size, 2, none⟩ = some (.slice A1 c.ext.length C1)) (go_keep)
    (first
      | (go_at_call 57; refine (cloneBool_any _ c.ext lo3 hi3 _ (hc1.below b1 (by omega)) (by omega) hl1).mono ?_; rintro e w2 ⟨v2, rfl, ho2, b2⟩; obtain ⟨A6, C6, rfl, hC6⟩ := RdF.form (ho2.rdw (fun _ => rfl)).rd; have ho1 := ho1.below b2; have b02 := Below.step b2 z1 b1; have z2 := b2.size; obtain ⟨s0, s1, s2⟩ := (kX.below b02 (by omega)).c3; have kZ2 := kZ.below b02 (by omega); obtain ⟨t0, t1, t2⟩ := kZ2.c3; have f0 := kZ2.frozen 0; have f1 := kZ2.frozen 1; have f2 := kZ2.frozen 2)
      | (go_at_call 56; refine (cloneInt_any _ c.done lo3 hi3 _ (hc0.below (B := W0.heap.size) (Below.refl _ W0).drew (by omega)) (by show _ ≤ W0.heap.size; omega) hl0).mono ?_; rintro e w1 ⟨v1, rfl, ho1, b1⟩; replace b1 : Below W0.heap.size W0 w1 := Below.undrew b1; have z1 := b1.size; obtain ⟨A5, C5, rfl, hC5⟩ := RdF.form (ho1.rdw (fun _ => rfl)).rd; obtain ⟨r0, r1, r2⟩ := (kX.below b1 (by omega)).c3))
  all_goals
    go_wp2_with fail
    refine bodyPost_ret (v := .agg #[.int .i64 c.start, .slice A5 c.done.length C5, .slice A6 c.ext.length C6]) (by simp [results, Try.results36, go_sem, *]) rfl ⟨A5, A6, C5, C6, rfl, ?_, ?_, ?_⟩
    · exact ((((ho1.mono (show w.heap.size + 2 ≤ _ by first | omega | (simp; omega) | (show w.heap.size + 2 ≤ W0.heap.size; omega))).setFar (p := ⟨w.heap.size + 1, 0, none⟩) (by show w.heap.size + 1 < w.heap.size + 2; omega) _).setFar (p := ⟨w.heap.size + 1, 1, none⟩) (by show w.heap.size + 1 < w.heap.size + 2; omega) _).setFar (p := ⟨w.heap.size + 1, 2, none⟩) (by show w.heap.size + 1 < w.heap.size + 2; omega) _).mono (by omega)
    · exact ((((ho2.mono (show w.heap.size + 2 ≤ _ by first | omega | (simp; omega) | (show w.heap.size + 2 ≤ W0.heap.size; omega))).setFar (p := ⟨w.heap.size + 1, 0, none⟩) (by show w.heap.size + 1 < w.heap.size + 2; omega) _).setFar (p := ⟨w.heap.size + 1, 1, none⟩) (by show w.heap.size + 1 < w.heap.size + 2; omega) _).setFar (p := ⟨w.heap.size + 1, 2, none⟩) (by show w.heap.size + 1 < w.heap.size + 2; omega) _).mono (by omega)
    · exact (((Below.step b02 (by omega) hbk).setCell (p := ⟨w.heap.size + 1, 0, none⟩) (by show w.heap.size ≤ w.heap.size + 1; omega) _).setCell (p := ⟨w.heap.size + 1, 1, none⟩) (by show w.heap.size ≤ w.heap.size + 1; omega) _).setCell (p := ⟨w.heap.size + 1, 2, none⟩) (by show w.heap.size ≤ w.heap.size + 1; omega) _
set_option maxRecDepth 100000 in
set_option maxHeartbeats 4000000 in
theorem l20Own_any (c : Custody) (p0 p1 : Value) (lo3 hi3 : Nat) (w : World) (hc0 : RdF encInt 1 w lo3 hi3 p0 c.done) (hc1 : RdF encBool 1 w lo3 hi3 p1 c.ext) (hh3 : hi3 ≤ w.heap.size) (hcs : c.small) :
    Calls Try.prog 41 #[.agg #[.int .i64 c.start, p0, p1]] w fun e w' => CopyTo c w e w' := by
  obtain ⟨A0, C0, rfl, hC0⟩ := hc0.form
  obtain ⟨A1, C1, rfl, hC1⟩ := hc1.form
  have hl0 := hcs.len0
  have hl1 := hcs.len1
  have hbk : Below w.heap.size w ((w.alloc (.cells #[.int .i64 c.start, .slice A0 c.done.length C0, .slice A1 c.ext.length C1] 28)).alloc (.cells #[.int .i64 0, .slice none 0 0, .slice none 0 0] 28)) := ((Below.refl _ _).alloc (Nat.le_refl _) _).alloc (by simp) _
  have hzk : ((w.alloc (.cells #[.int .i64 c.start, .slice A0 c.done.length C0, .slice A1 c.ext.length C1] 28)).alloc (.cells #[.int .i64 0, .slice none 0 0, .slice none 0 0] 28)).heap.size = w.heap.size + 2 := by simp
  have kX := (Blk.newAt (w := w) (n := w.heap.size) (t := 28) (cs := #[.int .i64 c.start, .slice A0 c.done.length C0, .slice A1 c.ext.length C1]) rfl).alloc (.cells #[.int .i64 0, .slice none 0 0, .slice none 0 0] 28)
  have kZ := Blk.newAt (w := w.alloc (.cells #[.int .i64 c.start, .slice A0 c.done.length C0, .slice A1 c.ext.length C1] 28)) (n := w.heap.size + 1) (t := 28) (cs := #[.int .i64 0, .slice none 0 0, .slice none 0 0]) (by simp)
  replace hc0 := hc0.below hbk hh3
  replace hc1 := hc1.below hbk hh3
  go_enter Try.func41, Try.ntmps41
  go_wp2_with fail
  generalize ((w.alloc (.cells #[.int .i64 c.start, .slice A0 c.done.length C0, .slice A1 c.ext.length C1] 28)).alloc (.cells #[.int .i64 0, .slice none 0 0, .slice none 0 0] 28)) = W0 at *
  obtain ⟨q0, q1, q2⟩ := kX.c3
  have zl := kX.lt
  go_region_held3 (fun w' => w'.cell? ⟨w.heap.size, 0, none⟩ = some (.int .i64 c.start) ∧ w'.cell? ⟨w.heap.size, 1, none⟩ = some (.slice A0 c.done.length C0) ∧ w'.cell? ⟨w.heap.size, 2, none⟩ = some (.slice A1 c.ext.length C1)) (go_keep)
    (first
      | (go_at_call 58; refine (l01Own_any _ c.done lo3 hi3 _ (hc0.below (B := W0.heap.size) (by (repeat (first | with_reducible assumption | with_reducible exact Below.refl _ _ | with_reducible refine Below.setCell ?_ ?_ _ | with_reducible refine Below.alloc ?_ ?_ _ | with_reducible refine Below.drew ?_ | with_reducible refine below_drewN ?_ _ | with_reducible refine Below.step (by with_reducible assumption) ?_ ?_ | omega | (simp <;> omega) | (simp; done)))) (by omega)) (by first | (show _ ≤ W0.heap.size; omega) | (simp; omega)) hl0).mono ?_; rintro e w1 ⟨v1, rfl, ho1, b1⟩; have b01 : Below W0.heap.size W0 w1 := (by first | exact Below.undrew b1 | (repeat (first | with_reducible assumption | with_reducible exact Below.refl _ _ | with_reducible refine Below.setCell ?_ ?_ _ | with_reducible refine Below.alloc ?_ ?_ _ | with_reducible refine Below.drew ?_ | with_reducible refine below_drewN ?_ _ | with_reducible refine Below.step (by with_reducible assumption) ?_ ?_ | omega | (simp <;> omega) | (simp; done)))); have z1 := b01.size; obtain ⟨A5, C5, rfl, hC5⟩ := RdF.form (ho1.rdw (fun _ => rfl)).rd; obtain ⟨r0, r1, r2⟩ := (kX.below b01 (by omega)).c3)
      | (rw [if_pos (by rfl)]; refine wp_app (enc := encBool) _ _ _ _ (by rfl) W0.heap.size 4 (.bool false) 1 1 Try.underlying26 (by kernel_rfl) rfl (by omega) (fun _ => rfl) encBool_one (by omega) _ _ [] c.ext lo3 hi3 (by rfl) (by rfl) ((OwnL.emptyAt (w := W0) (n := w.heap.size + 2) (base := W0.heap.size) (by omega) (Nat.le_refl _)).drew.below b1) (hc1.below b01 (by omega)) z1 (by simp; omega) ?_; intro v2 w2 ho2 hg2 hk2; rw [List.nil_append] at ho2; obtain ⟨A6, C6, rfl, hC6⟩ := RdF.form (ho2.rdw (fun _ => rfl)).rd; have b02 : Below W0.heap.size W0 w2 := hk2 _ _ (Nat.le_refl _) b01; have z2 := b02.size; have ho1 := OwnL.grown2 ho1 ((OwnL.emptyAt (enc := encBool) (sz := 1) (t := 4) (w := W0) (n := w.heap.size + 2) (base := W0.heap.size) (by omega) (Nat.le_refl _)).drew.below b1) hg2 (by decide); obtain ⟨s0, s1, s2⟩ := (kX.below b02 (by omega)).c3; have kZ2 := kZ.below b02 (by omega); obtain ⟨t0, t1, t2⟩ := kZ2.c3; have f0 := kZ2.frozen 0; have f1 := kZ2.frozen 1; have f2 := kZ2.frozen 2)
      | (rw [if_pos (by rfl)]; refine wp_app (enc := encBool) _ _ _ _ (by rfl) W0.heap.size 4 (.bool false) 1 1 Try.underlying26 (by kernel_rfl) rfl (by omega) (fun _ => rfl) encBool_one (by omega) _ _ [] c.ext lo3 hi3 (by rfl) (by rfl) (OwnL.emptyAt (w := w1) rfl z1) ((hc1.below b01 (by omega)).below (B := w1.heap.size) ((Below.refl _ _).alloc (Nat.le_refl _) _) (by omega)) (by simp; omega) (by simp; omega) ?_; intro v2 w2 ho2 hg2 hk2; rw [List.nil_append] at ho2; obtain ⟨A6, C6, rfl, hC6⟩ := RdF.form (ho2.rdw (fun _ => rfl)).rd; have b02 : Below W0.heap.size W0 w2 := hk2 _ _ (Nat.le_refl _) (b01.alloc (by omega) _); have z2 := b02.size; have ho1 := OwnL.grown2 (OwnL.alloc ho1 _) (OwnL.emptyAt (enc := encBool) (sz := 1) (t := 4) (w := w1) (base := W0.heap.size) rfl z1) hg2 (by decide); obtain ⟨s0, s1, s2⟩ := (kX.below b02 (by omega)).c3; have kZ2 := kZ.below b02 (by omega); obtain ⟨t0, t1, t2⟩ := kZ2.c3; have f0 := kZ2.frozen 0; have f1 := kZ2.frozen 1; have f2 := kZ2.frozen 2))
  all_goals
    go_wp2_with fail
    refine bodyPost_ret (v := .agg #[.int .i64 c.start, .slice A5 c.done.length C5, .slice A6 c.ext.length C6]) (by simp [results, Try.results41, go_sem, *]) rfl ⟨A5, A6, C5, C6, rfl, ?_, ?_, ?_⟩
    · exact ((((ho1.mono (show w.heap.size + 2 ≤ _ by first | omega | (simp; omega) | (show w.heap.size + 2 ≤ W0.heap.size; omega))).setFar (p := ⟨w.heap.size + 1, 0, none⟩) (by show w.heap.size + 1 < w.heap.size + 2; omega) _).setFar (p := ⟨w.heap.size + 1, 1, none⟩) (by show w.heap.size + 1 < w.heap.size + 2; omega) _).setFar (p := ⟨w.heap.size + 1, 2, none⟩) (by show w.heap.size + 1 < w.heap.size + 2; omega) _).mono (by omega)
    · exact ((((ho2.mono (show w.heap.size + 2 ≤ _ by first | omega | (simp; omega) | (show w.heap.size + 2 ≤ W0.heap.size; omega))).setFar (p := ⟨w.heap.size + 1, 0, none⟩) (by show w.heap.size + 1 < w.heap.size + 2; omega) _).setFar (p := ⟨w.heap.size + 1, 1, none⟩) (by show w.heap.size + 1 < w.heap.size + 2; omega) _).setFar (p := ⟨w.heap.size + 1, 2, none⟩) (by show w.heap.size + 1 < w.heap.size + 2; omega) _).mono (by omega)
    · exact (((Below.step b02 (by omega) hbk).setCell (p := ⟨w.heap.size + 1, 0, none⟩) (by show w.heap.size ≤ w.heap.size + 1; omega) _).setCell (p := ⟨w.heap.size + 1, 1, none⟩) (by show w.heap.size ≤ w.heap.size + 1; omega) _).setCell (p := ⟨w.heap.size + 1, 2, none⟩) (by show w.heap.size ≤ w.heap.size + 1; omega) _
end Go.Proofs.Ytfafcicbfgdmcaa
