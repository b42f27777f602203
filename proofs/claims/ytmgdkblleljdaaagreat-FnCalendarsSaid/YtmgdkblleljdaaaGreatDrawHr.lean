/- Draws of hearings. -/
import Derived.Test.YtmgdkblleljdaaaGreatSrcL
import Derived.Test.YtmgdkblleljdaaaGreatHearingH
import Derived.Test.YtmgdkblleljdaaaGreatRowI
import Derived.Deep.AppendLies
import Derived.Deep.RegionHeld3
import Derived.Deep.RegionLaw
namespace Go.Proofs.YtmgdkblleljdaaaGreat
open Go.RowKit
set_option linter.unusedVariables false

theorem OwnL.setNe {α : Type} {enc : α → List Value} {sz : Nat} {t : TypeId} {w : World} {base : Nat} {v : Value} {xs : List α} (h : OwnL enc sz t w base v xs) {p : Addr} (hp : some p.block ≠ v.ownBlock) (u : Value) : OwnL enc sz t (w.setCell p u) base v xs := by
  refine ⟨h.1, ?_⟩
  rcases h.2 with h0 | ⟨g, cap, cur, rfl, h2, hh, rest⟩
  · exact .inl h0
  · have hne : g ≠ p.block := fun e => hp (by rw [← e]; rfl)
    exact .inr ⟨g, cap, cur, rfl, h2, (Below.heap_setCell w p u g hne).trans hh, rest⟩
set_option maxRecDepth 100000 in
set_option maxHeartbeats 4000000 in
theorem l19Good_any (q : Nat) (name : ByteArray) (w : World) (h : Src w q) (hn : name.size ≤ 64) :
    Calls Tryz.prog 74 #[.pointer (some ⟨q, 0, none⟩), .string name] w fun e w' => ∃ (x : Hearing) (p : Value), e = .returned (.agg #[.string x.code, .int .i64 x.len, p, .int .i64 x.last]) ∧ Hearing.by_ 64 x ∧ RdW encStr 1 9 w' w.heap.size w'.heap.size p x.people ∧ Src w' q ∧ Chg q (q + 1) w w' := by
  have hl := h.lt
  obtain ⟨i0, hi0, hz0, hz1, hz2⟩ := info_parts (show ((Tryz.prog).info? 9).map (fun i => (i.zero, i.size, i.bytes)) = some (some (Value.string ByteArray.empty), 1, 16) by kernel_rfl)
  go_enter Tryz.func74, Tryz.ntmps74
  go_wp2_with fail
  refine (l01Next_any q _ _ (h.alloc _) (by omega)).mono ?_
  rintro e w1 ⟨r1, rfl, a1, a2, s1, c1⟩
  have kR := Blk.chg (Blk.newAt (w := w) (n := w.heap.size) (t := 56) (cs := #[.string ByteArray.empty, .int .i64 0, .slice none 0 0, .int .i64 0]) rfl) c1 (by simp) (.inr (by omega))
  have d1 := ((Chg.refl q (q + 1) w).allocd _).trans c1
  have z1 : w.heap.size + 1 ≤ w1.heap.size := by have := c1.size; simpa using this
  clear c1
  go_wp2_with fail
  refine (l01Next_any q _ _ (s1.alloc _) (by omega)).mono ?_
  rintro e w2 ⟨r2, rfl, a3, a4, s2, c2⟩
  have o2 : OwnL encStr 1 9 w2 w1.heap.size (.slice (some ⟨w1.heap.size, 0, none⟩) 0 0) ([] : List ByteArray) := (OwnL.emptyAt (w := w1) rfl (Nat.le_refl _)).chg c2 (by omega)
  have d2 := (d1.allocd (.cells #[] 9)).trans c2
  have kR2 := (kR.alloc (.cells #[] 9)).chg c2 (by simp; omega) (.inr (by omega))
  have z2 : w1.heap.size + 1 ≤ w2.heap.size := by have := c2.size; simpa using this
  clear c2 d1 s1 kR
  go_wp2_with fail
  have kA0 := (Blk.newAt (w := w2) (n := w2.heap.size) (t := 56) (cs := #[.string name, .int .i64 (2 + r1), .slice (some ⟨w1.heap.size, 0, none⟩) 0 0, .int .i64 (140 + r2)]) rfl).alloc (.cells #[.string ⟨#[97, 100, 97]⟩, .string ⟨#[98, 114, 117, 110, 111]⟩, .string ⟨#[99, 108, 97, 114, 97]⟩, .string ⟨#[100, 111, 114, 97]⟩, .string ⟨#[101, 109, 105, 108]⟩] 9)
  have kN0 := Blk.newAt (w := w2.alloc (.cells #[.string name, .int .i64 (2 + r1), .slice (some ⟨w1.heap.size, 0, none⟩) 0 0, .int .i64 (140 + r2)] 56)) (n := w2.heap.size + 1) (t := 9) (cs := #[.string ⟨#[97, 100, 97]⟩, .string ⟨#[98, 114, 117, 110, 111]⟩, .string ⟨#[99, 108, 97, 114, 97]⟩, .string ⟨#[100, 111, 114, 97]⟩, .string ⟨#[101, 109, 105, 108]⟩]) (by simp)
  have kR0 := (kR2.alloc (.cells #[.string name, .int .i64 (2 + r1), .slice (some ⟨w1.heap.size, 0, none⟩) 0 0, .int .i64 (140 + r2)] 56)).alloc (.cells #[.string ⟨#[97, 100, 97]⟩, .string ⟨#[98, 114, 117, 110, 111]⟩, .string ⟨#[99, 108, 97, 114, 97]⟩, .string ⟨#[100, 111, 114, 97]⟩, .string ⟨#[101, 109, 105, 108]⟩] 9)
  have o0 := (o2.alloc (.cells #[.string name, .int .i64 (2 + r1), .slice (some ⟨w1.heap.size, 0, none⟩) 0 0, .int .i64 (140 + r2)] 56)).alloc (.cells #[.string ⟨#[97, 100, 97]⟩, .string ⟨#[98, 114, 117, 110, 111]⟩, .string ⟨#[99, 108, 97, 114, 97]⟩, .string ⟨#[100, 111, 114, 97]⟩, .string ⟨#[101, 109, 105, 108]⟩] 9)
  have s0 := (s2.alloc (.cells #[.string name, .int .i64 (2 + r1), .slice (some ⟨w1.heap.size, 0, none⟩) 0 0, .int .i64 (140 + r2)] 56)).alloc (.cells #[.string ⟨#[97, 100, 97]⟩, .string ⟨#[98, 114, 117, 110, 111]⟩, .string ⟨#[99, 108, 97, 114, 97]⟩, .string ⟨#[100, 111, 114, 97]⟩, .string ⟨#[101, 109, 105, 108]⟩] 9)
  have d0 := (d2.allocd (.cells #[.string name, .int .i64 (2 + r1), .slice (some ⟨w1.heap.size, 0, none⟩) 0 0, .int .i64 (140 + r2)] 56)).allocd (.cells #[.string ⟨#[97, 100, 97]⟩, .string ⟨#[98, 114, 117, 110, 111]⟩, .string ⟨#[99, 108, 97, 114, 97]⟩, .string ⟨#[100, 111, 114, 97]⟩, .string ⟨#[101, 109, 105, 108]⟩] 9)
  have zz : ((w2.alloc (.cells #[.string name, .int .i64 (2 + r1), .slice (some ⟨w1.heap.size, 0, none⟩) 0 0, .int .i64 (140 + r2)] 56)).alloc (.cells #[.string ⟨#[97, 100, 97]⟩, .string ⟨#[98, 114, 117, 110, 111]⟩, .string ⟨#[99, 108, 97, 114, 97]⟩, .string ⟨#[100, 111, 114, 97]⟩, .string ⟨#[101, 109, 105, 108]⟩] 9)).heap.size = w2.heap.size + 2 := by simp
  clear o2 s2 d2 kR2 h
  generalize ((w2.alloc (.cells #[.string name, .int .i64 (2 + r1), .slice (some ⟨w1.heap.size, 0, none⟩) 0 0, .int .i64 (140 + r2)] 56)).alloc (.cells #[.string ⟨#[97, 100, 97]⟩, .string ⟨#[98, 114, 117, 110, 111]⟩, .string ⟨#[99, 108, 97, 114, 97]⟩, .string ⟨#[100, 111, 114, 97]⟩, .string ⟨#[101, 109, 105, 108]⟩] 9)) = W0 at *
  go_loopw [7] (fun i wr => ∃ (k : Nat) (p : Value) (ys : List ByteArray), k ≤ 5 ∧ i = .int .i64 k ∧ ys.length ≤ k ∧ (∀ y ∈ ys, y.size ≤ 64) ∧ some (w2.heap.size + 1) ≠ p.ownBlock ∧ OwnL encStr 1 9 wr w1.heap.size p ys ∧ Blk wr w2.heap.size 56 #[.string name, .int .i64 (2 + r1), p, .int .i64 (140 + r2)] ∧ Blk wr (w2.heap.size + 1) 9 #[.string ⟨#[97, 100, 97]⟩, .string ⟨#[98, 114, 117, 110, 111]⟩, .string ⟨#[99, 108, 97, 114, 97]⟩, .string ⟨#[100, 111, 114, 97]⟩, .string ⟨#[101, 109, 105, 108]⟩] ∧ Blk wr w.heap.size 56 #[.string ByteArray.empty, .int .i64 0, .slice none 0 0, .int .i64 0] ∧ Src wr q ∧ Chg q (q + 1) w wr ∧ w2.heap.size + 2 ≤ wr.heap.size) (fun i _ => 5 - (intOf i).toNat)
  case atStart => exact ⟨0, _, [], by omega, rfl, Nat.le_refl _, fun y hy => by simp at hy, fun e => by simp [Value.ownBlock] at e; omega, o0, kA0, kN0, kR0, s0, d0, by omega⟩
  case round =>
    obtain ⟨k, p, ys, hk, rfl, hys, HY, hne, hown, kA, kN, kR, hs, hc, hz⟩ := hrel
    clear kA0 kN0 kR0 o0 s0 d0
    by_cases hlt : k < 5
    · have hki : (k : Int) < 5 := by omega
      go_wp2_with fail
      refine (l01Next_any q _ _ hs (by omega)).mono ?_
      rintro e w5 ⟨r5, rfl, a5, a6, s5, c5⟩
      have z5 := c5.size
      have o5 := hown.chg c5 (by omega)
      have k5 := kA.chg c5 (by omega) (.inr (by omega))
      have n5 := kN.chg c5 (by omega) (.inr (by omega))
      have kr5 := kR.chg c5 (by omega) (.inr (by omega))
      have d5 := hc.trans c5
      clear hown kA kN kR hs hc c5
      by_cases hr5 : r5 = 0
      · subst hr5
        obtain ⟨y, hy, x1⟩ : ∃ y : ByteArray, y.size ≤ 64 ∧ w5.cell? ⟨w2.heap.size + 1, k, none⟩ = some (.string y) := by
          rcases (by omega : k = 0 ∨ k = 1 ∨ k = 2 ∨ k = 3 ∨ k = 4) with rfl | rfl | rfl | rfl | rfl <;> exact ⟨_, by decide, n5.cell _⟩
        have x2 : w5.cell? ⟨w2.heap.size, 2, none⟩ = some p := k5.cell 2
        have x3 : w5.frozen? ⟨w2.heap.size, 2, none⟩ = false := k5.frozen 2
        have nb := own_ne o5 k5 (by decide)
        have x8 : ((w5.alloc (.cells #[.string y] 9)).drew).cell? ⟨w2.heap.size, 2, none⟩ = some p := (Blk.drew (k5.alloc _)).cell 2
        have x9 : (w5.alloc (.cells #[.string y] 9)).cell? ⟨w2.heap.size, 2, none⟩ = some p := (k5.alloc _).cell 2
        have hq3 : w2.heap.size ≠ w5.heap.size := by omega
        have hq4 : w5.heap.size ≠ w2.heap.size := by omega
        have hq1 : w2.heap.size + 1 ≠ w2.heap.size := by omega
        have hq2 : w2.heap.size ≠ w2.heap.size + 1 := by omega
        go_wp2_with fail
        go_region_law
          ((refine step_append_lies _ (by rfl) _ _ _ (by rfl) w1.heap.size 9 i0 _ 1 16 Tryz.underlying54 hi0 hz0 hz1 hz2 rfl (by omega) p ys.length (ys.flatMap encStr) (by rfl) ((OwnL.alloc o5 _).drew)
              ⟨w5.heap.size, 0, none⟩ 1 1 [.string y] (by rfl) (by rfl) (World.news_of_block (cs := #[.string y]) (t := 9) (fr := (0, 0)) (heap_alloc_new w5 _)) (by simp [Value.oneCell'])
              (by omega) (by unfold maxLen; omega) (by omega) (by simp; omega) (w5.heap.size + 1) (by simp) ?_; intro gg cap w6 hown6 hgrow hat hlt6; have x6 : w6.frozen? ⟨w2.heap.size, 2, none⟩ = false := (hgrow.frozen_far ⟨w2.heap.size, 2, none⟩ (by simp; omega) nb).trans ((Blk.drew (k5.alloc _)).frozen 2); have x7 : w6.cell? ⟨w2.heap.size, 2, none⟩ = some p := (hgrow.cell_far ⟨w2.heap.size, 2, none⟩ (by simp; omega) nb).trans ((Blk.drew (k5.alloc _)).cell 2)))
        all_goals
          have own6 : OwnL encStr 1 9 w6 w1.heap.size (.slice (some ⟨gg, 0, none⟩) (ys.length + 1) cap) (ys ++ [y]) := OwnL.snoc (x := y) hown6
          have k6 := Blk.grown hgrow (Blk.drew (k5.alloc (.cells #[.string y] 9))) nb
          have n6 := Blk.grown hgrow (Blk.drew (n5.alloc (.cells #[.string y] 9))) hne
          have kr6 := Blk.grown hgrow (Blk.drew (kr5.alloc (.cells #[.string y] 9))) (own_ne o5 kr5 (by decide))
          have b6 : Below w.heap.size w5 w6 := ⟨hgrow.os, hgrow.tape, hgrow.output, Nat.le_trans (by simp) hgrow.size, fun b hb => (hgrow.block b (by simp; omega) (fun e => by have := o5.block_ge b e.symm; omega)).trans (Below.heap_alloc _ _ _ (by omega))⟩
          have b7 := b6.setCell (p := ⟨w2.heap.size, 2, none⟩) (by show w.heap.size ≤ w2.heap.size; omega) (.slice (some ⟨gg, 0, none⟩) (ys.length + 1) cap)
          have g6 := own_ne own6 k6 (by decide)
          have hat' := Lib.hid hat
          clear x1 x2 x3 x6 x7 x8 x9 hat hown6
          try go_wp2_with fail
          go_roundw
          case rel =>
            refine ⟨k + 1, .slice (some ⟨gg, 0, none⟩) (ys.length + 1) cap, ys ++ [y], by omega, by go_num, by simp; omega, fun z hz => ?_, fun e => ?_, own6.setNe (p := ⟨w2.heap.size, 2, none⟩) g6 _, k6.set1 2 _, n6.far (p := ⟨w2.heap.size, 2, none⟩) (by show w2.heap.size + 1 ≠ w2.heap.size; omega) _, kr6.far (p := ⟨w2.heap.size, 2, none⟩) (by show w.heap.size ≠ w2.heap.size; omega) _, s5.below b7 hl, d5.step b7, by have := b7.size; omega⟩
            · rcases List.mem_append.1 hz with h | h
              · exact HY z h
              · simp at h
                subst h
                exact hy
            · have e' : w2.heap.size + 1 = gg := by simpa [Value.ownBlock] using e
              rcases hat'.out with h | h
              · exact hne (by rw [h, e'])
              · omega
          case measure => simp [intOf]; omega
      · go_wp2_with fail
        go_roundw
        case rel => exact ⟨k + 1, p, ys, by omega, by go_num, by omega, HY, hne, o5, k5, n5, kr5, s5, d5, by omega⟩
        case measure => simp [intOf]; omega
    · have hki : ¬ (k : Int) < 5 := by omega
      obtain ⟨q0, q1, q2, q3⟩ := kA.c4
      obtain ⟨e0, e1, e2, e3⟩ := kR.c4
      have f0 := kR.frozen 0
      have f1 := kR.frozen 1
      have f2 := kR.frozen 2
      have f3 := kR.frozen 3
      have hne2 : w2.heap.size ≠ w.heap.size := by omega
      have hne3 : w.heap.size ≠ w2.heap.size := by omega
      obtain ⟨A9, C9, rfl, hc9⟩ := (hown.rdw (fun _ => rfl)).rd.form
      go_wp2_with fail
      have nk := own_ne hown kR (by decide)
      have bS := ((((Below.refl w.heap.size wr).setCell (p := ⟨w.heap.size, 0, none⟩) (Nat.le_refl _) (.string name)).setCell (p := ⟨w.heap.size, 1, none⟩) (Nat.le_refl _) (.int .i64 (2 + r1))).setCell (p := ⟨w.heap.size, 2, none⟩) (Nat.le_refl _) (.slice A9 ys.length C9)).setCell (p := ⟨w.heap.size, 3, none⟩) (Nat.le_refl _) (.int .i64 (140 + r2))
      have oS := (((hown.setNe (p := ⟨w.heap.size, 0, none⟩) nk (.string name)).setNe (p := ⟨w.heap.size, 1, none⟩) nk (.int .i64 (2 + r1))).setNe (p := ⟨w.heap.size, 2, none⟩) nk (.slice A9 ys.length C9)).setNe (p := ⟨w.heap.size, 3, none⟩) nk (.int .i64 (140 + r2))
      refine bodyPost_ret (v := .agg #[.string name, .int .i64 (2 + r1), .slice A9 ys.length C9, .int .i64 (140 + r2)]) (by simp [results, Tryz.results74, go_sem, *]) rfl ?_
      exact ⟨⟨name, 2 + r1, ys, 140 + r2⟩, _, rfl, ⟨by show (name.size : Int) ≤ 64; omega, by show (ys.length : Int) ≤ 64; omega, fun y hy => by have := HY y hy; omega⟩, (oS.rdw (fun _ => rfl)).wide (by omega) (Nat.le_refl _), hs.below bS hl, hc.step bS⟩
end Go.Proofs.YtmgdkblleljdaaaGreat
