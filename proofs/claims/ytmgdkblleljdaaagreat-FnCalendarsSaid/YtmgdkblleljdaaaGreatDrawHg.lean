/- Draws of hearings: one hearing. Written by a program (gen_drawhr.py). -/
import Derived.Test.YtmgdkblleljdaaaGreatDrawHr
namespace Go.Proofs.YtmgdkblleljdaaaGreat
open Go.RowKit
set_option linter.unusedVariables false

theorem rwStrs {w : World} {n : Nat} (L : List ByteArray) {cs : Array Value} (hcs : cs.toList = L.map Value.string) (hn : n = w.heap.size) : RdW encStr 1 9 (w.alloc (.cells cs 9)) n (n + 1) (.slice (some ⟨n, 0, none⟩) L.length L.length) L := by
  refine RdW.of_row (xs := L) (Blk.newAt (w := w) (t := 9) (cs := cs) hn) ?_ (fun i x hi hx j u hu => ?_) _ _ (Nat.le_refl _) (Nat.lt_succ_self _)
  · have := congrArg List.length hcs
    simpa using this
  · have hj : j = 0 := by
      have := (List.getElem?_eq_some_iff.1 hu).1
      simpa [encStr] using this
    subst hj
    simp [encStr] at hu
    subst hu
    rw [← Array.getElem?_toList, hcs]
    simp [hx]
set_option maxRecDepth 100000 in
set_option maxHeartbeats 4000000 in
theorem l19Hearing_any (q : Nat) (name : ByteArray) (w : World) (h : Src w q) (hn : name.size ≤ 64) :
    Calls Tryz.prog 60 #[.pointer (some ⟨q, 0, none⟩), .string name] w fun e w' => ∃ (x : Hearing) (p : Value), e = .returned (.agg #[.string x.code, .int .i64 x.len, p, .int .i64 x.last]) ∧ Hearing.by_ 64 x ∧ RdW encStr 1 9 w' w.heap.size w'.heap.size p x.people ∧ Src w' q ∧ Chg q (q + 1) w w' := by
  have hl := h.lt
  go_enter Tryz.func60, Tryz.ntmps60
  go_wp2_with fail
  refine (l19Good_any q name _ (h.alloc _) hn).mono ?_
  rintro e w1 ⟨x, p, rfl, hx, hp, s1, c1⟩
  have kR := Blk.chg (Blk.newAt (w := w) (n := w.heap.size) (t := 56) (cs := #[.string ByteArray.empty, .int .i64 0, .slice none 0 0, .int .i64 0]) rfl) c1 (by simp) (.inr (by omega))
  have d1 := ((Chg.refl q (q + 1) w).allocd _).trans c1
  have z1 : w.heap.size + 1 ≤ w1.heap.size := by have := c1.size; simpa using this
  replace hp : RdW encStr 1 9 w1 (w.heap.size + 1) w1.heap.size p x.people := by simpa using hp
  obtain ⟨A9, C9, rfl, hc9⟩ := hp.rd.form
  clear c1 h
  go_wp2_with fail
  refine (l01Next_any q _ _ (s1.alloc _) (by omega)).mono ?_
  rintro e w2 ⟨r2, rfl, a3, a4, s2, c2⟩
  have kA := Blk.chg (Blk.newAt (w := w1) (n := w1.heap.size) (t := 56) (cs := #[.string x.code, .int .i64 x.len, .slice A9 x.people.length C9, .int .i64 x.last]) rfl) c2 (by simp) (.inr (by omega))
  have kR2 := (kR.alloc (.cells #[.string x.code, .int .i64 x.len, .slice A9 x.people.length C9, .int .i64 x.last] 56)).chg c2 (by simp; omega) (.inr (by omega))
  have d2 := (d1.allocd (.cells #[.string x.code, .int .i64 x.len, .slice A9 x.people.length C9, .int .i64 x.last] 56)).trans c2
  have p2 := (hp.below ((Below.refl w1.heap.size w1).alloc (Nat.le_refl _) (.cells #[.string x.code, .int .i64 x.len, .slice A9 x.people.length C9, .int .i64 x.last] 56)) (Nat.le_refl _)).chg c2 (by simp) (.inr (by omega))
  have z2 : w1.heap.size + 1 ≤ w2.heap.size := by have := c2.size; simpa using this
  have hne2 : w1.heap.size ≠ w.heap.size := by omega
  have hne3 : w.heap.size ≠ w1.heap.size := by omega
  clear kR d1 hp s1 c2
  obtain ⟨b0, b1, b2⟩ := hx
  by_cases h0 : r2 = 0
  · subst h0
    go_wp2_with fail
    refine (l01Pick_any q _ [0, 36, 37] _ _ _ (s2.alloc _) (rdInts [0, 36, 37] rfl rfl) (by simp) (.inr (by omega)) (by simp) (by simp)).mono ?_
    rintro e w4 ⟨r4, rfl, hr4, s4, c4⟩
    have k4 := (kA.alloc (.cells #[.int .i64 0, .int .i64 36, .int .i64 37] 2)).chg c4 (by simp; omega) (.inr (by omega))
    have kr4 := (kR2.alloc (.cells #[.int .i64 0, .int .i64 36, .int .i64 37] 2)).chg c4 (by simp; omega) (.inr (by omega))
    have d4 := (d2.allocd (.cells #[.int .i64 0, .int .i64 36, .int .i64 37] 2)).trans c4
    have p4 := (p2.below ((Below.refl w2.heap.size w2).alloc (Nat.le_refl _) (.cells #[.int .i64 0, .int .i64 36, .int .i64 37] 2)) (by omega)).chg c4 (by simp; omega) (.inr (by omega))
    have z4 : w2.heap.size + 1 ≤ w4.heap.size := by have := c4.size; simpa using this
    clear c4 kA kR2 p2 d2 s2
    obtain ⟨q0, q1, q2, q3⟩ := k4.c4
    obtain ⟨e0, e1, e2, e3⟩ := kr4.c4
    have g0 := k4.frozen 0
    have g1 := k4.frozen 1
    have g2 := k4.frozen 2
    have g3 := k4.frozen 3
    have f0 := kr4.frozen 0
    have f1 := kr4.frozen 1
    have f2 := kr4.frozen 2
    have f3 := kr4.frozen 3
    go_wp2_with fail
    refine bodyPost_ret (v := .agg #[.string x.code, .int .i64 (r4), .slice A9 x.people.length C9, .int .i64 (x.last)]) (by simp [results, Tryz.results60, go_sem, *]) rfl ?_
    have bS := ((((((Below.refl w.heap.size w4).setCell (p := ⟨w1.heap.size, 1, none⟩) (by show w.heap.size ≤ w1.heap.size; omega) (.int .i64 r4)).setCell (p := ⟨w.heap.size, 0, none⟩) (Nat.le_refl _) (.string x.code)).setCell (p := ⟨w.heap.size, 1, none⟩) (Nat.le_refl _) (.int .i64 (r4))).setCell (p := ⟨w.heap.size, 2, none⟩) (Nat.le_refl _) (.slice A9 x.people.length C9)).setCell (p := ⟨w.heap.size, 3, none⟩) (Nat.le_refl _) (.int .i64 (x.last)))
    exact ⟨⟨x.code, r4, x.people, x.last⟩, _, rfl, ⟨b0, b1, b2⟩, (((((p4.set (p := ⟨w1.heap.size, 1, none⟩) (.inr (Nat.le_refl _)) (.int .i64 r4)).set (p := ⟨w.heap.size, 0, none⟩) (.inl (Nat.lt_succ_self _)) (.string x.code)).set (p := ⟨w.heap.size, 1, none⟩) (.inl (Nat.lt_succ_self _)) (.int .i64 (r4))).set (p := ⟨w.heap.size, 2, none⟩) (.inl (Nat.lt_succ_self _)) (.slice A9 x.people.length C9)).set (p := ⟨w.heap.size, 3, none⟩) (.inl (Nat.lt_succ_self _)) (.int .i64 (x.last))).wide (by omega) (by have := bS.size; omega), s4.below bS hl, d4.step bS⟩
  by_cases h1 : r2 = 1
  · subst h1
    have k4 := kA.alloc (.cells #[.string ⟨#[97, 100, 97]⟩, .string ⟨#[97, 100, 97]⟩] 9)
    have kr4 := kR2.alloc (.cells #[.string ⟨#[97, 100, 97]⟩, .string ⟨#[97, 100, 97]⟩] 9)
    have d4 := d2.allocd (.cells #[.string ⟨#[97, 100, 97]⟩, .string ⟨#[97, 100, 97]⟩] 9)
    have s4 := s2.alloc (.cells #[.string ⟨#[97, 100, 97]⟩, .string ⟨#[97, 100, 97]⟩] 9)
    have p4 := rwStrs (w := w2) (n := w2.heap.size) [⟨#[97, 100, 97]⟩, ⟨#[97, 100, 97]⟩] (cs := #[.string ⟨#[97, 100, 97]⟩, .string ⟨#[97, 100, 97]⟩]) rfl rfl
    have z5 : (w2.alloc (.cells #[.string ⟨#[97, 100, 97]⟩, .string ⟨#[97, 100, 97]⟩] 9)).heap.size = w2.heap.size + 1 := by simp
    clear kA kR2 p2 d2 s2
    obtain ⟨q0, q1, q2, q3⟩ := k4.c4
    obtain ⟨e0, e1, e2, e3⟩ := kr4.c4
    have g0 := k4.frozen 0
    have g1 := k4.frozen 1
    have g2 := k4.frozen 2
    have g3 := k4.frozen 3
    have f0 := kr4.frozen 0
    have f1 := kr4.frozen 1
    have f2 := kr4.frozen 2
    have f3 := kr4.frozen 3
    go_wp2_with fail
    refine bodyPost_ret (v := .agg #[.string x.code, .int .i64 (x.len), .slice (some ⟨w2.heap.size, 0, none⟩) 2 2, .int .i64 (x.last)]) (by simp [results, Tryz.results60, go_sem, *]) rfl ?_
    have bS := ((((((Below.refl w.heap.size (w2.alloc (.cells #[.string ⟨#[97, 100, 97]⟩, .string ⟨#[97, 100, 97]⟩] 9))).setCell (p := ⟨w1.heap.size, 2, none⟩) (by show w.heap.size ≤ w1.heap.size; omega) (.slice (some ⟨w2.heap.size, 0, none⟩) 2 2)).setCell (p := ⟨w.heap.size, 0, none⟩) (Nat.le_refl _) (.string x.code)).setCell (p := ⟨w.heap.size, 1, none⟩) (Nat.le_refl _) (.int .i64 (x.len))).setCell (p := ⟨w.heap.size, 2, none⟩) (Nat.le_refl _) (.slice (some ⟨w2.heap.size, 0, none⟩) 2 2)).setCell (p := ⟨w.heap.size, 3, none⟩) (Nat.le_refl _) (.int .i64 (x.last)))
    exact ⟨⟨x.code, x.len, [⟨#[97, 100, 97]⟩, ⟨#[97, 100, 97]⟩], x.last⟩, _, rfl, ⟨b0, by show ((2 : Nat) : Int) ≤ 64; decide, fun y hy => by simp at hy; subst hy; decide⟩, (((((p4.set (p := ⟨w1.heap.size, 2, none⟩) (.inl (show w1.heap.size < w2.heap.size by omega)) (.slice (some ⟨w2.heap.size, 0, none⟩) 2 2)).set (p := ⟨w.heap.size, 0, none⟩) (.inl (show w.heap.size < w2.heap.size by omega)) (.string x.code)).set (p := ⟨w.heap.size, 1, none⟩) (.inl (show w.heap.size < w2.heap.size by omega)) (.int .i64 (x.len))).set (p := ⟨w.heap.size, 2, none⟩) (.inl (show w.heap.size < w2.heap.size by omega)) (.slice (some ⟨w2.heap.size, 0, none⟩) 2 2)).set (p := ⟨w.heap.size, 3, none⟩) (.inl (show w.heap.size < w2.heap.size by omega)) (.int .i64 (x.last))).wide (by omega) (by have := bS.size; omega), s4.below bS hl, d4.step bS⟩
  by_cases h2 : r2 = 2
  · subst h2
    go_wp2_with fail
    refine (l01DrawWord_any q _ s2).mono ?_
    rintro e w4 ⟨sw, rfl, hsw, s4, c4⟩
    have k4 := kA.chg c4 (by omega) (.inr (by omega))
    have kr4 := kR2.chg c4 (by omega) (.inr (by omega))
    have d4 := d2.trans c4
    have p4 := p2.chg c4 (by omega) (.inr (by omega))
    have z4 := c4.size
    clear c4 kA kR2 p2 d2 s2
    obtain ⟨q0, q1, q2, q3⟩ := k4.c4
    obtain ⟨e0, e1, e2, e3⟩ := kr4.c4
    have g0 := k4.frozen 0
    have g1 := k4.frozen 1
    have g2 := k4.frozen 2
    have g3 := k4.frozen 3
    have f0 := kr4.frozen 0
    have f1 := kr4.frozen 1
    have f2 := kr4.frozen 2
    have f3 := kr4.frozen 3
    go_wp2_with fail
    refine bodyPost_ret (v := .agg #[.string sw, .int .i64 (x.len), .slice A9 x.people.length C9, .int .i64 (x.last)]) (by simp [results, Tryz.results60, go_sem, *]) rfl ?_
    have bS := ((((((Below.refl w.heap.size w4).setCell (p := ⟨w1.heap.size, 0, none⟩) (by show w.heap.size ≤ w1.heap.size; omega) (.string sw)).setCell (p := ⟨w.heap.size, 0, none⟩) (Nat.le_refl _) (.string sw)).setCell (p := ⟨w.heap.size, 1, none⟩) (Nat.le_refl _) (.int .i64 (x.len))).setCell (p := ⟨w.heap.size, 2, none⟩) (Nat.le_refl _) (.slice A9 x.people.length C9)).setCell (p := ⟨w.heap.size, 3, none⟩) (Nat.le_refl _) (.int .i64 (x.last)))
    exact ⟨⟨sw, x.len, x.people, x.last⟩, _, rfl, ⟨by show (sw.size : Int) ≤ 64; omega, b1, b2⟩, (((((p4.set (p := ⟨w1.heap.size, 0, none⟩) (.inr (Nat.le_refl _)) (.string sw)).set (p := ⟨w.heap.size, 0, none⟩) (.inl (Nat.lt_succ_self _)) (.string sw)).set (p := ⟨w.heap.size, 1, none⟩) (.inl (Nat.lt_succ_self _)) (.int .i64 (x.len))).set (p := ⟨w.heap.size, 2, none⟩) (.inl (Nat.lt_succ_self _)) (.slice A9 x.people.length C9)).set (p := ⟨w.heap.size, 3, none⟩) (.inl (Nat.lt_succ_self _)) (.int .i64 (x.last))).wide (by omega) (by have := bS.size; omega), s4.below bS hl, d4.step bS⟩
  by_cases h3 : r2 = 3
  · subst h3
    go_wp2_with fail
    refine (l01Pick_any q _ [-1, 20000, 20001] _ _ _ (s2.alloc _) (rdInts [-1, 20000, 20001] rfl rfl) (by simp) (.inr (by omega)) (by simp) (by simp)).mono ?_
    rintro e w4 ⟨r4, rfl, hr4, s4, c4⟩
    have k4 := (kA.alloc (.cells #[.int .i64 (-1), .int .i64 20000, .int .i64 20001] 2)).chg c4 (by simp; omega) (.inr (by omega))
    have kr4 := (kR2.alloc (.cells #[.int .i64 (-1), .int .i64 20000, .int .i64 20001] 2)).chg c4 (by simp; omega) (.inr (by omega))
    have d4 := (d2.allocd (.cells #[.int .i64 (-1), .int .i64 20000, .int .i64 20001] 2)).trans c4
    have p4 := (p2.below ((Below.refl w2.heap.size w2).alloc (Nat.le_refl _) (.cells #[.int .i64 (-1), .int .i64 20000, .int .i64 20001] 2)) (by omega)).chg c4 (by simp; omega) (.inr (by omega))
    have z4 : w2.heap.size + 1 ≤ w4.heap.size := by have := c4.size; simpa using this
    clear c4 kA kR2 p2 d2 s2
    obtain ⟨q0, q1, q2, q3⟩ := k4.c4
    obtain ⟨e0, e1, e2, e3⟩ := kr4.c4
    have g0 := k4.frozen 0
    have g1 := k4.frozen 1
    have g2 := k4.frozen 2
    have g3 := k4.frozen 3
    have f0 := kr4.frozen 0
    have f1 := kr4.frozen 1
    have f2 := kr4.frozen 2
    have f3 := kr4.frozen 3
    go_wp2_with fail
    refine bodyPost_ret (v := .agg #[.string x.code, .int .i64 (x.len), .slice A9 x.people.length C9, .int .i64 (r4)]) (by simp [results, Tryz.results60, go_sem, *]) rfl ?_
    have bS := ((((((Below.refl w.heap.size w4).setCell (p := ⟨w1.heap.size, 3, none⟩) (by show w.heap.size ≤ w1.heap.size; omega) (.int .i64 r4)).setCell (p := ⟨w.heap.size, 0, none⟩) (Nat.le_refl _) (.string x.code)).setCell (p := ⟨w.heap.size, 1, none⟩) (Nat.le_refl _) (.int .i64 (x.len))).setCell (p := ⟨w.heap.size, 2, none⟩) (Nat.le_refl _) (.slice A9 x.people.length C9)).setCell (p := ⟨w.heap.size, 3, none⟩) (Nat.le_refl _) (.int .i64 (r4)))
    exact ⟨⟨x.code, x.len, x.people, r4⟩, _, rfl, ⟨b0, b1, b2⟩, (((((p4.set (p := ⟨w1.heap.size, 3, none⟩) (.inr (Nat.le_refl _)) (.int .i64 r4)).set (p := ⟨w.heap.size, 0, none⟩) (.inl (Nat.lt_succ_self _)) (.string x.code)).set (p := ⟨w.heap.size, 1, none⟩) (.inl (Nat.lt_succ_self _)) (.int .i64 (x.len))).set (p := ⟨w.heap.size, 2, none⟩) (.inl (Nat.lt_succ_self _)) (.slice A9 x.people.length C9)).set (p := ⟨w.heap.size, 3, none⟩) (.inl (Nat.lt_succ_self _)) (.int .i64 (r4))).wide (by omega) (by have := bS.size; omega), s4.below bS hl, d4.step bS⟩
  · obtain ⟨q0, q1, q2, q3⟩ := kA.c4
    obtain ⟨e0, e1, e2, e3⟩ := kR2.c4
    have g0 := kA.frozen 0
    have g1 := kA.frozen 1
    have g2 := kA.frozen 2
    have g3 := kA.frozen 3
    have f0 := kR2.frozen 0
    have f1 := kR2.frozen 1
    have f2 := kR2.frozen 2
    have f3 := kR2.frozen 3
    go_wp2_with fail
    refine bodyPost_ret (v := .agg #[.string x.code, .int .i64 (x.len), .slice A9 x.people.length C9, .int .i64 (x.last)]) (by simp [results, Tryz.results60, go_sem, *]) rfl ?_
    have bS := (((((Below.refl w.heap.size w2).setCell (p := ⟨w.heap.size, 0, none⟩) (Nat.le_refl _) (.string x.code)).setCell (p := ⟨w.heap.size, 1, none⟩) (Nat.le_refl _) (.int .i64 (x.len))).setCell (p := ⟨w.heap.size, 2, none⟩) (Nat.le_refl _) (.slice A9 x.people.length C9)).setCell (p := ⟨w.heap.size, 3, none⟩) (Nat.le_refl _) (.int .i64 (x.last)))
    exact ⟨⟨x.code, x.len, x.people, x.last⟩, _, rfl, ⟨b0, b1, b2⟩, ((((p2.set (p := ⟨w.heap.size, 0, none⟩) (.inl (Nat.lt_succ_self _)) (.string x.code)).set (p := ⟨w.heap.size, 1, none⟩) (.inl (Nat.lt_succ_self _)) (.int .i64 (x.len))).set (p := ⟨w.heap.size, 2, none⟩) (.inl (Nat.lt_succ_self _)) (.slice A9 x.people.length C9)).set (p := ⟨w.heap.size, 3, none⟩) (.inl (Nat.lt_succ_self _)) (.int .i64 (x.last))).wide (by omega) (by have := bS.size; omega), s2.below bS hl, d2.step bS⟩
end Go.Proofs.YtmgdkblleljdaaaGreat
