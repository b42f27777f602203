/- Draws of booking texts. Written by a program (gen_drawbt.py). -/
import Derived.Test.YtmfidoahdkipmaaDoorTextR
import Derived.Deep.RegionLaw
import Derived.Deep.RegionWith
namespace Go.Proofs.YtmfidoahdkipmaaDoor
open Go.RowKit
set_option linter.unusedVariables false

def Booking.tame (b : Booking) : Prop := (0 ≤ b.room ∧ b.room ≤ 20000) ∧ (0 ≤ b.day ∧ b.day ≤ 20000) ∧ (0 ≤ b.frm ∧ b.frm ≤ 20000) ∧ (0 ≤ b.to_ ∧ b.to_ ≤ 20000)
set_option maxRecDepth 100000 in
set_option maxHeartbeats 4000000 in
theorem l18GoodN_any (q : Nat) (w : World) (h : Src w q) :
    Calls Tryd.prog 27 #[.pointer (some ⟨q, 0, none⟩)] w fun e w' => ∃ b : Booking, e = .returned (.agg #[.int .i64 b.room, .int .i64 b.day, .int .i64 b.frm, .int .i64 b.to_, .string b.use]) ∧ b.use.size ≤ 64 ∧ Booking.tame b ∧ Src w' q ∧ Chg q (q + 1) w w' := by
  have hl := h.lt
  have s := h
  clear h
  have d : Chg q (q + 1) w w := Chg.refl _ _ _
  go_enter Tryd.func27, Tryd.ntmps27
  go_wp2_with fail
  have b1 : Below w.heap.size w (w.alloc (.cells #[.int .i64 0, .int .i64 0, .int .i64 0, .int .i64 0, .string ⟨#[]⟩] 27)) := (Below.refl _ _).alloc (Nat.le_refl _) _
  have zz1 : (w.alloc (.cells #[.int .i64 0, .int .i64 0, .int .i64 0, .int .i64 0, .string ⟨#[]⟩] 27)).heap.size = w.heap.size + 1 := by simp
  have kR : Blk (w.alloc (.cells #[.int .i64 0, .int .i64 0, .int .i64 0, .int .i64 0, .string ⟨#[]⟩] 27)) (w.heap.size) 27 #[.int .i64 0, .int .i64 0, .int .i64 0, .int .i64 0, .string ⟨#[]⟩] := Blk.newAt rfl
  have zb1 := b1.size
  replace s := s.below b1 (by omega)
  replace d := d.step (b1.mono (by omega))
  clear b1
  generalize (w.alloc (.cells #[.int .i64 0, .int .i64 0, .int .i64 0, .int .i64 0, .string ⟨#[]⟩] 27)) = w1 at *
  go_wp2_with fail
  refine (l01Next_any q 34 _ s (by omega)).mono ?_
  rintro e w2 ⟨r2, rfl, a2, a2', s', c2⟩
  clear s
  have s := s'
  clear s'
  have zc2 := c2.size
  replace d := d.trans c2
  replace kR := kR.chg c2 (by omega) (by omega)
  clear c2
  go_wp2_with fail
  refine (l01Next_any q 3 _ s (by omega)).mono ?_
  rintro e w3 ⟨r3, rfl, a3, a3', s', c3⟩
  clear s
  have s := s'
  clear s'
  have zc3 := c3.size
  replace d := d.trans c3
  replace kR := kR.chg c3 (by omega) (by omega)
  clear c3
  go_wp2_with fail
  refine (l01Next_any q 2 _ s (by omega)).mono ?_
  rintro e w4 ⟨r4, rfl, a4, a4', s', c4⟩
  clear s
  have s := s'
  clear s'
  have zc4 := c4.size
  replace d := d.trans c4
  replace kR := kR.chg c4 (by omega) (by omega)
  clear c4
  go_wp2_with fail
  refine (l01Next_any q 12 _ s (by omega)).mono ?_
  rintro e w5 ⟨r5, rfl, a5, a5', s', c5⟩
  clear s
  have s := s'
  clear s'
  have zc5 := c5.size
  replace d := d.trans c5
  replace kR := kR.chg c5 (by omega) (by omega)
  clear c5
  by_cases hm : r2 + 1 + r5 < 36
  · have hmin : min (36 : Int) (r2 + 1 + r5) = r2 + 1 + r5 := Int.min_eq_right (by omega)
    go_wp2_with fail
    have b6 : Below w5.heap.size w5 (w5.alloc (.cells #[.string ⟨#[116, 114, 105, 97, 108]⟩, .string ⟨#[112, 108, 101, 97]⟩, .string ⟨#[106, 117, 114, 121]⟩] 9)) := (Below.refl _ _).alloc (Nat.le_refl _) _
    have zz6 : (w5.alloc (.cells #[.string ⟨#[116, 114, 105, 97, 108]⟩, .string ⟨#[112, 108, 101, 97]⟩, .string ⟨#[106, 117, 114, 121]⟩] 9)).heap.size = w5.heap.size + 1 := by simp
    have kN : Blk (w5.alloc (.cells #[.string ⟨#[116, 114, 105, 97, 108]⟩, .string ⟨#[112, 108, 101, 97]⟩, .string ⟨#[106, 117, 114, 121]⟩] 9)) (w5.heap.size) 9 #[.string ⟨#[116, 114, 105, 97, 108]⟩, .string ⟨#[112, 108, 101, 97]⟩, .string ⟨#[106, 117, 114, 121]⟩] := Blk.newAt rfl
    have zb6 := b6.size
    replace s := s.below b6 (by omega)
    replace d := d.step (b6.mono (by omega))
    replace kR := kR.below b6 (by omega)
    clear b6
    generalize (w5.alloc (.cells #[.string ⟨#[116, 114, 105, 97, 108]⟩, .string ⟨#[112, 108, 101, 97]⟩, .string ⟨#[106, 117, 114, 121]⟩] 9)) = w6 at *
    go_wp2_with fail
    refine (l01Next_any q 3 _ s (by omega)).mono ?_
    rintro e w7 ⟨r7, rfl, a7, a7', s', c7⟩
    clear s
    have s := s'
    clear s'
    have zc7 := c7.size
    replace d := d.trans c7
    replace kR := kR.chg c7 (by omega) (by omega)
    replace kN := kN.chg c7 (by omega) (by omega)
    clear c7
    obtain ⟨k, rfl⟩ : ∃ k : Nat, r7 = (k : Int) := ⟨r7.toNat, by omega⟩
    have hki : (k : Int) < 3 := by omega
    obtain ⟨y, hy, x1⟩ : ∃ y : ByteArray, y.size ≤ 64 ∧ w7.cell? ⟨w5.heap.size, k, none⟩ = some (.string y) := by
      rcases (by omega : k = 0 ∨ k = 1 ∨ k = 2) with rfl | rfl | rfl <;> exact ⟨_, by decide, kN.cell _⟩
    clear kN
    obtain ⟨e0, e1, e2, e3, e4⟩ := kR.c5
    have f0 := kR.frozen 0
    have f1 := kR.frozen 1
    have f2 := kR.frozen 2
    have f3 := kR.frozen 3
    have f4 := kR.frozen 4
    go_wp2_with fail
    have bS := (((((Below.refl w.heap.size w7).setCell (p := ⟨w.heap.size, 0, none⟩) (Nat.le_refl _) (.int .i64 r3)).setCell (p := ⟨w.heap.size, 1, none⟩) (Nat.le_refl _) (.int .i64 (140 + r4))).setCell (p := ⟨w.heap.size, 2, none⟩) (Nat.le_refl _) (.int .i64 r2)).setCell (p := ⟨w.heap.size, 3, none⟩) (Nat.le_refl _) (.int .i64 (r2 + 1 + r5))).setCell (p := ⟨w.heap.size, 4, none⟩) (Nat.le_refl _) (.string y)
    refine bodyPost_ret (v := .agg #[.int .i64 r3, .int .i64 (140 + r4), .int .i64 r2, .int .i64 (r2 + 1 + r5), .string y]) (by simp [results, Tryd.results27, go_sem, *]) rfl ?_
    exact ⟨⟨r3, 140 + r4, r2, r2 + 1 + r5, y⟩, rfl, hy, ⟨by dsimp only; omega, by dsimp only; omega, by dsimp only; omega, by dsimp only; omega⟩, s.below bS hl, d.step bS⟩
  · have hmin : min (36 : Int) (r2 + 1 + r5) = 36 := Int.min_eq_left (by omega)
    go_wp2_with fail
    have b6 : Below w5.heap.size w5 (w5.alloc (.cells #[.string ⟨#[116, 114, 105, 97, 108]⟩, .string ⟨#[112, 108, 101, 97]⟩, .string ⟨#[106, 117, 114, 121]⟩] 9)) := (Below.refl _ _).alloc (Nat.le_refl _) _
    have zz6 : (w5.alloc (.cells #[.string ⟨#[116, 114, 105, 97, 108]⟩, .string ⟨#[112, 108, 101, 97]⟩, .string ⟨#[106, 117, 114, 121]⟩] 9)).heap.size = w5.heap.size + 1 := by simp
    have kN : Blk (w5.alloc (.cells #[.string ⟨#[116, 114, 105, 97, 108]⟩, .string ⟨#[112, 108, 101, 97]⟩, .string ⟨#[106, 117, 114, 121]⟩] 9)) (w5.heap.size) 9 #[.string ⟨#[116, 114, 105, 97, 108]⟩, .string ⟨#[112, 108, 101, 97]⟩, .string ⟨#[106, 117, 114, 121]⟩] := Blk.newAt rfl
    have zb6 := b6.size
    replace s := s.below b6 (by omega)
    replace d := d.step (b6.mono (by omega))
    replace kR := kR.below b6 (by omega)
    clear b6
    generalize (w5.alloc (.cells #[.string ⟨#[116, 114, 105, 97, 108]⟩, .string ⟨#[112, 108, 101, 97]⟩, .string ⟨#[106, 117, 114, 121]⟩] 9)) = w6 at *
    go_wp2_with fail
    refine (l01Next_any q 3 _ s (by omega)).mono ?_
    rintro e w7 ⟨r7, rfl, a7, a7', s', c7⟩
    clear s
    have s := s'
    clear s'
    have zc7 := c7.size
    replace d := d.trans c7
    replace kR := kR.chg c7 (by omega) (by omega)
    replace kN := kN.chg c7 (by omega) (by omega)
    clear c7
    obtain ⟨k, rfl⟩ : ∃ k : Nat, r7 = (k : Int) := ⟨r7.toNat, by omega⟩
    have hki : (k : Int) < 3 := by omega
    obtain ⟨y, hy, x1⟩ : ∃ y : ByteArray, y.size ≤ 64 ∧ w7.cell? ⟨w5.heap.size, k, none⟩ = some (.string y) := by
      rcases (by omega : k = 0 ∨ k = 1 ∨ k = 2) with rfl | rfl | rfl <;> exact ⟨_, by decide, kN.cell _⟩
    clear kN
    obtain ⟨e0, e1, e2, e3, e4⟩ := kR.c5
    have f0 := kR.frozen 0
    have f1 := kR.frozen 1
    have f2 := kR.frozen 2
    have f3 := kR.frozen 3
    have f4 := kR.frozen 4
    go_wp2_with fail
    have bS := (((((Below.refl w.heap.size w7).setCell (p := ⟨w.heap.size, 0, none⟩) (Nat.le_refl _) (.int .i64 r3)).setCell (p := ⟨w.heap.size, 1, none⟩) (Nat.le_refl _) (.int .i64 (140 + r4))).setCell (p := ⟨w.heap.size, 2, none⟩) (Nat.le_refl _) (.int .i64 r2)).setCell (p := ⟨w.heap.size, 3, none⟩) (Nat.le_refl _) (.int .i64 (36))).setCell (p := ⟨w.heap.size, 4, none⟩) (Nat.le_refl _) (.string y)
    refine bodyPost_ret (v := .agg #[.int .i64 r3, .int .i64 (140 + r4), .int .i64 r2, .int .i64 (36), .string y]) (by simp [results, Tryd.results27, go_sem, *]) rfl ?_
    exact ⟨⟨r3, 140 + r4, r2, 36, y⟩, rfl, hy, ⟨by dsimp only; omega, by dsimp only; omega, by dsimp only; omega, by dsimp only; omega⟩, s.below bS hl, d.step bS⟩

theorem l18Good_any (q : Nat) (w : World) (h : Src w q) :
    Calls Tryd.prog 27 #[.pointer (some ⟨q, 0, none⟩)] w fun e w' => ∃ b : Booking, e = .returned (.agg #[.int .i64 b.room, .int .i64 b.day, .int .i64 b.frm, .int .i64 b.to_, .string b.use]) ∧ b.use.size ≤ 64 ∧ Src w' q ∧ Chg q (q + 1) w w' :=
  (l18GoodN_any q w h).mono (by
    rintro e w' ⟨b, h1, h2, -, h3⟩
    exact ⟨b, h1, h2, h3⟩)
set_option maxRecDepth 100000 in
set_option maxHeartbeats 4000000 in
theorem l18Draw_any (q : Nat) (w : World) (h : Src w q) :
    Calls Tryd.prog 25 #[.pointer (some ⟨q, 0, none⟩)] w fun e w' => ∃ b : Booking, e = .returned (.agg #[.int .i64 b.room, .int .i64 b.day, .int .i64 b.frm, .int .i64 b.to_, .string b.use]) ∧ b.use.size ≤ 64 ∧ Src w' q ∧ Chg q (q + 1) w w' := by
  have hl := h.lt
  have s := h
  clear h
  have d : Chg q (q + 1) w w := Chg.refl _ _ _
  go_enter Tryd.func25, Tryd.ntmps25
  go_wp2_with fail
  have b1 : Below w.heap.size w (w.alloc (.cells #[.int .i64 0, .int .i64 0, .int .i64 0, .int .i64 0, .string ⟨#[]⟩] 27)) := (Below.refl _ _).alloc (Nat.le_refl _) _
  have zz1 : (w.alloc (.cells #[.int .i64 0, .int .i64 0, .int .i64 0, .int .i64 0, .string ⟨#[]⟩] 27)).heap.size = w.heap.size + 1 := by simp
  have kR : Blk (w.alloc (.cells #[.int .i64 0, .int .i64 0, .int .i64 0, .int .i64 0, .string ⟨#[]⟩] 27)) (w.heap.size) 27 #[.int .i64 0, .int .i64 0, .int .i64 0, .int .i64 0, .string ⟨#[]⟩] := Blk.newAt rfl
  have zb1 := b1.size
  replace s := s.below b1 (by omega)
  replace d := d.step (b1.mono (by omega))
  clear b1
  generalize (w.alloc (.cells #[.int .i64 0, .int .i64 0, .int .i64 0, .int .i64 0, .string ⟨#[]⟩] 27)) = w1 at *
  go_wp2_with fail
  refine (l18Good_any q _ s).mono ?_
  rintro e w2 ⟨b, rfl, hbu, s', c2⟩
  clear s
  have s := s'
  clear s'
  have zc2 := c2.size
  replace d := d.trans c2
  replace kR := kR.chg c2 (by omega) (by omega)
  clear c2
  go_wp2_with fail
  have b3 : Below w2.heap.size w2 (w2.alloc (.cells #[.int .i64 b.room, .int .i64 b.day, .int .i64 b.frm, .int .i64 b.to_, .string b.use] 27)) := (Below.refl _ _).alloc (Nat.le_refl _) _
  have zz3 : (w2.alloc (.cells #[.int .i64 b.room, .int .i64 b.day, .int .i64 b.frm, .int .i64 b.to_, .string b.use] 27)).heap.size = w2.heap.size + 1 := by simp
  have kA : Blk (w2.alloc (.cells #[.int .i64 b.room, .int .i64 b.day, .int .i64 b.frm, .int .i64 b.to_, .string b.use] 27)) (w2.heap.size) 27 #[.int .i64 b.room, .int .i64 b.day, .int .i64 b.frm, .int .i64 b.to_, .string b.use] := Blk.newAt rfl
  have zb3 := b3.size
  replace s := s.below b3 (by omega)
  replace d := d.step (b3.mono (by omega))
  replace kR := kR.below b3 (by omega)
  clear b3
  generalize (w2.alloc (.cells #[.int .i64 b.room, .int .i64 b.day, .int .i64 b.frm, .int .i64 b.to_, .string b.use] 27)) = w3 at *
  go_wp2_with fail
  refine (l01Next_any q 24 _ s (by omega)).mono ?_
  rintro e w4 ⟨r4, rfl, a4, a4', s', c4⟩
  clear s
  have s := s'
  clear s'
  have zc4 := c4.size
  replace d := d.trans c4
  replace kR := kR.chg c4 (by omega) (by omega)
  replace kA := kA.chg c4 (by omega) (by omega)
  clear c4
  have hne1 : w2.heap.size ≠ w.heap.size := by omega
  have hne2 : w.heap.size ≠ w2.heap.size := by omega
  by_cases h0 : r4 = 0
  · subst h0
    obtain ⟨q0, q1, q2, q3, q4⟩ := kA.c5
    go_wp2_with fail
    clear q0 q1 q2 q3 q4
    have b5 : Below w4.heap.size w4 (w4.alloc (.cells #[.int .i64 (b.frm), .int .i64 36, .int .i64 37] 2)) := (Below.refl _ _).alloc (Nat.le_refl _) _
    have zz5 : (w4.alloc (.cells #[.int .i64 (b.frm), .int .i64 36, .int .i64 37] 2)).heap.size = w4.heap.size + 1 := by simp
    have hL5 := rdInts (w := w4) (n := w4.heap.size) [b.frm, 36, 37] (cs := #[.int .i64 (b.frm), .int .i64 36, .int .i64 37]) rfl rfl
    have zb5 := b5.size
    replace s := s.below b5 (by omega)
    replace d := d.step (b5.mono (by omega))
    replace kR := kR.below b5 (by omega)
    replace kA := kA.below b5 (by omega)
    clear b5
    generalize (w4.alloc (.cells #[.int .i64 (b.frm), .int .i64 36, .int .i64 37] 2)) = w5 at *
    refine (l01Pick_any q _ [b.frm, 36, 37] _ _ _ s hL5 (by omega) (by omega) (by simp) (by simp)).mono ?_
    rintro e w6 ⟨r6, rfl, hp6, s', c6⟩
    clear s
    have s := s'
    clear s'
    have zc6 := c6.size
    replace d := d.trans c6
    replace kR := kR.chg c6 (by omega) (by omega)
    replace kA := kA.chg c6 (by omega) (by omega)
    clear c6
    clear hL5
    simp only [List.mem_cons, List.not_mem_nil, or_false] at hp6
    obtain ⟨q0, q1, q2, q3, q4⟩ := kA.c5
    have g3 := kA.frozen 3
    obtain ⟨e0, e1, e2, e3, e4⟩ := kR.c5
    have f0 := kR.frozen 0
    have f1 := kR.frozen 1
    have f2 := kR.frozen 2
    have f3 := kR.frozen 3
    have f4 := kR.frozen 4
    go_wp2_with fail
    have bS := ((((((Below.refl w.heap.size w6).setCell (p := ⟨w2.heap.size, 3, none⟩) (by show w.heap.size ≤ w2.heap.size; omega) (.int .i64 r6)).setCell (p := ⟨w.heap.size, 0, none⟩) (Nat.le_refl _) (.int .i64 b.room)).setCell (p := ⟨w.heap.size, 1, none⟩) (Nat.le_refl _) (.int .i64 b.day)).setCell (p := ⟨w.heap.size, 2, none⟩) (Nat.le_refl _) (.int .i64 b.frm)).setCell (p := ⟨w.heap.size, 3, none⟩) (Nat.le_refl _) (.int .i64 r6)).setCell (p := ⟨w.heap.size, 4, none⟩) (Nat.le_refl _) (.string b.use)
    refine bodyPost_ret (v := .agg #[.int .i64 b.room, .int .i64 b.day, .int .i64 b.frm, .int .i64 r6, .string b.use]) (by simp [results, Tryd.results25, go_sem, *]) rfl ?_
    exact ⟨⟨b.room, b.day, b.frm, r6, b.use⟩, rfl, hbu, s.below bS hl, d.step bS⟩
  by_cases h1 : r4 = 1
  · subst h1
    go_wp2_with fail
    have b5 : Below w4.heap.size w4 (w4.alloc (.cells #[.int .i64 (-1), .int .i64 5, .int .i64 6] 2)) := (Below.refl _ _).alloc (Nat.le_refl _) _
    have zz5 : (w4.alloc (.cells #[.int .i64 (-1), .int .i64 5, .int .i64 6] 2)).heap.size = w4.heap.size + 1 := by simp
    have hL5 := rdInts (w := w4) (n := w4.heap.size) [-1, 5, 6] (cs := #[.int .i64 (-1), .int .i64 5, .int .i64 6]) rfl rfl
    have zb5 := b5.size
    replace s := s.below b5 (by omega)
    replace d := d.step (b5.mono (by omega))
    replace kR := kR.below b5 (by omega)
    replace kA := kA.below b5 (by omega)
    clear b5
    generalize (w4.alloc (.cells #[.int .i64 (-1), .int .i64 5, .int .i64 6] 2)) = w5 at *
    refine (l01Pick_any q _ [-1, 5, 6] _ _ _ s hL5 (by omega) (by omega) (by simp) (by simp)).mono ?_
    rintro e w6 ⟨r6, rfl, hp6, s', c6⟩
    clear s
    have s := s'
    clear s'
    have zc6 := c6.size
    replace d := d.trans c6
    replace kR := kR.chg c6 (by omega) (by omega)
    replace kA := kA.chg c6 (by omega) (by omega)
    clear c6
    clear hL5
    simp only [List.mem_cons, List.not_mem_nil, or_false] at hp6
    obtain ⟨q0, q1, q2, q3, q4⟩ := kA.c5
    have g0 := kA.frozen 0
    obtain ⟨e0, e1, e2, e3, e4⟩ := kR.c5
    have f0 := kR.frozen 0
    have f1 := kR.frozen 1
    have f2 := kR.frozen 2
    have f3 := kR.frozen 3
    have f4 := kR.frozen 4
    go_wp2_with fail
    have bS := ((((((Below.refl w.heap.size w6).setCell (p := ⟨w2.heap.size, 0, none⟩) (by show w.heap.size ≤ w2.heap.size; omega) (.int .i64 r6)).setCell (p := ⟨w.heap.size, 0, none⟩) (Nat.le_refl _) (.int .i64 r6)).setCell (p := ⟨w.heap.size, 1, none⟩) (Nat.le_refl _) (.int .i64 b.day)).setCell (p := ⟨w.heap.size, 2, none⟩) (Nat.le_refl _) (.int .i64 b.frm)).setCell (p := ⟨w.heap.size, 3, none⟩) (Nat.le_refl _) (.int .i64 b.to_)).setCell (p := ⟨w.heap.size, 4, none⟩) (Nat.le_refl _) (.string b.use)
    refine bodyPost_ret (v := .agg #[.int .i64 r6, .int .i64 b.day, .int .i64 b.frm, .int .i64 b.to_, .string b.use]) (by simp [results, Tryd.results25, go_sem, *]) rfl ?_
    exact ⟨⟨r6, b.day, b.frm, b.to_, b.use⟩, rfl, hbu, s.below bS hl, d.step bS⟩
  by_cases h2 : r4 = 2
  · subst h2
    go_wp2_with fail
    refine (l01DrawWord_any q _ s).mono ?_
    rintro e w5 ⟨y5, rfl, hy5, s', c5⟩
    clear s
    have s := s'
    clear s'
    have zc5 := c5.size
    replace d := d.trans c5
    replace kR := kR.chg c5 (by omega) (by omega)
    replace kA := kA.chg c5 (by omega) (by omega)
    clear c5
    obtain ⟨q0, q1, q2, q3, q4⟩ := kA.c5
    have g4 := kA.frozen 4
    obtain ⟨e0, e1, e2, e3, e4⟩ := kR.c5
    have f0 := kR.frozen 0
    have f1 := kR.frozen 1
    have f2 := kR.frozen 2
    have f3 := kR.frozen 3
    have f4 := kR.frozen 4
    go_wp2_with fail
    have bS := ((((((Below.refl w.heap.size w5).setCell (p := ⟨w2.heap.size, 4, none⟩) (by show w.heap.size ≤ w2.heap.size; omega) (.string y5)).setCell (p := ⟨w.heap.size, 0, none⟩) (Nat.le_refl _) (.int .i64 b.room)).setCell (p := ⟨w.heap.size, 1, none⟩) (Nat.le_refl _) (.int .i64 b.day)).setCell (p := ⟨w.heap.size, 2, none⟩) (Nat.le_refl _) (.int .i64 b.frm)).setCell (p := ⟨w.heap.size, 3, none⟩) (Nat.le_refl _) (.int .i64 b.to_)).setCell (p := ⟨w.heap.size, 4, none⟩) (Nat.le_refl _) (.string y5)
    refine bodyPost_ret (v := .agg #[.int .i64 b.room, .int .i64 b.day, .int .i64 b.frm, .int .i64 b.to_, .string y5]) (by simp [results, Tryd.results25, go_sem, *]) rfl ?_
    exact ⟨⟨b.room, b.day, b.frm, b.to_, y5⟩, rfl, by show y5.size ≤ 64; omega, s.below bS hl, d.step bS⟩
  have hz0 : (r4 == 0) = false := by simpa using h0
  have hz1 : (r4 == 1) = false := by simpa using h1
  have hz2 : (r4 == 2) = false := by simpa using h2
  obtain ⟨q0, q1, q2, q3, q4⟩ := kA.c5
  obtain ⟨e0, e1, e2, e3, e4⟩ := kR.c5
  have f0 := kR.frozen 0
  have f1 := kR.frozen 1
  have f2 := kR.frozen 2
  have f3 := kR.frozen 3
  have f4 := kR.frozen 4
  go_wp2_with fail
  have bS := (((((Below.refl w.heap.size w4).setCell (p := ⟨w.heap.size, 0, none⟩) (Nat.le_refl _) (.int .i64 b.room)).setCell (p := ⟨w.heap.size, 1, none⟩) (Nat.le_refl _) (.int .i64 b.day)).setCell (p := ⟨w.heap.size, 2, none⟩) (Nat.le_refl _) (.int .i64 b.frm)).setCell (p := ⟨w.heap.size, 3, none⟩) (Nat.le_refl _) (.int .i64 b.to_)).setCell (p := ⟨w.heap.size, 4, none⟩) (Nat.le_refl _) (.string b.use)
  refine bodyPost_ret (v := .agg #[.int .i64 b.room, .int .i64 b.day, .int .i64 b.frm, .int .i64 b.to_, .string b.use]) (by simp [results, Tryd.results25, go_sem, *]) rfl ?_
  exact ⟨b, rfl, hbu, s.below bS hl, d.step bS⟩

theorem extract_le (t : ByteArray) (i j : Nat) : (t.extract i j).size ≤ t.size := by
  have h := size_data (t.extract i j)
  have h2 := size_data t
  rw [extract_data, List.length_take, List.length_drop] at h
  omega
set_option maxRecDepth 100000 in
set_option maxHeartbeats 4000000 in
theorem l01Damage_any (q : Nat) (t : ByteArray) (w : World) (h : Src w q) (ht : t.size ≤ 1000) :
    Calls Tryd.prog 29 #[.pointer (some ⟨q, 0, none⟩), .string t] w fun e w' => ∃ s : ByteArray, e = .returned (.string s) ∧ s.size ≤ 3000 ∧ Src w' q ∧ Chg q (q + 1) w w' := by
  have hl := h.lt
  go_enter Tryd.func29, Tryd.ntmps29
  go_wp2_with fail
  refine (l01Next_any q _ _ h (by omega)).mono ?_
  rintro e w1 ⟨r1, rfl, a1, a1', s1, c1⟩
  have z1 := c1.size
  obtain ⟨k, rfl⟩ : ∃ k : Nat, r1 = (k : Int) := ⟨r1.toNat, by omega⟩
  have hki : (k : Int) ≤ (t.size : Int) := by omega
  have l0 := extract_le t 0 k
  have l1 := extract_le t k t.size
  have l2 := extract_le t (k + 1) t.size
  go_wp2_with fail
  refine (l01Next_any q 8 _ s1 (by omega)).mono ?_
  rintro e w2 ⟨r2, rfl, a2, a2', s2, c2⟩
  have z2 := c2.size
  have hc := c1.trans c2
  clear c1 c2 s1
  by_cases h0 : r2 = 0
  · subst h0
    go_wp2_with fail
    go_ret
    exact ⟨_, rfl, by omega, s2, hc⟩
  by_cases h1 : r2 = 1
  · subst h1
    clear h0
    have hy : ∀ (W : World) (g : Nat) (j : Nat), j < 8 → Blk W g 9 #[.string ⟨#[48]⟩, .string ⟨#[35]⟩, .string ⟨#[46]⟩, .string ⟨#[47]⟩, .string ⟨#[32]⟩, .string ⟨#[97]⟩, .string ⟨#[45]⟩, .string ⟨#[10]⟩] → ∃ y : ByteArray, y.size = 1 ∧ W.cell? ⟨g, j, none⟩ = some (.string y) := by
      intro W g j hj kB
      rcases (by omega : j = 0 ∨ j = 1 ∨ j = 2 ∨ j = 3 ∨ j = 4 ∨ j = 5 ∨ j = 6 ∨ j = 7) with rfl | rfl | rfl | rfl | rfl | rfl | rfl | rfl <;> exact ⟨_, by rfl, kB.cell _⟩
    go_wp2_with fail
    go_region_with
      (first
        | (go_at_call 28; refine (l01Next_any q 8 _ (s2.below (B := w2.heap.size) (by (repeat (first | with_reducible assumption | with_reducible exact Below.refl _ _ | with_reducible refine Below.setCell ?_ ?_ _ | with_reducible refine Below.alloc ?_ ?_ _ | with_reducible refine Below.drew ?_ | with_reducible refine below_drewN ?_ _ | with_reducible refine Below.step (by with_reducible assumption) ?_ ?_ | omega | (simp <;> omega) | (simp; done)))) s2.lt) (by omega)).mono ?_; rintro e w3 ⟨r3, rfl, a3, a3', s3, c3⟩; have hs2 := s2.lt; have D3 : Chg q (q + 1) w2 w3 := Chg.trans (by repeat (first | exact Chg.refl _ _ _ | refine Chg.drew ?_ | refine Chg.allocd ?_ _)) c3; obtain ⟨j, rfl⟩ : ∃ j : Nat, r3 = (j : Int) := ⟨r3.toNat, by omega⟩; have hj : j < 8 := (by omega); have hji : (j : Int) < 8 := (by omega); have kq := Blk.chg (Blk.drew (Blk.newAt (n := w2.heap.size) (t := 9) (cs := #[.string ⟨#[48]⟩, .string ⟨#[35]⟩, .string ⟨#[46]⟩, .string ⟨#[47]⟩, .string ⟨#[32]⟩, .string ⟨#[97]⟩, .string ⟨#[45]⟩, .string ⟨#[10]⟩]) (by rfl))) c3 (by simp) (.inr (by omega)); obtain ⟨y, hy1, x1⟩ := hy w3 w2.heap.size j hj kq)
        | (go_at_call 28; refine (l01Next_any q 8 _ (s2.below (B := w2.heap.size) (by (repeat (first | with_reducible assumption | with_reducible exact Below.refl _ _ | with_reducible refine Below.setCell ?_ ?_ _ | with_reducible refine Below.alloc ?_ ?_ _ | with_reducible refine Below.drew ?_ | with_reducible refine below_drewN ?_ _ | with_reducible refine Below.step (by with_reducible assumption) ?_ ?_ | omega | (simp <;> omega) | (simp; done)))) s2.lt) (by omega)).mono ?_; rintro e w3 ⟨r3, rfl, a3, a3', s3, c3⟩; have hs2 := s2.lt; have D3 : Chg q (q + 1) w2 w3 := Chg.trans (by repeat (first | exact Chg.refl _ _ _ | refine Chg.drew ?_ | refine Chg.allocd ?_ _)) c3; obtain ⟨j, rfl⟩ : ∃ j : Nat, r3 = (j : Int) := ⟨r3.toNat, by omega⟩; have hj : j < 8 := (by omega); have hji : (j : Int) < 8 := (by omega); obtain ⟨y, hy1, x1⟩ := hy (w3.alloc (.cells #[.string ⟨#[48]⟩, .string ⟨#[35]⟩, .string ⟨#[46]⟩, .string ⟨#[47]⟩, .string ⟨#[32]⟩, .string ⟨#[97]⟩, .string ⟨#[45]⟩, .string ⟨#[10]⟩] 9)) w3.heap.size j hj (Blk.newAt rfl)))
    all_goals (
      try go_wp2_with fail
      go_ret
      refine ⟨_, rfl, ?_, by first | exact s3 | exact s3.alloc _, by first | exact hc.trans D3 | exact (hc.trans D3).allocd _⟩
      simp only [ByteArray.size_append]
      omega)
  by_cases h2 : r2 = 2
  · subst h2
    clear h0 h1
    by_cases hk : k < t.size
    · have hki2 : (k : Int) < (t.size : Int) := by omega
      have hki3 : (k : Int) + 1 ≤ (t.size : Int) := by omega
      go_wp2_with fail
      go_quiet (fail)
      go_wp2_with fail
      go_ret
      exact ⟨_, rfl, by simp only [ByteArray.size_append]; omega, s2, hc.drewN _⟩
    · have hki2 : ¬ (k : Int) < (t.size : Int) := by omega
      go_wp2_with fail
      go_ret
      exact ⟨_, rfl, by omega, s2, hc⟩
  · have b0 : (r2 == (0 : Int)) = false := by simpa using h0
    have b1 : (r2 == (1 : Int)) = false := by simpa using h1
    have b2 : (r2 == (2 : Int)) = false := by simpa using h2
    go_wp2_with fail
    go_ret
    exact ⟨_, rfl, by omega, s2, hc⟩
set_option maxRecDepth 100000 in
set_option maxHeartbeats 4000000 in
theorem drawBookingText_any (v : Value) (bs : List Int) (lo hi : Nat) (w : World) (h : RdF encByte 1 w lo hi v bs) (hh : hi ≤ w.heap.size) (hm : bs.length ≤ 4096) (hb : ∀ x ∈ bs, 0 ≤ x ∧ x ≤ 255) :
    Calls Tryd.prog 14 #[v] w fun e w' => ∃ b : Booking, e = .returned (.agg #[.int .i64 b.room, .int .i64 b.day, .int .i64 b.frm, .int .i64 b.to_, .string b.use]) ∧ b.use.size ≤ 64 ∧ Below w.heap.size w w' := by
  have kR : Blk (w.alloc (.cells #[.int .i64 0, .int .i64 0, .int .i64 0, .int .i64 0, .string ⟨#[]⟩] 27)) w.heap.size 27 #[.int .i64 0, .int .i64 0, .int .i64 0, .int .i64 0, .string ⟨#[]⟩] := Blk.newAt rfl
  have bW : Below w.heap.size w (w.alloc (.cells #[.int .i64 0, .int .i64 0, .int .i64 0, .int .i64 0, .string ⟨#[]⟩] 27)) := (Below.refl _ _).alloc (Nat.le_refl _) _
  have zW : w.heap.size < (w.alloc (.cells #[.int .i64 0, .int .i64 0, .int .i64 0, .int .i64 0, .string ⟨#[]⟩] 27)).heap.size := by simp
  replace h := h.below bW hh
  go_enter Tryd.func14, Tryd.ntmps14
  go_wp2_with fail
  generalize (w.alloc (.cells #[.int .i64 0, .int .i64 0, .int .i64 0, .int .i64 0, .string ⟨#[]⟩] 27)) = W0 at *
  refine (l01From_any _ bs lo hi _ h (by omega) hm hb).mono ?_
  rintro e w1 ⟨q, rfl, hq, s1, b1⟩
  have z1 := b1.size
  replace kR := kR.below b1 (by omega)
  replace bW := Below.step b1 (by omega) bW
  clear b1 h
  go_wp2_with fail
  refine (l18Draw_any q _ s1).mono ?_
  rintro e w2 ⟨b, rfl, hu, s2, c2⟩
  have z2 := c2.size
  have hsq := s1.lt
  replace kR := kR.chg c2 (by omega) (.inl (by omega))
  have b2 : Below w.heap.size w w2 := bW.trans (c2.below (by omega) (by omega))
  obtain ⟨e0, e1, e2, e3, e4⟩ := kR.c5
  have f0 := kR.frozen 0
  have f1 := kR.frozen 1
  have f2 := kR.frozen 2
  have f3 := kR.frozen 3
  have f4 := kR.frozen 4
  go_wp2_with fail
  refine bodyPost_ret (v := .agg #[.int .i64 b.room, .int .i64 b.day, .int .i64 b.frm, .int .i64 b.to_, .string b.use]) (by simp [results, Tryd.results14, go_sem, *]) rfl ?_
  exact ⟨b, rfl, hu, by (repeat (first | with_reducible assumption | with_reducible exact Below.refl _ _ | with_reducible refine Below.setCell ?_ ?_ _ | with_reducible refine Below.alloc ?_ ?_ _ | with_reducible refine Below.drew ?_ | with_reducible refine below_drewN ?_ _ | with_reducible refine Below.step (by with_reducible assumption) ?_ ?_ | omega | (simp <;> omega) | (simp; done)))⟩
set_option maxRecDepth 100000 in
set_option maxHeartbeats 4000000 in
theorem drawReadBooking_any (v : Value) (bs : List Int) (lo hi : Nat) (w : World) (h : RdF encByte 1 w lo hi v bs) (hh : hi ≤ w.heap.size) (hm : bs.length ≤ 4096) (hb : ∀ x ∈ bs, 0 ≤ x ∧ x ≤ 255) :
    Calls Tryd.prog 15 #[v] w fun e w' => ∃ t : ByteArray, e = .returned (.string t) ∧ t.size ≤ 3000 ∧ Below w.heap.size w w' := by
  go_enter Tryd.func15, Tryd.ntmps15
  go_wp2_with fail
  refine (l01From_any _ bs lo hi _ h hh hm hb).mono ?_
  rintro e w1 ⟨q, rfl, hq, s1, b1⟩
  have z1 := b1.size
  have hsq := s1.lt
  go_wp2_with fail
  refine (l18GoodN_any q _ s1).mono ?_
  rintro e w2 ⟨b, rfl, hu, htm, s2, c2⟩
  have z2 := c2.size
  replace b1 : Below w.heap.size w w2 := b1.trans (c2.below (by omega) (by omega))
  clear c2 s1
  have hbd : ∀ x ∈ [b.room, b.day, b.frm, b.to_], -1000000000000000 ≤ x ∧ x ≤ 1000000000000000 := by
    intro x hx
    unfold Booking.tame at htm
    simp at hx
    rcases hx with rfl | rfl | rfl | rfl <;> omega
  have hsz : (bookStr b).size ≤ 1000 := by
    have hj := joinB_size hbd
    have hj1 : (ByteArray.mk #[47]).size = 1 := rfl
    simp only [List.length_cons, List.length_nil] at hj
    rw [bookStr_eq, ByteArray.size_append, ByteArray.size_append]
    omega
  go_wp2_with fail
  refine (l18Text_any b _ hbd (by omega)).mono ?_
  rintro e w3 ⟨rfl, b3⟩
  have z3 := b3.size
  replace b1 := Below.step b3 (by omega) b1
  replace s2 := s2.below b3 s2.lt
  clear b3
  generalize bookStr b = t at *
  go_wp2_with fail
  refine (l01Next_any q 3 _ s2 (by omega)).mono ?_
  rintro e w4 ⟨r, rfl, a4, a4', s4, c4⟩
  have z4 := c4.size
  replace b1 : Below w.heap.size w w4 := b1.trans (c4.below (by omega) (by omega))
  clear c4 s2
  by_cases hr : r = 0
  · subst hr
    go_wp2_with fail
    refine (l01Damage_any q t _ s4 hsz).mono ?_
    rintro e w5 ⟨t', rfl, ht', s5, c5⟩
    go_wp2_with fail
    go_ret
    exact ⟨t', rfl, by omega, b1.trans (c5.below (by omega) (by omega))⟩
  · have hr0 : (r == (0 : Int)) = false := by simpa using hr
    go_wp2_with fail
    go_ret
    exact ⟨t, rfl, by omega, b1⟩
end Go.Proofs.YtmfidoahdkipmaaDoor
