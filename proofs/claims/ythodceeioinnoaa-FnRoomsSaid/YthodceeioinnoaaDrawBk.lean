/- Draws of bookings. Written by a program (gen_drawbk.py). -/
import Derived.Test.YthodceeioinnoaaSrcL
import Derived.Test.YthodceeioinnoaaRoomP
import Derived.Deep.RegionLaw
namespace Go.Proofs.Ythodceeioinnoaa
open Go.RowKit
set_option linter.unusedVariables false

def sliceLen : Value → Nat
  | .slice _ n _ => n
  | _ => 0
theorem addBooking_mem {xs : List Booking} {b x : Booking} (h : x ∈ (addBooking xs b).1) : x ∈ xs ∨ x = b := by
  unfold addBooking at h
  split at h
  · split at h
    · simp at h
    · split at h
      · simpa using h
      · simp at h
  · simp at h
theorem addBooking_le (xs : List Booking) (b : Booking) : (addBooking xs b).1.length ≤ xs.length + 1 := by
  unfold addBooking
  split
  · split
    · simp
    · split <;> simp
  · simp

set_option maxRecDepth 100000 in
set_option maxHeartbeats 4000000 in
theorem l18Good_any (q : Nat) (w : World) (h : Src w q) :
    Calls Try.prog 98 #[.pointer (some ⟨q, 0, none⟩)] w fun e w' => ∃ b : Booking, e = .returned (.agg #[.int .i64 b.room, .int .i64 b.day, .int .i64 b.frm, .int .i64 b.to_, .string b.use]) ∧ b.use.size ≤ 64 ∧ Src w' q ∧ Chg q (q + 1) w w' := by
  have hl := h.lt
  have s := h
  clear h
  have d : Chg q (q + 1) w w := Chg.refl _ _ _
  go_enter Try.func98, Try.ntmps98
  go_wp2_with fail
  have b1 : Below w.heap.size w (w.alloc (.cells #[.int .i64 0, .int .i64 0, .int .i64 0, .int .i64 0, .string ⟨#[]⟩] 41)) := (Below.refl _ _).alloc (Nat.le_refl _) _
  have zz1 : (w.alloc (.cells #[.int .i64 0, .int .i64 0, .int .i64 0, .int .i64 0, .string ⟨#[]⟩] 41)).heap.size = w.heap.size + 1 := by simp
  have kR : Blk (w.alloc (.cells #[.int .i64 0, .int .i64 0, .int .i64 0, .int .i64 0, .string ⟨#[]⟩] 41)) (w.heap.size) 41 #[.int .i64 0, .int .i64 0, .int .i64 0, .int .i64 0, .string ⟨#[]⟩] := Blk.newAt rfl
  have zb1 := b1.size
  replace s := s.below b1 (by omega)
  replace d := d.step (b1.mono (by omega))
  clear b1
  generalize (w.alloc (.cells #[.int .i64 0, .int .i64 0, .int .i64 0, .int .i64 0, .string ⟨#[]⟩] 41)) = w1 at *
  go_wp2_with fail
  refine (l01Next_any q 34 _ s (by omega)).mono ?_
  rintro e w2 ⟨r2, rfl, a2, a2', s', c2⟩
  clear s
  have s := s'
  clear s'
  have zc2 := c2.size
  replace d := d.trans c2
  replace kR := kR.chg c2 (by omega) (by omega)
  clear c2
  go_wp2_with fail
  refine (l01Next_any q 3 _ s (by omega)).mono ?_
  rintro e w3 ⟨r3, rfl, a3, a3', s', c3⟩
  clear s
  have s := s'
  clear s'
  have zc3 := c3.size
  replace d := d.trans c3
  replace kR := kR.chg c3 (by omega) (by omega)
  clear c3
  go_wp2_with fail
  refine (l01Next_any q 2 _ s (by omega)).mono ?_
  rintro e w4 ⟨r4, rfl, a4, a4', s', c4⟩
  clear s
  have s := s'
  clear s'
  have zc4 := c4.size
  replace d := d.trans c4
  replace kR := kR.chg c4 (by omega) (by omega)
  clear c4
  go_wp2_with fail
  refine (l01Next_any q 12 _ s (by omega)).mono ?_
  rintro e w5 ⟨r5, rfl, a5, a5', s', c5⟩
  clear s
  have s := s'
  clear s'
  have zc5 := c5.size
  replace d := d.trans c5
  replace kR := kR.chg c5 (by omega) (by omega)
  clear c5
  by_cases hm : r2 + 1 + r5 < 36
  · go_wp2_with fail
    have b6 : Below w5.heap.size w5 (w5.alloc (.cells #[.string ⟨#[116, 114, 105, 97, 108]⟩, .string ⟨#[112, 108, 101, 97]⟩, .string ⟨#[106, 117, 114, 121]⟩] 9)) := (Below.refl _ _).alloc (Nat.le_refl _) _
    have zz6 : (w5.alloc (.cells #[.string ⟨#[116, 114, 105, 97, 108]⟩, .string ⟨#[112, 108, 101, 97]⟩, .string ⟨#[106, 117, 114, 121]⟩] 9)).heap.size = w5.heap.size + 1 := by simp
    have kN : Blk (w5.alloc (.cells #[.string ⟨#[116, 114, 105, 97, 108]⟩, .string ⟨#[112, 108, 101, 97]⟩, .string ⟨#[106, 117, 114, 121]⟩] 9)) (w5.heap.size) 9 #[.string ⟨#[116, 114, 105, 97, 108]⟩, .string ⟨#[112, 108, 101, 97]⟩, .string ⟨#[106, 117, 114, 121]⟩] := Blk.newAt rfl
    have zb6 := b6.size
    replace s := s.below b6 (by omega)
    replace d := d.step (b6.mono (by omega))
    replace kR := kR.below b6 (by omega)
    clear b6
    generalize (w5.alloc (.cells #[.string ⟨#[116, 114, 105, 97, 108]⟩, .string ⟨#[112, 108, 101, 97]⟩, .string ⟨#[106, 117, 114, 121]⟩] 9)) = w6 at *
    go_wp2_with fail
    refine (l01Next_any q 3 _ s (by omega)).mono ?_
    rintro e w7 ⟨r7, rfl, a7, a7', s', c7⟩
    clear s
    have s := s'
    clear s'
    have zc7 := c7.size
    replace d := d.trans c7
    replace kR := kR.chg c7 (by omega) (by omega)
    replace kN := kN.chg c7 (by omega) (by omega)
    clear c7
    obtain ⟨k, rfl⟩ : ∃ k : Nat, r7 = (k : Int) := ⟨r7.toNat, by omega⟩
    have hki : (k : Int) < 3 := by omega
    obtain ⟨y, hy, x1⟩ : ∃ y : ByteArray, y.size ≤ 64 ∧ w7.cell? ⟨w5.heap.size, k, none⟩ = some (.string y) := by
      rcases (by omega : k = 0 ∨ k = 1 ∨ k = 2) with rfl | rfl | rfl <;> exact ⟨_, by decide, kN.cell _⟩
    clear kN
    obtain ⟨e0, e1, e2, e3, e4⟩ := kR.five
    have f0 := kR.frozen 0
    have f1 := kR.frozen 1
    have f2 := kR.frozen 2
    have f3 := kR.frozen 3
    have f4 := kR.frozen 4
    go_wp2_with fail
    have bS := (((((Below.refl w.heap.size w7).setCell (p := ⟨w.heap.size, 0, none⟩) (Nat.le_refl _) (.int .i64 r3)).setCell (p := ⟨w.heap.size, 1, none⟩) (Nat.le_refl _) (.int .i64 (140 + r4))).setCell (p := ⟨w.heap.size, 2, none⟩) (Nat.le_refl _) (.int .i64 r2)).setCell (p := ⟨w.heap.size, 3, none⟩) (Nat.le_refl _) (.int .i64 (r2 + 1 + r5))).setCell (p := ⟨w.heap.size, 4, none⟩) (Nat.le_refl _) (.string y)
    refine bodyPost_ret (v := .agg #[.int .i64 r3, .int .i64 (140 + r4), .int .i64 r2, .int .i64 (r2 + 1 + r5), .string y]) (by simp [results, Try.results98, go_sem, *]) rfl ?_
    exact ⟨⟨r3, 140 + r4, r2, r2 + 1 + r5, y⟩, rfl, hy, s.below bS hl, d.step bS⟩
  · go_wp2_with fail
    have b6 : Below w5.heap.size w5 (w5.alloc (.cells #[.string ⟨#[116, 114, 105, 97, 108]⟩, .string ⟨#[112, 108, 101, 97]⟩, .string ⟨#[106, 117, 114, 121]⟩] 9)) := (Below.refl _ _).alloc (Nat.le_refl _) _
    have zz6 : (w5.alloc (.cells #[.string ⟨#[116, 114, 105, 97, 108]⟩, .string ⟨#[112, 108, 101, 97]⟩, .string ⟨#[106, 117, 114, 121]⟩] 9)).heap.size = w5.heap.size + 1 := by simp
    have kN : Blk (w5.alloc (.cells #[.string ⟨#[116, 114, 105, 97, 108]⟩, .string ⟨#[112, 108, 101, 97]⟩, .string ⟨#[106, 117, 114, 121]⟩] 9)) (w5.heap.size) 9 #[.string ⟨#[116, 114, 105, 97, 108]⟩, .string ⟨#[112, 108, 101, 97]⟩, .string ⟨#[106, 117, 114, 121]⟩] := Blk.newAt rfl
    have zb6 := b6.size
    replace s := s.below b6 (by omega)
    replace d := d.step (b6.mono (by omega))
    replace kR := kR.below b6 (by omega)
    clear b6
    generalize (w5.alloc (.cells #[.string ⟨#[116, 114, 105, 97, 108]⟩, .string ⟨#[112, 108, 101, 97]⟩, .string ⟨#[106, 117, 114, 121]⟩] 9)) = w6 at *
    go_wp2_with fail
    refine (l01Next_any q 3 _ s (by omega)).mono ?_
    rintro e w7 ⟨r7, rfl, a7, a7', s', c7⟩
    clear s
    have s := s'
    clear s'
    have zc7 := c7.size
    replace d := d.trans c7
    replace kR := kR.chg c7 (by omega) (by omega)
    replace kN := kN.chg c7 (by omega) (by omega)
    clear c7
    obtain ⟨k, rfl⟩ : ∃ k : Nat, r7 = (k : Int) := ⟨r7.toNat, by omega⟩
    have hki : (k : Int) < 3 := by omega
    obtain ⟨y, hy, x1⟩ : ∃ y : ByteArray, y.size ≤ 64 ∧ w7.cell? ⟨w5.heap.size, k, none⟩ = some (.string y) := by
      rcases (by omega : k = 0 ∨ k = 1 ∨ k = 2) with rfl | rfl | rfl <;> exact ⟨_, by decide, kN.cell _⟩
    clear kN
    obtain ⟨e0, e1, e2, e3, e4⟩ := kR.five
    have f0 := kR.frozen 0
    have f1 := kR.frozen 1
    have f2 := kR.frozen 2
    have f3 := kR.frozen 3
    have f4 := kR.frozen 4
    go_wp2_with fail
    have bS := (((((Below.refl w.heap.size w7).setCell (p := ⟨w.heap.size, 0, none⟩) (Nat.le_refl _) (.int .i64 r3)).setCell (p := ⟨w.heap.size, 1, none⟩) (Nat.le_refl _) (.int .i64 (140 + r4))).setCell (p := ⟨w.heap.size, 2, none⟩) (Nat.le_refl _) (.int .i64 r2)).setCell (p := ⟨w.heap.size, 3, none⟩) (Nat.le_refl _) (.int .i64 (36))).setCell (p := ⟨w.heap.size, 4, none⟩) (Nat.le_refl _) (.string y)
    refine bodyPost_ret (v := .agg #[.int .i64 r3, .int .i64 (140 + r4), .int .i64 r2, .int .i64 (36), .string y]) (by simp [results, Try.results98, go_sem, *]) rfl ?_
    exact ⟨⟨r3, 140 + r4, r2, 36, y⟩, rfl, hy, s.below bS hl, d.step bS⟩
set_option maxRecDepth 100000 in
set_option maxHeartbeats 4000000 in
theorem l18Draw_any (q : Nat) (w : World) (h : Src w q) :
    Calls Try.prog 82 #[.pointer (some ⟨q, 0, none⟩)] w fun e w' => ∃ b : Booking, e = .returned (.agg #[.int .i64 b.room, .int .i64 b.day, .int .i64 b.frm, .int .i64 b.to_, .string b.use]) ∧ b.use.size ≤ 64 ∧ Src w' q ∧ Chg q (q + 1) w w' := by
  have hl := h.lt
  have s := h
  clear h
  have d : Chg q (q + 1) w w := Chg.refl _ _ _
  go_enter Try.func82, Try.ntmps82
  go_wp2_with fail
  have b1 : Below w.heap.size w (w.alloc (.cells #[.int .i64 0, .int .i64 0, .int .i64 0, .int .i64 0, .string ⟨#[]⟩] 41)) := (Below.refl _ _).alloc (Nat.le_refl _) _
  have zz1 : (w.alloc (.cells #[.int .i64 0, .int .i64 0, .int .i64 0, .int .i64 0, .string ⟨#[]⟩] 41)).heap.size = w.heap.size + 1 := by simp
  have kR : Blk (w.alloc (.cells #[.int .i64 0, .int .i64 0, .int .i64 0, .int .i64 0, .string ⟨#[]⟩] 41)) (w.heap.size) 41 #[.int .i64 0, .int .i64 0, .int .i64 0, .int .i64 0, .string ⟨#[]⟩] := Blk.newAt rfl
  have zb1 := b1.size
  replace s := s.below b1 (by omega)
  replace d := d.step (b1.mono (by omega))
  clear b1
  generalize (w.alloc (.cells #[.int .i64 0, .int .i64 0, .int .i64 0, .int .i64 0, .string ⟨#[]⟩] 41)) = w1 at *
  go_wp2_with fail
  refine (l18Good_any q _ s).mono ?_
  rintro e w2 ⟨b, rfl, hbu, s', c2⟩
  clear s
  have s := s'
  clear s'
  have zc2 := c2.size
  replace d := d.trans c2
  replace kR := kR.chg c2 (by omega) (by omega)
  clear c2
  go_wp2_with fail
  have b3 : Below w2.heap.size w2 (w2.alloc (.cells #[.int .i64 b.room, .int .i64 b.day, .int .i64 b.frm, .int .i64 b.to_, .string b.use] 41)) := (Below.refl _ _).alloc (Nat.le_refl _) _
  have zz3 : (w2.alloc (.cells #[.int .i64 b.room, .int .i64 b.day, .int .i64 b.frm, .int .i64 b.to_, .string b.use] 41)).heap.size = w2.heap.size + 1 := by simp
  have kA : Blk (w2.alloc (.cells #[.int .i64 b.room, .int .i64 b.day, .int .i64 b.frm, .int .i64 b.to_, .string b.use] 41)) (w2.heap.size) 41 #[.int .i64 b.room, .int .i64 b.day, .int .i64 b.frm, .int .i64 b.to_, .string b.use] := Blk.newAt rfl
  have zb3 := b3.size
  replace s := s.below b3 (by omega)
  replace d := d.step (b3.mono (by omega))
  replace kR := kR.below b3 (by omega)
  clear b3
  generalize (w2.alloc (.cells #[.int .i64 b.room, .int .i64 b.day, .int .i64 b.frm, .int .i64 b.to_, .string b.use] 41)) = w3 at *
  go_wp2_with fail
  refine (l01Next_any q 24 _ s (by omega)).mono ?_
  rintro e w4 ⟨r4, rfl, a4, a4', s', c4⟩
  clear s
  have s := s'
  clear s'
  have zc4 := c4.size
  replace d := d.trans c4
  replace kR := kR.chg c4 (by omega) (by omega)
  replace kA := kA.chg c4 (by omega) (by omega)
  clear c4
  have hne1 : w2.heap.size ≠ w.heap.size := by omega
  have hne2 : w.heap.size ≠ w2.heap.size := by omega
  by_cases h0 : r4 = 0
  · subst h0
    obtain ⟨q0, q1, q2, q3, q4⟩ := kA.five
    go_wp2_with fail
    clear q0 q1 q2 q3 q4
    have b5 : Below w4.heap.size w4 (w4.alloc (.cells #[.int .i64 (b.frm), .int .i64 36, .int .i64 37] 2)) := (Below.refl _ _).alloc (Nat.le_refl _) _
    have zz5 : (w4.alloc (.cells #[.int .i64 (b.frm), .int .i64 36, .int .i64 37] 2)).heap.size = w4.heap.size + 1 := by simp
    have hL5 := rdInts (w := w4) (n := w4.heap.size) [b.frm, 36, 37] (cs := #[.int .i64 (b.frm), .int .i64 36, .int .i64 37]) rfl rfl
    have zb5 := b5.size
    replace s := s.below b5 (by omega)
    replace d := d.step (b5.mono (by omega))
    replace kR := kR.below b5 (by omega)
    replace kA := kA.below b5 (by omega)
    clear b5
    generalize (w4.alloc (.cells #[.int .i64 (b.frm), .int .i64 36, .int .i64 37] 2)) = w5 at *
    refine (l01Pick_any q _ [b.frm, 36, 37] _ _ _ s hL5 (by omega) (by omega) (by simp) (by simp)).mono ?_
    rintro e w6 ⟨r6, rfl, hp6, s', c6⟩
    clear s
    have s := s'
    clear s'
    have zc6 := c6.size
    replace d := d.trans c6
    replace kR := kR.chg c6 (by omega) (by omega)
    replace kA := kA.chg c6 (by omega) (by omega)
    clear c6
    clear hL5
    simp only [List.mem_cons, List.not_mem_nil, or_false] at hp6
    obtain ⟨q0, q1, q2, q3, q4⟩ := kA.five
    have g3 := kA.frozen 3
    obtain ⟨e0, e1, e2, e3, e4⟩ := kR.five
    have f0 := kR.frozen 0
    have f1 := kR.frozen 1
    have f2 := kR.frozen 2
    have f3 := kR.frozen 3
    have f4 := kR.frozen 4
    go_wp2_with fail
    have bS := ((((((Below.refl w.heap.size w6).setCell (p := ⟨w2.heap.size, 3, none⟩) (by show w.heap.size ≤ w2.heap.size; omega) (.int .i64 r6)).setCell (p := ⟨w.heap.size, 0, none⟩) (Nat.le_refl _) (.int .i64 b.room)).setCell (p := ⟨w.heap.size, 1, none⟩) (Nat.le_refl _) (.int .i64 b.day)).setCell (p := ⟨w.heap.size, 2, none⟩) (Nat.le_refl _) (.int .i64 b.frm)).setCell (p := ⟨w.heap.size, 3, none⟩) (Nat.le_refl _) (.int .i64 r6)).setCell (p := ⟨w.heap.size, 4, none⟩) (Nat.le_refl _) (.string b.use)
    refine bodyPost_ret (v := .agg #[.int .i64 b.room, .int .i64 b.day, .int .i64 b.frm, .int .i64 r6, .string b.use]) (by simp [results, Try.results82, go_sem, *]) rfl ?_
    exact ⟨⟨b.room, b.day, b.frm, r6, b.use⟩, rfl, hbu, s.below bS hl, d.step bS⟩
  by_cases h1 : r4 = 1
  · subst h1
    go_wp2_with fail
    have b5 : Below w4.heap.size w4 (w4.alloc (.cells #[.int .i64 (-1), .int .i64 5, .int .i64 6] 2)) := (Below.refl _ _).alloc (Nat.le_refl _) _
    have zz5 : (w4.alloc (.cells #[.int .i64 (-1), .int .i64 5, .int .i64 6] 2)).heap.size = w4.heap.size + 1 := by simp
    have hL5 := rdInts (w := w4) (n := w4.heap.size) [-1, 5, 6] (cs := #[.int .i64 (-1), .int .i64 5, .int .i64 6]) rfl rfl
    have zb5 := b5.size
    replace s := s.below b5 (by omega)
    replace d := d.step (b5.mono (by omega))
    replace kR := kR.below b5 (by omega)
    replace kA := kA.below b5 (by omega)
    clear b5
    generalize (w4.alloc (.cells #[.int .i64 (-1), .int .i64 5, .int .i64 6] 2)) = w5 at *
    refine (l01Pick_any q _ [-1, 5, 6] _ _ _ s hL5 (by omega) (by omega) (by simp) (by simp)).mono ?_
    rintro e w6 ⟨r6, rfl, hp6, s', c6⟩
    clear s
    have s := s'
    clear s'
    have zc6 := c6.size
    replace d := d.trans c6
    replace kR := kR.chg c6 (by omega) (by omega)
    replace kA := kA.chg c6 (by omega) (by omega)
    clear c6
    clear hL5
    simp only [List.mem_cons, List.not_mem_nil, or_false] at hp6
    obtain ⟨q0, q1, q2, q3, q4⟩ := kA.five
    have g0 := kA.frozen 0
    obtain ⟨e0, e1, e2, e3, e4⟩ := kR.five
    have f0 := kR.frozen 0
    have f1 := kR.frozen 1
    have f2 := kR.frozen 2
    have f3 := kR.frozen 3
    have f4 := kR.frozen 4
    go_wp2_with fail
    have bS := ((((((Below.refl w.heap.size w6).setCell (p := ⟨w2.heap.size, 0, none⟩) (by show w.heap.size ≤ w2.heap.size; omega) (.int .i64 r6)).setCell (p := ⟨w.heap.size, 0, none⟩) (Nat.le_refl _) (.int .i64 r6)).setCell (p := ⟨w.heap.size, 1, none⟩) (Nat.le_refl _) (.int .i64 b.day)).setCell (p := ⟨w.heap.size, 2, none⟩) (Nat.le_refl _) (.int .i64 b.frm)).setCell (p := ⟨w.heap.size, 3, none⟩) (Nat.le_refl _) (.int .i64 b.to_)).setCell (p := ⟨w.heap.size, 4, none⟩) (Nat.le_refl _) (.string b.use)
    refine bodyPost_ret (v := .agg #[.int .i64 r6, .int .i64 b.day, .int .i64 b.frm, .int .i64 b.to_, .string b.use]) (by simp [results, Try.results82, go_sem, *]) rfl ?_
    exact ⟨⟨r6, b.day, b.frm, b.to_, b.use⟩, rfl, hbu, s.below bS hl, d.step bS⟩
  by_cases h2 : r4 = 2
  · subst h2
    go_wp2_with fail
    refine (l01DrawWord_any q _ s).mono ?_
    rintro e w5 ⟨y5, rfl, hy5, s', c5⟩
    clear s
    have s := s'
    clear s'
    have zc5 := c5.size
    replace d := d.trans c5
    replace kR := kR.chg c5 (by omega) (by omega)
    replace kA := kA.chg c5 (by omega) (by omega)
    clear c5
    obtain ⟨q0, q1, q2, q3, q4⟩ := kA.five
    have g4 := kA.frozen 4
    obtain ⟨e0, e1, e2, e3, e4⟩ := kR.five
    have f0 := kR.frozen 0
    have f1 := kR.frozen 1
    have f2 := kR.frozen 2
    have f3 := kR.frozen 3
    have f4 := kR.frozen 4
    go_wp2_with fail
    have bS := ((((((Below.refl w.heap.size w5).setCell (p := ⟨w2.heap.size, 4, none⟩) (by show w.heap.size ≤ w2.heap.size; omega) (.string y5)).setCell (p := ⟨w.heap.size, 0, none⟩) (Nat.le_refl _) (.int .i64 b.room)).setCell (p := ⟨w.heap.size, 1, none⟩) (Nat.le_refl _) (.int .i64 b.day)).setCell (p := ⟨w.heap.size, 2, none⟩) (Nat.le_refl _) (.int .i64 b.frm)).setCell (p := ⟨w.heap.size, 3, none⟩) (Nat.le_refl _) (.int .i64 b.to_)).setCell (p := ⟨w.heap.size, 4, none⟩) (Nat.le_refl _) (.string y5)
    refine bodyPost_ret (v := .agg #[.int .i64 b.room, .int .i64 b.day, .int .i64 b.frm, .int .i64 b.to_, .string y5]) (by simp [results, Try.results82, go_sem, *]) rfl ?_
    exact ⟨⟨b.room, b.day, b.frm, b.to_, y5⟩, rfl, by show y5.size ≤ 64; omega, s.below bS hl, d.step bS⟩
  have hz0 : (r4 == 0) = false := by simpa using h0
  have hz1 : (r4 == 1) = false := by simpa using h1
  have hz2 : (r4 == 2) = false := by simpa using h2
  obtain ⟨q0, q1, q2, q3, q4⟩ := kA.five
  obtain ⟨e0, e1, e2, e3, e4⟩ := kR.five
  have f0 := kR.frozen 0
  have f1 := kR.frozen 1
  have f2 := kR.frozen 2
  have f3 := kR.frozen 3
  have f4 := kR.frozen 4
  go_wp2_with fail
  have bS := (((((Below.refl w.heap.size w4).setCell (p := ⟨w.heap.size, 0, none⟩) (Nat.le_refl _) (.int .i64 b.room)).setCell (p := ⟨w.heap.size, 1, none⟩) (Nat.le_refl _) (.int .i64 b.day)).setCell (p := ⟨w.heap.size, 2, none⟩) (Nat.le_refl _) (.int .i64 b.frm)).setCell (p := ⟨w.heap.size, 3, none⟩) (Nat.le_refl _) (.int .i64 b.to_)).setCell (p := ⟨w.heap.size, 4, none⟩) (Nat.le_refl _) (.string b.use)
  refine bodyPost_ret (v := .agg #[.int .i64 b.room, .int .i64 b.day, .int .i64 b.frm, .int .i64 b.to_, .string b.use]) (by simp [results, Try.results82, go_sem, *]) rfl ?_
  exact ⟨b, rfl, hbu, s.below bS hl, d.step bS⟩
set_option maxRecDepth 100000 in
set_option maxHeartbeats 4000000 in
theorem l18List_any (q : Nat) (w : World) (h : Src w q) :
    Calls Try.prog 79 #[.pointer (some ⟨q, 0, none⟩)] w fun e w' => ∃ (v : Value) (xs : List Booking), e = .returned v ∧ xs.length ≤ 30 ∧ (∀ x ∈ xs, x.use.size ≤ 64) ∧ RdF Booking.enc 5 w' w.heap.size w'.heap.size v xs ∧ Src w' q ∧ Chg q (q + 1) w w' := by
  have hl := h.lt
  have s := h
  clear h
  have d : Chg q (q + 1) w w := Chg.refl _ _ _
  go_enter Try.func79, Try.ntmps79
  go_wp2_with fail
  have ho : OwnL Booking.enc 5 41 (w.alloc (.cells #[] 41)) w.heap.size (.slice (some ⟨w.heap.size, 0, none⟩) 0 0) ([] : List Booking) := OwnL.emptyAt rfl (Nat.le_refl _)
  have b1 : Below w.heap.size w (w.alloc (.cells #[] 41)) := (Below.refl _ _).alloc (Nat.le_refl _) _
  have zz1 : (w.alloc (.cells #[] 41)).heap.size = w.heap.size + 1 := by simp
  have zb1 := b1.size
  replace s := s.below b1 (by omega)
  replace d := d.step (b1.mono (by omega))
  clear b1
  generalize (w.alloc (.cells #[] 41)) = w1 at *
  go_wp2_with fail
  refine (l01Next_any q 10 _ s (by omega)).mono ?_
  rintro e w2 ⟨r2, rfl, a2, a2', s', c2⟩
  clear s
  have s := s'
  clear s'
  have zc2 := c2.size
  replace d := d.trans c2
  replace ho := ho.chg c2 (by omega)
  clear c2
  go_wp2_with fail
  go_loopw [3, 4, 5, 6] (fun u n _ _ wr => ∃ (k : Nat) (xs : List Booking), n = .int .i64 k ∧ xs.length + k ≤ 9 ∧ Hid (∀ x ∈ xs, x.use.size ≤ 64) ∧ OwnL Booking.enc 5 41 wr w.heap.size u xs ∧ Src wr q ∧ Chg q (q + 1) w wr) (fun _ n _ _ _ => (intOf n).toNat)
  case atStart => exact ⟨r2.toNat, [], by simp; omega, by simp; omega, by show ∀ x ∈ ([] : List Booking), x.use.size ≤ 64; simp, ho, s, d⟩
  case round =>
    obtain ⟨k, xs, rfl, hk, HM, ho, s, d⟩ := hrel
    have z0 := d.size
    by_cases hlt : 0 < k
    · have hki : (0 : Int) < (k : Int) := by omega
      go_wp2_with fail
      refine (l18Good_any q _ s).mono ?_
      rintro e w3 ⟨b, rfl, hbu, s', c3⟩
      clear s
      have s := s'
      clear s'
      have zc3 := c3.size
      replace ho := ho.chg c3 (by omega)
      replace d := d.trans c3
      clear c3
      have hr : RdF Booking.enc 5 w3 w.heap.size w3.heap.size _ xs := (ho.rdw (fun _ => rfl)).rd
      have hsm : ∀ x ∈ xs, Booking.small x := fun x hx => by have := HM.out x hx; unfold Booking.small; omega
      have hw := s.lt
      go_wp2_with fail
      refine (sAddBookingO_any _ xs _ _ b _ hr (by omega) (by omega) hsm (by unfold Booking.small; omega)).mono ?_
      rintro e w4 ⟨y4, rfl, hy4, b4⟩
      have zb4 := b4.size
      replace ho := ho.below b4
      replace s := s.below b4 (by omega)
      replace d := d.step (b4.mono (by omega))
      clear b4
      clear hr hsm
      by_cases hc : (addBooking xs b).2 = 0
      · have hN := Lib.hid (show ∀ x ∈ (addBooking xs b).1, x.use.size ≤ 64 from fun x hx => by
          rcases addBooking_mem hx with h | h
          · exact HM.out x h
          · rw [h]; exact hbu)
        have hle := addBooking_le xs b
        rw [hc]
        generalize (addBooking xs b).1 = ys at *
        go_wp2_with fail
        go_roundw
        case rel => exact ⟨k - 1, ys, by go_num, by omega, hN, hy4.mono (by omega), s, d⟩
        case measure => simp [intOf]; omega
      · have hc' : ((addBooking xs b).2 == 0) = false := by simpa using hc
        generalize (addBooking xs b).2 = cd at *
        go_wp2_with fail
        go_roundw
        case rel => exact ⟨k - 1, xs, by go_num, by omega, HM, ho, s, d⟩
        case measure => simp [intOf]; omega
    · obtain rfl : k = 0 := by omega
      go_wp2_with fail
      refine (l01Next_any q 24 _ s (by omega)).mono ?_
      rintro e w23 ⟨r23, rfl, a23, a23', s', c23⟩
      clear s
      have s := s'
      clear s'
      have zc23 := c23.size
      replace ho := ho.chg c23 (by omega)
      replace d := d.trans c23
      clear c23
      by_cases h0 : r23 = 0
      · subst h0
        go_wp2_with fail
        refine (l18Draw_any q _ s).mono ?_
        rintro e w24 ⟨b, rfl, hbu, s', c24⟩
        clear s
        have s := s'
        clear s'
        have zc24 := c24.size
        replace ho := ho.chg c24 (by omega)
        replace d := d.trans c24
        clear c24
        go_wp2_with (at_builtin; refine wpList_push (enc := Booking.enc) _ _ (by first | rfl | simp) rfl (.tmp 29) (.tmp 32) 25 rfl w.heap.size 41 _ (.agg #[.int .i64 0, .int .i64 0, .int .i64 0, .int .i64 0, .string ByteArray.empty]) 5 48 Try.underlying25 (by kernel_rfl) rfl (by omega) _ xs b _ rfl rfl (enc_one _) rfl rfl ho (by omega) (by omega) (by (first | omega | (simp; omega) | (simp; done))) ?_; intro v9 w9 hown9 hg9 hk9)
        have b9 := hk9 _ _ (Nat.le_refl _) (Below.refl _ w24)
        try go_wp2_with fail
        go_ret
        exact ⟨_, xs ++ [b], rfl, by simp; omega, fun x hx => by
          rcases List.mem_append.1 hx with h | h
          · exact HM.out x h
          · simp at h; rw [h]; exact hbu, (hown9.rdw (fun _ => rfl)).rd, s.below b9 hl, d.step b9⟩
      by_cases h1 : r23 = 1
      · subst h1
        go_wp2_with fail
        have hk9 : xs.length ≤ 9 := by omega
        go_loopw [3, 7] (fun u j wr => ∃ (k : Nat) (xs : List Booking), j = .int .i64 k ∧ k ≤ xs.length ∧ xs.length ≤ 21 ∧ Hid (∀ x ∈ xs, x.use.size ≤ 64) ∧ OwnL Booking.enc 5 41 wr w.heap.size u xs ∧ Src wr q ∧ Chg q (q + 1) w wr) (fun u _ _ => 22 - sliceLen u)
        case atStart => exact ⟨0, xs, rfl, Nat.zero_le _, by omega, HM, ho, s, d⟩
        case round =>
          clear ho s d HM hk hk9
          obtain ⟨k, xs, rfl, hk, hk2, HM, ho, s, d⟩ := hrel
          have zr := d.size
          obtain ⟨A9, C9, rfl, hc9⟩ := (ho.rdw (fun _ => rfl)).rd.form
          go_wp2_with fail
          refine (l01Next_any q 2 _ s (by omega)).mono ?_
          rintro e w44 ⟨r44, rfl, a44, a44', s', c44⟩
          clear s
          have s := s'
          clear s'
          have zc44 := c44.size
          replace ho := ho.chg c44 (by omega)
          replace d := d.trans c44
          clear c44
          by_cases hlt : (xs.length : Int) < 20 + r44
          · go_wp2_with (at_builtin; refine wpList_push (enc := Booking.enc) _ _ (by first | rfl | simp) rfl (.tmp 44) (.tmp 48) 25 rfl w.heap.size 41 _ (.agg #[.int .i64 0, .int .i64 0, .int .i64 0, .int .i64 0, .string ByteArray.empty]) 5 48 Try.underlying25 (by kernel_rfl) rfl (by omega) _ xs ⟨4, 150 + k, 0, 36, ⟨#[106, 117, 114, 121]⟩⟩ _ rfl rfl (enc_one _) rfl rfl ho (by omega) (by omega) (by (first | omega | (simp; omega) | (simp; done))) ?_; intro v9 w9 hown9 hg9 hk9)
            have b9 := hk9 _ _ (Nat.le_refl _) (Below.refl _ w44)
            have hsz : sliceLen v9 = xs.length + 1 := by
              obtain ⟨A8, C8, rfl, hc8⟩ := (hown9.rdw (fun _ => rfl)).rd.form
              simp [sliceLen]
            try go_wp2_with fail
            go_roundw
            case rel =>
              refine ⟨k + 1, _, by go_num, by simp; omega, by simp; omega, ?_, hown9, s.below b9 hl, d.step b9⟩
              intro x hx
              rcases List.mem_append.1 hx with h | h
              · exact HM.out x h
              · simp at h; rw [h]; show (⟨#[106, 117, 114, 121]⟩ : ByteArray).size ≤ 64; decide
            case measure => rw [hsz]; simp [sliceLen]; omega
          · go_wp2_with fail
            go_ret
            exact ⟨_, xs, rfl, by omega, HM.out, (ho.rdw (fun _ => rfl)).rd, s, d⟩
      have hz0 : (r23 == 0) = false := by simpa using h0
      have hz1 : (r23 == 1) = false := by simpa using h1
      go_wp2_with fail
      go_ret
      exact ⟨_, xs, rfl, by omega, HM.out, (ho.rdw (fun _ => rfl)).rd, s, d⟩
end Go.Proofs.Ythodceeioinnoaa
