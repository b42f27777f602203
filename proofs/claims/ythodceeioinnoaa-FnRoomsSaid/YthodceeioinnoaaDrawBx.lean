/- Draws of the laws of rooms. Written by a program (gen_drawbx.py). -/
import Derived.Test.YthodceeioinnoaaDrawBk
namespace Go.Proofs.Ythodceeioinnoaa
open Go.RowKit
set_option linter.unusedVariables false

set_option maxRecDepth 100000 in
set_option maxHeartbeats 4000000 in
theorem drawFirstFree_any (v : Value) (bs : List Int) (lo hi : Nat) (w : World) (h : RdF encByte 1 w lo hi v bs) (hh : hi ≤ w.heap.size) (hm : bs.length ≤ 4096) (hb : ∀ x ∈ bs, 0 ≤ x ∧ x ≤ 255) :
    Calls Try.prog 42 #[v] w fun e w' => ∃ (v1 : Value) (xs : List Booking) (r d l : Int), e = .returned (.tuple #[v1, .int .i64 r, .int .i64 d, .int .i64 l]) ∧ xs.length ≤ 30 ∧ (∀ x ∈ xs, x.use.size ≤ 64) ∧ (-1 ≤ r ∧ r ≤ 6) ∧ (-1 ≤ d ∧ d ≤ 150) ∧ (0 ≤ l ∧ l ≤ 40) ∧ RdF Booking.enc 5 w' w.heap.size w'.heap.size v1 xs ∧ Below w.heap.size w w' := by
  have bb : Below w.heap.size w w := Below.refl _ _
  go_enter Try.func42, Try.ntmps42
  go_wp2_with fail
  refine (l01From_any _ bs lo hi _ h (by omega) hm hb).mono ?_
  rintro e w1 ⟨q, rfl, hq, s, b1⟩
  have zb1 := b1.size
  replace h := h.below b1 (by omega)
  replace bb := Below.step b1 (by omega) bb
  clear b1
  have hql := s.lt
  clear h
  go_wp2_with fail
  refine (l18List_any q _ s).mono ?_
  rintro e w2 ⟨v1, xs, rfl, hx30, hM, h1, s', c2⟩
  clear s
  have s := s'
  clear s'
  have zc2 := c2.size
  replace bb := bb.trans (c2.below (by omega) (by omega))
  clear c2
  have HM := Lib.hid hM
  clear hM
  go_wp2_with fail
  have b3 : Below w2.heap.size w2 (w2.alloc (.cells #[.int .i64 0, .int .i64 1, .int .i64 2, .int .i64 4, .int .i64 0, .int .i64 6] 2)) := (Below.refl _ _).alloc (Nat.le_refl _) _
  have zz3 : (w2.alloc (.cells #[.int .i64 0, .int .i64 1, .int .i64 2, .int .i64 4, .int .i64 0, .int .i64 6] 2)).heap.size = w2.heap.size + 1 := by simp
  have hL3 := rdInts (w := w2) (n := w2.heap.size) [0, 1, 2, 4, 0, 6] (cs := #[.int .i64 0, .int .i64 1, .int .i64 2, .int .i64 4, .int .i64 0, .int .i64 6]) rfl rfl
  have zb3 := b3.size
  replace bb := Below.step b3 (by omega) bb
  replace s := s.below b3 (by omega)
  replace h1 := h1.below b3 (by omega)
  clear b3
  generalize (w2.alloc (.cells #[.int .i64 0, .int .i64 1, .int .i64 2, .int .i64 4, .int .i64 0, .int .i64 6] 2)) = w3 at *
  refine (l01Pick_any q _ [0, 1, 2, 4, 0, 6] _ _ _ s hL3 (by omega) (by omega) (by simp) (by simp)).mono ?_
  rintro e w4 ⟨r4, rfl, hp4, s', c4⟩
  clear s
  have s := s'
  clear s'
  have zc4 := c4.size
  replace bb := bb.trans (c4.below (by omega) (by omega))
  replace h1 := h1.chg c4 (by omega) (by omega)
  clear c4
  clear hL3
  simp only [List.mem_cons, List.not_mem_nil, or_false] at hp4
  go_wp2_with fail
  have b5 : Below w4.heap.size w4 (w4.alloc (.cells #[.int .i64 140, .int .i64 141, .int .i64 150, .int .i64 140, .int .i64 (-1)] 2)) := (Below.refl _ _).alloc (Nat.le_refl _) _
  have zz5 : (w4.alloc (.cells #[.int .i64 140, .int .i64 141, .int .i64 150, .int .i64 140, .int .i64 (-1)] 2)).heap.size = w4.heap.size + 1 := by simp
  have hL5 := rdInts (w := w4) (n := w4.heap.size) [140, 141, 150, 140, -1] (cs := #[.int .i64 140, .int .i64 141, .int .i64 150, .int .i64 140, .int .i64 (-1)]) rfl rfl
  have zb5 := b5.size
  replace bb := Below.step b5 (by omega) bb
  replace s := s.below b5 (by omega)
  replace h1 := h1.below b5 (by omega)
  clear b5
  generalize (w4.alloc (.cells #[.int .i64 140, .int .i64 141, .int .i64 150, .int .i64 140, .int .i64 (-1)] 2)) = w5 at *
  refine (l01Pick_any q _ [140, 141, 150, 140, -1] _ _ _ s hL5 (by omega) (by omega) (by simp) (by simp)).mono ?_
  rintro e w6 ⟨r6, rfl, hp6, s', c6⟩
  clear s
  have s := s'
  clear s'
  have zc6 := c6.size
  replace bb := bb.trans (c6.below (by omega) (by omega))
  replace h1 := h1.chg c6 (by omega) (by omega)
  clear c6
  clear hL5
  simp only [List.mem_cons, List.not_mem_nil, or_false] at hp6
  go_wp2_with fail
  refine (l01Next_any q 12 _ s (by omega)).mono ?_
  rintro e w7 ⟨r7, rfl, a7, a7', s', c7⟩
  clear s
  have s := s'
  clear s'
  have zc7 := c7.size
  replace bb := bb.trans (c7.below (by omega) (by omega))
  replace h1 := h1.chg c7 (by omega) (by omega)
  clear c7
  go_wp2_with fail
  refine (l01Next_any q 30 _ s (by omega)).mono ?_
  rintro e w8 ⟨r8, rfl, a8, a8', s', c8⟩
  clear s
  have s := s'
  clear s'
  have zc8 := c8.size
  replace bb := bb.trans (c8.below (by omega) (by omega))
  replace h1 := h1.chg c8 (by omega) (by omega)
  clear c8
  go_wp2_with fail
  have b9 : Below w8.heap.size w8 (w8.alloc (.cells #[.int .i64 (1 + r7), .int .i64 36, .int .i64 37, .int .i64 (1 + r8), .int .i64 0] 2)) := (Below.refl _ _).alloc (Nat.le_refl _) _
  have zz9 : (w8.alloc (.cells #[.int .i64 (1 + r7), .int .i64 36, .int .i64 37, .int .i64 (1 + r8), .int .i64 0] 2)).heap.size = w8.heap.size + 1 := by simp
  have hL9 := rdInts (w := w8) (n := w8.heap.size) [1 + r7, 36, 37, 1 + r8, 0] (cs := #[.int .i64 (1 + r7), .int .i64 36, .int .i64 37, .int .i64 (1 + r8), .int .i64 0]) rfl rfl
  have zb9 := b9.size
  replace bb := Below.step b9 (by omega) bb
  replace s := s.below b9 (by omega)
  replace h1 := h1.below b9 (by omega)
  clear b9
  generalize (w8.alloc (.cells #[.int .i64 (1 + r7), .int .i64 36, .int .i64 37, .int .i64 (1 + r8), .int .i64 0] 2)) = w9 at *
  refine (l01Pick_any q _ [1 + r7, 36, 37, 1 + r8, 0] _ _ _ s hL9 (by omega) (by omega) (by simp) (by simp)).mono ?_
  rintro e w10 ⟨r10, rfl, hp10, s', c10⟩
  clear s
  have s := s'
  clear s'
  have zc10 := c10.size
  replace bb := bb.trans (c10.below (by omega) (by omega))
  replace h1 := h1.chg c10 (by omega) (by omega)
  clear c10
  clear hL9
  simp only [List.mem_cons, List.not_mem_nil, or_false] at hp10
  go_wp2_with fail
  refine bodyPost_ret (v := .tuple #[v1, .int .i64 r4, .int .i64 r6, .int .i64 r10]) (by simp [results, Try.results42, go_sem, *]) rfl ?_
  exact ⟨v1, xs, r4, r6, r10, rfl, hx30, HM.out, by omega, by omega, by omega, h1.wide (by omega) (by omega), bb⟩
set_option maxRecDepth 100000 in
set_option maxHeartbeats 4000000 in
theorem drawQuartersKept_any (v : Value) (bs : List Int) (lo hi : Nat) (w : World) (h : RdF encByte 1 w lo hi v bs) (hh : hi ≤ w.heap.size) (hm : bs.length ≤ 4096) (hb : ∀ x ∈ bs, 0 ≤ x ∧ x ≤ 255) :
    Calls Try.prog 77 #[v] w fun e w' => ∃ (v1 : Value) (xs : List Booking) (r d : Int), e = .returned (.tuple #[v1, .int .i64 r, .int .i64 d]) ∧ xs.length ≤ 30 ∧ (∀ x ∈ xs, x.use.size ≤ 64) ∧ (-1 ≤ r ∧ r ≤ 6) ∧ (-1 ≤ d ∧ d ≤ 150) ∧ RdF Booking.enc 5 w' w.heap.size w'.heap.size v1 xs ∧ Below w.heap.size w w' := by
  go_enter Try.func77, Try.ntmps77
  go_wp2_with fail
  refine (drawFirstFree_any _ bs lo hi _ h hh hm hb).mono ?_
  rintro e w1 ⟨v1, xs, r, d, l, rfl, h1, h2, h3, h4, h5, h6, b1⟩
  go_wp2_with fail
  go_ret3
  exact ⟨v1, xs, r, d, rfl, h1, h2, h3, h4, h6, b1⟩
set_option maxRecDepth 100000 in
set_option maxHeartbeats 4000000 in
theorem drawLongestGap_any (v : Value) (bs : List Int) (lo hi : Nat) (w : World) (h : RdF encByte 1 w lo hi v bs) (hh : hi ≤ w.heap.size) (hm : bs.length ≤ 4096) (hb : ∀ x ∈ bs, 0 ≤ x ∧ x ≤ 255) :
    Calls Try.prog 40 #[v] w fun e w' => ∃ (v1 : Value) (xs : List Booking) (r d : Int), e = .returned (.tuple #[v1, .int .i64 r, .int .i64 d]) ∧ xs.length ≤ 30 ∧ (∀ x ∈ xs, x.use.size ≤ 64) ∧ (-1 ≤ r ∧ r ≤ 6) ∧ (-1 ≤ d ∧ d ≤ 150) ∧ RdF Booking.enc 5 w' w.heap.size w'.heap.size v1 xs ∧ Below w.heap.size w w' := by
  go_enter Try.func40, Try.ntmps40
  go_wp2_with fail
  refine (drawQuartersKept_any _ bs lo hi _ h hh hm hb).mono ?_
  rintro e w1 ⟨v1, xs, r, d, rfl, h1, h2, h3, h4, h6, b1⟩
  go_wp2_with fail
  go_ret3
  exact ⟨v1, xs, r, d, rfl, h1, h2, h3, h4, h6, b1⟩
set_option maxRecDepth 100000 in
set_option maxHeartbeats 4000000 in
theorem drawRoomsFree_any (v : Value) (bs : List Int) (lo hi : Nat) (w : World) (h : RdF encByte 1 w lo hi v bs) (hh : hi ≤ w.heap.size) (hm : bs.length ≤ 4096) (hb : ∀ x ∈ bs, 0 ≤ x ∧ x ≤ 255) :
    Calls Try.prog 44 #[v] w fun e w' => ∃ (v1 : Value) (xs : List Booking) (d f t : Int), e = .returned (.tuple #[v1, .int .i64 d, .int .i64 f, .int .i64 t]) ∧ xs.length ≤ 30 ∧ (∀ x ∈ xs, x.use.size ≤ 64) ∧ (-1 ≤ d ∧ d ≤ 150) ∧ (0 ≤ f ∧ f ≤ 36) ∧ (0 ≤ t ∧ t ≤ 100) ∧ RdF Booking.enc 5 w' w.heap.size w'.heap.size v1 xs ∧ Below w.heap.size w w' := by
  have bb : Below w.heap.size w w := Below.refl _ _
  go_enter Try.func44, Try.ntmps44
  go_wp2_with fail
  refine (l01From_any _ bs lo hi _ h (by omega) hm hb).mono ?_
  rintro e w1 ⟨q, rfl, hq, s, b1⟩
  have zb1 := b1.size
  replace h := h.below b1 (by omega)
  replace bb := Below.step b1 (by omega) bb
  clear b1
  have hql := s.lt
  go_wp2_with fail
  refine (drawFirstFree_any _ bs lo hi _ h (by omega) hm hb).mono ?_
  rintro e w2 ⟨v1, xs, ar, ad, al, rfl, hx30, hM, hr, hd, hl, h1, b2⟩
  have zb2 := b2.size
  replace h := h.below b2 (by omega)
  replace bb := Below.step b2 (by omega) bb
  replace s := s.below b2 (by omega)
  clear b2
  have HM := Lib.hid hM
  clear hM
  clear h
  go_wp2_with fail
  refine (l01Next_any q 36 _ s (by omega)).mono ?_
  rintro e w3 ⟨r3, rfl, a3, a3', s', c3⟩
  clear s
  have s := s'
  clear s'
  have zc3 := c3.size
  replace bb := bb.trans (c3.below (by omega) (by omega))
  replace h1 := h1.chg c3 (by omega) (by omega)
  clear c3
  go_wp2_with fail
  refine (l01Next_any q 12 _ s (by omega)).mono ?_
  rintro e w4 ⟨r4, rfl, a4, a4', s', c4⟩
  clear s
  have s := s'
  clear s'
  have zc4 := c4.size
  replace bb := bb.trans (c4.below (by omega) (by omega))
  replace h1 := h1.chg c4 (by omega) (by omega)
  clear c4
  go_wp2_with fail
  have b5 : Below w4.heap.size w4 (w4.alloc (.cells #[.int .i64 1, .int .i64 (1 + r4), .int .i64 0, .int .i64 36] 2)) := (Below.refl _ _).alloc (Nat.le_refl _) _
  have zz5 : (w4.alloc (.cells #[.int .i64 1, .int .i64 (1 + r4), .int .i64 0, .int .i64 36] 2)).heap.size = w4.heap.size + 1 := by simp
  have hL5 := rdInts (w := w4) (n := w4.heap.size) [1, 1 + r4, 0, 36] (cs := #[.int .i64 1, .int .i64 (1 + r4), .int .i64 0, .int .i64 36]) rfl rfl
  have zb5 := b5.size
  replace bb := Below.step b5 (by omega) bb
  replace s := s.below b5 (by omega)
  replace h1 := h1.below b5 (by omega)
  clear b5
  generalize (w4.alloc (.cells #[.int .i64 1, .int .i64 (1 + r4), .int .i64 0, .int .i64 36] 2)) = w5 at *
  refine (l01Pick_any q _ [1, 1 + r4, 0, 36] _ _ _ s hL5 (by omega) (by omega) (by simp) (by simp)).mono ?_
  rintro e w6 ⟨r6, rfl, hp6, s', c6⟩
  clear s
  have s := s'
  clear s'
  have zc6 := c6.size
  replace bb := bb.trans (c6.below (by omega) (by omega))
  replace h1 := h1.chg c6 (by omega) (by omega)
  clear c6
  clear hL5
  simp only [List.mem_cons, List.not_mem_nil, or_false] at hp6
  go_wp2_with fail
  refine bodyPost_ret (v := .tuple #[v1, .int .i64 ad, .int .i64 r3, .int .i64 (r3 + r6)]) (by simp [results, Try.results44, go_sem, *]) rfl ?_
  exact ⟨v1, xs, ad, r3, r3 + r6, rfl, hx30, HM.out, by omega, by omega, by omega, h1.wide (by omega) (by omega), bb⟩
set_option maxRecDepth 100000 in
set_option maxHeartbeats 4000000 in
theorem drawAddBooking_any (v : Value) (bs : List Int) (lo hi : Nat) (w : World) (h : RdF encByte 1 w lo hi v bs) (hh : hi ≤ w.heap.size) (hm : bs.length ≤ 4096) (hb : ∀ x ∈ bs, 0 ≤ x ∧ x ≤ 255) :
    Calls Try.prog 43 #[v] w fun e w' => ∃ (v1 : Value) (xs : List Booking) (b : Booking), e = .returned (.tuple #[v1, .agg #[.int .i64 b.room, .int .i64 b.day, .int .i64 b.frm, .int .i64 b.to_, .string b.use]]) ∧ xs.length ≤ 30 ∧ (∀ x ∈ xs, x.use.size ≤ 64) ∧ b.use.size ≤ 64 ∧ RdF Booking.enc 5 w' w.heap.size w'.heap.size v1 xs ∧ Below w.heap.size w w' := by
  have bb : Below w.heap.size w w := Below.refl _ _
  go_enter Try.func43, Try.ntmps43
  go_wp2_with fail
  have b1 : Below w.heap.size w (w.alloc (.cells #[.int .i64 0, .int .i64 0, .int .i64 0, .int .i64 0, .string ⟨#[]⟩] 41)) := (Below.refl _ _).alloc (Nat.le_refl _) _
  have zz1 : (w.alloc (.cells #[.int .i64 0, .int .i64 0, .int .i64 0, .int .i64 0, .string ⟨#[]⟩] 41)).heap.size = w.heap.size + 1 := by simp
  have kR : Blk (w.alloc (.cells #[.int .i64 0, .int .i64 0, .int .i64 0, .int .i64 0, .string ⟨#[]⟩] 41)) (w.heap.size) 41 #[.int .i64 0, .int .i64 0, .int .i64 0, .int .i64 0, .string ⟨#[]⟩] := Blk.newAt rfl
  have zb1 := b1.size
  replace h := h.below b1 (by omega)
  replace bb := Below.step b1 (by omega) bb
  clear b1
  generalize (w.alloc (.cells #[.int .i64 0, .int .i64 0, .int .i64 0, .int .i64 0, .string ⟨#[]⟩] 41)) = w1 at *
  go_wp2_with fail
  refine (l01From_any _ bs lo hi _ h (by omega) hm hb).mono ?_
  rintro e w2 ⟨q, rfl, hq, s, b2⟩
  have zb2 := b2.size
  replace h := h.below b2 (by omega)
  replace bb := Below.step b2 (by omega) bb
  replace kR := kR.below b2 (by omega)
  clear b2
  have hql := s.lt
  clear h
  go_wp2_with fail
  refine (l18List_any q _ s).mono ?_
  rintro e w3 ⟨v1, xs, rfl, hx30, hM, h1, s', c3⟩
  clear s
  have s := s'
  clear s'
  have zc3 := c3.size
  replace bb := bb.trans (c3.below (by omega) (by omega))
  replace kR := kR.chg c3 (by omega) (by omega)
  clear c3
  have HM := Lib.hid hM
  clear hM
  go_wp2_with fail
  refine (l18Draw_any q _ s).mono ?_
  rintro e w4 ⟨b, rfl, hbu, s', c4⟩
  clear s
  have s := s'
  clear s'
  have zc4 := c4.size
  replace bb := bb.trans (c4.below (by omega) (by omega))
  replace kR := kR.chg c4 (by omega) (by omega)
  replace h1 := h1.chg c4 (by omega) (by omega)
  clear c4
  obtain ⟨e0, e1, e2, e3, e4⟩ := kR.five
  have f0 := kR.frozen 0
  have f1 := kR.frozen 1
  have f2 := kR.frozen 2
  have f3 := kR.frozen 3
  have f4 := kR.frozen 4
  go_wp2_with fail
  have bS := (((((Below.refl w.heap.size w4).setCell (p := ⟨w.heap.size, 0, none⟩) (Nat.le_refl _) (.int .i64 b.room)).setCell (p := ⟨w.heap.size, 1, none⟩) (Nat.le_refl _) (.int .i64 b.day)).setCell (p := ⟨w.heap.size, 2, none⟩) (Nat.le_refl _) (.int .i64 b.frm)).setCell (p := ⟨w.heap.size, 3, none⟩) (Nat.le_refl _) (.int .i64 b.to_)).setCell (p := ⟨w.heap.size, 4, none⟩) (Nat.le_refl _) (.string b.use)
  have hS := (((((h1.set (p := ⟨w.heap.size, 0, none⟩) (.inl (by show w.heap.size < _; omega)) (.int .i64 b.room)).set (p := ⟨w.heap.size, 1, none⟩) (.inl (by show w.heap.size < _; omega)) (.int .i64 b.day)).set (p := ⟨w.heap.size, 2, none⟩) (.inl (by show w.heap.size < _; omega)) (.int .i64 b.frm)).set (p := ⟨w.heap.size, 3, none⟩) (.inl (by show w.heap.size < _; omega)) (.int .i64 b.to_)).set (p := ⟨w.heap.size, 4, none⟩) (.inl (by show w.heap.size < _; omega)) (.string b.use))
  have zS := bS.size
  refine bodyPost_ret (v := .tuple #[v1, .agg #[.int .i64 b.room, .int .i64 b.day, .int .i64 b.frm, .int .i64 b.to_, .string b.use]]) (by simp [results, Try.results43, go_sem, *]) rfl ?_
  exact ⟨v1, xs, b, rfl, hx30, HM.out, hbu, hS.wide (by omega) (by omega), Below.step bS (Nat.le_refl _) bb⟩
set_option maxRecDepth 100000 in
set_option maxHeartbeats 4000000 in
theorem drawBookingsFor_any (v : Value) (bs : List Int) (lo hi : Nat) (w : World) (h : RdF encByte 1 w lo hi v bs) (hh : hi ≤ w.heap.size) (hm : bs.length ≤ 4096) (hb : ∀ x ∈ bs, 0 ≤ x ∧ x ≤ 255) :
    Calls Try.prog 45 #[v] w fun e w' => ∃ (v1 : Value) (xs : List Booking) (u : ByteArray), e = .returned (.tuple #[v1, .string u]) ∧ xs.length ≤ 30 ∧ (∀ x ∈ xs, x.use.size ≤ 64) ∧ u.size ≤ 64 ∧ RdF Booking.enc 5 w' w.heap.size w'.heap.size v1 xs ∧ Below w.heap.size w w' := by
  have bb : Below w.heap.size w w := Below.refl _ _
  go_enter Try.func45, Try.ntmps45
  go_wp2_with fail
  refine (l01From_any _ bs lo hi _ h (by omega) hm hb).mono ?_
  rintro e w1 ⟨q, rfl, hq, s, b1⟩
  have zb1 := b1.size
  replace h := h.below b1 (by omega)
  replace bb := Below.step b1 (by omega) bb
  clear b1
  have hql := s.lt
  clear h
  go_wp2_with fail
  refine (l18List_any q _ s).mono ?_
  rintro e w2 ⟨v1, xs, rfl, hx30, hM, h1, s', c2⟩
  clear s
  have s := s'
  clear s'
  have zc2 := c2.size
  replace bb := bb.trans (c2.below (by omega) (by omega))
  clear c2
  have HM := Lib.hid hM
  clear hM
  go_wp2_with fail
  have hqn := s.lt
  have bA : Below w2.heap.size w2 (w2.alloc (.cells #[.string ⟨#[116, 114, 105, 97, 108]⟩, .string ⟨#[112, 108, 101, 97]⟩, .string ⟨#[106, 117, 114, 121]⟩, .string ⟨#[110, 111, 110, 101]⟩, .string ⟨#[]⟩] 9)) := (Below.refl _ _).alloc (Nat.le_refl _) _
  go_region_law
    (first
      | (go_simp; go_at_call 81; refine (l01Next_any q 5 _ s.drew (by omega)).mono ?_; rintro e w8 ⟨r9, rfl, a9, a9', s9, c9⟩; obtain ⟨k, rfl⟩ : ∃ k : Nat, r9 = (k : Int) := ⟨r9.toNat, by omega⟩; have hki : (k : Int) < 5 := (by omega); have kN : Blk (w8.alloc (.cells #[.string ⟨#[116, 114, 105, 97, 108]⟩, .string ⟨#[112, 108, 101, 97]⟩, .string ⟨#[106, 117, 114, 121]⟩, .string ⟨#[110, 111, 110, 101]⟩, .string ⟨#[]⟩] 9)) w8.heap.size 9 #[.string ⟨#[116, 114, 105, 97, 108]⟩, .string ⟨#[112, 108, 101, 97]⟩, .string ⟨#[106, 117, 114, 121]⟩, .string ⟨#[110, 111, 110, 101]⟩, .string ⟨#[]⟩] := Blk.newAt rfl; obtain ⟨y, hy, x1⟩ : ∃ y : ByteArray, y.size ≤ 64 ∧ (w8.alloc (.cells #[.string ⟨#[116, 114, 105, 97, 108]⟩, .string ⟨#[112, 108, 101, 97]⟩, .string ⟨#[106, 117, 114, 121]⟩, .string ⟨#[110, 111, 110, 101]⟩, .string ⟨#[]⟩] 9)).cell? ⟨w8.heap.size, k, none⟩ = some (.string y) := (by rcases (by omega : k = 0 ∨ k = 1 ∨ k = 2 ∨ k = 3 ∨ k = 4) with rfl | rfl | rfl | rfl | rfl <;> exact ⟨_, by decide, kN.cell _⟩); have d9 : Chg q (q + 1) w2 (w8.alloc (.cells #[.string ⟨#[116, 114, 105, 97, 108]⟩, .string ⟨#[112, 108, 101, 97]⟩, .string ⟨#[106, 117, 114, 121]⟩, .string ⟨#[110, 111, 110, 101]⟩, .string ⟨#[]⟩] 9)) := (((Chg.refl q (q + 1) w2).drew).trans c9).allocd _)
      | (go_simp; go_at_call 81; refine (l01Next_any q 5 _ (s.below bA hqn).drew (by omega)).mono ?_; rintro e w9 ⟨r9, rfl, a9, a9', s9, c9⟩; obtain ⟨k, rfl⟩ : ∃ k : Nat, r9 = (k : Int) := ⟨r9.toNat, by omega⟩; have hki : (k : Int) < 5 := (by omega); have kN : Blk w9 w2.heap.size 9 #[.string ⟨#[116, 114, 105, 97, 108]⟩, .string ⟨#[112, 108, 101, 97]⟩, .string ⟨#[106, 117, 114, 121]⟩, .string ⟨#[110, 111, 110, 101]⟩, .string ⟨#[]⟩] := Blk.chg (Blk.drew (Blk.newAt (w := w2) rfl)) c9 (by simp) (by first | omega | (simp; omega)); obtain ⟨y, hy, x1⟩ : ∃ y : ByteArray, y.size ≤ 64 ∧ w9.cell? ⟨w2.heap.size, k, none⟩ = some (.string y) := (by rcases (by omega : k = 0 ∨ k = 1 ∨ k = 2 ∨ k = 3 ∨ k = 4) with rfl | rfl | rfl | rfl | rfl <;> exact ⟨_, by decide, kN.cell _⟩); have d9 : Chg q (q + 1) w2 w9 := ((Chg.refl q (q + 1) w2).allocd (.cells #[.string ⟨#[116, 114, 105, 97, 108]⟩, .string ⟨#[112, 108, 101, 97]⟩, .string ⟨#[106, 117, 114, 121]⟩, .string ⟨#[110, 111, 110, 101]⟩, .string ⟨#[]⟩] 9)).drew.trans c9))
  all_goals
    have z9 := d9.size
    replace h1 := h1.chg d9 (by omega) (by omega)
    replace bb := bb.trans (d9.below (by omega) (by omega))
    try go_wp2_with fail
    go_ret2
    exact ⟨v1, xs, y, rfl, hx30, HM.out, hy, h1.wide (by omega) (by omega), bb⟩
end Go.Proofs.Ythodceeioinnoaa
