/- Draws of the laws of audits. Written by a program (gen_drawau.py). -/
import Derived.Test.YtgcmpdfhdhlmgaaSrcL
namespace Go.Proofs.Ytgcmpdfhdhlmgaa
open Go.RowKit
set_option linter.unusedVariables false

set_option maxRecDepth 100000 in
set_option maxHeartbeats 4000000 in
theorem l17Draw_any (q : Nat) (w : World) (h : Src w q) :
    Calls Try.prog 73 #[.pointer (some ⟨q, 0, none⟩)] w fun e w' => ∃ n g k x : Int, e = .returned (.tuple #[.int .i64 n, .int .i64 g, .int .i64 k, .int .i64 x]) ∧ (-1 ≤ n ∧ n ≤ 50) ∧ (-1 ≤ g ∧ g ≤ 50) ∧ (-1 ≤ k ∧ k ≤ 50) ∧ (-1 ≤ x ∧ x ≤ 50) ∧ Src w' q ∧ Chg q (q + 1) w w' := by
  have hl := h.lt
  have s := h
  clear h
  have d : Chg q (q + 1) w w := Chg.refl _ _ _
  go_enter Try.func73, Try.ntmps73
  go_wp2_with fail
  refine (l01Next_any q 12 _ s (by omega)).mono ?_
  rintro e w1 ⟨r1, rfl, a1, a1', s', c1⟩
  clear s
  have s := s'
  clear s'
  have zc1 := c1.size
  replace d := d.trans c1
  clear c1
  go_wp2_with fail
  refine (l01Next_any q 40 _ s (by omega)).mono ?_
  rintro e w2 ⟨r2, rfl, a2, a2', s', c2⟩
  clear s
  have s := s'
  clear s'
  have zc2 := c2.size
  replace d := d.trans c2
  clear c2
  go_wp2_with fail
  refine (l01Next_any q 20 _ s (by omega)).mono ?_
  rintro e w3 ⟨r3, rfl, a3, a3', s', c3⟩
  clear s
  have s := s'
  clear s'
  have zc3 := c3.size
  replace d := d.trans c3
  clear c3
  go_wp2_with fail
  have b4 : Below w3.heap.size w3 (w3.alloc (.cells #[.int .i64 (1 + r1), .int .i64 (1 + r2), .int .i64 40, .int .i64 (1 + r3)] 2)) := (Below.refl _ _).alloc (Nat.le_refl _) _
  have zz4 : (w3.alloc (.cells #[.int .i64 (1 + r1), .int .i64 (1 + r2), .int .i64 40, .int .i64 (1 + r3)] 2)).heap.size = w3.heap.size + 1 := by simp
  have hL4 := rdInts (w := w3) (n := w3.heap.size) [1 + r1, 1 + r2, 40, 1 + r3] (cs := #[.int .i64 (1 + r1), .int .i64 (1 + r2), .int .i64 40, .int .i64 (1 + r3)]) rfl rfl
  have zb4 := b4.size
  replace s := s.below b4 (by omega)
  replace d := d.step (b4.mono (by omega))
  clear b4
  generalize (w3.alloc (.cells #[.int .i64 (1 + r1), .int .i64 (1 + r2), .int .i64 40, .int .i64 (1 + r3)] 2)) = w4 at *
  refine (l01Pick_any q _ [1 + r1, 1 + r2, 40, 1 + r3] _ _ _ s hL4 (by omega) (by omega) (by simp) (by simp)).mono ?_
  rintro e w5 ⟨r5, rfl, hp5, s', c5⟩
  clear s
  have s := s'
  clear s'
  have zc5 := c5.size
  replace d := d.trans c5
  clear c5
  clear hL4
  simp only [List.mem_cons, List.not_mem_nil, or_false] at hp5
  have hn : 1 ≤ r5 ∧ r5 ≤ 40 := by omega
  clear hp5
  go_wp2_with fail
  refine (l01Next_any q (r5 + 1) _ s (by omega)).mono ?_
  rintro e w6 ⟨r6, rfl, a6, a6', s', c6⟩
  clear s
  have s := s'
  clear s'
  have zc6 := c6.size
  replace d := d.trans c6
  clear c6
  go_wp2_with fail
  refine (l01Next_any q (r5 + 1) _ s (by omega)).mono ?_
  rintro e w7 ⟨r7, rfl, a7, a7', s', c7⟩
  clear s
  have s := s'
  clear s'
  have zc7 := c7.size
  replace d := d.trans c7
  clear c7
  have hg : 0 ≤ r6 ∧ r6 ≤ 40 := by omega
  have hk : 0 ≤ r7 ∧ r7 ≤ 40 := by omega
  by_cases hgk : r6 ≤ r7
  · go_wp2_with fail
    refine (l01Next_any q (r6 + 2) _ s (by omega)).mono ?_
    rintro e w8 ⟨r8, rfl, a8, a8', s', c8⟩
    clear s
    have s := s'
    clear s'
    have zc8 := c8.size
    replace d := d.trans c8
    clear c8
    have hx : 0 ≤ r8 ∧ r8 ≤ 42 := by omega
    go_wp2_with fail
    refine (l01Next_any q 24 _ s (by omega)).mono ?_
    rintro e w9 ⟨r9, rfl, a9, a9', s', c9⟩
    clear s
    have s := s'
    clear s'
    have zc9 := c9.size
    replace d := d.trans c9
    clear c9
    by_cases h0 : r9 = 0
    · subst h0
      go_wp2_with fail
      have b10 : Below w9.heap.size w9 (w9.alloc (.cells #[.int .i64 0, .int .i64 41, .int .i64 (-1)] 2)) := (Below.refl _ _).alloc (Nat.le_refl _) _
      have zz10 : (w9.alloc (.cells #[.int .i64 0, .int .i64 41, .int .i64 (-1)] 2)).heap.size = w9.heap.size + 1 := by simp
      have hL10 := rdInts (w := w9) (n := w9.heap.size) [0, 41, -1] (cs := #[.int .i64 0, .int .i64 41, .int .i64 (-1)]) rfl rfl
      have zb10 := b10.size
      replace s := s.below b10 (by omega)
      replace d := d.step (b10.mono (by omega))
      clear b10
      generalize (w9.alloc (.cells #[.int .i64 0, .int .i64 41, .int .i64 (-1)] 2)) = w10 at *
      refine (l01Pick_any q _ [0, 41, -1] _ _ _ s hL10 (by omega) (by omega) (by simp) (by simp)).mono ?_
      rintro e w11 ⟨r11, rfl, hp11, s', c11⟩
      clear s
      have s := s'
      clear s'
      have zc11 := c11.size
      replace d := d.trans c11
      clear c11
      clear hL10
      simp only [List.mem_cons, List.not_mem_nil, or_false] at hp11
      go_wp2_with fail
      refine bodyPost_ret (v := .tuple #[.int .i64 (r11), .int .i64 (r6), .int .i64 (r7), .int .i64 (r8)]) (by simp [results, Try.results73, go_sem, *]) rfl ?_
      exact ⟨r11, r6, r7, r8, rfl, by omega, by omega, by omega, by omega, s, d⟩
    by_cases h1 : r9 = 1
    · subst h1
      go_wp2_with fail
      have b10 : Below w9.heap.size w9 (w9.alloc (.cells #[.int .i64 (r5 + 1), .int .i64 (-1), .int .i64 r5] 2)) := (Below.refl _ _).alloc (Nat.le_refl _) _
      have zz10 : (w9.alloc (.cells #[.int .i64 (r5 + 1), .int .i64 (-1), .int .i64 r5] 2)).heap.size = w9.heap.size + 1 := by simp
      have hL10 := rdInts (w := w9) (n := w9.heap.size) [r5 + 1, -1, r5] (cs := #[.int .i64 (r5 + 1), .int .i64 (-1), .int .i64 r5]) rfl rfl
      have zb10 := b10.size
      replace s := s.below b10 (by omega)
      replace d := d.step (b10.mono (by omega))
      clear b10
      generalize (w9.alloc (.cells #[.int .i64 (r5 + 1), .int .i64 (-1), .int .i64 r5] 2)) = w10 at *
      refine (l01Pick_any q _ [r5 + 1, -1, r5] _ _ _ s hL10 (by omega) (by omega) (by simp) (by simp)).mono ?_
      rintro e w11 ⟨r11, rfl, hp11, s', c11⟩
      clear s
      have s := s'
      clear s'
      have zc11 := c11.size
      replace d := d.trans c11
      clear c11
      clear hL10
      simp only [List.mem_cons, List.not_mem_nil, or_false] at hp11
      go_wp2_with fail
      refine bodyPost_ret (v := .tuple #[.int .i64 (r5), .int .i64 (r11), .int .i64 (r7), .int .i64 (r8)]) (by simp [results, Try.results73, go_sem, *]) rfl ?_
      exact ⟨r5, r11, r7, r8, rfl, by omega, by omega, by omega, by omega, s, d⟩
    by_cases h2 : r9 = 2
    · subst h2
      go_wp2_with fail
      have b10 : Below w9.heap.size w9 (w9.alloc (.cells #[.int .i64 (r5 + 1), .int .i64 (-1), .int .i64 r5] 2)) := (Below.refl _ _).alloc (Nat.le_refl _) _
      have zz10 : (w9.alloc (.cells #[.int .i64 (r5 + 1), .int .i64 (-1), .int .i64 r5] 2)).heap.size = w9.heap.size + 1 := by simp
      have hL10 := rdInts (w := w9) (n := w9.heap.size) [r5 + 1, -1, r5] (cs := #[.int .i64 (r5 + 1), .int .i64 (-1), .int .i64 r5]) rfl rfl
      have zb10 := b10.size
      replace s := s.below b10 (by omega)
      replace d := d.step (b10.mono (by omega))
      clear b10
      generalize (w9.alloc (.cells #[.int .i64 (r5 + 1), .int .i64 (-1), .int .i64 r5] 2)) = w10 at *
      refine (l01Pick_any q _ [r5 + 1, -1, r5] _ _ _ s hL10 (by omega) (by omega) (by simp) (by simp)).mono ?_
      rintro e w11 ⟨r11, rfl, hp11, s', c11⟩
      clear s
      have s := s'
      clear s'
      have zc11 := c11.size
      replace d := d.trans c11
      clear c11
      clear hL10
      simp only [List.mem_cons, List.not_mem_nil, or_false] at hp11
      go_wp2_with fail
      refine bodyPost_ret (v := .tuple #[.int .i64 (r5), .int .i64 (r6), .int .i64 (r11), .int .i64 (r8)]) (by simp [results, Try.results73, go_sem, *]) rfl ?_
      exact ⟨r5, r6, r11, r8, rfl, by omega, by omega, by omega, by omega, s, d⟩
    by_cases h3 : r9 = 3
    · subst h3
      go_wp2_with fail
      have b10 : Below w9.heap.size w9 (w9.alloc (.cells #[.int .i64 (-1), .int .i64 40, .int .i64 41] 2)) := (Below.refl _ _).alloc (Nat.le_refl _) _
      have zz10 : (w9.alloc (.cells #[.int .i64 (-1), .int .i64 40, .int .i64 41] 2)).heap.size = w9.heap.size + 1 := by simp
      have hL10 := rdInts (w := w9) (n := w9.heap.size) [-1, 40, 41] (cs := #[.int .i64 (-1), .int .i64 40, .int .i64 41]) rfl rfl
      have zb10 := b10.size
      replace s := s.below b10 (by omega)
      replace d := d.step (b10.mono (by omega))
      clear b10
      generalize (w9.alloc (.cells #[.int .i64 (-1), .int .i64 40, .int .i64 41] 2)) = w10 at *
      refine (l01Pick_any q _ [-1, 40, 41] _ _ _ s hL10 (by omega) (by omega) (by simp) (by simp)).mono ?_
      rintro e w11 ⟨r11, rfl, hp11, s', c11⟩
      clear s
      have s := s'
      clear s'
      have zc11 := c11.size
      replace d := d.trans c11
      clear c11
      clear hL10
      simp only [List.mem_cons, List.not_mem_nil, or_false] at hp11
      go_wp2_with fail
      refine bodyPost_ret (v := .tuple #[.int .i64 (r5), .int .i64 (r6), .int .i64 (r7), .int .i64 (r11)]) (by simp [results, Try.results73, go_sem, *]) rfl ?_
      exact ⟨r5, r6, r7, r11, rfl, by omega, by omega, by omega, by omega, s, d⟩
    have hz0 : (r9 == 0) = false := by simpa using h0
    have hz1 : (r9 == 1) = false := by simpa using h1
    have hz2 : (r9 == 2) = false := by simpa using h2
    have hz3 : (r9 == 3) = false := by simpa using h3
    go_wp2_with fail
    refine bodyPost_ret (v := .tuple #[.int .i64 (r5), .int .i64 (r6), .int .i64 (r7), .int .i64 (r8)]) (by simp [results, Try.results73, go_sem, *]) rfl ?_
    exact ⟨r5, r6, r7, r8, rfl, by omega, by omega, by omega, by omega, s, d⟩
  · go_wp2_with fail
    refine (l01Next_any q (r7 + 2) _ s (by omega)).mono ?_
    rintro e w8 ⟨r8, rfl, a8, a8', s', c8⟩
    clear s
    have s := s'
    clear s'
    have zc8 := c8.size
    replace d := d.trans c8
    clear c8
    have hx : 0 ≤ r8 ∧ r8 ≤ 42 := by omega
    go_wp2_with fail
    refine (l01Next_any q 24 _ s (by omega)).mono ?_
    rintro e w9 ⟨r9, rfl, a9, a9', s', c9⟩
    clear s
    have s := s'
    clear s'
    have zc9 := c9.size
    replace d := d.trans c9
    clear c9
    by_cases h0 : r9 = 0
    · subst h0
      go_wp2_with fail
      have b10 : Below w9.heap.size w9 (w9.alloc (.cells #[.int .i64 0, .int .i64 41, .int .i64 (-1)] 2)) := (Below.refl _ _).alloc (Nat.le_refl _) _
      have zz10 : (w9.alloc (.cells #[.int .i64 0, .int .i64 41, .int .i64 (-1)] 2)).heap.size = w9.heap.size + 1 := by simp
      have hL10 := rdInts (w := w9) (n := w9.heap.size) [0, 41, -1] (cs := #[.int .i64 0, .int .i64 41, .int .i64 (-1)]) rfl rfl
      have zb10 := b10.size
      replace s := s.below b10 (by omega)
      replace d := d.step (b10.mono (by omega))
      clear b10
      generalize (w9.alloc (.cells #[.int .i64 0, .int .i64 41, .int .i64 (-1)] 2)) = w10 at *
      refine (l01Pick_any q _ [0, 41, -1] _ _ _ s hL10 (by omega) (by omega) (by simp) (by simp)).mono ?_
      rintro e w11 ⟨r11, rfl, hp11, s', c11⟩
      clear s
      have s := s'
      clear s'
      have zc11 := c11.size
      replace d := d.trans c11
      clear c11
      clear hL10
      simp only [List.mem_cons, List.not_mem_nil, or_false] at hp11
      go_wp2_with fail
      refine bodyPost_ret (v := .tuple #[.int .i64 (r11), .int .i64 (r6), .int .i64 (r7), .int .i64 (r8)]) (by simp [results, Try.results73, go_sem, *]) rfl ?_
      exact ⟨r11, r6, r7, r8, rfl, by omega, by omega, by omega, by omega, s, d⟩
    by_cases h1 : r9 = 1
    · subst h1
      go_wp2_with fail
      have b10 : Below w9.heap.size w9 (w9.alloc (.cells #[.int .i64 (r5 + 1), .int .i64 (-1), .int .i64 r5] 2)) := (Below.refl _ _).alloc (Nat.le_refl _) _
      have zz10 : (w9.alloc (.cells #[.int .i64 (r5 + 1), .int .i64 (-1), .int .i64 r5] 2)).heap.size = w9.heap.size + 1 := by simp
      have hL10 := rdInts (w := w9) (n := w9.heap.size) [r5 + 1, -1, r5] (cs := #[.int .i64 (r5 + 1), .int .i64 (-1), .int .i64 r5]) rfl rfl
      have zb10 := b10.size
      replace s := s.below b10 (by omega)
      replace d := d.step (b10.mono (by omega))
      clear b10
      generalize (w9.alloc (.cells #[.int .i64 (r5 + 1), .int .i64 (-1), .int .i64 r5] 2)) = w10 at *
      refine (l01Pick_any q _ [r5 + 1, -1, r5] _ _ _ s hL10 (by omega) (by omega) (by simp) (by simp)).mono ?_
      rintro e w11 ⟨r11, rfl, hp11, s', c11⟩
      clear s
      have s := s'
      clear s'
      have zc11 := c11.size
      replace d := d.trans c11
      clear c11
      clear hL10
      simp only [List.mem_cons, List.not_mem_nil, or_false] at hp11
      go_wp2_with fail
      refine bodyPost_ret (v := .tuple #[.int .i64 (r5), .int .i64 (r11), .int .i64 (r7), .int .i64 (r8)]) (by simp [results, Try.results73, go_sem, *]) rfl ?_
      exact ⟨r5, r11, r7, r8, rfl, by omega, by omega, by omega, by omega, s, d⟩
    by_cases h2 : r9 = 2
    · subst h2
      go_wp2_with fail
      have b10 : Below w9.heap.size w9 (w9.alloc (.cells #[.int .i64 (r5 + 1), .int .i64 (-1), .int .i64 r5] 2)) := (Below.refl _ _).alloc (Nat.le_refl _) _
      have zz10 : (w9.alloc (.cells #[.int .i64 (r5 + 1), .int .i64 (-1), .int .i64 r5] 2)).heap.size = w9.heap.size + 1 := by simp
      have hL10 := rdInts (w := w9) (n := w9.heap.size) [r5 + 1, -1, r5] (cs := #[.int .i64 (r5 + 1), .int .i64 (-1), .int .i64 r5]) rfl rfl
      have zb10 := b10.size
      replace s := s.below b10 (by omega)
      replace d := d.step (b10.mono (by omega))
      clear b10
      generalize (w9.alloc (.cells #[.int .i64 (r5 + 1), .int .i64 (-1), .int .i64 r5] 2)) = w10 at *
      refine (l01Pick_any q _ [r5 + 1, -1, r5] _ _ _ s hL10 (by omega) (by omega) (by simp) (by simp)).mono ?_
      rintro e w11 ⟨r11, rfl, hp11, s', c11⟩
      clear s
      have s := s'
      clear s'
      have zc11 := c11.size
      replace d := d.trans c11
      clear c11
      clear hL10
      simp only [List.mem_cons, List.not_mem_nil, or_false] at hp11
      go_wp2_with fail
      refine bodyPost_ret (v := .tuple #[.int .i64 (r5), .int .i64 (r6), .int .i64 (r11), .int .i64 (r8)]) (by simp [results, Try.results73, go_sem, *]) rfl ?_
      exact ⟨r5, r6, r11, r8, rfl, by omega, by omega, by omega, by omega, s, d⟩
    by_cases h3 : r9 = 3
    · subst h3
      go_wp2_with fail
      have b10 : Below w9.heap.size w9 (w9.alloc (.cells #[.int .i64 (-1), .int .i64 40, .int .i64 41] 2)) := (Below.refl _ _).alloc (Nat.le_refl _) _
      have zz10 : (w9.alloc (.cells #[.int .i64 (-1), .int .i64 40, .int .i64 41] 2)).heap.size = w9.heap.size + 1 := by simp
      have hL10 := rdInts (w := w9) (n := w9.heap.size) [-1, 40, 41] (cs := #[.int .i64 (-1), .int .i64 40, .int .i64 41]) rfl rfl
      have zb10 := b10.size
      replace s := s.below b10 (by omega)
      replace d := d.step (b10.mono (by omega))
      clear b10
      generalize (w9.alloc (.cells #[.int .i64 (-1), .int .i64 40, .int .i64 41] 2)) = w10 at *
      refine (l01Pick_any q _ [-1, 40, 41] _ _ _ s hL10 (by omega) (by omega) (by simp) (by simp)).mono ?_
      rintro e w11 ⟨r11, rfl, hp11, s', c11⟩
      clear s
      have s := s'
      clear s'
      have zc11 := c11.size
      replace d := d.trans c11
      clear c11
      clear hL10
      simp only [List.mem_cons, List.not_mem_nil, or_false] at hp11
      go_wp2_with fail
      refine bodyPost_ret (v := .tuple #[.int .i64 (r5), .int .i64 (r6), .int .i64 (r7), .int .i64 (r11)]) (by simp [results, Try.results73, go_sem, *]) rfl ?_
      exact ⟨r5, r6, r7, r11, rfl, by omega, by omega, by omega, by omega, s, d⟩
    have hz0 : (r9 == 0) = false := by simpa using h0
    have hz1 : (r9 == 1) = false := by simpa using h1
    have hz2 : (r9 == 2) = false := by simpa using h2
    have hz3 : (r9 == 3) = false := by simpa using h3
    go_wp2_with fail
    refine bodyPost_ret (v := .tuple #[.int .i64 (r5), .int .i64 (r6), .int .i64 (r7), .int .i64 (r8)]) (by simp [results, Try.results73, go_sem, *]) rfl ?_
    exact ⟨r5, r6, r7, r8, rfl, by omega, by omega, by omega, by omega, s, d⟩
set_option maxRecDepth 100000 in
set_option maxHeartbeats 4000000 in
theorem drawWays_any (v : Value) (bs : List Int) (lo hi : Nat) (w : World) (h : RdF encByte 1 w lo hi v bs) (hh : hi ≤ w.heap.size) (hm : bs.length ≤ 4096) (hb : ∀ x ∈ bs, 0 ≤ x ∧ x ≤ 255) :
    Calls Try.prog 33 #[v] w fun e w' => ∃ a b : Int, e = .returned (.tuple #[.int .i64 a, .int .i64 b]) ∧ (-1 ≤ a ∧ a ≤ 50) ∧ (-1 ≤ b ∧ b ≤ 50) ∧ Below w.heap.size w w' := by
  have bb : Below w.heap.size w w := Below.refl _ _
  go_enter Try.func33, Try.ntmps33
  go_wp2_with fail
  refine (l01From_any _ bs lo hi _ h (by omega) hm hb).mono ?_
  rintro e w1 ⟨q, rfl, hq, s, b1⟩
  have zb1 := b1.size
  replace h := h.below b1 (by omega)
  replace bb := Below.step b1 (by omega) bb
  clear b1
  have hql := s.lt
  clear h
  go_wp2_with fail
  refine (l01Next_any q 41 _ s (by omega)).mono ?_
  rintro e w2 ⟨r2, rfl, a2, a2', s', c2⟩
  clear s
  have s := s'
  clear s'
  have zc2 := c2.size
  replace bb := bb.trans (c2.below (by omega) (by omega))
  clear c2
  go_wp2_with fail
  refine (l01Next_any q 12 _ s (by omega)).mono ?_
  rintro e w3 ⟨r3, rfl, a3, a3', s', c3⟩
  clear s
  have s := s'
  clear s'
  have zc3 := c3.size
  replace bb := bb.trans (c3.below (by omega) (by omega))
  clear c3
  go_wp2_with fail
  refine (l01Next_any q 41 _ s (by omega)).mono ?_
  rintro e w4 ⟨r4, rfl, a4, a4', s', c4⟩
  clear s
  have s := s'
  clear s'
  have zc4 := c4.size
  replace bb := bb.trans (c4.below (by omega) (by omega))
  clear c4
  go_wp2_with fail
  have b5 : Below w4.heap.size w4 (w4.alloc (.cells #[.int .i64 r2, .int .i64 r3, .int .i64 40, .int .i64 41, .int .i64 (-1), .int .i64 r4] 2)) := (Below.refl _ _).alloc (Nat.le_refl _) _
  have zz5 : (w4.alloc (.cells #[.int .i64 r2, .int .i64 r3, .int .i64 40, .int .i64 41, .int .i64 (-1), .int .i64 r4] 2)).heap.size = w4.heap.size + 1 := by simp
  have hL5 := rdInts (w := w4) (n := w4.heap.size) [r2, r3, 40, 41, -1, r4] (cs := #[.int .i64 r2, .int .i64 r3, .int .i64 40, .int .i64 41, .int .i64 (-1), .int .i64 r4]) rfl rfl
  have zb5 := b5.size
  replace bb := Below.step b5 (by omega) bb
  replace s := s.below b5 (by omega)
  clear b5
  generalize (w4.alloc (.cells #[.int .i64 r2, .int .i64 r3, .int .i64 40, .int .i64 41, .int .i64 (-1), .int .i64 r4] 2)) = w5 at *
  refine (l01Pick_any q _ [r2, r3, 40, 41, -1, r4] _ _ _ s hL5 (by omega) (by omega) (by simp) (by simp)).mono ?_
  rintro e w6 ⟨r6, rfl, hp6, s', c6⟩
  clear s
  have s := s'
  clear s'
  have zc6 := c6.size
  replace bb := bb.trans (c6.below (by omega) (by omega))
  clear c6
  clear hL5
  simp only [List.mem_cons, List.not_mem_nil, or_false] at hp6
  have hp : -1 ≤ r6 ∧ r6 ≤ 41 := by omega
  clear hp6
  go_wp2_with fail
  refine (l01Next_any q 41 _ s (by omega)).mono ?_
  rintro e w7 ⟨r7, rfl, a7, a7', s', c7⟩
  clear s
  have s := s'
  clear s'
  have zc7 := c7.size
  replace bb := bb.trans (c7.below (by omega) (by omega))
  clear c7
  go_wp2_with fail
  refine (l01Next_any q 12 _ s (by omega)).mono ?_
  rintro e w8 ⟨r8, rfl, a8, a8', s', c8⟩
  clear s
  have s := s'
  clear s'
  have zc8 := c8.size
  replace bb := bb.trans (c8.below (by omega) (by omega))
  clear c8
  go_wp2_with fail
  refine (l01Next_any q 20 _ s (by omega)).mono ?_
  rintro e w9 ⟨r9, rfl, a9, a9', s', c9⟩
  clear s
  have s := s'
  clear s'
  have zc9 := c9.size
  replace bb := bb.trans (c9.below (by omega) (by omega))
  clear c9
  go_wp2_with fail
  have b10 : Below w9.heap.size w9 (w9.alloc (.cells #[.int .i64 r7, .int .i64 r8, .int .i64 20, .int .i64 41, .int .i64 (-1), .int .i64 r9] 2)) := (Below.refl _ _).alloc (Nat.le_refl _) _
  have zz10 : (w9.alloc (.cells #[.int .i64 r7, .int .i64 r8, .int .i64 20, .int .i64 41, .int .i64 (-1), .int .i64 r9] 2)).heap.size = w9.heap.size + 1 := by simp
  have hL10 := rdInts (w := w9) (n := w9.heap.size) [r7, r8, 20, 41, -1, r9] (cs := #[.int .i64 r7, .int .i64 r8, .int .i64 20, .int .i64 41, .int .i64 (-1), .int .i64 r9]) rfl rfl
  have zb10 := b10.size
  replace bb := Below.step b10 (by omega) bb
  replace s := s.below b10 (by omega)
  clear b10
  generalize (w9.alloc (.cells #[.int .i64 r7, .int .i64 r8, .int .i64 20, .int .i64 41, .int .i64 (-1), .int .i64 r9] 2)) = w10 at *
  refine (l01Pick_any q _ [r7, r8, 20, 41, -1, r9] _ _ _ s hL10 (by omega) (by omega) (by simp) (by simp)).mono ?_
  rintro e w11 ⟨r11, rfl, hp11, s', c11⟩
  clear s
  have s := s'
  clear s'
  have zc11 := c11.size
  replace bb := bb.trans (c11.below (by omega) (by omega))
  clear c11
  clear hL10
  simp only [List.mem_cons, List.not_mem_nil, or_false] at hp11
  go_wp2_with fail
  refine bodyPost_ret (v := .tuple #[.int .i64 (r6), .int .i64 (r11)]) (by simp [results, Try.results33, go_sem, *]) rfl ?_
  exact ⟨r6, r11, rfl, by omega, by omega, bb⟩
set_option maxRecDepth 100000 in
set_option maxHeartbeats 4000000 in
theorem drawChance_any (v : Value) (bs : List Int) (lo hi : Nat) (w : World) (h : RdF encByte 1 w lo hi v bs) (hh : hi ≤ w.heap.size) (hm : bs.length ≤ 4096) (hb : ∀ x ∈ bs, 0 ≤ x ∧ x ≤ 255) :
    Calls Try.prog 30 #[v] w fun e w' => ∃ n g k x : Int, e = .returned (.tuple #[.int .i64 n, .int .i64 g, .int .i64 k, .int .i64 x]) ∧ (-1 ≤ n ∧ n ≤ 50) ∧ (-1 ≤ g ∧ g ≤ 50) ∧ (-1 ≤ k ∧ k ≤ 50) ∧ (-1 ≤ x ∧ x ≤ 50) ∧ Below w.heap.size w w' := by
  have bb : Below w.heap.size w w := Below.refl _ _
  go_enter Try.func30, Try.ntmps30
  go_wp2_with fail
  refine (l01From_any _ bs lo hi _ h (by omega) hm hb).mono ?_
  rintro e w1 ⟨q, rfl, hq, s, b1⟩
  have zb1 := b1.size
  replace h := h.below b1 (by omega)
  replace bb := Below.step b1 (by omega) bb
  clear b1
  have hql := s.lt
  clear h
  go_wp2_with fail
  refine (l17Draw_any q _ s).mono ?_
  rintro e w2 ⟨n, g, k, x, rfl, hn, hg, hk, hx, s', c2⟩
  clear s
  have s := s'
  clear s'
  have zc2 := c2.size
  replace bb := bb.trans (c2.below (by omega) (by omega))
  clear c2
  go_wp2_with fail
  refine bodyPost_ret (v := .tuple #[.int .i64 (n), .int .i64 (g), .int .i64 (k), .int .i64 (x)]) (by simp [results, Try.results30, go_sem, *]) rfl ?_
  exact ⟨n, g, k, x, rfl, hn, hg, hk, hx, bb⟩
set_option maxRecDepth 100000 in
set_option maxHeartbeats 4000000 in
theorem drawExpected_any (v : Value) (bs : List Int) (lo hi : Nat) (w : World) (h : RdF encByte 1 w lo hi v bs) (hh : hi ≤ w.heap.size) (hm : bs.length ≤ 4096) (hb : ∀ x ∈ bs, 0 ≤ x ∧ x ≤ 255) :
    Calls Try.prog 81 #[v] w fun e w' => ∃ n g k : Int, e = .returned (.tuple #[.int .i64 n, .int .i64 g, .int .i64 k]) ∧ (-1 ≤ n ∧ n ≤ 50) ∧ (-1 ≤ g ∧ g ≤ 50) ∧ (-1 ≤ k ∧ k ≤ 50) ∧ Below w.heap.size w w' := by
  have bb : Below w.heap.size w w := Below.refl _ _
  go_enter Try.func81, Try.ntmps81
  go_wp2_with fail
  refine (l01From_any _ bs lo hi _ h (by omega) hm hb).mono ?_
  rintro e w1 ⟨q, rfl, hq, s, b1⟩
  have zb1 := b1.size
  replace h := h.below b1 (by omega)
  replace bb := Below.step b1 (by omega) bb
  clear b1
  have hql := s.lt
  clear h
  go_wp2_with fail
  refine (l17Draw_any q _ s).mono ?_
  rintro e w2 ⟨n, g, k, x, rfl, hn, hg, hk, hx, s', c2⟩
  clear s
  have s := s'
  clear s'
  have zc2 := c2.size
  replace bb := bb.trans (c2.below (by omega) (by omega))
  clear c2
  go_wp2_with fail
  refine bodyPost_ret (v := .tuple #[.int .i64 (n), .int .i64 (g), .int .i64 (k)]) (by simp [results, Try.results81, go_sem, *]) rfl ?_
  exact ⟨n, g, k, rfl, hn, hg, hk, bb⟩
set_option maxRecDepth 100000 in
set_option maxHeartbeats 4000000 in
theorem drawLikeliest_any (v : Value) (bs : List Int) (lo hi : Nat) (w : World) (h : RdF encByte 1 w lo hi v bs) (hh : hi ≤ w.heap.size) (hm : bs.length ≤ 4096) (hb : ∀ x ∈ bs, 0 ≤ x ∧ x ≤ 255) :
    Calls Try.prog 44 #[v] w fun e w' => ∃ n g k : Int, e = .returned (.tuple #[.int .i64 n, .int .i64 g, .int .i64 k]) ∧ (-1 ≤ n ∧ n ≤ 50) ∧ (-1 ≤ g ∧ g ≤ 50) ∧ (-1 ≤ k ∧ k ≤ 50) ∧ Below w.heap.size w w' := by
  have bb : Below w.heap.size w w := Below.refl _ _
  go_enter Try.func44, Try.ntmps44
  go_wp2_with fail
  refine (drawExpected_any _ bs lo hi _ h (by omega) hm hb).mono ?_
  rintro e w1 ⟨n, g, k, rfl, hn, hg, hk, b1⟩
  have zb1 := b1.size
  replace h := h.below b1 (by omega)
  replace bb := Below.step b1 (by omega) bb
  clear b1
  go_wp2_with fail
  refine bodyPost_ret (v := .tuple #[.int .i64 (n), .int .i64 (g), .int .i64 (k)]) (by simp [results, Try.results44, go_sem, *]) rfl ?_
  exact ⟨n, g, k, rfl, hn, hg, hk, bb⟩
set_option maxRecDepth 100000 in
set_option maxHeartbeats 4000000 in
theorem drawIsLow_any (v : Value) (bs : List Int) (lo hi : Nat) (w : World) (h : RdF encByte 1 w lo hi v bs) (hh : hi ≤ w.heap.size) (hm : bs.length ≤ 4096) (hb : ∀ x ∈ bs, 0 ≤ x ∧ x ≤ 255) :
    Calls Try.prog 39 #[v] w fun e w' => ∃ n g k x l : Int, e = .returned (.tuple #[.int .i64 n, .int .i64 g, .int .i64 k, .int .i64 x, .int .i64 l]) ∧ (-1 ≤ n ∧ n ≤ 50) ∧ (-1 ≤ g ∧ g ≤ 50) ∧ (-1 ≤ k ∧ k ≤ 50) ∧ (-1 ≤ x ∧ x ≤ 50) ∧ (-1 ≤ l ∧ l ≤ 1001) ∧ Below w.heap.size w w' := by
  have bb : Below w.heap.size w w := Below.refl _ _
  go_enter Try.func39, Try.ntmps39
  go_wp2_with fail
  refine (l01From_any _ bs lo hi _ h (by omega) hm hb).mono ?_
  rintro e w1 ⟨q, rfl, hq, s, b1⟩
  have zb1 := b1.size
  replace h := h.below b1 (by omega)
  replace bb := Below.step b1 (by omega) bb
  clear b1
  have hql := s.lt
  clear h
  go_wp2_with fail
  refine (l17Draw_any q _ s).mono ?_
  rintro e w2 ⟨n, g, k, x, rfl, hn, hg, hk, hx, s', c2⟩
  clear s
  have s := s'
  clear s'
  have zc2 := c2.size
  replace bb := bb.trans (c2.below (by omega) (by omega))
  clear c2
  go_wp2_with fail
  have b3 : Below w2.heap.size w2 (w2.alloc (.cells #[.int .i64 50, .int .i64 25, .int .i64 100, .int .i64 0, .int .i64 1000, .int .i64 1001, .int .i64 (-1), .int .i64 200] 2)) := (Below.refl _ _).alloc (Nat.le_refl _) _
  have zz3 : (w2.alloc (.cells #[.int .i64 50, .int .i64 25, .int .i64 100, .int .i64 0, .int .i64 1000, .int .i64 1001, .int .i64 (-1), .int .i64 200] 2)).heap.size = w2.heap.size + 1 := by simp
  have hL3 := rdInts (w := w2) (n := w2.heap.size) [50, 25, 100, 0, 1000, 1001, -1, 200] (cs := #[.int .i64 50, .int .i64 25, .int .i64 100, .int .i64 0, .int .i64 1000, .int .i64 1001, .int .i64 (-1), .int .i64 200]) rfl rfl
  have zb3 := b3.size
  replace bb := Below.step b3 (by omega) bb
  replace s := s.below b3 (by omega)
  clear b3
  generalize (w2.alloc (.cells #[.int .i64 50, .int .i64 25, .int .i64 100, .int .i64 0, .int .i64 1000, .int .i64 1001, .int .i64 (-1), .int .i64 200] 2)) = w3 at *
  refine (l01Pick_any q _ [50, 25, 100, 0, 1000, 1001, -1, 200] _ _ _ s hL3 (by omega) (by omega) (by simp) (by simp)).mono ?_
  rintro e w4 ⟨r4, rfl, hp4, s', c4⟩
  clear s
  have s := s'
  clear s'
  have zc4 := c4.size
  replace bb := bb.trans (c4.below (by omega) (by omega))
  clear c4
  clear hL3
  simp only [List.mem_cons, List.not_mem_nil, or_false] at hp4
  go_wp2_with fail
  refine bodyPost_ret (v := .tuple #[.int .i64 (n), .int .i64 (g), .int .i64 (k), .int .i64 (x), .int .i64 (r4)]) (by simp [results, Try.results39, go_sem, *]) rfl ?_
  exact ⟨n, g, k, x, r4, rfl, hn, hg, hk, hx, by omega, bb⟩
set_option maxRecDepth 100000 in
set_option maxHeartbeats 4000000 in
theorem drawNormal_any (v : Value) (bs : List Int) (lo hi : Nat) (w : World) (h : RdF encByte 1 w lo hi v bs) (hh : hi ≤ w.heap.size) (hm : bs.length ≤ 4096) (hb : ∀ x ∈ bs, 0 ≤ x ∧ x ≤ 255) :
    Calls Try.prog 38 #[v] w fun e w' => ∃ n g k l : Int, e = .returned (.tuple #[.int .i64 n, .int .i64 g, .int .i64 k, .int .i64 l]) ∧ (-1 ≤ n ∧ n ≤ 50) ∧ (-1 ≤ g ∧ g ≤ 50) ∧ (-1 ≤ k ∧ k ≤ 50) ∧ (-1 ≤ l ∧ l ≤ 1001) ∧ Below w.heap.size w w' := by
  have bb : Below w.heap.size w w := Below.refl _ _
  go_enter Try.func38, Try.ntmps38
  go_wp2_with fail
  refine (drawIsLow_any _ bs lo hi _ h (by omega) hm hb).mono ?_
  rintro e w1 ⟨n, g, k, x, l, rfl, hn, hg, hk, hx, hl, b1⟩
  have zb1 := b1.size
  replace h := h.below b1 (by omega)
  replace bb := Below.step b1 (by omega) bb
  clear b1
  go_wp2_with fail
  refine bodyPost_ret (v := .tuple #[.int .i64 (n), .int .i64 (g), .int .i64 (k), .int .i64 (l)]) (by simp [results, Try.results38, go_sem, *]) rfl ?_
  exact ⟨n, g, k, l, rfl, hn, hg, hk, hl, bb⟩
end Go.Proofs.Ytgcmpdfhdhlmgaa
