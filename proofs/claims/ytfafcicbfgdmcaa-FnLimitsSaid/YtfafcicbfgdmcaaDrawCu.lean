/- Draws of stages, holidays and days. Written by a program (gen_drawcu.py). -/
import Derived.Test.YtfafcicbfgdmcaaSrcL
import Derived.Test.YtfafcicbfgdmcaaStageH
namespace Go.Proofs.Ytfafcicbfgdmcaa
open Go.RowKit
set_option linter.unusedVariables false

def sliceLen : Value → Nat
  | .slice _ n _ => n
  | _ => 0
theorem encInt_one (n : Int) : ∀ u ∈ encInt n, u.oneCell' = true := by
  intro u hu
  simp [encInt] at hu
  subst hu
  rfl
theorem stages3 {w : World} {g : Nat} {s0 s1 s2 : Stage} (h : Blk w g 59 #[.string s0.name, .int .i64 s0.days, .int .i64 s0.more, .string s1.name, .int .i64 s1.days, .int .i64 s1.more, .string s2.name, .int .i64 s2.days, .int .i64 s2.more]) :
    RdF Stage.enc 3 w g (g + 1) (.slice (some ⟨g, 0, none⟩) 3 3) [s0, s1, s2] := by
  refine (RdW.of_row (enc := Stage.enc) (sz := 3) (xs := [s0, s1, s2]) h (by simp) (fun i x hi hx j u hu => ?_) g (g + 1) (Nat.le_refl _) (Nat.lt_succ_self _)).rd
  have hj : j < 3 := by
    have := (List.getElem?_eq_some_iff.1 hu).1
    simpa [Stage.enc] using this
  rcases (by simp at hi; omega : i = 0 ∨ i = 1 ∨ i = 2) with rfl | rfl | rfl <;> (simp at hx; subst hx; rcases (by omega : j = 0 ∨ j = 1 ∨ j = 2) with rfl | rfl | rfl <;> simpa [Stage.enc] using hu)
theorem RdF.headN {α : Type} {enc : α → List Value} {sz : Nat} {w : World} {lo hi b c n : Nat} {xs : List α} (h : RdF enc sz w lo hi (.slice (some ⟨b, 0, none⟩) n c) xs) (k : Nat) (hk : k ≤ xs.length) (h1 : lo ≤ b) (h2 : b < hi) : RdF enc sz w lo hi (.slice (some ⟨b, 0, none⟩) k c) (xs.take k) := by
  obtain ⟨A, c', e, hc, hA⟩ := h
  injection e with e1 e2 e3
  subst e1 e3
  rcases Nat.eq_zero_or_pos xs.length with hz | hp
  · have : k = 0 := by omega
    subst this
    exact ⟨some ⟨b, 0, none⟩, c, by simp, by simp, fun h => by simp at h⟩
  · obtain ⟨b', off, e4, h4, h5, h6⟩ := hA hp
    injection e4 with e4
    injection e4 with e5 e6
    subst e5 e6
    exact RdF.take hk hc h4 h5 h6

set_option maxRecDepth 100000 in
set_option maxHeartbeats 4000000 in
theorem l20Stages_any (q : Nat) (w : World) (h : Src w q) :
    Calls Try.prog 52 #[.pointer (some ⟨q, 0, none⟩)] w fun e w' => ∃ (v : Value) (xs : List Stage), e = .returned v ∧ xs.length ≤ 3 ∧ (∀ x ∈ xs, x.name.size ≤ 64 ∧ -1 ≤ x.days ∧ x.days ≤ 500) ∧ RdF Stage.enc 3 w' w.heap.size w'.heap.size v xs ∧ Src w' q ∧ Chg q (q + 1) w w' := by
  have hl := h.lt
  have s := h
  clear h
  have d : Chg q (q + 1) w w := Chg.refl _ _ _
  go_enter Try.func52, Try.ntmps52
  go_wp2_with fail
  refine (l01Next_any q 3 _ s (by omega)).mono ?_
  rintro e w1 ⟨r1, rfl, a1, a1', s', c1⟩
  clear s
  have s := s'
  clear s'
  have zc1 := c1.size
  replace d := d.trans c1
  clear c1
  go_wp2_with fail
  refine (l01Next_any q 30 _ s (by omega)).mono ?_
  rintro e w2 ⟨r2, rfl, a2, a2', s', c2⟩
  clear s
  have s := s'
  clear s'
  have zc2 := c2.size
  replace d := d.trans c2
  clear c2
  go_wp2_with fail
  refine (l01Next_any q 60 _ s (by omega)).mono ?_
  rintro e w3 ⟨r3, rfl, a3, a3', s', c3⟩
  clear s
  have s := s'
  clear s'
  have zc3 := c3.size
  replace d := d.trans c3
  clear c3
  go_wp2_with fail
  refine (l01Next_any q 60 _ s (by omega)).mono ?_
  rintro e w4 ⟨r4, rfl, a4, a4', s', c4⟩
  clear s
  have s := s'
  clear s'
  have zc4 := c4.size
  replace d := d.trans c4
  clear c4
  go_wp2_with fail
  have b5 : Below w4.heap.size w4 (w4.alloc (.cells #[.string ⟨#[106, 117, 100, 103, 101]⟩, .int .i64 (1 + r1), .int .i64 0, .string ⟨#[99, 104, 97, 114, 103, 101]⟩, .int .i64 (10 + r2), .int .i64 14, .string ⟨#[116, 114, 105, 97, 108]⟩, .int .i64 (60 + r3), .int .i64 r4] 59)) := (Below.refl _ _).alloc (Nat.le_refl _) _
  have zz5 : (w4.alloc (.cells #[.string ⟨#[106, 117, 100, 103, 101]⟩, .int .i64 (1 + r1), .int .i64 0, .string ⟨#[99, 104, 97, 114, 103, 101]⟩, .int .i64 (10 + r2), .int .i64 14, .string ⟨#[116, 114, 105, 97, 108]⟩, .int .i64 (60 + r3), .int .i64 r4] 59)).heap.size = w4.heap.size + 1 := by simp
  have kS : Blk (w4.alloc (.cells #[.string ⟨#[106, 117, 100, 103, 101]⟩, .int .i64 (1 + r1), .int .i64 0, .string ⟨#[99, 104, 97, 114, 103, 101]⟩, .int .i64 (10 + r2), .int .i64 14, .string ⟨#[116, 114, 105, 97, 108]⟩, .int .i64 (60 + r3), .int .i64 r4] 59)) (w4.heap.size) 59 #[.string ⟨#[106, 117, 100, 103, 101]⟩, .int .i64 (1 + r1), .int .i64 0, .string ⟨#[99, 104, 97, 114, 103, 101]⟩, .int .i64 (10 + r2), .int .i64 14, .string ⟨#[116, 114, 105, 97, 108]⟩, .int .i64 (60 + r3), .int .i64 r4] := Blk.newAt rfl
  have zb5 := b5.size
  replace s := s.below b5 (by omega)
  replace d := d.step (b5.mono (by omega))
  clear b5
  generalize (w4.alloc (.cells #[.string ⟨#[106, 117, 100, 103, 101]⟩, .int .i64 (1 + r1), .int .i64 0, .string ⟨#[99, 104, 97, 114, 103, 101]⟩, .int .i64 (10 + r2), .int .i64 14, .string ⟨#[116, 114, 105, 97, 108]⟩, .int .i64 (60 + r3), .int .i64 r4] 59)) = w5 at *
  go_wp2_with fail
  refine (l01Next_any q 30 _ s (by omega)).mono ?_
  rintro e w6 ⟨r6, rfl, a6, a6', s', c6⟩
  clear s
  have s := s'
  clear s'
  have zc6 := c6.size
  replace d := d.trans c6
  replace kS := kS.chg c6 (by omega) (by omega)
  clear c6
  by_cases h0 : r6 = 0
  · subst h0
    go_wp2_with fail
    have b7 : Below w6.heap.size w6 (w6.alloc (.cells #[.int .i64 0, .int .i64 400, .int .i64 401] 2)) := (Below.refl _ _).alloc (Nat.le_refl _) _
    have zz7 : (w6.alloc (.cells #[.int .i64 0, .int .i64 400, .int .i64 401] 2)).heap.size = w6.heap.size + 1 := by simp
    have hL7 := rdInts (w := w6) (n := w6.heap.size) [0, 400, 401] (cs := #[.int .i64 0, .int .i64 400, .int .i64 401]) rfl rfl
    have zb7 := b7.size
    replace s := s.below b7 (by omega)
    replace d := d.step (b7.mono (by omega))
    replace kS := kS.below b7 (by omega)
    clear b7
    generalize (w6.alloc (.cells #[.int .i64 0, .int .i64 400, .int .i64 401] 2)) = w7 at *
    refine (l01Pick_any q _ [0, 400, 401] _ _ _ s hL7 (by omega) (by omega) (by simp) (by simp)).mono ?_
    rintro e w8 ⟨r8, rfl, hp8, s', c8⟩
    clear s
    have s := s'
    clear s'
    have zc8 := c8.size
    replace d := d.trans c8
    replace kS := kS.chg c8 (by omega) (by omega)
    clear c8
    clear hL7
    simp only [List.mem_cons, List.not_mem_nil, or_false] at hp8
    have hk : 0 ≤ r8 ∧ r8 ≤ 401 := by omega
    have q0 : w8.cell? ⟨w4.heap.size, 4, none⟩ = some (.int .i64 (10 + r2)) := kS.cell 4
    have f0 := kS.frozen 4
    go_wp2_with fail
    have kS2 : Blk (w8.setCell ⟨w4.heap.size, 4, none⟩ (.int .i64 r8)) (w4.heap.size) 59 #[.string ⟨#[106, 117, 100, 103, 101]⟩, .int .i64 (1 + r1), .int .i64 0, .string ⟨#[99, 104, 97, 114, 103, 101]⟩, .int .i64 (r8), .int .i64 14, .string ⟨#[116, 114, 105, 97, 108]⟩, .int .i64 (60 + r3), .int .i64 r4] := kS.set_ 4 _
    have bS : Below w.heap.size w8 (w8.setCell ⟨w4.heap.size, 4, none⟩ (.int .i64 r8)) := (Below.refl _ _).setCell (p := ⟨w4.heap.size, 4, none⟩) (by show w.heap.size ≤ w4.heap.size; omega) _
    have rS := stages3 (s0 := ⟨⟨#[106, 117, 100, 103, 101]⟩, 1 + r1, 0⟩) (s1 := ⟨⟨#[99, 104, 97, 114, 103, 101]⟩, r8, 14⟩) (s2 := ⟨⟨#[116, 114, 105, 97, 108]⟩, 60 + r3, r4⟩) kS2
    have zS : w4.heap.size < (w8.setCell ⟨w4.heap.size, 4, none⟩ (.int .i64 r8)).heap.size := kS2.lt
    go_ret
    exact ⟨_, _, rfl, by simp, fun x hx => by
      simp at hx
      rcases hx with rfl | rfl | rfl <;> exact ⟨Nat.le_of_ble_eq_true rfl, by simp <;> omega, by simp <;> omega⟩, rS.wide (by omega) (by omega), s.below bS hl, d.step bS⟩
  by_cases h1 : r6 = 1
  · subst h1
    have q0 : w6.cell? ⟨w4.heap.size, 6, none⟩ = some (.string ⟨#[116, 114, 105, 97, 108]⟩) := kS.cell 6
    have f0 := kS.frozen 6
    go_wp2_with fail
    have kS2 : Blk (w6.setCell ⟨w4.heap.size, 6, none⟩ (.string ⟨#[106, 117, 100, 103, 101]⟩)) (w4.heap.size) 59 #[.string ⟨#[106, 117, 100, 103, 101]⟩, .int .i64 (1 + r1), .int .i64 0, .string ⟨#[99, 104, 97, 114, 103, 101]⟩, .int .i64 (10 + r2), .int .i64 14, .string ⟨#[106, 117, 100, 103, 101]⟩, .int .i64 (60 + r3), .int .i64 r4] := kS.set_ 6 _
    have bS : Below w.heap.size w6 (w6.setCell ⟨w4.heap.size, 6, none⟩ (.string ⟨#[106, 117, 100, 103, 101]⟩)) := (Below.refl _ _).setCell (p := ⟨w4.heap.size, 6, none⟩) (by show w.heap.size ≤ w4.heap.size; omega) _
    have rS := stages3 (s0 := ⟨⟨#[106, 117, 100, 103, 101]⟩, 1 + r1, 0⟩) (s1 := ⟨⟨#[99, 104, 97, 114, 103, 101]⟩, 10 + r2, 14⟩) (s2 := ⟨⟨#[106, 117, 100, 103, 101]⟩, 60 + r3, r4⟩) kS2
    have zS : w4.heap.size < (w6.setCell ⟨w4.heap.size, 6, none⟩ (.string ⟨#[106, 117, 100, 103, 101]⟩)).heap.size := kS2.lt
    go_ret
    exact ⟨_, _, rfl, by simp, fun x hx => by
      simp at hx
      rcases hx with rfl | rfl | rfl <;> exact ⟨Nat.le_of_ble_eq_true rfl, by simp <;> omega, by simp <;> omega⟩, rS.wide (by omega) (by omega), s.below bS hl, d.step bS⟩
  by_cases h2 : r6 = 2
  · subst h2
    go_wp2_with fail
    refine (l01Next_any q 3 _ s (by omega)).mono ?_
    rintro e w7 ⟨r7, rfl, a7, a7', s', c7⟩
    clear s
    have s := s'
    clear s'
    have zc7 := c7.size
    replace d := d.trans c7
    replace kS := kS.chg c7 (by omega) (by omega)
    clear c7
    obtain ⟨k, rfl⟩ : ∃ k : Nat, r7 = (k : Int) := ⟨r7.toNat, by omega⟩
    have hk3 : k ≤ 3 := by omega
    have hk3i : (k : Int) ≤ 3 := by omega
    go_wp2_with fail
    have rS := stages3 (s0 := ⟨⟨#[106, 117, 100, 103, 101]⟩, 1 + r1, 0⟩) (s1 := ⟨⟨#[99, 104, 97, 114, 103, 101]⟩, 10 + r2, 14⟩) (s2 := ⟨⟨#[116, 114, 105, 97, 108]⟩, 60 + r3, r4⟩) kS
    have zS : w4.heap.size < w7.heap.size := kS.lt
    go_ret
    exact ⟨_, _, rfl, by simp; omega, fun x hx => by
      have hx := List.mem_of_mem_take hx
      simp at hx
      rcases hx with rfl | rfl | rfl <;> exact ⟨Nat.le_of_ble_eq_true rfl, by simp <;> omega, by simp <;> omega⟩, (rS.headN k (by simp; omega) (Nat.le_refl _) (Nat.lt_succ_self _)).wide (by omega) (by omega), s, d⟩
  by_cases h3 : r6 = 3
  · subst h3
    go_wp2_with fail
    have b7 : Below w6.heap.size w6 (w6.alloc (.cells #[.int .i64 (-1), .int .i64 400, .int .i64 401] 2)) := (Below.refl _ _).alloc (Nat.le_refl _) _
    have zz7 : (w6.alloc (.cells #[.int .i64 (-1), .int .i64 400, .int .i64 401] 2)).heap.size = w6.heap.size + 1 := by simp
    have hL7 := rdInts (w := w6) (n := w6.heap.size) [-1, 400, 401] (cs := #[.int .i64 (-1), .int .i64 400, .int .i64 401]) rfl rfl
    have zb7 := b7.size
    replace s := s.below b7 (by omega)
    replace d := d.step (b7.mono (by omega))
    replace kS := kS.below b7 (by omega)
    clear b7
    generalize (w6.alloc (.cells #[.int .i64 (-1), .int .i64 400, .int .i64 401] 2)) = w7 at *
    refine (l01Pick_any q _ [-1, 400, 401] _ _ _ s hL7 (by omega) (by omega) (by simp) (by simp)).mono ?_
    rintro e w8 ⟨r8, rfl, hp8, s', c8⟩
    clear s
    have s := s'
    clear s'
    have zc8 := c8.size
    replace d := d.trans c8
    replace kS := kS.chg c8 (by omega) (by omega)
    clear c8
    clear hL7
    simp only [List.mem_cons, List.not_mem_nil, or_false] at hp8
    have q0 : w8.cell? ⟨w4.heap.size, 2, none⟩ = some (.int .i64 0) := kS.cell 2
    have f0 := kS.frozen 2
    go_wp2_with fail
    have kS2 : Blk (w8.setCell ⟨w4.heap.size, 2, none⟩ (.int .i64 r8)) (w4.heap.size) 59 #[.string ⟨#[106, 117, 100, 103, 101]⟩, .int .i64 (1 + r1), .int .i64 (r8), .string ⟨#[99, 104, 97, 114, 103, 101]⟩, .int .i64 (10 + r2), .int .i64 14, .string ⟨#[116, 114, 105, 97, 108]⟩, .int .i64 (60 + r3), .int .i64 r4] := kS.set_ 2 _
    have bS : Below w.heap.size w8 (w8.setCell ⟨w4.heap.size, 2, none⟩ (.int .i64 r8)) := (Below.refl _ _).setCell (p := ⟨w4.heap.size, 2, none⟩) (by show w.heap.size ≤ w4.heap.size; omega) _
    have rS := stages3 (s0 := ⟨⟨#[106, 117, 100, 103, 101]⟩, 1 + r1, r8⟩) (s1 := ⟨⟨#[99, 104, 97, 114, 103, 101]⟩, 10 + r2, 14⟩) (s2 := ⟨⟨#[116, 114, 105, 97, 108]⟩, 60 + r3, r4⟩) kS2
    have zS : w4.heap.size < (w8.setCell ⟨w4.heap.size, 2, none⟩ (.int .i64 r8)).heap.size := kS2.lt
    go_ret
    exact ⟨_, _, rfl, by simp, fun x hx => by
      simp at hx
      rcases hx with rfl | rfl | rfl <;> exact ⟨Nat.le_of_ble_eq_true rfl, by simp <;> omega, by simp <;> omega⟩, rS.wide (by omega) (by omega), s.below bS hl, d.step bS⟩
  have hz0 : (r6 == 0) = false := by simpa using h0
  have hz1 : (r6 == 1) = false := by simpa using h1
  have hz2 : (r6 == 2) = false := by simpa using h2
  have hz3 : (r6 == 3) = false := by simpa using h3
  go_wp2_with fail
  have rS := stages3 (s0 := ⟨⟨#[106, 117, 100, 103, 101]⟩, 1 + r1, 0⟩) (s1 := ⟨⟨#[99, 104, 97, 114, 103, 101]⟩, 10 + r2, 14⟩) (s2 := ⟨⟨#[116, 114, 105, 97, 108]⟩, 60 + r3, r4⟩) kS
  have zS : w4.heap.size < w6.heap.size := kS.lt
  go_ret
  exact ⟨_, _, rfl, by simp, fun x hx => by
    simp at hx
    rcases hx with rfl | rfl | rfl <;> exact ⟨Nat.le_of_ble_eq_true rfl, by simp <;> omega, by simp <;> omega⟩, rS.wide (by omega) (by omega), s, d⟩
set_option maxRecDepth 100000 in
set_option maxHeartbeats 4000000 in
theorem l02Holidays_any (q : Nat) (w : World) (h : Src w q) :
    Calls Try.prog 53 #[.pointer (some ⟨q, 0, none⟩)] w fun e w' => ∃ (v : Value) (xs : List Int), e = .returned v ∧ xs.length ≤ 60 ∧ RdF encInt 1 w' w.heap.size w'.heap.size v xs ∧ Src w' q ∧ Chg q (q + 1) w w' := by
  have hl := h.lt
  have s := h
  clear h
  have d : Chg q (q + 1) w w := Chg.refl _ _ _
  go_enter Try.func53, Try.ntmps53
  go_wp2_with fail
  have ho : OwnL encInt 1 2 (w.alloc (.cells #[] 2)) w.heap.size (.slice (some ⟨w.heap.size, 0, none⟩) 0 0) ([] : List Int) := OwnL.emptyAt rfl (Nat.le_refl _)
  have b1 : Below w.heap.size w (w.alloc (.cells #[] 2)) := (Below.refl _ _).alloc (Nat.le_refl _) _
  have zz1 : (w.alloc (.cells #[] 2)).heap.size = w.heap.size + 1 := by simp
  have zb1 := b1.size
  replace s := s.below b1 (by omega)
  replace d := d.step (b1.mono (by omega))
  clear b1
  generalize (w.alloc (.cells #[] 2)) = w1 at *
  go_wp2_with fail
  refine (l01Next_any q 60 _ s (by omega)).mono ?_
  rintro e w2 ⟨r2, rfl, a2, a2', s', c2⟩
  clear s
  have s := s'
  clear s'
  have zc2 := c2.size
  replace d := d.trans c2
  replace ho := ho.chg c2 (by omega)
  clear c2
  go_wp2_with fail
  refine (l01Next_any q 8 _ s (by omega)).mono ?_
  rintro e w3 ⟨r3, rfl, a3, a3', s', c3⟩
  clear s
  have s := s'
  clear s'
  have zc3 := c3.size
  replace d := d.trans c3
  replace ho := ho.chg c3 (by omega)
  clear c3
  go_wp2_with fail
  go_loopw [3, 4, 5] (fun u dd n wr => ∃ (k : Nat) (day : Int) (xs : List Int), dd = .int .i64 day ∧ n = .int .i64 k ∧ xs.length + k ≤ 7 ∧ 0 ≤ day ∧ day + 50 * k ≤ 600 ∧ OwnL encInt 1 2 wr w.heap.size u xs ∧ Src wr q ∧ Chg q (q + 1) w wr) (fun _ _ n _ => (intOf n).toNat)
  case atStart => exact ⟨r3.toNat, 100 + r2, [], rfl, by simp; omega, by simp; omega, by omega, by omega, ho, s, d⟩
  case round =>
    obtain ⟨k, day, xs, rfl, rfl, hk, hd0, hd1, ho, s, d⟩ := hrel
    have z0 := d.size
    by_cases hlt : 0 < k
    · have hki : (0 : Int) < (k : Int) := by omega
      go_wp2_with (at_builtin; refine wpList_push (enc := encInt) _ _ (by first | rfl | simp) rfl (.tmp 16) (.tmp 18) 25 rfl w.heap.size 2 _ (.int .i64 0) 1 8 Try.underlying25 (by kernel_rfl) rfl (by omega) _ xs (day) _ rfl rfl (encInt_one _) rfl rfl ho (by omega) (by omega) (by (first | omega | (simp; omega) | (simp; done))) ?_; intro v9 w9 hown9 hg9 hk9)
      have b9 := hk9 _ _ (Nat.le_refl _) (Below.refl _ wr)
      have z9 := b9.size
      replace s := s.below b9 hl
      replace d := d.step b9
      clear b9 ho hk9 hg9
      go_wp2_with fail
      refine (l01Next_any q 5 _ s (by omega)).mono ?_
      rintro e w4 ⟨r4, rfl, a4, a4', s', c4⟩
      clear s
      have s := s'
      clear s'
      have zc4 := c4.size
      replace d := d.trans c4
      replace hown9 := hown9.chg c4 (by omega)
      clear c4
      go_wp2_with fail
      refine (l01Next_any q 40 _ s (by omega)).mono ?_
      rintro e w5 ⟨r5, rfl, a5, a5', s', c5⟩
      clear s
      have s := s'
      clear s'
      have zc5 := c5.size
      replace d := d.trans c5
      replace hown9 := hown9.chg c5 (by omega)
      clear c5
      go_wp2_with fail
      have b6 : Below w5.heap.size w5 (w5.alloc (.cells #[.int .i64 0, .int .i64 r4, .int .i64 r5] 2)) := (Below.refl _ _).alloc (Nat.le_refl _) _
      have zz6 : (w5.alloc (.cells #[.int .i64 0, .int .i64 r4, .int .i64 r5] 2)).heap.size = w5.heap.size + 1 := by simp
      have hL6 := rdInts (w := w5) (n := w5.heap.size) [0, r4, r5] (cs := #[.int .i64 0, .int .i64 r4, .int .i64 r5]) rfl rfl
      have zb6 := b6.size
      replace s := s.below b6 (by omega)
      replace d := d.step (b6.mono (by omega))
      replace hown9 := hown9.below b6
      clear b6
      generalize (w5.alloc (.cells #[.int .i64 0, .int .i64 r4, .int .i64 r5] 2)) = w6 at *
      refine (l01Pick_any q _ [0, r4, r5] _ _ _ s hL6 (by omega) (by omega) (by simp) (by simp)).mono ?_
      rintro e w7 ⟨r7, rfl, hp7, s', c7⟩
      clear s
      have s := s'
      clear s'
      have zc7 := c7.size
      replace d := d.trans c7
      replace hown9 := hown9.chg c7 (by omega)
      clear c7
      clear hL6
      simp only [List.mem_cons, List.not_mem_nil, or_false] at hp7
      have hp : 0 ≤ r7 ∧ r7 ≤ 39 := by omega
      go_wp2_with fail
      go_roundw
      case rel => exact ⟨k - 1, day + 1 + r7, _, by go_num, by go_num, by simp; omega, by omega, by omega, hown9, s, d⟩
      case measure => simp [intOf]; omega
    · obtain rfl : k = 0 := by omega
      go_wp2_with fail
      refine (l01Next_any q 24 _ s (by omega)).mono ?_
      rintro e w24 ⟨r24, rfl, a24, a24', s', c24⟩
      clear s
      have s := s'
      clear s'
      have zc24 := c24.size
      replace ho := ho.chg c24 (by omega)
      replace d := d.trans c24
      clear c24
      by_cases h0 : r24 = 0
      · subst h0
        go_wp2_with fail
        have b25 : Below w24.heap.size w24 (w24.alloc (.cells #[.int .i64 (day - 60), .int .i64 20000, .int .i64 20001, .int .i64 (-1)] 2)) := (Below.refl _ _).alloc (Nat.le_refl _) _
        have zz25 : (w24.alloc (.cells #[.int .i64 (day - 60), .int .i64 20000, .int .i64 20001, .int .i64 (-1)] 2)).heap.size = w24.heap.size + 1 := by simp
        have hL25 := rdInts (w := w24) (n := w24.heap.size) [day - 60, 20000, 20001, -1] (cs := #[.int .i64 (day - 60), .int .i64 20000, .int .i64 20001, .int .i64 (-1)]) rfl rfl
        have zb25 := b25.size
        replace ho := ho.below b25
        replace s := s.below b25 (by omega)
        replace d := d.step (b25.mono (by omega))
        clear b25
        generalize (w24.alloc (.cells #[.int .i64 (day - 60), .int .i64 20000, .int .i64 20001, .int .i64 (-1)] 2)) = w25 at *
        refine (l01Pick_any q _ [day - 60, 20000, 20001, -1] _ _ _ s hL25 (by omega) (by omega) (by simp) (by simp)).mono ?_
        rintro e w26 ⟨r26, rfl, hp26, s', c26⟩
        clear s
        have s := s'
        clear s'
        have zc26 := c26.size
        replace ho := ho.chg c26 (by omega)
        replace d := d.trans c26
        clear c26
        clear hL25
        simp only [List.mem_cons, List.not_mem_nil, or_false] at hp26
        have hp : -100 ≤ r26 ∧ r26 ≤ 20001 := by omega
        go_wp2_with (at_builtin; refine wpList_push (enc := encInt) _ _ (by first | rfl | simp) rfl (.tmp 34) (.tmp 40) 25 rfl w.heap.size 2 _ (.int .i64 0) 1 8 Try.underlying25 (by kernel_rfl) rfl (by omega) _ xs (r26) _ rfl rfl (encInt_one _) rfl rfl ho (by omega) (by omega) (by (first | omega | (simp; omega) | (simp; done))) ?_; intro v9 w9 hown9 hg9 hk9)
        have b9 := hk9 _ _ (Nat.le_refl _) (Below.refl _ w26)
        try go_wp2_with fail
        go_ret
        exact ⟨_, _, rfl, by simp; omega, (hown9.rdw (fun _ => rfl)).rd, s.below b9 hl, d.step b9⟩
      by_cases h1 : r24 = 1
      · subst h1
        go_wp2_with fail
        have ho2 : OwnL encInt 1 2 (w24.alloc (.cells #[] 2)) w.heap.size (.slice (some ⟨w24.heap.size, 0, none⟩) 0 0) ([] : List Int) := OwnL.emptyAt rfl (by omega)
        have bA : Below w24.heap.size w24 (w24.alloc (.cells #[] 2)) := (Below.refl _ _).alloc (Nat.le_refl _) _
        have s2 := s.below bA s.lt
        have d2 := d.step (bA.mono (by omega))
        clear bA ho s d
        generalize w24.alloc (.cells #[] 2) = wA at *
        go_loopw [3] (fun u wr => ∃ (xs : List Int), xs.length ≤ 41 ∧ OwnL encInt 1 2 wr w.heap.size u xs ∧ Src wr q ∧ Chg q (q + 1) w wr) (fun u _ => 42 - sliceLen u)
        case atStart => exact ⟨[], by simp, ho2, s2, d2⟩
        case round =>
          clear ho2 s2 d2 hk
          obtain ⟨xs, hk2, ho, s, d⟩ := hrel
          have zr := d.size
          obtain ⟨A9, C9, rfl, hc9⟩ := (ho.rdw (fun _ => rfl)).rd.form
          go_wp2_with fail
          refine (l01Next_any q 2 _ s (by omega)).mono ?_
          rintro e w45 ⟨r45, rfl, a45, a45', s', c45⟩
          clear s
          have s := s'
          clear s'
          have zc45 := c45.size
          replace ho := ho.chg c45 (by omega)
          replace d := d.trans c45
          clear c45
          by_cases hlt : (xs.length : Int) < 40 + r45
          · go_wp2_with (at_builtin; refine wpList_push (enc := encInt) _ _ (by first | rfl | simp) rfl (.tmp 51) (.tmp 55) 25 rfl w.heap.size 2 _ (.int .i64 0) 1 8 Try.underlying25 (by kernel_rfl) rfl (by omega) _ xs (150 + (xs.length : Int)) _ rfl rfl (encInt_one _) rfl rfl ho (by omega) (by omega) (by (first | omega | (simp; omega) | (simp; done))) ?_; intro v9 w9 hown9 hg9 hk9)
            have b9 := hk9 _ _ (Nat.le_refl _) (Below.refl _ w45)
            have hsz : sliceLen v9 = xs.length + 1 := by
              obtain ⟨A8, C8, rfl, hc8⟩ := (hown9.rdw (fun _ => rfl)).rd.form
              simp [sliceLen]
            try go_wp2_with fail
            go_roundw
            case rel => exact ⟨_, by simp; omega, hown9, s.below b9 hl, d.step b9⟩
            case measure => rw [hsz]; simp [sliceLen]; omega
          · go_wp2_with fail
            go_ret
            exact ⟨_, xs, rfl, by omega, (ho.rdw (fun _ => rfl)).rd, s, d⟩
      have hz0 : (r24 == 0) = false := by simpa using h0
      have hz1 : (r24 == 1) = false := by simpa using h1
      go_wp2_with fail
      go_ret
      exact ⟨_, xs, rfl, by omega, (ho.rdw (fun _ => rfl)).rd, s, d⟩
set_option maxRecDepth 100000 in
set_option maxHeartbeats 4000000 in
theorem l02Day_any (q : Nat) (w : World) (h : Src w q) :
    Calls Try.prog 39 #[.pointer (some ⟨q, 0, none⟩)] w fun e w' => ∃ n : Int, e = .returned (.int .i64 n) ∧ -1 ≤ n ∧ n ≤ 20001 ∧ Src w' q ∧ Chg q (q + 1) w w' := by
  have hl := h.lt
  have s := h
  clear h
  have d : Chg q (q + 1) w w := Chg.refl _ _ _
  go_enter Try.func39, Try.ntmps39
  go_wp2_with fail
  refine (l01Next_any q 16 _ s (by omega)).mono ?_
  rintro e w1 ⟨r1, rfl, a1, a1', s', c1⟩
  clear s
  have s := s'
  clear s'
  have zc1 := c1.size
  replace d := d.trans c1
  clear c1
  by_cases h0 : r1 = 0
  · subst h0
    go_wp2_with fail
    have b2 : Below w1.heap.size w1 (w1.alloc (.cells #[.int .i64 0, .int .i64 20000, .int .i64 19999, .int .i64 20001, .int .i64 (-1), .int .i64 5] 2)) := (Below.refl _ _).alloc (Nat.le_refl _) _
    have zz2 : (w1.alloc (.cells #[.int .i64 0, .int .i64 20000, .int .i64 19999, .int .i64 20001, .int .i64 (-1), .int .i64 5] 2)).heap.size = w1.heap.size + 1 := by simp
    have hL2 := rdInts (w := w1) (n := w1.heap.size) [0, 20000, 19999, 20001, -1, 5] (cs := #[.int .i64 0, .int .i64 20000, .int .i64 19999, .int .i64 20001, .int .i64 (-1), .int .i64 5]) rfl rfl
    have zb2 := b2.size
    replace s := s.below b2 (by omega)
    replace d := d.step (b2.mono (by omega))
    clear b2
    generalize (w1.alloc (.cells #[.int .i64 0, .int .i64 20000, .int .i64 19999, .int .i64 20001, .int .i64 (-1), .int .i64 5] 2)) = w2 at *
    refine (l01Pick_any q _ [0, 20000, 19999, 20001, -1, 5] _ _ _ s hL2 (by omega) (by omega) (by simp) (by simp)).mono ?_
    rintro e w3 ⟨r3, rfl, hp3, s', c3⟩
    clear s
    have s := s'
    clear s'
    have zc3 := c3.size
    replace d := d.trans c3
    clear c3
    clear hL2
    simp only [List.mem_cons, List.not_mem_nil, or_false] at hp3
    go_wp2_with fail
    go_ret
    exact ⟨r3, rfl, by omega, by omega, s, d⟩
  have hz0 : (r1 == 0) = false := by simpa using h0
  go_wp2_with fail
  refine (l01Next_any q 250 _ s (by omega)).mono ?_
  rintro e w2 ⟨r2, rfl, a2, a2', s', c2⟩
  clear s
  have s := s'
  clear s'
  have zc2 := c2.size
  replace d := d.trans c2
  clear c2
  go_wp2_with fail
  go_ret
  exact ⟨90 + r2, rfl, by omega, by omega, s, d⟩
end Go.Proofs.Ytfafcicbfgdmcaa
