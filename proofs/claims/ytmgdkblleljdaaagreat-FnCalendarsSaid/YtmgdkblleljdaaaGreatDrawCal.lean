/- Draws of calendars. Written by a program (gen_drawcal.py). -/
import Derived.Test.YtmgdkblleljdaaaGreatDrawHl
import Derived.Test.YtmgdkblleljdaaaGreatDrawSl
namespace Go.Proofs.YtmgdkblleljdaaaGreat
open Go.RowKit
set_option linter.unusedVariables false

theorem RdHearing.mvChg {w w' : World} {lo lo' hi' : Nat} {v : Value} {xs : List Hearing} (h : RdHearing w lo w.heap.size v xs) (hc : Chg lo' hi' w w') (hd : hi' ≤ lo) : RdHearing w' lo w'.heap.size v xs := by
  obtain ⟨rs, h1, h2, h3⟩ := h
  exact ⟨rs, h1, (h2.chg hc (Nat.le_refl _) (.inr hd)).wide (Nat.le_refl _) hc.size, fun r hr => ((h3 r hr).chg hc (Nat.le_refl _) (.inr hd)).wide (Nat.le_refl _) hc.size⟩
theorem RdHearing.head3 {w : World} {lo hi c : Nat} {A : Option Addr} {xs : List Hearing} (h : RdHearing w lo hi (.slice A xs.length c) xs) (hl : 3 < xs.length) : RdHearing w lo hi (.slice A 3 c) (xs.take 3) := by
  obtain ⟨rs, rfl, ⟨A', c', e, hc, hA⟩, h3⟩ := h
  rw [List.length_map] at hl e
  injection e with e1 e2 e3
  subst e1 e3
  obtain ⟨b, off, rfl, h4, h5, h6⟩ := hA (by omega)
  exact ⟨rs.take 3, by rw [List.map_take], RdF.take (by omega) hc h4 h5 h6, fun r hr => h3 r (List.mem_of_mem_take hr)⟩

set_option maxRecDepth 100000 in
set_option maxHeartbeats 4000000 in
theorem l21Draw_any (q : Nat) (w : World) (h : Src w q) :
    Calls Tryz.prog 22 #[.pointer (some ⟨q, 0, none⟩)] w fun e w' => ∃ (v : Value) (xs : List Hearing) (v2 : Value) (ps : List Slot), e = .returned (.tuple #[v, v2]) ∧ xs.length ≤ 6 ∧ (∀ x ∈ xs, Hearing.by_ 64 x) ∧ ps.length ≤ 120 ∧ RdHearing w' w.heap.size w'.heap.size v xs ∧ RdF Slot.enc 3 w' w.heap.size w'.heap.size v2 ps ∧ Src w' q ∧ Chg q (q + 1) w w' := by
  have hl := h.lt
  go_enter Tryz.func22, Tryz.ntmps22
  go_wp2_with fail
  refine (l19List_any q _ h).mono ?_
  rintro e w1 ⟨v, xs, rfl, hx6, hxb, h1, s1, d1⟩
  have z1 := d1.size
  obtain ⟨A, c, rfl, hcap⟩ : ∃ A c, v = .slice A xs.length c ∧ xs.length ≤ c := by
    obtain ⟨rs, rfl, hR, -⟩ := h1
    obtain ⟨A, c, hv, hc⟩ := hR.form
    exact ⟨A, c, by rw [hv, List.length_map], by rw [List.length_map]; exact hc⟩
  clear h
  by_cases h3 : 3 < xs.length
  · have h3i : (3 : Int) < (xs.length : Int) := by omega
    go_wp2_with fail
    refine (l01Next_any q _ _ s1 (by omega)).mono ?_
    rintro e w2 ⟨r2, rfl, a2, b2, s2, c2⟩
    have h2 := h1.mvChg c2 (by omega)
    have d2 := d1.trans c2
    have z2 := d2.size
    clear c2
    by_cases hp : 0 < r2
    · have h8 := h2.head3 h3
      clear h2
      go_wp2_with fail
      refine (l01Next_any q _ _ s2 (by omega)).mono ?_
      rintro e w5 ⟨r5, rfl, a5, b5, s5, c5⟩
      have h5 := h8.mvChg c5 (by omega)
      have d5 := d2.trans c5
      have z5 := d5.size
      clear c5
      go_wp2_with fail
      refine (l01Next_any q _ _ s5 (by omega)).mono ?_
      rintro e w6 ⟨r6, rfl, a6, b6, s6, c6⟩
      have h6 := h5.mvChg c6 (by omega)
      have d6 := d5.trans c6
      have z6 := d6.size
      clear c6
      by_cases y0 : r6 = 0
      · subst y0
        go_wp2_with fail
        refine (l01Next_any q _ _ s6 (by omega)).mono ?_
        rintro e w7 ⟨r7, rfl, a7, b7, s7, c7⟩
        have h7 := h6.mvChg c7 (by omega)
        have d7 := d6.trans c7
        have z7 := d7.size
        clear c7
        go_wp2_with fail
        refine (l19Slots_any q _ _ s7 (by omega) (by omega)).mono ?_
        rintro e w9 ⟨v9, ps, rfl, hp9, hq9, s9, c9⟩
        have z9 := c9.size
        have h9 := h7.mvChg c9 (by omega)
        go_wp2_with fail
        go_ret2
        exact ⟨_, xs.take 3, _, ps, rfl, by rw [List.length_take]; omega, fun x hx => hxb x (List.mem_of_mem_take hx), hp9, h9, hq9.wide (by omega) (Nat.le_refl _), s9, d7.trans c9⟩
      · have y0b : (r6 == (0 : Int)) = false := by simpa using y0
        go_wp2_with fail
        refine (l19Slots_any q _ _ s6 (by omega) (by omega)).mono ?_
        rintro e w9 ⟨v9, ps, rfl, hp9, hq9, s9, c9⟩
        have z9 := c9.size
        have h9 := h6.mvChg c9 (by omega)
        go_wp2_with fail
        go_ret2
        exact ⟨_, xs.take 3, _, ps, rfl, by rw [List.length_take]; omega, fun x hx => hxb x (List.mem_of_mem_take hx), hp9, h9, hq9.wide (by omega) (Nat.le_refl _), s9, d6.trans c9⟩
    · have hp0 : r2 = 0 := by omega
      subst hp0
      go_wp2_with fail
      refine (l01Next_any q _ _ s2 (by omega)).mono ?_
      rintro e w5 ⟨r5, rfl, a5, b5, s5, c5⟩
      have h5 := h2.mvChg c5 (by omega)
      have d5 := d2.trans c5
      have z5 := d5.size
      clear c5
      go_wp2_with fail
      refine (l01Next_any q _ _ s5 (by omega)).mono ?_
      rintro e w6 ⟨r6, rfl, a6, b6, s6, c6⟩
      have h6 := h5.mvChg c6 (by omega)
      have d6 := d5.trans c6
      have z6 := d6.size
      clear c6
      by_cases y0 : r6 = 0
      · subst y0
        go_wp2_with fail
        refine (l01Next_any q _ _ s6 (by omega)).mono ?_
        rintro e w7 ⟨r7, rfl, a7, b7, s7, c7⟩
        have h7 := h6.mvChg c7 (by omega)
        have d7 := d6.trans c7
        have z7 := d7.size
        clear c7
        go_wp2_with fail
        refine (l19Slots_any q _ _ s7 (by omega) (by omega)).mono ?_
        rintro e w9 ⟨v9, ps, rfl, hp9, hq9, s9, c9⟩
        have z9 := c9.size
        have h9 := h7.mvChg c9 (by omega)
        go_wp2_with fail
        go_ret2
        exact ⟨_, xs, _, ps, rfl, hx6, hxb, hp9, h9, hq9.wide (by omega) (Nat.le_refl _), s9, d7.trans c9⟩
      · have y0b : (r6 == (0 : Int)) = false := by simpa using y0
        go_wp2_with fail
        refine (l19Slots_any q _ _ s6 (by omega) (by omega)).mono ?_
        rintro e w9 ⟨v9, ps, rfl, hp9, hq9, s9, c9⟩
        have z9 := c9.size
        have h9 := h6.mvChg c9 (by omega)
        go_wp2_with fail
        go_ret2
        exact ⟨_, xs, _, ps, rfl, hx6, hxb, hp9, h9, hq9.wide (by omega) (Nat.le_refl _), s9, d6.trans c9⟩
  · have h3i : ¬ (3 : Int) < (xs.length : Int) := by omega
    go_wp2_with fail
    refine (l01Next_any q _ _ s1 (by omega)).mono ?_
    rintro e w5 ⟨r5, rfl, a5, b5, s5, c5⟩
    have h5 := h1.mvChg c5 (by omega)
    have d5 := d1.trans c5
    have z5 := d5.size
    clear c5
    go_wp2_with fail
    refine (l01Next_any q _ _ s5 (by omega)).mono ?_
    rintro e w6 ⟨r6, rfl, a6, b6, s6, c6⟩
    have h6 := h5.mvChg c6 (by omega)
    have d6 := d5.trans c6
    have z6 := d6.size
    clear c6
    by_cases y0 : r6 = 0
    · subst y0
      go_wp2_with fail
      refine (l01Next_any q _ _ s6 (by omega)).mono ?_
      rintro e w7 ⟨r7, rfl, a7, b7, s7, c7⟩
      have h7 := h6.mvChg c7 (by omega)
      have d7 := d6.trans c7
      have z7 := d7.size
      clear c7
      go_wp2_with fail
      refine (l19Slots_any q _ _ s7 (by omega) (by omega)).mono ?_
      rintro e w9 ⟨v9, ps, rfl, hp9, hq9, s9, c9⟩
      have z9 := c9.size
      have h9 := h7.mvChg c9 (by omega)
      go_wp2_with fail
      go_ret2
      exact ⟨_, xs, _, ps, rfl, hx6, hxb, hp9, h9, hq9.wide (by omega) (Nat.le_refl _), s9, d7.trans c9⟩
    · have y0b : (r6 == (0 : Int)) = false := by simpa using y0
      go_wp2_with fail
      refine (l19Slots_any q _ _ s6 (by omega) (by omega)).mono ?_
      rintro e w9 ⟨v9, ps, rfl, hp9, hq9, s9, c9⟩
      have z9 := c9.size
      have h9 := h6.mvChg c9 (by omega)
      go_wp2_with fail
      go_ret2
      exact ⟨_, xs, _, ps, rfl, hx6, hxb, hp9, h9, hq9.wide (by omega) (Nat.le_refl _), s9, d6.trans c9⟩
end Go.Proofs.YtmgdkblleljdaaaGreat
