/- Draws for FittingChoices. -/
import Derived.Test.YtdcfenkkgnnbbaaDrawCal
namespace Go.Proofs.Ytdcfenkkgnnbbaa
open Go.RowKit
set_option linter.unusedVariables false

set_option maxRecDepth 100000 in
set_option maxHeartbeats 4000000 in
theorem drawFitting_any (v : Value) (bs : List Int) (lo hi : Nat) (w : World) (h : RdF encByte 1 w lo hi v bs) (hh : hi ≤ w.heap.size) (hm : bs.length ≤ 4096) (hb : ∀ x ∈ bs, 0 ≤ x ∧ x ≤ 255) :
    Calls Try.prog 66 #[v] w fun e w' => ∃ (v1 : Value) (xs : List Hearing) (v2 : Value) (ps : List Slot) (i : Int), e = .returned (.tuple #[v1, v2, .int .i64 i]) ∧ xs.length ≤ 6 ∧ (∀ x ∈ xs, Hearing.by_ 64 x) ∧ ps.length ≤ 120 ∧ -1 ≤ i ∧ i ≤ xs.length ∧ RdHearing w' w.heap.size w'.heap.size v1 xs ∧ RdF Slot.enc 3 w' w.heap.size w'.heap.size v2 ps ∧ Below w.heap.size w w' := by
  go_enter Try.func66, Try.ntmps66
  go_wp2_with fail
  refine (l01From_any _ bs lo hi _ h hh hm hb).mono ?_
  rintro e w1 ⟨q, rfl, hq, s1, b1⟩
  have z1 := b1.size
  have hq1 := s1.lt
  go_wp2_with fail
  refine (l21Draw_any q _ s1).mono ?_
  rintro e w2 ⟨v1, xs, v2, ps, rfl, hx6, hxb, hp9, h2, p2, s2, c2⟩
  have z2 := c2.size
  obtain ⟨A, c, rfl, hcap⟩ : ∃ A c, v1 = .slice A xs.length c ∧ xs.length ≤ c := by
    obtain ⟨rs, rfl, hR, -⟩ := h2
    obtain ⟨A, c, hv, hc⟩ := hR.form
    exact ⟨A, c, by rw [hv, List.length_map], by rw [List.length_map]; exact hc⟩
  have b2 := b1.trans (c2.below hq z1)
  clear c2 b1 s1 h
  go_wp2_with fail
  refine (l01Next_any q _ _ s2 (by omega)).mono ?_
  rintro e w3 ⟨r3, rfl, a3, a4, s3, c3⟩
  have z3 := c3.size
  have h3 := h2.mvChg c3 (by omega)
  have p3 := (p2.chg c3 (Nat.le_refl _) (.inr (by omega))).wide (Nat.le_refl _) z3
  have b3 := b2.trans (c3.below hq (by omega))
  clear c3 b2 s2 h2 p2
  go_wp2_with fail
  refine (l01Next_any q _ _ s3 (by omega)).mono ?_
  rintro e w4 ⟨r4, rfl, a5, a6, s4, c4⟩
  have z4 := c4.size
  have h4 := h3.mvChg c4 (by omega)
  have p4 := (p3.chg c4 (Nat.le_refl _) (.inr (by omega))).wide (Nat.le_refl _) z4
  have b4 := b3.trans (c4.below hq (by omega))
  clear c4 b3 s3 h3 p3
  go_wp2_with fail
  go_ret3
  exact ⟨_, xs, v2, ps, r3 - r4 / 23, rfl, hx6, hxb, hp9, by omega, by omega, h4.wide z1 (Nat.le_refl _), p4.wide z1 (Nat.le_refl _), b4⟩
end Go.Proofs.Ytdcfenkkgnnbbaa
