/- Draws of hearings: lists. Written by a program (gen_drawhl.py). -/
import Derived.Test.YtmgdkblleljdaaaGreatDrawHg
namespace Go.Proofs.YtmgdkblleljdaaaGreat
open Go.RowKit
set_option linter.unusedVariables false

set_option maxRecDepth 100000 in
set_option maxHeartbeats 4000000 in
theorem l19List_any (q : Nat) (w : World) (h : Src w q) :
    Calls Tryz.prog 44 #[.pointer (some ⟨q, 0, none⟩)] w fun e w' => ∃ (v : Value) (xs : List Hearing), e = .returned v ∧ xs.length ≤ 6 ∧ (∀ x ∈ xs, Hearing.by_ 64 x) ∧ RdHearing w' w.heap.size w'.heap.size v xs ∧ Src w' q ∧ Chg q (q + 1) w w' := by
  have hl := h.lt
  go_enter Tryz.func44, Tryz.ntmps44
  go_wp2_with fail
  refine (l01Next_any q _ _ ((h.alloc _).alloc _) (by omega)).mono ?_
  rintro e w1 ⟨r1, rfl, a1, a2, s1, c1⟩
  have o1 := (OwnL.emptyAt (enc := HearingR.enc) (sz := 4) (t := 56) (w := w.alloc (.cells #[.string ⟨#[97, 114, 115, 111, 110]⟩, .string ⟨#[98, 97, 105, 108]⟩, .string ⟨#[99, 117, 115, 116, 111, 100, 121]⟩, .string ⟨#[100, 101, 98, 116]⟩, .string ⟨#[101, 115, 116, 97, 116, 101]⟩, .string ⟨#[102, 114, 97, 117, 100]⟩] 9)) (base := w.heap.size) (n := w.heap.size + 1) (by simp) (by simp)).chg c1 (by omega)
  have n1 := ((Blk.newAt (w := w) (n := w.heap.size) (t := 9) (cs := #[.string ⟨#[97, 114, 115, 111, 110]⟩, .string ⟨#[98, 97, 105, 108]⟩, .string ⟨#[99, 117, 115, 116, 111, 100, 121]⟩, .string ⟨#[100, 101, 98, 116]⟩, .string ⟨#[101, 115, 116, 97, 116, 101]⟩, .string ⟨#[102, 114, 97, 117, 100]⟩]) rfl).alloc (.cells #[] 56)).chg c1 (by simp; omega) (.inr (by omega))
  have d1 := (((Chg.refl q (q + 1) w).allocd (.cells #[.string ⟨#[97, 114, 115, 111, 110]⟩, .string ⟨#[98, 97, 105, 108]⟩, .string ⟨#[99, 117, 115, 116, 111, 100, 121]⟩, .string ⟨#[100, 101, 98, 116]⟩, .string ⟨#[101, 115, 116, 97, 116, 101]⟩, .string ⟨#[102, 114, 97, 117, 100]⟩] 9)).allocd (.cells #[] 56)).trans c1
  clear c1 h
  go_wp2_with fail
  refine (l01Next_any q _ _ s1 (by omega)).mono ?_
  rintro e w2 ⟨r2, rfl, a3, a4, s2, c2⟩
  have o2 := o1.chg c2 (by omega)
  have n2 := n1.chg c2 n1.lt (.inr (by omega))
  have d2 := d1.trans c2
  clear o1 n1 d1 s1 c2
  by_cases h0 : r2 = 0
  · subst h0
    go_wp2_with fail
    go_loopw [4, 6] (fun u i wr => ∃ (k : Nat) (rs : List HearingR), (k : Int) ≤ 6 ∧ i = .int .i64 k ∧ rs.length = k ∧ (∀ r ∈ rs, Hearing.by_ 64 r.h) ∧ OwnL HearingR.enc 4 56 wr w.heap.size u rs ∧ (∀ r ∈ rs, RdW encStr 1 9 wr w.heap.size wr.heap.size r.p0 r.h.people) ∧ Blk wr w.heap.size 9 #[.string ⟨#[97, 114, 115, 111, 110]⟩, .string ⟨#[98, 97, 105, 108]⟩, .string ⟨#[99, 117, 115, 116, 111, 100, 121]⟩, .string ⟨#[100, 101, 98, 116]⟩, .string ⟨#[101, 115, 116, 97, 116, 101]⟩, .string ⟨#[102, 114, 97, 117, 100]⟩] ∧ Src wr q ∧ Chg q (q + 1) w wr) (fun _ i _ => (6 : Int).toNat - (intOf i).toNat)
    case atStart => exact ⟨0, [], by omega, rfl, rfl, fun r hr => by simp at hr, o2, fun r hr => by simp at hr, n2, s2, d2⟩
    case round =>
      obtain ⟨k, rs, hk, rfl, hrs, HS, hown, HP, hn, hs, hc⟩ := hrel
      clear o2 n2 s2 d2
      have z0 := hc.size
      have zn := hn.lt
      by_cases hlt : (k : Int) < 6
      · have hk6 : (k : Int) < 6 := by omega
        obtain ⟨y, hy, x1⟩ : ∃ y : ByteArray, y.size ≤ 64 ∧ wr.cell? ⟨w.heap.size, k, none⟩ = some (.string y) := by
          rcases (by omega : k = 0 ∨ k = 1 ∨ k = 2 ∨ k = 3 ∨ k = 4 ∨ k = 5) with rfl | rfl | rfl | rfl | rfl | rfl <;> exact ⟨_, by decide, hn.cell _⟩
        go_wp2_with fail
        refine (l19Hearing_any q y _ hs hy).mono ?_
        rintro e w4 ⟨x, p, rfl, hx, hp, s4, c4⟩
        have z4 := c4.size
        have o4 := hown.chg c4 (by omega)
        have n4 := hn.chg c4 zn (.inr (by omega))
        have d4 := hc.trans c4
        have P4 := Lib.hid (fun r hr => ((HP r hr).chg c4 (Nat.le_refl _) (.inr (by omega))).wide (Nat.le_refl _) z4)
        have hp4 := hp.wide z0 (Nat.le_refl _)
        have HX := Lib.hid hx
        have HS' := Lib.hid HS
        obtain ⟨A9, C9, rfl, hc9⟩ := hp.rd.form
        clear hown hn hc HP hs c4 x1 hx HS hp
        go_wp2_with (at_builtin; refine wpList_push (enc := HearingR.enc) _ _ (by first | rfl | simp) rfl (.tmp 19) (.tmp 26) 24 rfl w.heap.size 56 _ (.agg #[.string ByteArray.empty, .int .i64 0, .slice none 0 0, .int .i64 0]) 4 56 Tryz.underlying24 (by kernel_rfl) rfl (by omega) _ rs ⟨x, .slice A9 x.people.length C9⟩ _ rfl rfl (by intro u hu; simp [HearingR.enc] at hu; rcases hu with rfl | rfl | rfl | rfl <;> rfl) rfl rfl o4 (by omega) (by omega) (by omega) ?_; intro v9 w9 hown9 hg9 hk9)
        go_roundw
        case rel =>
          have b9 := hk9 _ _ (Nat.le_refl _) (Below.refl _ w4)
          have z9 := b9.size
          refine ⟨k + 1, _, by omega, by go_num, by simp [hrs], fun r hr => ?_, hown9, fun r hr => ?_, Blk.grown hg9 n4 (own_ne o4 n4 (by decide)), s4.below b9 hl, d4.step b9⟩
          · rcases List.mem_append.1 hr with h | h
            · exact HS'.out r h
            · simp at h
              subst h
              exact HX.out
          · rcases List.mem_append.1 hr with h | h
            · exact ((P4.out r h).grown o4 hg9 (by decide)).wide (Nat.le_refl _) z9
            · simp at h
              subst h
              exact (hp4.grown o4 hg9 (by decide)).wide (Nat.le_refl _) z9
        case measure => simp [intOf]; omega
      · go_wp2_with fail
        go_ret
        exact ⟨_, rfl, rs.map HearingR.h, by simp; omega, fun x hx => by
          obtain ⟨r, hr, rfl⟩ := List.mem_map.1 hx
          exact HS r hr, ⟨rs, rfl, (hown.rdw (fun _ => rfl)).rd, fun r hr => (HP r hr).rd⟩, hs, hc⟩
  · have h0b : (r2 == (0 : Int)) = false := by simpa using h0
    go_wp2_with fail
    go_loopw [4, 6] (fun u i wr => ∃ (k : Nat) (rs : List HearingR), (k : Int) ≤ r1 ∧ i = .int .i64 k ∧ rs.length = k ∧ (∀ r ∈ rs, Hearing.by_ 64 r.h) ∧ OwnL HearingR.enc 4 56 wr w.heap.size u rs ∧ (∀ r ∈ rs, RdW encStr 1 9 wr w.heap.size wr.heap.size r.p0 r.h.people) ∧ Blk wr w.heap.size 9 #[.string ⟨#[97, 114, 115, 111, 110]⟩, .string ⟨#[98, 97, 105, 108]⟩, .string ⟨#[99, 117, 115, 116, 111, 100, 121]⟩, .string ⟨#[100, 101, 98, 116]⟩, .string ⟨#[101, 115, 116, 97, 116, 101]⟩, .string ⟨#[102, 114, 97, 117, 100]⟩] ∧ Src wr q ∧ Chg q (q + 1) w wr) (fun _ i _ => (r1 : Int).toNat - (intOf i).toNat)
    case atStart => exact ⟨0, [], by omega, rfl, rfl, fun r hr => by simp at hr, o2, fun r hr => by simp at hr, n2, s2, d2⟩
    case round =>
      obtain ⟨k, rs, hk, rfl, hrs, HS, hown, HP, hn, hs, hc⟩ := hrel
      clear o2 n2 s2 d2
      have z0 := hc.size
      have zn := hn.lt
      by_cases hlt : (k : Int) < r1
      · have hk6 : (k : Int) < 6 := by omega
        obtain ⟨y, hy, x1⟩ : ∃ y : ByteArray, y.size ≤ 64 ∧ wr.cell? ⟨w.heap.size, k, none⟩ = some (.string y) := by
          rcases (by omega : k = 0 ∨ k = 1 ∨ k = 2 ∨ k = 3 ∨ k = 4 ∨ k = 5) with rfl | rfl | rfl | rfl | rfl | rfl <;> exact ⟨_, by decide, hn.cell _⟩
        go_wp2_with fail
        refine (l19Hearing_any q y _ hs hy).mono ?_
        rintro e w4 ⟨x, p, rfl, hx, hp, s4, c4⟩
        have z4 := c4.size
        have o4 := hown.chg c4 (by omega)
        have n4 := hn.chg c4 zn (.inr (by omega))
        have d4 := hc.trans c4
        have P4 := Lib.hid (fun r hr => ((HP r hr).chg c4 (Nat.le_refl _) (.inr (by omega))).wide (Nat.le_refl _) z4)
        have hp4 := hp.wide z0 (Nat.le_refl _)
        have HX := Lib.hid hx
        have HS' := Lib.hid HS
        obtain ⟨A9, C9, rfl, hc9⟩ := hp.rd.form
        clear hown hn hc HP hs c4 x1 hx HS hp
        go_wp2_with (at_builtin; refine wpList_push (enc := HearingR.enc) _ _ (by first | rfl | simp) rfl (.tmp 19) (.tmp 26) 24 rfl w.heap.size 56 _ (.agg #[.string ByteArray.empty, .int .i64 0, .slice none 0 0, .int .i64 0]) 4 56 Tryz.underlying24 (by kernel_rfl) rfl (by omega) _ rs ⟨x, .slice A9 x.people.length C9⟩ _ rfl rfl (by intro u hu; simp [HearingR.enc] at hu; rcases hu with rfl | rfl | rfl | rfl <;> rfl) rfl rfl o4 (by omega) (by omega) (by omega) ?_; intro v9 w9 hown9 hg9 hk9)
        go_roundw
        case rel =>
          have b9 := hk9 _ _ (Nat.le_refl _) (Below.refl _ w4)
          have z9 := b9.size
          refine ⟨k + 1, _, by omega, by go_num, by simp [hrs], fun r hr => ?_, hown9, fun r hr => ?_, Blk.grown hg9 n4 (own_ne o4 n4 (by decide)), s4.below b9 hl, d4.step b9⟩
          · rcases List.mem_append.1 hr with h | h
            · exact HS'.out r h
            · simp at h
              subst h
              exact HX.out
          · rcases List.mem_append.1 hr with h | h
            · exact ((P4.out r h).grown o4 hg9 (by decide)).wide (Nat.le_refl _) z9
            · simp at h
              subst h
              exact (hp4.grown o4 hg9 (by decide)).wide (Nat.le_refl _) z9
        case measure => simp [intOf]; omega
      · go_wp2_with fail
        go_ret
        exact ⟨_, rfl, rs.map HearingR.h, by simp; omega, fun x hx => by
          obtain ⟨r, hr, rfl⟩ := List.mem_map.1 hx
          exact HS r hr, ⟨rs, rfl, (hown.rdw (fun _ => rfl)).rd, fun r hr => (HP r hr).rd⟩, hs, hc⟩
end Go.Proofs.YtmgdkblleljdaaaGreat
