/- Draws of slots. -/
import Derived.Test.YtmgdkblleljdaaaGreatSrcL
import Derived.Test.YtmgdkblleljdaaaGreatSlotH
namespace Go.Proofs.YtmgdkblleljdaaaGreat
open Go.RowKit
set_option linter.unusedVariables false

theorem Slot.one (s : Slot) : ∀ u ∈ Slot.enc s, u.oneCell' = true := by
  intro u hu
  simp [Slot.enc] at hu
  rcases hu with rfl | rfl | rfl <;> rfl
theorem zeroSlots {w : World} {n g : Nat} (hg : g = w.heap.size) : RdF Slot.enc 3 (w.alloc (.cells (madeCells #[.int .i64 0, .int .i64 0, .int .i64 0] (n * 3)) 70)) g (g + 1) (.slice (some ⟨g, 0, none⟩) n n) (List.replicate n ⟨0, 0, 0⟩) := by
  have := (RdW.of_row (enc := Slot.enc) (sz := 3) (xs := List.replicate n (⟨0, 0, 0⟩ : Slot)) (Blk.newAt (w := w) (t := 70) (cs := madeCells #[.int .i64 0, .int .i64 0, .int .i64 0] (n * 3)) hg) (by simp [size_madeCells]) (fun i x hi hx j u hu => ?_) g (g + 1) (Nat.le_refl _) (Nat.lt_succ_self _)).rd
  · simpa using this
  · have hin : i < n := by simpa using hi
    have hj : j < 3 := by
      have := (List.getElem?_eq_some_iff.1 hu).1
      simpa [Slot.enc] using this
    rw [List.getElem?_replicate, if_pos hin] at hx
    injection hx with hx
    subst hx
    refine madeCells_at _ _ _ (by omega) u ?_
    have e : (i * 3 + j) % 3 = j := by omega
    show (#[Value.int .i64 0, .int .i64 0, .int .i64 0] : Array Value)[(i * 3 + j) % 3]? = some u
    rw [e]
    rcases (by omega : j = 0 ∨ j = 1 ∨ j = 2) with rfl | rfl | rfl <;> simpa [Slot.enc] using hu
set_option maxRecDepth 100000 in
set_option maxHeartbeats 4000000 in
theorem l19SlotsN_any (q : Nat) (n : Int) (w : World) (h : Src w q) (h0 : 0 ≤ n) (hn : n ≤ 100) :
    Calls Tryz.prog 46 #[.pointer (some ⟨q, 0, none⟩), .int .i64 n] w fun e w' => ∃ (v : Value) (ps : List Slot), e = .returned v ∧ ps.length ≤ 120 ∧ (n ≤ 10 → n ≤ ps.length) ∧ RdF Slot.enc 3 w' w.heap.size w'.heap.size v ps ∧ Src w' q ∧ Chg q (q + 1) w w' := by
  have hl := h.lt
  go_enter Tryz.func46, Tryz.ntmps46
  go_wp2_with fail
  go_loopw [5, 6] (fun u i wr => ∃ (k : Nat) (ps : List Slot), (k : Int) ≤ n ∧ i = .int .i64 k ∧ ps.length = k ∧ OwnL Slot.enc 3 70 wr w.heap.size u ps ∧ Src wr q ∧ Chg q (q + 1) w wr) (fun _ i _ => n.toNat - (intOf i).toNat)
  case atStart => exact ⟨0, [], h0, rfl, rfl, OwnL.emptyAt rfl (Nat.le_refl _), h.alloc _, (Chg.refl _ _ _).allocd _⟩
  case round =>
    obtain ⟨k, ps, hk, rfl, hps, hown, hs, hc⟩ := hrel
    have z0 := hc.size
    by_cases hlt : (k : Int) < n
    · go_wp2_with fail
      refine (l01Next_any q _ _ hs (by omega)).mono ?_
      rintro e w1 ⟨r1, rfl, a1, a2, s1, c1⟩
      have o1 := hown.chg c1 (by omega)
      have d1 := hc.trans c1
      clear hown hc hs c1
      go_wp2_with fail
      refine (l01Next_any q _ _ s1 (by omega)).mono ?_
      rintro e w2 ⟨r2, rfl, a3, a4, s2, c2⟩
      have o2 := o1.chg c2 (by omega)
      have d2 := d1.trans c2
      clear o1 d1 s1 c2
      go_wp2_with fail
      refine (l01Next_any q _ _ s2 (by omega)).mono ?_
      rintro e w3 ⟨r3, rfl, a5, a6, s3, c3⟩
      have o3 := o2.chg c3 (by omega)
      have d3 := d2.trans c3
      clear o2 d2 s2 c3
      have z3 := d3.size
      go_wp2_with fail
      refine (l01Pick_any q _ [0, 8, 16, 24, r3] _ _ _ (s3.alloc _) (rdInts [0, 8, 16, 24, r3] rfl rfl) (by simp) (.inr (by omega)) (by simp) (by simp)).mono ?_
      rintro e w4 ⟨r4, rfl, hr4, s4, c4⟩
      have o4 := (o3.alloc (.cells #[.int .i64 0, .int .i64 8, .int .i64 16, .int .i64 24, .int .i64 r3] 2)).chg c4 (by omega)
      have d4 := (d3.allocd (.cells #[.int .i64 0, .int .i64 8, .int .i64 16, .int .i64 24, .int .i64 r3] 2)).trans c4
      clear o3 d3 s3 c4
      have z4 := d4.size
      have hb4 : 0 ≤ r4 ∧ r4 ≤ 29 := by
        simp at hr4
        omega
      clear hr4
      go_wp2_with (at_builtin; refine wpList_push (enc := Slot.enc) _ _ (by first | rfl | simp) rfl (.tmp 13) (.tmp 25) 25 rfl w.heap.size 70 _ (.agg #[.int .i64 0, .int .i64 0, .int .i64 0]) 3 24 Tryz.underlying25 (by kernel_rfl) rfl (by omega) _ ps ⟨r1, 139 + r2, r4⟩ _ rfl rfl (Slot.one _) rfl rfl o4 (by omega) (by omega) (by (first | omega | (simp; omega) | (simp; done))) ?_; intro v9 w9 hown9 hg9 hk9)
      go_roundw
      case rel =>
        have b9 := hk9 _ _ (Nat.le_refl _) (Below.refl _ w4)
        exact ⟨k + 1, _, by omega, by go_num, by simp [hps], hown9, s4.below b9 hl, d4.step b9⟩
      case measure => simp [intOf]; omega
    · go_wp2_with fail
      refine (l01Next_any q _ _ hs (by omega)).mono ?_
      rintro e w1 ⟨r1, rfl, a1, a2, s1, c1⟩
      have o1 := hown.chg c1 (by omega)
      have d1 := hc.trans c1
      have z1 := d1.size
      clear hown hc hs c1
      by_cases hr0 : r1 = 0
      · subst hr0
        go_wp2_with fail
        refine (l01Pick_any q _ [-1, 5, 6] _ _ _ (s1.alloc _) (rdInts [-1, 5, 6] rfl rfl) (by simp) (.inr (by omega)) (by simp) (by simp)).mono ?_
        rintro e w4 ⟨r4, rfl, hr4, s4, c4⟩
        have o4 := (o1.alloc (.cells #[.int .i64 (-1), .int .i64 5, .int .i64 6] 2)).chg c4 (by omega)
        have d4 := (d1.allocd (.cells #[.int .i64 (-1), .int .i64 5, .int .i64 6] 2)).trans c4
        clear o1 d1 s1 c4
        have z4 := d4.size
        have hb4 : -1 ≤ r4 ∧ r4 ≤ 6 := by
          simp at hr4
          omega
        clear hr4
        go_wp2_with (at_builtin; refine wpList_push (enc := Slot.enc) _ _ (by first | rfl | simp) rfl (.tmp 31) (.tmp 36) 25 rfl w.heap.size 70 _ (.agg #[.int .i64 0, .int .i64 0, .int .i64 0]) 3 24 Tryz.underlying25 (by kernel_rfl) rfl (by omega) _ ps ⟨r4, 140, 0⟩ _ rfl rfl (Slot.one _) rfl rfl o4 (by omega) (by omega) (by (first | omega | (simp; omega) | (simp; done))) ?_; intro v9 w9 hown9 hg9 hk9)
        have b9 := hk9 _ _ (Nat.le_refl _) (Below.refl _ w4)
        try go_wp2_with fail
        go_ret
        exact ⟨_, _, rfl, by simp; omega, fun _ => by simp; omega, (hown9.rdw (fun _ => rfl)).rd, s4.below b9 hl, d4.step b9⟩
      · by_cases hr1 : r1 = 1
        · subst hr1
          go_wp2_with fail
          refine (l01Next_any q _ _ s1 (by omega)).mono ?_
          rintro e w2 ⟨r2, rfl, a3, a4, s2, c2⟩
          have d2 := d1.trans c2
          have z2 := d2.size
          clear o1 d1 s1 c2
          obtain ⟨m, hm, hm2⟩ : ∃ m : Nat, (10 : Int) + r2 = (m : Int) ∧ m ≤ 11 := ⟨10 + r2.toNat, by omega, by omega⟩
          have hmk := mkRowZ (P := Tryz.prog) 25 70 Tryz.underlying25 (.agg #[.int .i64 0, .int .i64 0, .int .i64 0]) 3 24 (by kernel_rfl) m (by omega) (by omega)
          go_wp2_with fail
          go_ret
          exact ⟨_, _, rfl, by simp; omega, fun _ => by simp; omega, (zeroSlots (n := m) rfl).wide z2 (by simp), s2.alloc _, d2.allocd _⟩
        · go_wp2_with fail
          go_ret
          exact ⟨_, _, rfl, by omega, fun _ => by omega, (o1.rdw (fun _ => rfl)).rd, s1, d1⟩
theorem l19Slots_any (q : Nat) (n : Int) (w : World) (h : Src w q) (h0 : 0 ≤ n) (hn : n ≤ 100) :
    Calls Tryz.prog 46 #[.pointer (some ⟨q, 0, none⟩), .int .i64 n] w fun e w' => ∃ (v : Value) (ps : List Slot), e = .returned v ∧ ps.length ≤ 120 ∧ RdF Slot.enc 3 w' w.heap.size w'.heap.size v ps ∧ Src w' q ∧ Chg q (q + 1) w w' :=
  (l19SlotsN_any q n w h h0 hn).mono (by
    rintro e w' ⟨v, ps, h1, h2, -, h3⟩
    exact ⟨v, ps, h1, h2, h3⟩)
end Go.Proofs.YtmgdkblleljdaaaGreat
