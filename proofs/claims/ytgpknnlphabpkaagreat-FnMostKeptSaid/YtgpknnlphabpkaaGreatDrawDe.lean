/- Draws of demands. Written by a program (gen_drawde.py). -/
import Derived.Test.YtgpknnlphabpkaaGreatDrawCal
import Derived.Test.YtgpknnlphabpkaaGreatDemandW
import Derived.Test.YtgpknnlphabpkaaGreatDemandA
import Derived.Test.YtgpknnlphabpkaaGreatSmallW
import Derived.Deep.RegionHeld3
import Derived.Deep.Cut
import Derived.Deep.DeepCutAuto
namespace Go.Proofs.YtgpknnlphabpkaaGreat
open Go.RowKit
set_option linter.unusedVariables false

def sliceLen : Value → Nat
  | .slice _ n _ => n
  | _ => 0

set_option maxRecDepth 100000 in
set_option maxHeartbeats 8000000 in
theorem l22Draw_any (q : Nat) (w : World) (h : Src w q) :
    Calls Tryz.prog 50 #[.pointer (some ⟨q, 0, none⟩)] w fun e w' => ∃ (v1 : Value) (xs : List Hearing) (v2 : Value) (ps : List Slot) (v3 : Value) (ds : List Demand), e = .returned (.tuple #[v1, v2, v3]) ∧ xs.length ≤ 6 ∧ (∀ x ∈ xs, Hearing.by_ 64 x) ∧ ps.length ≤ 120 ∧ ds.length ≤ 20 ∧ RdHearing w' w.heap.size w'.heap.size v1 xs ∧ RdF Slot.enc 3 w' w.heap.size w'.heap.size v2 ps ∧ RdF Demand.enc 3 w' w.heap.size w'.heap.size v3 ds ∧ Src w' q ∧ Chg q (q + 1) w w' := by
  have hl := h.lt
  have s := h
  clear h
  have d : Chg q (q + 1) w w := Chg.refl _ _ _
  go_enter Tryz.func50, Tryz.ntmps50
  go_wp2_with fail
  refine (l21Draw_any q _ s).mono ?_
  rintro e w1 ⟨v1, xs0, v2, ps, rfl, hx6, hxb0, hp9, h1, h2, s', c1⟩
  clear s
  have s := s'
  clear s'
  have zc1 := c1.size
  replace d := d.trans c1
  clear c1
  obtain ⟨A1, c1, rfl, hcap1⟩ : ∃ A c, v1 = .slice A xs0.length c ∧ xs0.length ≤ c := by
    obtain ⟨rs, rfl, hR, -⟩ := h1
    obtain ⟨A, c, hv, hc⟩ := hR.form
    exact ⟨A, c, by rw [hv, List.length_map], by rw [List.length_map]; exact hc⟩
  obtain ⟨A2, c2, rfl, hcap2⟩ := h2.form
  have HX0 := Lib.hid hxb0
  clear hxb0
  by_cases h3 : 3 < xs0.length
  · have h3i : (3 : Int) < (xs0.length : Int) := by omega
    replace h1 := h1.head3 h3
    have hlen : (xs0.take 3).length = 3 := by rw [List.length_take]; omega
    have HX := Lib.hid (show ∀ x ∈ xs0.take 3, Hearing.by_ 64 x from fun x hx => HX0.out x (List.mem_of_mem_take hx))
    generalize xs0.take 3 = xs at *
    have hx6' : xs.length ≤ 6 := by omega
    clear hx6
    have hx6 := hx6'
    clear hx6'
    have HS := Lib.hid (show ∀ x ∈ xs, Hearing.small x from fun x hx => Hearing.small_of (HX.out x hx) (by omega))
    have HLN := Lib.hid hlen
    clear hlen
    go_upto_region 5 with fail
    have ho : OwnL Demand.enc 3 83 (w1.alloc (.cells #[] 83)) w1.heap.size (.slice (some ⟨w1.heap.size, 0, none⟩) 0 0) ([] : List Demand) := OwnL.emptyAt rfl (Nat.le_refl _)
    have b2 : Below w1.heap.size w1 (w1.alloc (.cells #[] 83)) := (Below.refl _ _).alloc (Nat.le_refl _) _
    have zz2 : (w1.alloc (.cells #[] 83)).heap.size = w1.heap.size + 1 := by simp
    have zb2 := b2.size
    replace s := s.below b2 (by omega)
    replace d := d.step (b2.mono (by omega))
    replace h1 := h1.below b2 (by omega)
    replace h2 := h2.below b2 (by omega)
    clear b2
    generalize (w1.alloc (.cells #[] 83)) = w2 at *
    go_cut [8, 9] (fun s8 s9 wx => ∃ n m : Int, s8 = .int .i64 n ∧ s9 = .int .i64 m ∧ 1 ≤ n ∧ n ≤ 200 ∧ 1 ≤ m ∧ m ≤ 200 ∧ wx = w2)
    case first =>
      go_wp2_with fail
      all_goals (go_meet; exact ⟨_, _, rfl, rfl, by omega, by omega, by omega, by omega, rfl⟩)
    case rest =>
      obtain ⟨n, m, rfl, rfl, hn0, hn1, hm0, hm1, hwc⟩ := hcut
      subst hwc
      go_wp2_with fail
      refine (l01Next_any q 7 _ s (by omega)).mono ?_
      rintro e w3 ⟨r3, rfl, a3, a3', s', c3⟩
      clear s
      have s := s'
      clear s'
      have zc3 := c3.size
      replace d := d.trans c3
      replace h1 := h1.chg c3 (by omega) (by omega)
      replace h2 := h2.chg c3 (by omega) (by omega)
      replace ho := ho.chg c3 (by omega)
      clear c3
      go_wp2_with fail
      go_loopw [7, 10, 11, 12] (fun u k _ _ wr => ∃ (j : Nat) (ds : List Demand), k = .int .i64 j ∧ ds.length + j ≤ 6 ∧ OwnL Demand.enc 3 83 wr w1.heap.size u ds ∧ Src wr q ∧ RdHearing wr w.heap.size w1.heap.size (.slice A1 3 c1) xs ∧ RdF Slot.enc 3 wr w.heap.size w1.heap.size (.slice A2 ps.length c2) ps ∧ Chg q (q + 1) w wr ∧ w3.heap.size ≤ wr.heap.size) (fun _ k _ _ _ => (intOf k).toNat)
      case atStart => exact ⟨r3.toNat, [], by simp; omega, by simp; omega, ho, s, h1, h2, d, Nat.le_refl _⟩
      case round =>
        clear ho s h1 h2 d
        obtain ⟨j, ds, rfl, hj, ho, s, h1, h2, d, z0⟩ := hrel
        by_cases hlt : 0 < j
        · have hji : (0 : Int) < (j : Int) := by omega
          go_wp2_with fail
          refine (l01Next_any q 4 _ s (by omega)).mono ?_
          rintro e w24 ⟨r24, rfl, a24, a24', s', c24⟩
          clear s
          have s := s'
          clear s'
          have zc24 := c24.size
          replace ho := ho.chg c24 (by omega)
          replace h1 := h1.chg c24 (by omega) (by omega)
          replace h2 := h2.chg c24 (by omega) (by omega)
          replace d := d.trans c24
          clear c24
          go_wp2_with fail
          refine (l01Next_any q n _ s (by omega)).mono ?_
          rintro e w25 ⟨r25, rfl, a25, a25', s', c25⟩
          clear s
          have s := s'
          clear s'
          have zc25 := c25.size
          replace ho := ho.chg c25 (by omega)
          replace h1 := h1.chg c25 (by omega) (by omega)
          replace h2 := h2.chg c25 (by omega) (by omega)
          replace d := d.trans c25
          clear c25
          go_wp2_with fail
          refine (l01Next_any q n _ s (by omega)).mono ?_
          rintro e w26 ⟨r26, rfl, a26, a26', s', c26⟩
          clear s
          have s := s'
          clear s'
          have zc26 := c26.size
          replace ho := ho.chg c26 (by omega)
          replace h1 := h1.chg c26 (by omega) (by omega)
          replace h2 := h2.chg c26 (by omega) (by omega)
          replace d := d.trans c26
          clear c26
          have HOB := Lib.hid (World.ownsRow.lt ho)
          go_upto_region 10 with fail
          have b27 : Below w26.heap.size w26 (w26.alloc (.cells #[.int .i64 r24, .int .i64 r25, .int .i64 r26] 83)) := (Below.refl _ _).alloc (Nat.le_refl _) _
          have zz27 : (w26.alloc (.cells #[.int .i64 r24, .int .i64 r25, .int .i64 r26] 83)).heap.size = w26.heap.size + 1 := by simp
          have kD : Blk (w26.alloc (.cells #[.int .i64 r24, .int .i64 r25, .int .i64 r26] 83)) (w26.heap.size) 83 #[.int .i64 r24, .int .i64 r25, .int .i64 r26] := Blk.newAt rfl
          have zb27 := b27.size
          replace ho := ho.below b27
          replace s := s.below b27 (by omega)
          replace h1 := h1.below b27 (by omega)
          replace h2 := h2.below b27 (by omega)
          replace d := d.step (b27.mono (by omega))
          clear b27
          generalize (w26.alloc (.cells #[.int .i64 r24, .int .i64 r25, .int .i64 r26] 83)) = w27 at *
          by_cases hk1 : r24 = 1
          · have hq1 : (r24 == 1) = true := by simpa using hk1
            clear hk1
            obtain ⟨t0, t1, t2⟩ := kD.c3
            go_wp2_with fail
            refine (l01Next_any q m _ s (by omega)).mono ?_
            rintro e w28 ⟨r28, rfl, a28, a28', s', c28⟩
            clear s t0 t1 t2
            have s := s'
            clear s'
            have zc28 := c28.size
            replace ho := ho.chg c28 (by omega)
            replace h1 := h1.chg c28 (by omega) (by omega)
            replace h2 := h2.chg c28 (by omega) (by omega)
            replace d := d.trans c28
            replace kD := kD.chg c28 (by omega) (by omega)
            clear c28
            obtain ⟨t0, t1, t2⟩ := kD.c3
            have f2 := kD.frozen 2
            go_upto_region 12 with fail
            have cS : Chg w26.heap.size (w26.heap.size + 1) w28 (w28.setCell ⟨w26.heap.size, 2, none⟩ (.int .i64 r28)) := (Chg.refl _ _ _).setCell (p := ⟨w26.heap.size, 2, none⟩) (Nat.le_refl _) (Nat.lt_succ_self _) _
            have kD2 : Blk (w28.setCell ⟨w26.heap.size, 2, none⟩ (.int .i64 r28)) (w26.heap.size) 83 #[.int .i64 r24, .int .i64 r25, .int .i64 r28] := kD.set1 2 _
            have zS := cS.size
            have bS : Below w26.heap.size w28 (w28.setCell ⟨w26.heap.size, 2, none⟩ (.int .i64 r28)) := cS.below (Nat.le_refl _) (by omega)
            clear t0 t1 t2 f2 kD
            have kD := kD2
            clear kD2
            replace ho := ho.setNe (p := ⟨w26.heap.size, 2, none⟩) (fun e => absurd (HOB.out _ e.symm).2 (Nat.lt_irrefl _)) (.int .i64 r28)
            replace s := s.below bS (by omega)
            replace h1 := h1.below bS (by omega)
            replace h2 := h2.below bS (by omega)
            replace d := d.step (bS.mono (by omega))
            clear bS cS
            generalize (w28.setCell ⟨w26.heap.size, 2, none⟩ (.int .i64 r28)) = wS at *
            obtain ⟨t0, t1, t2⟩ := kD.c3
            have zB := kD.lt
            have hr := (ho.rdw (fun _ => rfl)).rd
            have hll : ds.length ≤ 6 := by omega
            obtain ⟨Ao, Co, hvo, hco⟩ := hr.form
            subst hvo
            go_wp2_with fail
            go_region_held3 (fun w' => w'.cell? ⟨w26.heap.size, 0, none⟩ = some (.int .i64 r24) ∧ w'.cell? ⟨w26.heap.size, 1, none⟩ = some (.int .i64 r25) ∧ w'.cell? ⟨w26.heap.size, 2, none⟩ = some (.int .i64 r28)) (go_keep)
              (first
                | (rw [if_pos (by rfl)]; refine wp_app (enc := Demand.enc) _ (.tmp 57) (.tmp 58) _ (by rfl) wS.heap.size 83 (.agg #[.int .i64 0, .int .i64 0, .int .i64 0]) 3 24 Tryz.underlying26 (by kernel_rfl) rfl (by omega) (fun _ => rfl) Demand.one' (by omega) _ _ [] ds _ _ (by rfl) (by rfl) (by first | exact OwnL.empty _ _ (by (first | omega | (simp; omega) | (simp; done))) | exact (OwnL.empty _ _ (by (first | omega | (simp; omega) | (simp; done)))).alloc _ | exact OwnL.emptyAt (w := wS.alloc (.cells #[.int .i64 r24, .int .i64 r25, .int .i64 r28] 83)) (n := wS.heap.size + 1) (by simp) (by (first | omega | (simp; omega) | (simp; done)))) (RdF.below hr (B := wS.heap.size) (by (repeat (first | with_reducible assumption | with_reducible exact Below.refl _ _ | with_reducible refine Below.setCell ?_ ?_ _ | with_reducible refine Below.alloc ?_ ?_ _ | with_reducible refine Below.drew ?_ | with_reducible refine below_drewN ?_ _ | with_reducible refine Below.step (by with_reducible assumption) ?_ ?_ | omega | (simp <;> omega) | (simp; done)))) (by omega)) (by (first | omega | (simp; omega) | (simp; done))) (by (first | omega | (simp; omega) | (simp; done))) ?_; intro v4 w4 hown4 hg4 hk4; have b34 : Below wS.heap.size wS w4 := hk4 _ _ (Nat.le_refl _) (by (repeat (first | with_reducible assumption | with_reducible exact Below.refl _ _ | with_reducible refine Below.setCell ?_ ?_ _ | with_reducible refine Below.alloc ?_ ?_ _ | with_reducible refine Below.drew ?_ | with_reducible refine below_drewN ?_ _ | with_reducible refine Below.step (by with_reducible assumption) ?_ ?_ | omega | (simp <;> omega) | (simp; done)))); obtain ⟨t0, t1, t2⟩ := (kD.below b34 (by omega)).c3; have z4 := b34.size; have hs4 := hg4.size)
                | (rw [if_pos (by rfl)]; refine wp_app (enc := Demand.enc) _ (.tmp 59) (.tmp 61) _ (by rfl) wS.heap.size 83 (.agg #[.int .i64 0, .int .i64 0, .int .i64 0]) 3 24 Tryz.underlying26 (by kernel_rfl) rfl (by omega) (fun _ => rfl) Demand.one' (by omega) _ _ _ [(⟨r24, r25, r28⟩ : Demand)] 0 (w4.heap.size + 1) (by rfl) (by rfl) (by first | exact hown4 | exact hown4.alloc _) (by first | exact RdF.one (enc := Demand.enc) (sz := 3) (x := ⟨r24, r25, r28⟩) (lo := 0) (hi := w4.heap.size + 1) (b := w4.heap.size) (Blk.new w4 83 #[.int .i64 r24, .int .i64 r25, .int .i64 r28]) rfl (Nat.zero_le _) (Nat.lt_succ_self _) | exact RdF.one (enc := Demand.enc) (sz := 3) (x := ⟨r24, r25, r28⟩) (lo := 0) (hi := w4.heap.size + 1) (b := wS.heap.size + 1) (Blk.grown hg4 (Blk.drew (Blk.newAt (w := wS.alloc (.cells #[] 83)) (cs := #[.int .i64 r24, .int .i64 r25, .int .i64 r28]) (by simp))) (fun h => by have h2 : (some (wS.heap.size + 1) : Option Nat) = some wS.heap.size := h; simp at h2)) rfl (Nat.zero_le _) (by simp at hs4; omega) | exact RdF.one (enc := Demand.enc) (sz := 3) (x := ⟨r24, r25, r28⟩) (lo := 0) (hi := w4.heap.size + 1) (b := wS.heap.size) (Blk.grown hg4 (Blk.drew (Blk.alloc (Blk.new wS 83 #[.int .i64 r24, .int .i64 r25, .int .i64 r28]) _)) (fun h => by have h2 : (some wS.heap.size : Option Nat) = some (wS.heap.size + 1) := h; simp at h2)) rfl (Nat.zero_le _) (by simp at hs4; omega)) (by (first | omega | (simp; omega) | (simp; done))) (by (first | omega | (simp; omega) | (simp; done))) ?_; intro v5 w5 hown5 hg5 hk5; have b35 : Below wS.heap.size wS w5 := hk5 _ _ (Nat.le_refl _) (by (repeat (first | with_reducible assumption | with_reducible exact Below.refl _ _ | with_reducible refine Below.setCell ?_ ?_ _ | with_reducible refine Below.alloc ?_ ?_ _ | with_reducible refine Below.drew ?_ | with_reducible refine below_drewN ?_ _ | with_reducible refine Below.step (by with_reducible assumption) ?_ ?_ | omega | (simp <;> omega) | (simp; done)))); obtain ⟨t0, t1, t2⟩ := (kD.below b35 (by omega)).c3))
            all_goals
              have z5 := b35.size
              clear hr t0 t1 t2
              replace ho := ho.below b35
              replace s := s.below b35 (by omega)
              replace h1 := h1.below b35 (by omega)
              replace h2 := h2.below b35 (by omega)
              replace d := d.step (b35.mono (by omega))
              replace kD := kD.below b35 (by omega)
              clear b35 kD
              have hr5 : RdF Demand.enc 3 w5 wS.heap.size w5.heap.size v5 (ds ++ [⟨r24, r25, r28⟩]) := (hown5.rdw (fun _ => rfl)).rd
              go_wp2_with fail
              refine (sAreDemands_any _ xs _ _ _ ps _ _ _ (ds ++ [⟨r24, r25, r28⟩]) _ _ _ h1 (by omega) (by omega) HS.out h2 (by omega) (by omega) hr5 (by omega) (by simp; omega)).mono ?_
              rintro e w29 ⟨rfl, b29⟩
              clear hr5
              have zb29 := b29.size
              replace ho := ho.below b29
              replace s := s.below b29 (by omega)
              replace h1 := h1.below b29 (by omega)
              replace h2 := h2.below b29 (by omega)
              replace d := d.step (b29.mono (by omega))
              replace hown5 := hown5.below b29
              clear b29
              cases hok : areDemands xs ps (ds ++ [⟨r24, r25, r28⟩]) with
              | true =>
                go_wp2_with fail
                go_roundw
                case rel => exact ⟨j - 1, ds ++ [⟨r24, r25, r28⟩], by go_num, by simp; omega, hown5.mono (by omega), s, h1, h2, d, by omega⟩
                case measure => simp [intOf]; omega
              | false =>
                go_wp2_with fail
                go_roundw
                case rel => exact ⟨j - 1, ds, by go_num, by omega, ho, s, h1, h2, d, by omega⟩
                case measure => simp [intOf]; omega
          have hq1 : (r24 == 1) = false := by simpa using hk1
          by_cases hk2 : r24 = 2
          · have hq2 : (r24 == 2) = true := by simpa using hk2
            clear hk1 hk2
            obtain ⟨t0, t1, t2⟩ := kD.c3
            go_wp2_with fail
            refine (l01Next_any q m _ s (by omega)).mono ?_
            rintro e w28 ⟨r28, rfl, a28, a28', s', c28⟩
            clear s t0 t1 t2
            have s := s'
            clear s'
            have zc28 := c28.size
            replace ho := ho.chg c28 (by omega)
            replace h1 := h1.chg c28 (by omega) (by omega)
            replace h2 := h2.chg c28 (by omega) (by omega)
            replace d := d.trans c28
            replace kD := kD.chg c28 (by omega) (by omega)
            clear c28
            obtain ⟨t0, t1, t2⟩ := kD.c3
            have f2 := kD.frozen 2
            go_upto_region 12 with fail
            have cS : Chg w26.heap.size (w26.heap.size + 1) w28 (w28.setCell ⟨w26.heap.size, 2, none⟩ (.int .i64 r28)) := (Chg.refl _ _ _).setCell (p := ⟨w26.heap.size, 2, none⟩) (Nat.le_refl _) (Nat.lt_succ_self _) _
            have kD2 : Blk (w28.setCell ⟨w26.heap.size, 2, none⟩ (.int .i64 r28)) (w26.heap.size) 83 #[.int .i64 r24, .int .i64 r25, .int .i64 r28] := kD.set1 2 _
            have zS := cS.size
            have bS : Below w26.heap.size w28 (w28.setCell ⟨w26.heap.size, 2, none⟩ (.int .i64 r28)) := cS.below (Nat.le_refl _) (by omega)
            clear t0 t1 t2 f2 kD
            have kD := kD2
            clear kD2
            replace ho := ho.setNe (p := ⟨w26.heap.size, 2, none⟩) (fun e => absurd (HOB.out _ e.symm).2 (Nat.lt_irrefl _)) (.int .i64 r28)
            replace s := s.below bS (by omega)
            replace h1 := h1.below bS (by omega)
            replace h2 := h2.below bS (by omega)
            replace d := d.step (bS.mono (by omega))
            clear bS cS
            generalize (w28.setCell ⟨w26.heap.size, 2, none⟩ (.int .i64 r28)) = wS at *
            obtain ⟨t0, t1, t2⟩ := kD.c3
            have zB := kD.lt
            have hr := (ho.rdw (fun _ => rfl)).rd
            have hll : ds.length ≤ 6 := by omega
            obtain ⟨Ao, Co, hvo, hco⟩ := hr.form
            subst hvo
            go_wp2_with fail
            go_region_held3 (fun w' => w'.cell? ⟨w26.heap.size, 0, none⟩ = some (.int .i64 r24) ∧ w'.cell? ⟨w26.heap.size, 1, none⟩ = some (.int .i64 r25) ∧ w'.cell? ⟨w26.heap.size, 2, none⟩ = some (.int .i64 r28)) (go_keep)
              (first
                | (rw [if_pos (by rfl)]; refine wp_app (enc := Demand.enc) _ (.tmp 57) (.tmp 58) _ (by rfl) wS.heap.size 83 (.agg #[.int .i64 0, .int .i64 0, .int .i64 0]) 3 24 Tryz.underlying26 (by kernel_rfl) rfl (by omega) (fun _ => rfl) Demand.one' (by omega) _ _ [] ds _ _ (by rfl) (by rfl) (by first | exact OwnL.empty _ _ (by (first | omega | (simp; omega) | (simp; done))) | exact (OwnL.empty _ _ (by (first | omega | (simp; omega) | (simp; done)))).alloc _ | exact OwnL.emptyAt (w := wS.alloc (.cells #[.int .i64 r24, .int .i64 r25, .int .i64 r28] 83)) (n := wS.heap.size + 1) (by simp) (by (first | omega | (simp; omega) | (simp; done)))) (RdF.below hr (B := wS.heap.size) (by (repeat (first | with_reducible assumption | with_reducible exact Below.refl _ _ | with_reducible refine Below.setCell ?_ ?_ _ | with_reducible refine Below.alloc ?_ ?_ _ | with_reducible refine Below.drew ?_ | with_reducible refine below_drewN ?_ _ | with_reducible refine Below.step (by with_reducible assumption) ?_ ?_ | omega | (simp <;> omega) | (simp; done)))) (by omega)) (by (first | omega | (simp; omega) | (simp; done))) (by (first | omega | (simp; omega) | (simp; done))) ?_; intro v4 w4 hown4 hg4 hk4; have b34 : Below wS.heap.size wS w4 := hk4 _ _ (Nat.le_refl _) (by (repeat (first | with_reducible assumption | with_reducible exact Below.refl _ _ | with_reducible refine Below.setCell ?_ ?_ _ | with_reducible refine Below.alloc ?_ ?_ _ | with_reducible refine Below.drew ?_ | with_reducible refine below_drewN ?_ _ | with_reducible refine Below.step (by with_reducible assumption) ?_ ?_ | omega | (simp <;> omega) | (simp; done)))); obtain ⟨t0, t1, t2⟩ := (kD.below b34 (by omega)).c3; have z4 := b34.size; have hs4 := hg4.size)
                | (rw [if_pos (by rfl)]; refine wp_app (enc := Demand.enc) _ (.tmp 59) (.tmp 61) _ (by rfl) wS.heap.size 83 (.agg #[.int .i64 0, .int .i64 0, .int .i64 0]) 3 24 Tryz.underlying26 (by kernel_rfl) rfl (by omega) (fun _ => rfl) Demand.one' (by omega) _ _ _ [(⟨r24, r25, r28⟩ : Demand)] 0 (w4.heap.size + 1) (by rfl) (by rfl) (by first | exact hown4 | exact hown4.alloc _) (by first | exact RdF.one (enc := Demand.enc) (sz := 3) (x := ⟨r24, r25, r28⟩) (lo := 0) (hi := w4.heap.size + 1) (b := w4.heap.size) (Blk.new w4 83 #[.int .i64 r24, .int .i64 r25, .int .i64 r28]) rfl (Nat.zero_le _) (Nat.lt_succ_self _) | exact RdF.one (enc := Demand.enc) (sz := 3) (x := ⟨r24, r25, r28⟩) (lo := 0) (hi := w4.heap.size + 1) (b := wS.heap.size + 1) (Blk.grown hg4 (Blk.drew (Blk.newAt (w := wS.alloc (.cells #[] 83)) (cs := #[.int .i64 r24, .int .i64 r25, .int .i64 r28]) (by simp))) (fun h => by have h2 : (some (wS.heap.size + 1) : Option Nat) = some wS.heap.size := h; simp at h2)) rfl (Nat.zero_le _) (by simp at hs4; omega) | exact RdF.one (enc := Demand.enc) (sz := 3) (x := ⟨r24, r25, r28⟩) (lo := 0) (hi := w4.heap.size + 1) (b := wS.heap.size) (Blk.grown hg4 (Blk.drew (Blk.alloc (Blk.new wS 83 #[.int .i64 r24, .int .i64 r25, .int .i64 r28]) _)) (fun h => by have h2 : (some wS.heap.size : Option Nat) = some (wS.heap.size + 1) := h; simp at h2)) rfl (Nat.zero_le _) (by simp at hs4; omega)) (by (first | omega | (simp; omega) | (simp; done))) (by (first | omega | (simp; omega) | (simp; done))) ?_; intro v5 w5 hown5 hg5 hk5; have b35 : Below wS.heap.size wS w5 := hk5 _ _ (Nat.le_refl _) (by (repeat (first | with_reducible assumption | with_reducible exact Below.refl _ _ | with_reducible refine Below.setCell ?_ ?_ _ | with_reducible refine Below.alloc ?_ ?_ _ | with_reducible refine Below.drew ?_ | with_reducible refine below_drewN ?_ _ | with_reducible refine Below.step (by with_reducible assumption) ?_ ?_ | omega | (simp <;> omega) | (simp; done)))); obtain ⟨t0, t1, t2⟩ := (kD.below b35 (by omega)).c3))
            all_goals
              have z5 := b35.size
              clear hr t0 t1 t2
              replace ho := ho.below b35
              replace s := s.below b35 (by omega)
              replace h1 := h1.below b35 (by omega)
              replace h2 := h2.below b35 (by omega)
              replace d := d.step (b35.mono (by omega))
              replace kD := kD.below b35 (by omega)
              clear b35 kD
              have hr5 : RdF Demand.enc 3 w5 wS.heap.size w5.heap.size v5 (ds ++ [⟨r24, r25, r28⟩]) := (hown5.rdw (fun _ => rfl)).rd
              go_wp2_with fail
              refine (sAreDemands_any _ xs _ _ _ ps _ _ _ (ds ++ [⟨r24, r25, r28⟩]) _ _ _ h1 (by omega) (by omega) HS.out h2 (by omega) (by omega) hr5 (by omega) (by simp; omega)).mono ?_
              rintro e w29 ⟨rfl, b29⟩
              clear hr5
              have zb29 := b29.size
              replace ho := ho.below b29
              replace s := s.below b29 (by omega)
              replace h1 := h1.below b29 (by omega)
              replace h2 := h2.below b29 (by omega)
              replace d := d.step (b29.mono (by omega))
              replace hown5 := hown5.below b29
              clear b29
              cases hok : areDemands xs ps (ds ++ [⟨r24, r25, r28⟩]) with
              | true =>
                go_wp2_with fail
                go_roundw
                case rel => exact ⟨j - 1, ds ++ [⟨r24, r25, r28⟩], by go_num, by simp; omega, hown5.mono (by omega), s, h1, h2, d, by omega⟩
                case measure => simp [intOf]; omega
              | false =>
                go_wp2_with fail
                go_roundw
                case rel => exact ⟨j - 1, ds, by go_num, by omega, ho, s, h1, h2, d, by omega⟩
                case measure => simp [intOf]; omega
          have hq2 : (r24 == 2) = false := by simpa using hk2
          clear hk1 hk2
          have zzi := Nat.le_of_eq zz27
          have zzj := Nat.le_of_eq zz27.symm
          clear zz27
          obtain ⟨t0, t1, t2⟩ := kD.c3
          go_upto_region 12 with fail
          clear t0 t1 t2
          obtain ⟨t0, t1, t2⟩ := kD.c3
          have zB := kD.lt
          have hr := (ho.rdw (fun _ => rfl)).rd
          have hll : ds.length ≤ 6 := by omega
          obtain ⟨Ao, Co, hvo, hco⟩ := hr.form
          subst hvo
          go_wp2_with fail
          go_region_held3 (fun w' => w'.cell? ⟨w26.heap.size, 0, none⟩ = some (.int .i64 r24) ∧ w'.cell? ⟨w26.heap.size, 1, none⟩ = some (.int .i64 r25) ∧ w'.cell? ⟨w26.heap.size, 2, none⟩ = some (.int .i64 r26)) (go_keep)
            (first
              | (rw [if_pos (by rfl)]; refine wp_app (enc := Demand.enc) _ (.tmp 57) (.tmp 58) _ (by rfl) w27.heap.size 83 (.agg #[.int .i64 0, .int .i64 0, .int .i64 0]) 3 24 Tryz.underlying26 (by kernel_rfl) rfl (by omega) (fun _ => rfl) Demand.one' (by omega) _ _ [] ds _ _ (by rfl) (by rfl) (by first | exact OwnL.empty _ _ (by (first | omega | (simp; omega) | (simp; done))) | exact (OwnL.empty _ _ (by (first | omega | (simp; omega) | (simp; done)))).alloc _ | exact OwnL.emptyAt (w := w27.alloc (.cells #[.int .i64 r24, .int .i64 r25, .int .i64 r26] 83)) (n := w27.heap.size + 1) (by simp) (by (first | omega | (simp; omega) | (simp; done)))) (RdF.below hr (B := w27.heap.size) (by (repeat (first | with_reducible assumption | with_reducible exact Below.refl _ _ | with_reducible refine Below.setCell ?_ ?_ _ | with_reducible refine Below.alloc ?_ ?_ _ | with_reducible refine Below.drew ?_ | with_reducible refine below_drewN ?_ _ | with_reducible refine Below.step (by with_reducible assumption) ?_ ?_ | omega | (simp <;> omega) | (simp; done)))) (by omega)) (by (first | omega | (simp; omega) | (simp; done))) (by (first | omega | (simp; omega) | (simp; done))) ?_; intro v4 w4 hown4 hg4 hk4; have b34 : Below w27.heap.size w27 w4 := hk4 _ _ (Nat.le_refl _) (by (repeat (first | with_reducible assumption | with_reducible exact Below.refl _ _ | with_reducible refine Below.setCell ?_ ?_ _ | with_reducible refine Below.alloc ?_ ?_ _ | with_reducible refine Below.drew ?_ | with_reducible refine below_drewN ?_ _ | with_reducible refine Below.step (by with_reducible assumption) ?_ ?_ | omega | (simp <;> omega) | (simp; done)))); obtain ⟨t0, t1, t2⟩ := (kD.below b34 (by omega)).c3; have z4 := b34.size; have hs4 := hg4.size)
              | (rw [if_pos (by rfl)]; refine wp_app (enc := Demand.enc) _ (.tmp 59) (.tmp 61) _ (by rfl) w27.heap.size 83 (.agg #[.int .i64 0, .int .i64 0, .int .i64 0]) 3 24 Tryz.underlying26 (by kernel_rfl) rfl (by omega) (fun _ => rfl) Demand.one' (by omega) _ _ _ [(⟨r24, r25, r26⟩ : Demand)] 0 (w4.heap.size + 1) (by rfl) (by rfl) (by first | exact hown4 | exact hown4.alloc _) (by first | exact RdF.one (enc := Demand.enc) (sz := 3) (x := ⟨r24, r25, r26⟩) (lo := 0) (hi := w4.heap.size + 1) (b := w4.heap.size) (Blk.new w4 83 #[.int .i64 r24, .int .i64 r25, .int .i64 r26]) rfl (Nat.zero_le _) (Nat.lt_succ_self _) | exact RdF.one (enc := Demand.enc) (sz := 3) (x := ⟨r24, r25, r26⟩) (lo := 0) (hi := w4.heap.size + 1) (b := w27.heap.size + 1) (Blk.grown hg4 (Blk.drew (Blk.newAt (w := w27.alloc (.cells #[] 83)) (cs := #[.int .i64 r24, .int .i64 r25, .int .i64 r26]) (by simp))) (fun h => by have h2 : (some (w27.heap.size + 1) : Option Nat) = some w27.heap.size := h; simp at h2)) rfl (Nat.zero_le _) (by simp at hs4; omega) | exact RdF.one (enc := Demand.enc) (sz := 3) (x := ⟨r24, r25, r26⟩) (lo := 0) (hi := w4.heap.size + 1) (b := w27.heap.size) (Blk.grown hg4 (Blk.drew (Blk.alloc (Blk.new w27 83 #[.int .i64 r24, .int .i64 r25, .int .i64 r26]) _)) (fun h => by have h2 : (some w27.heap.size : Option Nat) = some (w27.heap.size + 1) := h; simp at h2)) rfl (Nat.zero_le _) (by simp at hs4; omega)) (by (first | omega | (simp; omega) | (simp; done))) (by (first | omega | (simp; omega) | (simp; done))) ?_; intro v5 w5 hown5 hg5 hk5; have b35 : Below w27.heap.size w27 w5 := hk5 _ _ (Nat.le_refl _) (by (repeat (first | with_reducible assumption | with_reducible exact Below.refl _ _ | with_reducible refine Below.setCell ?_ ?_ _ | with_reducible refine Below.alloc ?_ ?_ _ | with_reducible refine Below.drew ?_ | with_reducible refine below_drewN ?_ _ | with_reducible refine Below.step (by with_reducible assumption) ?_ ?_ | omega | (simp <;> omega) | (simp; done)))); obtain ⟨t0, t1, t2⟩ := (kD.below b35 (by omega)).c3))
          all_goals
            have z5 := b35.size
            clear hr t0 t1 t2
            replace ho := ho.below b35
            replace s := s.below b35 (by omega)
            replace h1 := h1.below b35 (by omega)
            replace h2 := h2.below b35 (by omega)
            replace d := d.step (b35.mono (by omega))
            replace kD := kD.below b35 (by omega)
            clear b35 kD
            have hr5 : RdF Demand.enc 3 w5 w27.heap.size w5.heap.size v5 (ds ++ [⟨r24, r25, r26⟩]) := (hown5.rdw (fun _ => rfl)).rd
            go_wp2_with fail
            refine (sAreDemands_any _ xs _ _ _ ps _ _ _ (ds ++ [⟨r24, r25, r26⟩]) _ _ _ h1 (by omega) (by omega) HS.out h2 (by omega) (by omega) hr5 (by omega) (by simp; omega)).mono ?_
            rintro e w28 ⟨rfl, b28⟩
            clear hr5
            have zb28 := b28.size
            replace ho := ho.below b28
            replace s := s.below b28 (by omega)
            replace h1 := h1.below b28 (by omega)
            replace h2 := h2.below b28 (by omega)
            replace d := d.step (b28.mono (by omega))
            replace hown5 := hown5.below b28
            clear b28
            cases hok : areDemands xs ps (ds ++ [⟨r24, r25, r26⟩]) with
            | true =>
              go_wp2_with fail
              go_roundw
              case rel => exact ⟨j - 1, ds ++ [⟨r24, r25, r26⟩], by go_num, by simp; omega, hown5.mono (by omega), s, h1, h2, d, by omega⟩
              case measure => simp [intOf]; omega
            | false =>
              go_wp2_with fail
              go_roundw
              case rel => exact ⟨j - 1, ds, by go_num, by omega, ho, s, h1, h2, d, by omega⟩
              case measure => simp [intOf]; omega
        · obtain rfl : j = 0 := by omega
          have hd6 : ds.length ≤ 6 := by omega
          go_wp2_with fail
          refine (l01Next_any q 30 _ s (by omega)).mono ?_
          rintro e w64 ⟨r64, rfl, a64, a64', s', c64⟩
          clear s
          have s := s'
          clear s'
          have zc64 := c64.size
          replace ho := ho.chg c64 (by omega)
          replace h1 := h1.chg c64 (by omega) (by omega)
          replace h2 := h2.chg c64 (by omega) (by omega)
          replace d := d.trans c64
          clear c64
          by_cases h0 : r64 = 0
          · subst h0
            go_wp2_with fail
            refine (l01Next_any q 6 _ s (by omega)).mono ?_
            rintro e w65 ⟨r65, rfl, a65, a65', s', c65⟩
            clear s
            have s := s'
            clear s'
            have zc65 := c65.size
            replace ho := ho.chg c65 (by omega)
            replace h1 := h1.chg c65 (by omega) (by omega)
            replace h2 := h2.chg c65 (by omega) (by omega)
            replace d := d.trans c65
            clear c65
            go_wp2_with fail
            refine (l01Next_any q 4 _ s (by omega)).mono ?_
            rintro e w66 ⟨r66, rfl, a66, a66', s', c66⟩
            clear s
            have s := s'
            clear s'
            have zc66 := c66.size
            replace ho := ho.chg c66 (by omega)
            replace h1 := h1.chg c66 (by omega) (by omega)
            replace h2 := h2.chg c66 (by omega) (by omega)
            replace d := d.trans c66
            clear c66
            go_wp2_with fail
            refine (l01Next_any q 4 _ s (by omega)).mono ?_
            rintro e w67 ⟨r67, rfl, a67, a67', s', c67⟩
            clear s
            have s := s'
            clear s'
            have zc67 := c67.size
            replace ho := ho.chg c67 (by omega)
            replace h1 := h1.chg c67 (by omega) (by omega)
            replace h2 := h2.chg c67 (by omega) (by omega)
            replace d := d.trans c67
            clear c67
            go_wp2_with (at_builtin; refine wpList_push (enc := Demand.enc) _ _ (by first | rfl | simp) rfl (.tmp 72) (.tmp 81) 26 rfl w1.heap.size 83 _ (.agg #[.int .i64 0, .int .i64 0, .int .i64 0]) 3 24 Tryz.underlying26 (by kernel_rfl) rfl (by omega) _ ds ⟨r65 - 1, r66, r67⟩ _ rfl rfl (Demand.one' _) rfl rfl ho (by omega) (by omega) (by (first | omega | (simp; omega) | (simp; done))) ?_; intro v9 w9 hown9 hg9 hk9)
            have b9 := hk9 _ _ (Nat.le_refl _) (Below.refl _ w67)
            have z9 := b9.size
            replace h1 := h1.below b9 (by omega)
            replace h2 := h2.below b9 (by omega)
            replace s := s.below b9 (by omega)
            replace d := d.step (b9.mono (by omega))
            have hr9 := (hown9.rdw (fun _ => rfl)).rd
            try go_wp2_with fail
            go_ret3
            exact ⟨_, xs, _, ps, _, _, rfl, hx6, HX.out, hp9, by simp; omega, h1.wide (by omega) (by omega), h2.wide (by omega) (by omega), hr9.wide (by omega) (by omega), s, d⟩
          by_cases h1' : r64 = 1
          · subst h1'
            go_wp2_with fail
            go_loopw [7] (fun u wr => ∃ ds : List Demand, ds.length ≤ 9 ∧ OwnL Demand.enc 3 83 wr w1.heap.size u ds ∧ Src wr q ∧ RdHearing wr w.heap.size w1.heap.size (.slice A1 3 c1) xs ∧ RdF Slot.enc 3 wr w.heap.size w1.heap.size (.slice A2 ps.length c2) ps ∧ Chg q (q + 1) w wr ∧ w64.heap.size ≤ wr.heap.size) (fun u _ => 10 - sliceLen u)
            case atStart => exact ⟨ds, by omega, ho, s, h1, h2, d, Nat.le_refl _⟩
            case round =>
              clear ho s h1 h2 d hd6 hj
              obtain ⟨ds, hd9, ho, s, h1, h2, d, zr⟩ := hrel
              obtain ⟨A9, C9, rfl, hc9⟩ := (ho.rdw (fun _ => rfl)).rd.form
              have hN : 0 < 3 := by omega
              · have hNi : (0 : Int) < ((3 : Nat) : Int) := by omega
                go_wp2_with fail
                refine (l01Next_any q 2 _ s (by omega)).mono ?_
                rintro e w85 ⟨r85, rfl, a85, a85', s', c85⟩
                clear s
                have s := s'
                clear s'
                have zc85 := c85.size
                replace ho := ho.chg c85 (by omega)
                replace h1 := h1.chg c85 (by omega) (by omega)
                replace h2 := h2.chg c85 (by omega) (by omega)
                replace d := d.trans c85
                clear c85
                by_cases hlt2 : (ds.length : Int) < 8 + r85
                · go_wp2_with (at_builtin; refine wpList_push (enc := Demand.enc) _ _ (by first | rfl | simp) rfl (.tmp 96) (.tmp 98) 26 rfl w1.heap.size 83 _ (.agg #[.int .i64 0, .int .i64 0, .int .i64 0]) 3 24 Tryz.underlying26 (by kernel_rfl) rfl (by omega) _ ds ⟨2, 0, 0⟩ _ rfl rfl (Demand.one' _) rfl rfl ho (by omega) (by omega) (by (first | omega | (simp; omega) | (simp; done))) ?_; intro v9 w9 hown9 hg9 hk9)
                  have b9 := hk9 _ _ (Nat.le_refl _) (Below.refl _ w85)
                  have z9 := b9.size
                  have hsz : sliceLen v9 = ds.length + 1 := by
                    obtain ⟨A8, C8, rfl, hc8⟩ := (hown9.rdw (fun _ => rfl)).rd.form
                    simp [sliceLen]
                  try go_wp2_with fail
                  go_roundw
                  case rel => exact ⟨_, by simp; omega, hown9, s.below b9 (by omega), h1.below b9 (by omega), h2.below b9 (by omega), d.step (b9.mono (by omega)), by omega⟩
                  case measure => rw [hsz]; simp [sliceLen]; omega
                · have hr9 := (ho.rdw (fun _ => rfl)).rd
                  go_wp2_with fail
                  go_ret3
                  exact ⟨_, xs, _, ps, _, _, rfl, hx6, HX.out, hp9, by omega, h1.wide (by omega) (by omega), h2.wide (by omega) (by omega), hr9.wide (by omega) (by omega), s, d⟩
          have hz0 : (r64 == 0) = false := by simpa using h0
          have hz1 : (r64 == 1) = false := by simpa using h1'
          have hr9 := (ho.rdw (fun _ => rfl)).rd
          go_wp2_with fail
          go_ret3
          exact ⟨_, xs, _, ps, _, _, rfl, hx6, HX.out, hp9, by omega, h1.wide (by omega) (by omega), h2.wide (by omega) (by omega), hr9.wide (by omega) (by omega), s, d⟩
  · have h3i : ¬ (3 : Int) < (xs0.length : Int) := by omega
    have HX := HX0
    generalize hxx : xs0 = xs at *
    clear hxx
    have HS := Lib.hid (show ∀ x ∈ xs, Hearing.small x from fun x hx => Hearing.small_of (HX.out x hx) (by omega))
    go_upto_region 5 with fail
    have ho : OwnL Demand.enc 3 83 (w1.alloc (.cells #[] 83)) w1.heap.size (.slice (some ⟨w1.heap.size, 0, none⟩) 0 0) ([] : List Demand) := OwnL.emptyAt rfl (Nat.le_refl _)
    have b2 : Below w1.heap.size w1 (w1.alloc (.cells #[] 83)) := (Below.refl _ _).alloc (Nat.le_refl _) _
    have zz2 : (w1.alloc (.cells #[] 83)).heap.size = w1.heap.size + 1 := by simp
    have zb2 := b2.size
    replace s := s.below b2 (by omega)
    replace d := d.step (b2.mono (by omega))
    replace h1 := h1.below b2 (by omega)
    replace h2 := h2.below b2 (by omega)
    clear b2
    generalize (w1.alloc (.cells #[] 83)) = w2 at *
    go_cut [8, 9] (fun s8 s9 wx => ∃ n m : Int, s8 = .int .i64 n ∧ s9 = .int .i64 m ∧ 1 ≤ n ∧ n ≤ 200 ∧ 1 ≤ m ∧ m ≤ 200 ∧ wx = w2)
    case first =>
      go_wp2_with fail
      all_goals (go_meet; exact ⟨_, _, rfl, rfl, by omega, by omega, by omega, by omega, rfl⟩)
    case rest =>
      obtain ⟨n, m, rfl, rfl, hn0, hn1, hm0, hm1, hwc⟩ := hcut
      subst hwc
      go_wp2_with fail
      refine (l01Next_any q 7 _ s (by omega)).mono ?_
      rintro e w3 ⟨r3, rfl, a3, a3', s', c3⟩
      clear s
      have s := s'
      clear s'
      have zc3 := c3.size
      replace d := d.trans c3
      replace h1 := h1.chg c3 (by omega) (by omega)
      replace h2 := h2.chg c3 (by omega) (by omega)
      replace ho := ho.chg c3 (by omega)
      clear c3
      go_wp2_with fail
      go_loopw [7, 10, 11, 12] (fun u k _ _ wr => ∃ (j : Nat) (ds : List Demand), k = .int .i64 j ∧ ds.length + j ≤ 6 ∧ OwnL Demand.enc 3 83 wr w1.heap.size u ds ∧ Src wr q ∧ RdHearing wr w.heap.size w1.heap.size (.slice A1 xs.length c1) xs ∧ RdF Slot.enc 3 wr w.heap.size w1.heap.size (.slice A2 ps.length c2) ps ∧ Chg q (q + 1) w wr ∧ w3.heap.size ≤ wr.heap.size) (fun _ k _ _ _ => (intOf k).toNat)
      case atStart => exact ⟨r3.toNat, [], by simp; omega, by simp; omega, ho, s, h1, h2, d, Nat.le_refl _⟩
      case round =>
        clear ho s h1 h2 d
        obtain ⟨j, ds, rfl, hj, ho, s, h1, h2, d, z0⟩ := hrel
        by_cases hlt : 0 < j
        · have hji : (0 : Int) < (j : Int) := by omega
          go_wp2_with fail
          refine (l01Next_any q 4 _ s (by omega)).mono ?_
          rintro e w24 ⟨r24, rfl, a24, a24', s', c24⟩
          clear s
          have s := s'
          clear s'
          have zc24 := c24.size
          replace ho := ho.chg c24 (by omega)
          replace h1 := h1.chg c24 (by omega) (by omega)
          replace h2 := h2.chg c24 (by omega) (by omega)
          replace d := d.trans c24
          clear c24
          go_wp2_with fail
          refine (l01Next_any q n _ s (by omega)).mono ?_
          rintro e w25 ⟨r25, rfl, a25, a25', s', c25⟩
          clear s
          have s := s'
          clear s'
          have zc25 := c25.size
          replace ho := ho.chg c25 (by omega)
          replace h1 := h1.chg c25 (by omega) (by omega)
          replace h2 := h2.chg c25 (by omega) (by omega)
          replace d := d.trans c25
          clear c25
          go_wp2_with fail
          refine (l01Next_any q n _ s (by omega)).mono ?_
          rintro e w26 ⟨r26, rfl, a26, a26', s', c26⟩
          clear s
          have s := s'
          clear s'
          have zc26 := c26.size
          replace ho := ho.chg c26 (by omega)
          replace h1 := h1.chg c26 (by omega) (by omega)
          replace h2 := h2.chg c26 (by omega) (by omega)
          replace d := d.trans c26
          clear c26
          have HOB := Lib.hid (World.ownsRow.lt ho)
          go_upto_region 10 with fail
          have b27 : Below w26.heap.size w26 (w26.alloc (.cells #[.int .i64 r24, .int .i64 r25, .int .i64 r26] 83)) := (Below.refl _ _).alloc (Nat.le_refl _) _
          have zz27 : (w26.alloc (.cells #[.int .i64 r24, .int .i64 r25, .int .i64 r26] 83)).heap.size = w26.heap.size + 1 := by simp
          have kD : Blk (w26.alloc (.cells #[.int .i64 r24, .int .i64 r25, .int .i64 r26] 83)) (w26.heap.size) 83 #[.int .i64 r24, .int .i64 r25, .int .i64 r26] := Blk.newAt rfl
          have zb27 := b27.size
          replace ho := ho.below b27
          replace s := s.below b27 (by omega)
          replace h1 := h1.below b27 (by omega)
          replace h2 := h2.below b27 (by omega)
          replace d := d.step (b27.mono (by omega))
          clear b27
          generalize (w26.alloc (.cells #[.int .i64 r24, .int .i64 r25, .int .i64 r26] 83)) = w27 at *
          by_cases hk1 : r24 = 1
          · have hq1 : (r24 == 1) = true := by simpa using hk1
            clear hk1
            obtain ⟨t0, t1, t2⟩ := kD.c3
            go_wp2_with fail
            refine (l01Next_any q m _ s (by omega)).mono ?_
            rintro e w28 ⟨r28, rfl, a28, a28', s', c28⟩
            clear s t0 t1 t2
            have s := s'
            clear s'
            have zc28 := c28.size
            replace ho := ho.chg c28 (by omega)
            replace h1 := h1.chg c28 (by omega) (by omega)
            replace h2 := h2.chg c28 (by omega) (by omega)
            replace d := d.trans c28
            replace kD := kD.chg c28 (by omega) (by omega)
            clear c28
            obtain ⟨t0, t1, t2⟩ := kD.c3
            have f2 := kD.frozen 2
            go_upto_region 12 with fail
            have cS : Chg w26.heap.size (w26.heap.size + 1) w28 (w28.setCell ⟨w26.heap.size, 2, none⟩ (.int .i64 r28)) := (Chg.refl _ _ _).setCell (p := ⟨w26.heap.size, 2, none⟩) (Nat.le_refl _) (Nat.lt_succ_self _) _
            have kD2 : Blk (w28.setCell ⟨w26.heap.size, 2, none⟩ (.int .i64 r28)) (w26.heap.size) 83 #[.int .i64 r24, .int .i64 r25, .int .i64 r28] := kD.set1 2 _
            have zS := cS.size
            have bS : Below w26.heap.size w28 (w28.setCell ⟨w26.heap.size, 2, none⟩ (.int .i64 r28)) := cS.below (Nat.le_refl _) (by omega)
            clear t0 t1 t2 f2 kD
            have kD := kD2
            clear kD2
            replace ho := ho.setNe (p := ⟨w26.heap.size, 2, none⟩) (fun e => absurd (HOB.out _ e.symm).2 (Nat.lt_irrefl _)) (.int .i64 r28)
            replace s := s.below bS (by omega)
            replace h1 := h1.below bS (by omega)
            replace h2 := h2.below bS (by omega)
            replace d := d.step (bS.mono (by omega))
            clear bS cS
            generalize (w28.setCell ⟨w26.heap.size, 2, none⟩ (.int .i64 r28)) = wS at *
            obtain ⟨t0, t1, t2⟩ := kD.c3
            have zB := kD.lt
            have hr := (ho.rdw (fun _ => rfl)).rd
            have hll : ds.length ≤ 6 := by omega
            obtain ⟨Ao, Co, hvo, hco⟩ := hr.form
            subst hvo
            go_wp2_with fail
            go_region_held3 (fun w' => w'.cell? ⟨w26.heap.size, 0, none⟩ = some (.int .i64 r24) ∧ w'.cell? ⟨w26.heap.size, 1, none⟩ = some (.int .i64 r25) ∧ w'.cell? ⟨w26.heap.size, 2, none⟩ = some (.int .i64 r28)) (go_keep)
              (first
                | (rw [if_pos (by rfl)]; refine wp_app (enc := Demand.enc) _ (.tmp 57) (.tmp 58) _ (by rfl) wS.heap.size 83 (.agg #[.int .i64 0, .int .i64 0, .int .i64 0]) 3 24 Tryz.underlying26 (by kernel_rfl) rfl (by omega) (fun _ => rfl) Demand.one' (by omega) _ _ [] ds _ _ (by rfl) (by rfl) (by first | exact OwnL.empty _ _ (by (first | omega | (simp; omega) | (simp; done))) | exact (OwnL.empty _ _ (by (first | omega | (simp; omega) | (simp; done)))).alloc _ | exact OwnL.emptyAt (w := wS.alloc (.cells #[.int .i64 r24, .int .i64 r25, .int .i64 r28] 83)) (n := wS.heap.size + 1) (by simp) (by (first | omega | (simp; omega) | (simp; done)))) (RdF.below hr (B := wS.heap.size) (by (repeat (first | with_reducible assumption | with_reducible exact Below.refl _ _ | with_reducible refine Below.setCell ?_ ?_ _ | with_reducible refine Below.alloc ?_ ?_ _ | with_reducible refine Below.drew ?_ | with_reducible refine below_drewN ?_ _ | with_reducible refine Below.step (by with_reducible assumption) ?_ ?_ | omega | (simp <;> omega) | (simp; done)))) (by omega)) (by (first | omega | (simp; omega) | (simp; done))) (by (first | omega | (simp; omega) | (simp; done))) ?_; intro v4 w4 hown4 hg4 hk4; have b34 : Below wS.heap.size wS w4 := hk4 _ _ (Nat.le_refl _) (by (repeat (first | with_reducible assumption | with_reducible exact Below.refl _ _ | with_reducible refine Below.setCell ?_ ?_ _ | with_reducible refine Below.alloc ?_ ?_ _ | with_reducible refine Below.drew ?_ | with_reducible refine below_drewN ?_ _ | with_reducible refine Below.step (by with_reducible assumption) ?_ ?_ | omega | (simp <;> omega) | (simp; done)))); obtain ⟨t0, t1, t2⟩ := (kD.below b34 (by omega)).c3; have z4 := b34.size; have hs4 := hg4.size)
                | (rw [if_pos (by rfl)]; refine wp_app (enc := Demand.enc) _ (.tmp 59) (.tmp 61) _ (by rfl) wS.heap.size 83 (.agg #[.int .i64 0, .int .i64 0, .int .i64 0]) 3 24 Tryz.underlying26 (by kernel_rfl) rfl (by omega) (fun _ => rfl) Demand.one' (by omega) _ _ _ [(⟨r24, r25, r28⟩ : Demand)] 0 (w4.heap.size + 1) (by rfl) (by rfl) (by first | exact hown4 | exact hown4.alloc _) (by first | exact RdF.one (enc := Demand.enc) (sz := 3) (x := ⟨r24, r25, r28⟩) (lo := 0) (hi := w4.heap.size + 1) (b := w4.heap.size) (Blk.new w4 83 #[.int .i64 r24, .int .i64 r25, .int .i64 r28]) rfl (Nat.zero_le _) (Nat.lt_succ_self _) | exact RdF.one (enc := Demand.enc) (sz := 3) (x := ⟨r24, r25, r28⟩) (lo := 0) (hi := w4.heap.size + 1) (b := wS.heap.size + 1) (Blk.grown hg4 (Blk.drew (Blk.newAt (w := wS.alloc (.cells #[] 83)) (cs := #[.int .i64 r24, .int .i64 r25, .int .i64 r28]) (by simp))) (fun h => by have h2 : (some (wS.heap.size + 1) : Option Nat) = some wS.heap.size := h; simp at h2)) rfl (Nat.zero_le _) (by simp at hs4; omega) | exact RdF.one (enc := Demand.enc) (sz := 3) (x := ⟨r24, r25, r28⟩) (lo := 0) (hi := w4.heap.size + 1) (b := wS.heap.size) (Blk.grown hg4 (Blk.drew (Blk.alloc (Blk.new wS 83 #[.int .i64 r24, .int .i64 r25, .int .i64 r28]) _)) (fun h => by have h2 : (some wS.heap.size : Option Nat) = some (wS.heap.size + 1) := h; simp at h2)) rfl (Nat.zero_le _) (by simp at hs4; omega)) (by (first | omega | (simp; omega) | (simp; done))) (by (first | omega | (simp; omega) | (simp; done))) ?_; intro v5 w5 hown5 hg5 hk5; have b35 : Below wS.heap.size wS w5 := hk5 _ _ (Nat.le_refl _) (by (repeat (first | with_reducible assumption | with_reducible exact Below.refl _ _ | with_reducible refine Below.setCell ?_ ?_ _ | with_reducible refine Below.alloc ?_ ?_ _ | with_reducible refine Below.drew ?_ | with_reducible refine below_drewN ?_ _ | with_reducible refine Below.step (by with_reducible assumption) ?_ ?_ | omega | (simp <;> omega) | (simp; done)))); obtain ⟨t0, t1, t2⟩ := (kD.below b35 (by omega)).c3))
            all_goals
              have z5 := b35.size
              clear hr t0 t1 t2
              replace ho := ho.below b35
              replace s := s.below b35 (by omega)
              replace h1 := h1.below b35 (by omega)
              replace h2 := h2.below b35 (by omega)
              replace d := d.step (b35.mono (by omega))
              replace kD := kD.below b35 (by omega)
              clear b35 kD
              have hr5 : RdF Demand.enc 3 w5 wS.heap.size w5.heap.size v5 (ds ++ [⟨r24, r25, r28⟩]) := (hown5.rdw (fun _ => rfl)).rd
              go_wp2_with fail
              refine (sAreDemands_any _ xs _ _ _ ps _ _ _ (ds ++ [⟨r24, r25, r28⟩]) _ _ _ h1 (by omega) (by omega) HS.out h2 (by omega) (by omega) hr5 (by omega) (by simp; omega)).mono ?_
              rintro e w29 ⟨rfl, b29⟩
              clear hr5
              have zb29 := b29.size
              replace ho := ho.below b29
              replace s := s.below b29 (by omega)
              replace h1 := h1.below b29 (by omega)
              replace h2 := h2.below b29 (by omega)
              replace d := d.step (b29.mono (by omega))
              replace hown5 := hown5.below b29
              clear b29
              cases hok : areDemands xs ps (ds ++ [⟨r24, r25, r28⟩]) with
              | true =>
                go_wp2_with fail
                go_roundw
                case rel => exact ⟨j - 1, ds ++ [⟨r24, r25, r28⟩], by go_num, by simp; omega, hown5.mono (by omega), s, h1, h2, d, by omega⟩
                case measure => simp [intOf]; omega
              | false =>
                go_wp2_with fail
                go_roundw
                case rel => exact ⟨j - 1, ds, by go_num, by omega, ho, s, h1, h2, d, by omega⟩
                case measure => simp [intOf]; omega
          have hq1 : (r24 == 1) = false := by simpa using hk1
          by_cases hk2 : r24 = 2
          · have hq2 : (r24 == 2) = true := by simpa using hk2
            clear hk1 hk2
            obtain ⟨t0, t1, t2⟩ := kD.c3
            go_wp2_with fail
            refine (l01Next_any q m _ s (by omega)).mono ?_
            rintro e w28 ⟨r28, rfl, a28, a28', s', c28⟩
            clear s t0 t1 t2
            have s := s'
            clear s'
            have zc28 := c28.size
            replace ho := ho.chg c28 (by omega)
            replace h1 := h1.chg c28 (by omega) (by omega)
            replace h2 := h2.chg c28 (by omega) (by omega)
            replace d := d.trans c28
            replace kD := kD.chg c28 (by omega) (by omega)
            clear c28
            obtain ⟨t0, t1, t2⟩ := kD.c3
            have f2 := kD.frozen 2
            go_upto_region 12 with fail
            have cS : Chg w26.heap.size (w26.heap.size + 1) w28 (w28.setCell ⟨w26.heap.size, 2, none⟩ (.int .i64 r28)) := (Chg.refl _ _ _).setCell (p := ⟨w26.heap.size, 2, none⟩) (Nat.le_refl _) (Nat.lt_succ_self _) _
            have kD2 : Blk (w28.setCell ⟨w26.heap.size, 2, none⟩ (.int .i64 r28)) (w26.heap.size) 83 #[.int .i64 r24, .int .i64 r25, .int .i64 r28] := kD.set1 2 _
            have zS := cS.size
            have bS : Below w26.heap.size w28 (w28.setCell ⟨w26.heap.size, 2, none⟩ (.int .i64 r28)) := cS.below (Nat.le_refl _) (by omega)
            clear t0 t1 t2 f2 kD
            have kD := kD2
            clear kD2
            replace ho := ho.setNe (p := ⟨w26.heap.size, 2, none⟩) (fun e => absurd (HOB.out _ e.symm).2 (Nat.lt_irrefl _)) (.int .i64 r28)
            replace s := s.below bS (by omega)
            replace h1 := h1.below bS (by omega)
            replace h2 := h2.below bS (by omega)
            replace d := d.step (bS.mono (by omega))
            clear bS cS
            generalize (w28.setCell ⟨w26.heap.size, 2, none⟩ (.int .i64 r28)) = wS at *
            obtain ⟨t0, t1, t2⟩ := kD.c3
            have zB := kD.lt
            have hr := (ho.rdw (fun _ => rfl)).rd
            have hll : ds.length ≤ 6 := by omega
            obtain ⟨Ao, Co, hvo, hco⟩ := hr.form
            subst hvo
            go_wp2_with fail
            go_region_held3 (fun w' => w'.cell? ⟨w26.heap.size, 0, none⟩ = some (.int .i64 r24) ∧ w'.cell? ⟨w26.heap.size, 1, none⟩ = some (.int .i64 r25) ∧ w'.cell? ⟨w26.heap.size, 2, none⟩ = some (.int .i64 r28)) (go_keep)
              (first
                | (rw [if_pos (by rfl)]; refine wp_app (enc := Demand.enc) _ (.tmp 57) (.tmp 58) _ (by rfl) wS.heap.size 83 (.agg #[.int .i64 0, .int .i64 0, .int .i64 0]) 3 24 Tryz.underlying26 (by kernel_rfl) rfl (by omega) (fun _ => rfl) Demand.one' (by omega) _ _ [] ds _ _ (by rfl) (by rfl) (by first | exact OwnL.empty _ _ (by (first | omega | (simp; omega) | (simp; done))) | exact (OwnL.empty _ _ (by (first | omega | (simp; omega) | (simp; done)))).alloc _ | exact OwnL.emptyAt (w := wS.alloc (.cells #[.int .i64 r24, .int .i64 r25, .int .i64 r28] 83)) (n := wS.heap.size + 1) (by simp) (by (first | omega | (simp; omega) | (simp; done)))) (RdF.below hr (B := wS.heap.size) (by (repeat (first | with_reducible assumption | with_reducible exact Below.refl _ _ | with_reducible refine Below.setCell ?_ ?_ _ | with_reducible refine Below.alloc ?_ ?_ _ | with_reducible refine Below.drew ?_ | with_reducible refine below_drewN ?_ _ | with_reducible refine Below.step (by with_reducible assumption) ?_ ?_ | omega | (simp <;> omega) | (simp; done)))) (by omega)) (by (first | omega | (simp; omega) | (simp; done))) (by (first | omega | (simp; omega) | (simp; done))) ?_; intro v4 w4 hown4 hg4 hk4; have b34 : Below wS.heap.size wS w4 := hk4 _ _ (Nat.le_refl _) (by (repeat (first | with_reducible assumption | with_reducible exact Below.refl _ _ | with_reducible refine Below.setCell ?_ ?_ _ | with_reducible refine Below.alloc ?_ ?_ _ | with_reducible refine Below.drew ?_ | with_reducible refine below_drewN ?_ _ | with_reducible refine Below.step (by with_reducible assumption) ?_ ?_ | omega | (simp <;> omega) | (simp; done)))); obtain ⟨t0, t1, t2⟩ := (kD.below b34 (by omega)).c3; have z4 := b34.size; have hs4 := hg4.size)
                | (rw [if_pos (by rfl)]; refine wp_app (enc := Demand.enc) _ (.tmp 59) (.tmp 61) _ (by rfl) wS.heap.size 83 (.agg #[.int .i64 0, .int .i64 0, .int .i64 0]) 3 24 Tryz.underlying26 (by kernel_rfl) rfl (by omega) (fun _ => rfl) Demand.one' (by omega) _ _ _ [(⟨r24, r25, r28⟩ : Demand)] 0 (w4.heap.size + 1) (by rfl) (by rfl) (by first | exact hown4 | exact hown4.alloc _) (by first | exact RdF.one (enc := Demand.enc) (sz := 3) (x := ⟨r24, r25, r28⟩) (lo := 0) (hi := w4.heap.size + 1) (b := w4.heap.size) (Blk.new w4 83 #[.int .i64 r24, .int .i64 r25, .int .i64 r28]) rfl (Nat.zero_le _) (Nat.lt_succ_self _) | exact RdF.one (enc := Demand.enc) (sz := 3) (x := ⟨r24, r25, r28⟩) (lo := 0) (hi := w4.heap.size + 1) (b := wS.heap.size + 1) (Blk.grown hg4 (Blk.drew (Blk.newAt (w := wS.alloc (.cells #[] 83)) (cs := #[.int .i64 r24, .int .i64 r25, .int .i64 r28]) (by simp))) (fun h => by have h2 : (some (wS.heap.size + 1) : Option Nat) = some wS.heap.size := h; simp at h2)) rfl (Nat.zero_le _) (by simp at hs4; omega) | exact RdF.one (enc := Demand.enc) (sz := 3) (x := ⟨r24, r25, r28⟩) (lo := 0) (hi := w4.heap.size + 1) (b := wS.heap.size) (Blk.grown hg4 (Blk.drew (Blk.alloc (Blk.new wS 83 #[.int .i64 r24, .int .i64 r25, .int .i64 r28]) _)) (fun h => by have h2 : (some wS.heap.size : Option Nat) = some (wS.heap.size + 1) := h; simp at h2)) rfl (Nat.zero_le _) (by simp at hs4; omega)) (by (first | omega | (simp; omega) | (simp; done))) (by (first | omega | (simp; omega) | (simp; done))) ?_; intro v5 w5 hown5 hg5 hk5; have b35 : Below wS.heap.size wS w5 := hk5 _ _ (Nat.le_refl _) (by (repeat (first | with_reducible assumption | with_reducible exact Below.refl _ _ | with_reducible refine Below.setCell ?_ ?_ _ | with_reducible refine Below.alloc ?_ ?_ _ | with_reducible refine Below.drew ?_ | with_reducible refine below_drewN ?_ _ | with_reducible refine Below.step (by with_reducible assumption) ?_ ?_ | omega | (simp <;> omega) | (simp; done)))); obtain ⟨t0, t1, t2⟩ := (kD.below b35 (by omega)).c3))
            all_goals
              have z5 := b35.size
              clear hr t0 t1 t2
              replace ho := ho.below b35
              replace s := s.below b35 (by omega)
              replace h1 := h1.below b35 (by omega)
              replace h2 := h2.below b35 (by omega)
              replace d := d.step (b35.mono (by omega))
              replace kD := kD.below b35 (by omega)
              clear b35 kD
              have hr5 : RdF Demand.enc 3 w5 wS.heap.size w5.heap.size v5 (ds ++ [⟨r24, r25, r28⟩]) := (hown5.rdw (fun _ => rfl)).rd
              go_wp2_with fail
              refine (sAreDemands_any _ xs _ _ _ ps _ _ _ (ds ++ [⟨r24, r25, r28⟩]) _ _ _ h1 (by omega) (by omega) HS.out h2 (by omega) (by omega) hr5 (by omega) (by simp; omega)).mono ?_
              rintro e w29 ⟨rfl, b29⟩
              clear hr5
              have zb29 := b29.size
              replace ho := ho.below b29
              replace s := s.below b29 (by omega)
              replace h1 := h1.below b29 (by omega)
              replace h2 := h2.below b29 (by omega)
              replace d := d.step (b29.mono (by omega))
              replace hown5 := hown5.below b29
              clear b29
              cases hok : areDemands xs ps (ds ++ [⟨r24, r25, r28⟩]) with
              | true =>
                go_wp2_with fail
                go_roundw
                case rel => exact ⟨j - 1, ds ++ [⟨r24, r25, r28⟩], by go_num, by simp; omega, hown5.mono (by omega), s, h1, h2, d, by omega⟩
                case measure => simp [intOf]; omega
              | false =>
                go_wp2_with fail
                go_roundw
                case rel => exact ⟨j - 1, ds, by go_num, by omega, ho, s, h1, h2, d, by omega⟩
                case measure => simp [intOf]; omega
          have hq2 : (r24 == 2) = false := by simpa using hk2
          clear hk1 hk2
          have zzi := Nat.le_of_eq zz27
          have zzj := Nat.le_of_eq zz27.symm
          clear zz27
          obtain ⟨t0, t1, t2⟩ := kD.c3
          go_upto_region 12 with fail
          clear t0 t1 t2
          obtain ⟨t0, t1, t2⟩ := kD.c3
          have zB := kD.lt
          have hr := (ho.rdw (fun _ => rfl)).rd
          have hll : ds.length ≤ 6 := by omega
          obtain ⟨Ao, Co, hvo, hco⟩ := hr.form
          subst hvo
          go_wp2_with fail
          go_region_held3 (fun w' => w'.cell? ⟨w26.heap.size, 0, none⟩ = some (.int .i64 r24) ∧ w'.cell? ⟨w26.heap.size, 1, none⟩ = some (.int .i64 r25) ∧ w'.cell? ⟨w26.heap.size, 2, none⟩ = some (.int .i64 r26)) (go_keep)
            (first
              | (rw [if_pos (by rfl)]; refine wp_app (enc := Demand.enc) _ (.tmp 57) (.tmp 58) _ (by rfl) w27.heap.size 83 (.agg #[.int .i64 0, .int .i64 0, .int .i64 0]) 3 24 Tryz.underlying26 (by kernel_rfl) rfl (by omega) (fun _ => rfl) Demand.one' (by omega) _ _ [] ds _ _ (by rfl) (by rfl) (by first | exact OwnL.empty _ _ (by (first | omega | (simp; omega) | (simp; done))) | exact (OwnL.empty _ _ (by (first | omega | (simp; omega) | (simp; done)))).alloc _ | exact OwnL.emptyAt (w := w27.alloc (.cells #[.int .i64 r24, .int .i64 r25, .int .i64 r26] 83)) (n := w27.heap.size + 1) (by simp) (by (first | omega | (simp; omega) | (simp; done)))) (RdF.below hr (B := w27.heap.size) (by (repeat (first | with_reducible assumption | with_reducible exact Below.refl _ _ | with_reducible refine Below.setCell ?_ ?_ _ | with_reducible refine Below.alloc ?_ ?_ _ | with_reducible refine Below.drew ?_ | with_reducible refine below_drewN ?_ _ | with_reducible refine Below.step (by with_reducible assumption) ?_ ?_ | omega | (simp <;> omega) | (simp; done)))) (by omega)) (by (first | omega | (simp; omega) | (simp; done))) (by (first | omega | (simp; omega) | (simp; done))) ?_; intro v4 w4 hown4 hg4 hk4; have b34 : Below w27.heap.size w27 w4 := hk4 _ _ (Nat.le_refl _) (by (repeat (first | with_reducible assumption | with_reducible exact Below.refl _ _ | with_reducible refine Below.setCell ?_ ?_ _ | with_reducible refine Below.alloc ?_ ?_ _ | with_reducible refine Below.drew ?_ | with_reducible refine below_drewN ?_ _ | with_reducible refine Below.step (by with_reducible assumption) ?_ ?_ | omega | (simp <;> omega) | (simp; done)))); obtain ⟨t0, t1, t2⟩ := (kD.below b34 (by omega)).c3; have z4 := b34.size; have hs4 := hg4.size)
              | (rw [if_pos (by rfl)]; refine wp_app (enc := Demand.enc) _ (.tmp 59) (.tmp 61) _ (by rfl) w27.heap.size 83 (.agg #[.int .i64 0, .int .i64 0, .int .i64 0]) 3 24 Tryz.underlying26 (by kernel_rfl) rfl (by omega) (fun _ => rfl) Demand.one' (by omega) _ _ _ [(⟨r24, r25, r26⟩ : Demand)] 0 (w4.heap.size + 1) (by rfl) (by rfl) (by first | exact hown4 | exact hown4.alloc _) (by first | exact RdF.one (enc := Demand.enc) (sz := 3) (x := ⟨r24, r25, r26⟩) (lo := 0) (hi := w4.heap.size + 1) (b := w4.heap.size) (Blk.new w4 83 #[.int .i64 r24, .int .i64 r25, .int .i64 r26]) rfl (Nat.zero_le _) (Nat.lt_succ_self _) | exact RdF.one (enc := Demand.enc) (sz := 3) (x := ⟨r24, r25, r26⟩) (lo := 0) (hi := w4.heap.size + 1) (b := w27.heap.size + 1) (Blk.grown hg4 (Blk.drew (Blk.newAt (w := w27.alloc (.cells #[] 83)) (cs := #[.int .i64 r24, .int .i64 r25, .int .i64 r26]) (by simp))) (fun h => by have h2 : (some (w27.heap.size + 1) : Option Nat) = some w27.heap.size := h; simp at h2)) rfl (Nat.zero_le _) (by simp at hs4; omega) | exact RdF.one (enc := Demand.enc) (sz := 3) (x := ⟨r24, r25, r26⟩) (lo := 0) (hi := w4.heap.size + 1) (b := w27.heap.size) (Blk.grown hg4 (Blk.drew (Blk.alloc (Blk.new w27 83 #[.int .i64 r24, .int .i64 r25, .int .i64 r26]) _)) (fun h => by have h2 : (some w27.heap.size : Option Nat) = some (w27.heap.size + 1) := h; simp at h2)) rfl (Nat.zero_le _) (by simp at hs4; omega)) (by (first | omega | (simp; omega) | (simp; done))) (by (first | omega | (simp; omega) | (simp; done))) ?_; intro v5 w5 hown5 hg5 hk5; have b35 : Below w27.heap.size w27 w5 := hk5 _ _ (Nat.le_refl _) (by (repeat (first | with_reducible assumption | with_reducible exact Below.refl _ _ | with_reducible refine Below.setCell ?_ ?_ _ | with_reducible refine Below.alloc ?_ ?_ _ | with_reducible refine Below.drew ?_ | with_reducible refine below_drewN ?_ _ | with_reducible refine Below.step (by with_reducible assumption) ?_ ?_ | omega | (simp <;> omega) | (simp; done)))); obtain ⟨t0, t1, t2⟩ := (kD.below b35 (by omega)).c3))
          all_goals
            have z5 := b35.size
            clear hr t0 t1 t2
            replace ho := ho.below b35
            replace s := s.below b35 (by omega)
            replace h1 := h1.below b35 (by omega)
            replace h2 := h2.below b35 (by omega)
            replace d := d.step (b35.mono (by omega))
            replace kD := kD.below b35 (by omega)
            clear b35 kD
            have hr5 : RdF Demand.enc 3 w5 w27.heap.size w5.heap.size v5 (ds ++ [⟨r24, r25, r26⟩]) := (hown5.rdw (fun _ => rfl)).rd
            go_wp2_with fail
            refine (sAreDemands_any _ xs _ _ _ ps _ _ _ (ds ++ [⟨r24, r25, r26⟩]) _ _ _ h1 (by omega) (by omega) HS.out h2 (by omega) (by omega) hr5 (by omega) (by simp; omega)).mono ?_
            rintro e w28 ⟨rfl, b28⟩
            clear hr5
            have zb28 := b28.size
            replace ho := ho.below b28
            replace s := s.below b28 (by omega)
            replace h1 := h1.below b28 (by omega)
            replace h2 := h2.below b28 (by omega)
            replace d := d.step (b28.mono (by omega))
            replace hown5 := hown5.below b28
            clear b28
            cases hok : areDemands xs ps (ds ++ [⟨r24, r25, r26⟩]) with
            | true =>
              go_wp2_with fail
              go_roundw
              case rel => exact ⟨j - 1, ds ++ [⟨r24, r25, r26⟩], by go_num, by simp; omega, hown5.mono (by omega), s, h1, h2, d, by omega⟩
              case measure => simp [intOf]; omega
            | false =>
              go_wp2_with fail
              go_roundw
              case rel => exact ⟨j - 1, ds, by go_num, by omega, ho, s, h1, h2, d, by omega⟩
              case measure => simp [intOf]; omega
        · obtain rfl : j = 0 := by omega
          have hd6 : ds.length ≤ 6 := by omega
          go_wp2_with fail
          refine (l01Next_any q 30 _ s (by omega)).mono ?_
          rintro e w64 ⟨r64, rfl, a64, a64', s', c64⟩
          clear s
          have s := s'
          clear s'
          have zc64 := c64.size
          replace ho := ho.chg c64 (by omega)
          replace h1 := h1.chg c64 (by omega) (by omega)
          replace h2 := h2.chg c64 (by omega) (by omega)
          replace d := d.trans c64
          clear c64
          by_cases h0 : r64 = 0
          · subst h0
            go_wp2_with fail
            refine (l01Next_any q 6 _ s (by omega)).mono ?_
            rintro e w65 ⟨r65, rfl, a65, a65', s', c65⟩
            clear s
            have s := s'
            clear s'
            have zc65 := c65.size
            replace ho := ho.chg c65 (by omega)
            replace h1 := h1.chg c65 (by omega) (by omega)
            replace h2 := h2.chg c65 (by omega) (by omega)
            replace d := d.trans c65
            clear c65
            go_wp2_with fail
            refine (l01Next_any q 4 _ s (by omega)).mono ?_
            rintro e w66 ⟨r66, rfl, a66, a66', s', c66⟩
            clear s
            have s := s'
            clear s'
            have zc66 := c66.size
            replace ho := ho.chg c66 (by omega)
            replace h1 := h1.chg c66 (by omega) (by omega)
            replace h2 := h2.chg c66 (by omega) (by omega)
            replace d := d.trans c66
            clear c66
            go_wp2_with fail
            refine (l01Next_any q 4 _ s (by omega)).mono ?_
            rintro e w67 ⟨r67, rfl, a67, a67', s', c67⟩
            clear s
            have s := s'
            clear s'
            have zc67 := c67.size
            replace ho := ho.chg c67 (by omega)
            replace h1 := h1.chg c67 (by omega) (by omega)
            replace h2 := h2.chg c67 (by omega) (by omega)
            replace d := d.trans c67
            clear c67
            go_wp2_with (at_builtin; refine wpList_push (enc := Demand.enc) _ _ (by first | rfl | simp) rfl (.tmp 72) (.tmp 81) 26 rfl w1.heap.size 83 _ (.agg #[.int .i64 0, .int .i64 0, .int .i64 0]) 3 24 Tryz.underlying26 (by kernel_rfl) rfl (by omega) _ ds ⟨r65 - 1, r66, r67⟩ _ rfl rfl (Demand.one' _) rfl rfl ho (by omega) (by omega) (by (first | omega | (simp; omega) | (simp; done))) ?_; intro v9 w9 hown9 hg9 hk9)
            have b9 := hk9 _ _ (Nat.le_refl _) (Below.refl _ w67)
            have z9 := b9.size
            replace h1 := h1.below b9 (by omega)
            replace h2 := h2.below b9 (by omega)
            replace s := s.below b9 (by omega)
            replace d := d.step (b9.mono (by omega))
            have hr9 := (hown9.rdw (fun _ => rfl)).rd
            try go_wp2_with fail
            go_ret3
            exact ⟨_, xs, _, ps, _, _, rfl, hx6, HX.out, hp9, by simp; omega, h1.wide (by omega) (by omega), h2.wide (by omega) (by omega), hr9.wide (by omega) (by omega), s, d⟩
          by_cases h1' : r64 = 1
          · subst h1'
            go_wp2_with fail
            go_loopw [7] (fun u wr => ∃ ds : List Demand, ds.length ≤ 9 ∧ OwnL Demand.enc 3 83 wr w1.heap.size u ds ∧ Src wr q ∧ RdHearing wr w.heap.size w1.heap.size (.slice A1 xs.length c1) xs ∧ RdF Slot.enc 3 wr w.heap.size w1.heap.size (.slice A2 ps.length c2) ps ∧ Chg q (q + 1) w wr ∧ w64.heap.size ≤ wr.heap.size) (fun u _ => 10 - sliceLen u)
            case atStart => exact ⟨ds, by omega, ho, s, h1, h2, d, Nat.le_refl _⟩
            case round =>
              clear ho s h1 h2 d hd6 hj
              obtain ⟨ds, hd9, ho, s, h1, h2, d, zr⟩ := hrel
              obtain ⟨A9, C9, rfl, hc9⟩ := (ho.rdw (fun _ => rfl)).rd.form
              by_cases hN : 0 < xs.length
              · have hNi : (0 : Int) < ((xs.length : Nat) : Int) := by omega
                go_wp2_with fail
                refine (l01Next_any q 2 _ s (by omega)).mono ?_
                rintro e w85 ⟨r85, rfl, a85, a85', s', c85⟩
                clear s
                have s := s'
                clear s'
                have zc85 := c85.size
                replace ho := ho.chg c85 (by omega)
                replace h1 := h1.chg c85 (by omega) (by omega)
                replace h2 := h2.chg c85 (by omega) (by omega)
                replace d := d.trans c85
                clear c85
                by_cases hlt2 : (ds.length : Int) < 8 + r85
                · go_wp2_with (at_builtin; refine wpList_push (enc := Demand.enc) _ _ (by first | rfl | simp) rfl (.tmp 96) (.tmp 98) 26 rfl w1.heap.size 83 _ (.agg #[.int .i64 0, .int .i64 0, .int .i64 0]) 3 24 Tryz.underlying26 (by kernel_rfl) rfl (by omega) _ ds ⟨2, 0, 0⟩ _ rfl rfl (Demand.one' _) rfl rfl ho (by omega) (by omega) (by (first | omega | (simp; omega) | (simp; done))) ?_; intro v9 w9 hown9 hg9 hk9)
                  have b9 := hk9 _ _ (Nat.le_refl _) (Below.refl _ w85)
                  have z9 := b9.size
                  have hsz : sliceLen v9 = ds.length + 1 := by
                    obtain ⟨A8, C8, rfl, hc8⟩ := (hown9.rdw (fun _ => rfl)).rd.form
                    simp [sliceLen]
                  try go_wp2_with fail
                  go_roundw
                  case rel => exact ⟨_, by simp; omega, hown9, s.below b9 (by omega), h1.below b9 (by omega), h2.below b9 (by omega), d.step (b9.mono (by omega)), by omega⟩
                  case measure => rw [hsz]; simp [sliceLen]; omega
                · have hr9 := (ho.rdw (fun _ => rfl)).rd
                  go_wp2_with fail
                  go_ret3
                  exact ⟨_, xs, _, ps, _, _, rfl, hx6, HX.out, hp9, by omega, h1.wide (by omega) (by omega), h2.wide (by omega) (by omega), hr9.wide (by omega) (by omega), s, d⟩
              · have hNi : ¬ (0 : Int) < ((xs.length : Nat) : Int) := by omega
                have hr9 := (ho.rdw (fun _ => rfl)).rd
                go_wp2_with fail
                go_ret3
                first
                  | exact ⟨_, xs, _, ps, _, rfl, hx6, HX.out, hp9, ds, by omega, h1.wide (by omega) (by omega), h2.wide (by omega) (by omega), hr9.wide (by omega) (by omega), s, d⟩
                  | exact ⟨_, xs, _, ps, _, ds, rfl, hx6, HX.out, hp9, by omega, h1.wide (by omega) (by omega), h2.wide (by omega) (by omega), hr9.wide (by omega) (by omega), s, d⟩
                  | exact ⟨_, rfl, xs, hx6, HX.out, ps, hp9, ds, by omega, h1.wide (by omega) (by omega), h2.wide (by omega) (by omega), hr9.wide (by omega) (by omega), s, d⟩
                  | exact ⟨_, xs, _, ps, _, rfl, ds, hx6, HX.out, hp9, by omega, h1.wide (by omega) (by omega), h2.wide (by omega) (by omega), hr9.wide (by omega) (by omega), s, d⟩
                  | (trace_state; exact ⟨_, xs, _, ps, _, rfl, hx6, HX.out, hp9, ds, by omega, h1.wide (by omega) (by omega), h2.wide (by omega) (by omega), hr9.wide (by omega) (by omega), s, d⟩)
          have hz0 : (r64 == 0) = false := by simpa using h0
          have hz1 : (r64 == 1) = false := by simpa using h1'
          have hr9 := (ho.rdw (fun _ => rfl)).rd
          go_wp2_with fail
          go_ret3
          exact ⟨_, xs, _, ps, _, _, rfl, hx6, HX.out, hp9, by omega, h1.wide (by omega) (by omega), h2.wide (by omega) (by omega), hr9.wide (by omega) (by omega), s, d⟩
set_option maxRecDepth 100000 in
set_option maxHeartbeats 8000000 in
theorem drawMostKept_any (v : Value) (bs : List Int) (lo hi : Nat) (w : World) (h : RdF encByte 1 w lo hi v bs) (hh : hi ≤ w.heap.size) (hm : bs.length ≤ 4096) (hb : ∀ x ∈ bs, 0 ≤ x ∧ x ≤ 255) :
    Calls Tryz.prog 12 #[v] w fun e w' => ∃ (v1 : Value) (xs : List Hearing) (v2 : Value) (ps : List Slot) (v3 : Value) (ds : List Demand), e = .returned (.tuple #[v1, v2, v3]) ∧ xs.length ≤ 6 ∧ (∀ x ∈ xs, Hearing.by_ 64 x) ∧ ps.length ≤ 120 ∧ ds.length ≤ 20 ∧ RdHearing w' w.heap.size w'.heap.size v1 xs ∧ RdF Slot.enc 3 w' w.heap.size w'.heap.size v2 ps ∧ RdF Demand.enc 3 w' w.heap.size w'.heap.size v3 ds ∧ Below w.heap.size w w' := by
  have bb : Below w.heap.size w w := Below.refl _ _
  go_enter Tryz.func12, Tryz.ntmps12
  go_wp2_with fail
  refine (l01From_any _ bs lo hi _ h (by omega) hm hb).mono ?_
  rintro e w1 ⟨q, rfl, hq, s, b1⟩
  have zb1 := b1.size
  replace h := h.below b1 (by omega)
  replace bb := Below.step b1 (by omega) bb
  clear b1
  have hql := s.lt
  clear h
  go_wp2_with fail
  refine (l22Draw_any q _ s).mono ?_
  rintro e w2 ⟨v1, xs, v2, ps, v3, ds, rfl, hx6, hxb, hp9, hd9, h1, h2, h3, s', c2⟩
  clear s
  have s := s'
  clear s'
  have zc2 := c2.size
  replace bb := bb.trans (c2.below (by omega) (by omega))
  clear c2
  go_wp2_with fail
  go_ret3
  exact ⟨v1, xs, v2, ps, v3, ds, rfl, hx6, hxb, hp9, hd9, h1.wide (by omega) (by omega), h2.wide (by omega) (by omega), h3.wide (by omega) (by omega), bb⟩
set_option maxRecDepth 100000 in
set_option maxHeartbeats 8000000 in
theorem drawSmallest_any (v : Value) (bs : List Int) (lo hi : Nat) (w : World) (h : RdF encByte 1 w lo hi v bs) (hh : hi ≤ w.heap.size) (hm : bs.length ≤ 4096) (hb : ∀ x ∈ bs, 0 ≤ x ∧ x ≤ 255) :
    Calls Tryz.prog 40 #[v] w fun e w' => ∃ (v1 : Value) (xs : List Hearing) (v2 : Value) (ps : List Slot) (v3 : Value) (ds : List Demand), e = .returned (.tuple #[v1, v2, v3]) ∧ xs.length ≤ 6 ∧ (∀ x ∈ xs, Hearing.by_ 64 x) ∧ ps.length ≤ 120 ∧ ds.length ≤ 20 ∧ RdHearing w' w.heap.size w'.heap.size v1 xs ∧ RdF Slot.enc 3 w' w.heap.size w'.heap.size v2 ps ∧ RdF Demand.enc 3 w' w.heap.size w'.heap.size v3 ds ∧ Below w.heap.size w w' := by
  have bb : Below w.heap.size w w := Below.refl _ _
  go_enter Tryz.func40, Tryz.ntmps40
  go_wp2_with fail
  refine (l01From_any _ bs lo hi _ h (by omega) hm hb).mono ?_
  rintro e w1 ⟨q, rfl, hq, s, b1⟩
  have zb1 := b1.size
  replace h := h.below b1 (by omega)
  replace bb := Below.step b1 (by omega) bb
  clear b1
  have hql := s.lt
  clear h
  go_wp2_with fail
  refine (l22Draw_any q _ s).mono ?_
  rintro e w2 ⟨v1, xs, v2, ps, v3, ds, rfl, hx6, hxb, hp9, hd9, h1, h2, h3, s', c2⟩
  clear s
  have s := s'
  clear s'
  have zc2 := c2.size
  replace bb := bb.trans (c2.below (by omega) (by omega))
  clear c2
  go_wp2_with fail
  go_ret3
  exact ⟨v1, xs, v2, ps, v3, ds, rfl, hx6, hxb, hp9, hd9, h1.wide (by omega) (by omega), h2.wide (by omega) (by omega), h3.wide (by omega) (by omega), bb⟩
set_option maxRecDepth 100000 in
set_option maxHeartbeats 8000000 in
theorem drawKeptBy_any (v : Value) (bs : List Int) (lo hi : Nat) (w : World) (h : RdF encByte 1 w lo hi v bs) (hh : hi ≤ w.heap.size) (hm : bs.length ≤ 4096) (hb : ∀ x ∈ bs, 0 ≤ x ∧ x ≤ 255) :
    Calls Tryz.prog 17 #[v] w fun e w' => ∃ (v1 : Value) (xs : List Hearing) (v2 : Value) (ps : List Slot) (v3 : Value) (ds : List Demand) (v4 : Value) (cal : List Int), e = .returned (.tuple #[v1, v2, v3, v4]) ∧ xs.length ≤ 6 ∧ (∀ x ∈ xs, Hearing.by_ 64 x) ∧ ps.length ≤ 120 ∧ ds.length ≤ 20 ∧ cal.length ≤ 1048576 ∧ RdHearing w' w.heap.size w'.heap.size v1 xs ∧ RdF Slot.enc 3 w' w.heap.size w'.heap.size v2 ps ∧ RdF Demand.enc 3 w' w.heap.size w'.heap.size v3 ds ∧ RdF encInt 1 w' w.heap.size w'.heap.size v4 cal ∧ Below w.heap.size w w' := by
  have bb : Below w.heap.size w w := Below.refl _ _
  go_enter Tryz.func17, Tryz.ntmps17
  go_wp2_with fail
  refine (l01From_any _ bs lo hi _ h (by omega) hm hb).mono ?_
  rintro e w1 ⟨q, rfl, hq, s, b1⟩
  have zb1 := b1.size
  replace h := h.below b1 (by omega)
  replace bb := Below.step b1 (by omega) bb
  clear b1
  have hql := s.lt
  clear h
  go_wp2_with fail
  refine (l22Draw_any q _ s).mono ?_
  rintro e w2 ⟨v1, xs, v2, ps, v3, ds, rfl, hx6, hxb, hp9, hd9, h1, h2, h3, s', c2⟩
  clear s
  have s := s'
  clear s'
  have zc2 := c2.size
  replace bb := bb.trans (c2.below (by omega) (by omega))
  clear c2
  obtain ⟨A1, c1, rfl, hcap1⟩ : ∃ A c, v1 = .slice A xs.length c ∧ xs.length ≤ c := by
    obtain ⟨rs, rfl, hR, -⟩ := h1
    obtain ⟨A, c, hv, hc⟩ := hR.form
    exact ⟨A, c, by rw [hv, List.length_map], by rw [List.length_map]; exact hc⟩
  obtain ⟨A2, c2, rfl, hcap2⟩ := h2.form
  obtain ⟨A3, c3, rfl, hcap3⟩ := h3.form
  have HX := Lib.hid hxb
  clear hxb
  have HS := Lib.hid (show ∀ x ∈ xs, Hearing.small x from fun x hx => Hearing.small_of (HX.out x hx) (by omega))
  go_wp2_with fail
  have ho : OwnL encInt 1 2 (w2.alloc (.cells #[] 2)) w2.heap.size (.slice (some ⟨w2.heap.size, 0, none⟩) 0 0) ([] : List Int) := OwnL.emptyAt rfl (Nat.le_refl _)
  have b3 : Below w2.heap.size w2 (w2.alloc (.cells #[] 2)) := (Below.refl _ _).alloc (Nat.le_refl _) _
  have zz3 : (w2.alloc (.cells #[] 2)).heap.size = w2.heap.size + 1 := by simp
  have zb3 := b3.size
  replace bb := Below.step b3 (by omega) bb
  replace s := s.below b3 (by omega)
  replace h1 := h1.below b3 (by omega)
  replace h2 := h2.below b3 (by omega)
  replace h3 := h3.below b3 (by omega)
  clear b3
  generalize (w2.alloc (.cells #[] 2)) = w3 at *
  go_loopw [10, 11] (fun u i wr => ∃ (k : Nat) (cal : List Int), i = .int .i64 k ∧ k ≤ xs.length ∧ cal.length = k ∧ OwnL encInt 1 2 wr w2.heap.size u cal ∧ Src wr q ∧ RdHearing wr w1.heap.size w2.heap.size (.slice A1 xs.length c1) xs ∧ RdF Slot.enc 3 wr w1.heap.size w2.heap.size (.slice A2 ps.length c2) ps ∧ RdF Demand.enc 3 wr w1.heap.size w2.heap.size (.slice A3 ds.length c3) ds ∧ Below w.heap.size w wr ∧ w3.heap.size ≤ wr.heap.size) (fun _ i _ => xs.length - (intOf i).toNat)
  case atStart => exact ⟨0, [], rfl, Nat.zero_le _, rfl, ho, s, h1, h2, h3, bb, Nat.le_refl _⟩
  case round =>
    clear ho s h1 h2 h3 bb
    obtain ⟨k, cal, rfl, hk, hcl, ho, s, h1, h2, h3, bb, z0⟩ := hrel
    by_cases hlt : k < xs.length
    · have hki : (k : Int) < (xs.length : Int) := by omega
      go_wp2_with fail
      refine (l01Next_any q 24 _ s (by omega)).mono ?_
      rintro e w24 ⟨r24, rfl, a24, a24', s', c24⟩
      clear s
      have s := s'
      clear s'
      have zc24 := c24.size
      replace ho := ho.chg c24 (by omega)
      replace h1 := h1.chg c24 (by omega) (by omega)
      replace h2 := h2.chg c24 (by omega) (by omega)
      replace h3 := h3.chg c24 (by omega) (by omega)
      replace bb := bb.trans (c24.below (by omega) (by omega))
      clear c24
      have hdv : 0 ≤ r24 / 23 ∧ r24 / 23 ≤ 1 := by omega
      go_wp2_with fail
      refine (l01Next_any q ((ps.length : Int) + r24 / 23) _ s (by omega)).mono ?_
      rintro e w25 ⟨r25, rfl, a25, a25', s', c25⟩
      clear s
      have s := s'
      clear s'
      have zc25 := c25.size
      replace ho := ho.chg c25 (by omega)
      replace h1 := h1.chg c25 (by omega) (by omega)
      replace h2 := h2.chg c25 (by omega) (by omega)
      replace h3 := h3.chg c25 (by omega) (by omega)
      replace bb := bb.trans (c25.below (by omega) (by omega))
      clear c25
      go_wp2_with (at_builtin; refine wpList_push (enc := encInt) _ _ (by first | rfl | simp) rfl (.tmp 27) (.tmp 36) 29 rfl w2.heap.size 2 _ (.int .i64 0) 1 8 Tryz.underlying29 (by kernel_rfl) rfl (by omega) _ cal (r25) _ rfl rfl (encInt_one _) rfl rfl ho (by omega) (by omega) (by (first | omega | (simp; omega) | (simp; done))) ?_; intro v9 w9 hown9 hg9 hk9)
      have b9 := hk9 _ _ (Nat.le_refl _) (Below.refl _ w25)
      have z9 := b9.size
      try go_wp2_with fail
      go_roundw
      case rel => exact ⟨k + 1, _, by go_num, by omega, by simp; omega, hown9, s.below b9 (by omega), h1.below b9 (by omega), h2.below b9 (by omega), h3.below b9 (by omega), Below.step b9 (by omega) bb, by omega⟩
      case measure => simp [intOf]; omega
    · have hr9 := (ho.rdw (fun _ => rfl)).rd
      obtain ⟨A4, c4, rfl, hcap4⟩ := hr9.form
      go_wp2_with fail
      refine bodyPost_ret (v := .tuple #[.slice A1 xs.length c1, .slice A2 ps.length c2, .slice A3 ds.length c3, .slice A4 cal.length c4]) (by simp [results, Tryz.results17, go_sem, *]) rfl ?_
      exact ⟨_, xs, _, ps, _, ds, _, cal, rfl, hx6, HX.out, hp9, hd9, by omega, h1.wide (by omega) (by omega), h2.wide (by omega) (by omega), h3.wide (by omega) (by omega), hr9.wide (by omega) (by omega), bb⟩
set_option maxRecDepth 100000 in
set_option maxHeartbeats 8000000 in
theorem l22Some_any (v : Value) (bs : List Int) (lo hi : Nat) (w : World) (h : RdF encByte 1 w lo hi v bs) (hh : hi ≤ w.heap.size) (hm : bs.length ≤ 4096) (hb : ∀ x ∈ bs, 0 ≤ x ∧ x ≤ 255) :
    Calls Tryz.prog 81 #[v] w fun e w' => ∃ (v1 : Value) (xs : List Hearing) (v2 : Value) (ps : List Slot) (v3 : Value) (ds : List Demand) (v4 : Value) (cal : List Int), e = .returned (.tuple #[v1, v2, v3, v4]) ∧ xs.length ≤ 6 ∧ (∀ x ∈ xs, Hearing.by_ 64 x) ∧ ps.length ≤ 120 ∧ ds.length ≤ 20 ∧ cal.length ≤ 1048576 ∧ RdHearing w' w.heap.size w'.heap.size v1 xs ∧ RdF Slot.enc 3 w' w.heap.size w'.heap.size v2 ps ∧ RdF Demand.enc 3 w' w.heap.size w'.heap.size v3 ds ∧ RdF encInt 1 w' w.heap.size w'.heap.size v4 cal ∧ Below w.heap.size w w' := by
  have bb : Below w.heap.size w w := Below.refl _ _
  go_enter Tryz.func81, Tryz.ntmps81
  go_wp2_with fail
  refine (l01From_any _ bs lo hi _ h (by omega) hm hb).mono ?_
  rintro e w1 ⟨q, rfl, hq, s, b1⟩
  have zb1 := b1.size
  replace h := h.below b1 (by omega)
  replace bb := Below.step b1 (by omega) bb
  clear b1
  have hql := s.lt
  clear h
  go_wp2_with fail
  refine (l22Draw_any q _ s).mono ?_
  rintro e w2 ⟨v1, xs, v2, ps, v3, ds, rfl, hx6, hxb, hp9, hd9, h1, h2, h3, s', c2⟩
  clear s
  have s := s'
  clear s'
  have zc2 := c2.size
  replace bb := bb.trans (c2.below (by omega) (by omega))
  clear c2
  obtain ⟨A1, c1, rfl, hcap1⟩ : ∃ A c, v1 = .slice A xs.length c ∧ xs.length ≤ c := by
    obtain ⟨rs, rfl, hR, -⟩ := h1
    obtain ⟨A, c, hv, hc⟩ := hR.form
    exact ⟨A, c, by rw [hv, List.length_map], by rw [List.length_map]; exact hc⟩
  obtain ⟨A2, c2, rfl, hcap2⟩ := h2.form
  obtain ⟨A3, c3, rfl, hcap3⟩ := h3.form
  have HX := Lib.hid hxb
  clear hxb
  have HS := Lib.hid (show ∀ x ∈ xs, Hearing.small x from fun x hx => Hearing.small_of (HX.out x hx) (by omega))
  go_wp2_with fail
  refine (sSmallestConflict_any _ xs _ _ _ ps _ _ _ ds _ _ _ h1 (by omega) (by omega) HS.out h2 (by omega) (by omega) h3 (by omega) (by omega)).mono ?_
  rintro e w3 ⟨yc, rfl, hy, b3⟩
  have zb3 := b3.size
  replace bb := Below.step b3 (by omega) bb
  replace s := s.below b3 (by omega)
  replace h1 := h1.below b3 (by omega)
  replace h2 := h2.below b3 (by omega)
  replace h3 := h3.below b3 (by omega)
  clear b3
  have hyl : (smallest xs ps ds).1.length ≤ 1048576 := smallest_len (by omega)
  obtain ⟨A5, c5, rfl, hcap5⟩ := hy.rd.form
  by_cases hbz : (smallest xs ps ds).2 = 0
  · rw [hbz]
    go_wp2_with fail
    refine (l01Next_any q 2 _ s (by omega)).mono ?_
    rintro e w4 ⟨r4, rfl, a4, a4', s', c4⟩
    clear s
    have s := s'
    clear s'
    have zc4 := c4.size
    replace bb := bb.trans (c4.below (by omega) (by omega))
    replace h1 := h1.chg c4 (by omega) (by omega)
    replace h2 := h2.chg c4 (by omega) (by omega)
    replace h3 := h3.chg c4 (by omega) (by omega)
    replace hy := hy.chg c4 (by omega) (by omega)
    clear c4
    by_cases h0 : r4 = 0
    · subst h0
      go_wp2_with fail
      refine bodyPost_ret (v := .tuple #[.slice A1 xs.length c1, .slice A2 ps.length c2, .slice A3 ds.length c3, .slice A5 (smallest xs ps ds).1.length c5]) (by simp [results, Tryz.results81, go_sem, *]) rfl ?_
      exact ⟨_, xs, _, ps, _, ds, _, _, rfl, hx6, HX.out, hp9, hd9, by exact hyl, h1.wide (by omega) (by omega), h2.wide (by omega) (by omega), h3.wide (by omega) (by omega), hy.rd.wide (by omega) (by omega), bb⟩
    have hz0 : (r4 == 0) = false := by simpa using h0
    clear hy
    go_wp2_with fail
    have ho : OwnL encInt 1 2 (w4.alloc (.cells #[] 2)) w4.heap.size (.slice (some ⟨w4.heap.size, 0, none⟩) 0 0) ([] : List Int) := OwnL.emptyAt rfl (Nat.le_refl _)
    have b5 : Below w4.heap.size w4 (w4.alloc (.cells #[] 2)) := (Below.refl _ _).alloc (Nat.le_refl _) _
    have zz5 : (w4.alloc (.cells #[] 2)).heap.size = w4.heap.size + 1 := by simp
    have zb5 := b5.size
    replace bb := Below.step b5 (by omega) bb
    replace s := s.below b5 (by omega)
    replace h1 := h1.below b5 (by omega)
    replace h2 := h2.below b5 (by omega)
    replace h3 := h3.below b5 (by omega)
    clear b5
    generalize (w4.alloc (.cells #[] 2)) = w5 at *
    go_loopw [12, 13] (fun u i wr => ∃ (k : Nat) (cal : List Int), i = .int .i64 k ∧ k ≤ ds.length ∧ cal.length ≤ k ∧ OwnL encInt 1 2 wr w4.heap.size u cal ∧ Src wr q ∧ RdHearing wr w1.heap.size w2.heap.size (.slice A1 xs.length c1) xs ∧ RdF Slot.enc 3 wr w1.heap.size w2.heap.size (.slice A2 ps.length c2) ps ∧ RdF Demand.enc 3 wr w1.heap.size w2.heap.size (.slice A3 ds.length c3) ds ∧ Below w.heap.size w wr ∧ w5.heap.size ≤ wr.heap.size) (fun _ i _ => ds.length - (intOf i).toNat)
    case atStart => exact ⟨0, [], rfl, Nat.zero_le _, Nat.le_refl _, ho, s, h1, h2, h3, bb, Nat.le_refl _⟩
    case round =>
      clear ho s h1 h2 h3 bb
      obtain ⟨k, cal, rfl, hk, hcl, ho, s, h1, h2, h3, bb, z0⟩ := hrel
      by_cases hlt : k < ds.length
      · have hki : (k : Int) < (ds.length : Int) := by omega
        go_wp2_with fail
        refine (l01Next_any q 2 _ s (by omega)).mono ?_
        rintro e w26 ⟨r26, rfl, a26, a26', s', c26⟩
        clear s
        have s := s'
        clear s'
        have zc26 := c26.size
        replace ho := ho.chg c26 (by omega)
        replace h1 := h1.chg c26 (by omega) (by omega)
        replace h2 := h2.chg c26 (by omega) (by omega)
        replace h3 := h3.chg c26 (by omega) (by omega)
        replace bb := bb.trans (c26.below (by omega) (by omega))
        clear c26
        by_cases h0 : r26 = 0
        · subst h0
          go_wp2_with (at_builtin; refine wpList_push (enc := encInt) _ _ (by first | rfl | simp) rfl (.tmp 50) (.tmp 52) 29 rfl w4.heap.size 2 _ (.int .i64 0) 1 8 Tryz.underlying29 (by kernel_rfl) rfl (by omega) _ cal ((k : Int)) _ rfl rfl (encInt_one _) rfl rfl ho (by omega) (by omega) (by (first | omega | (simp; omega) | (simp; done))) ?_; intro v9 w9 hown9 hg9 hk9)
          have b9 := hk9 _ _ (Nat.le_refl _) (Below.refl _ w26)
          have z9 := b9.size
          try go_wp2_with fail
          go_roundw
          case rel => exact ⟨k + 1, _, by go_num, by omega, by simp; omega, hown9, s.below b9 (by omega), h1.below b9 (by omega), h2.below b9 (by omega), h3.below b9 (by omega), Below.step b9 (by omega) bb, by omega⟩
          case measure => simp [intOf]; omega
        · have hz0 : (r26 == 0) = false := by simpa using h0
          go_wp2_with fail
          go_roundw
          case rel => exact ⟨k + 1, cal, by go_num, by omega, by omega, ho, s, h1, h2, h3, bb, by omega⟩
          case measure => simp [intOf]; omega
      · have hcl2 : cal.length ≤ 20 := by omega
        go_wp2_with fail
        refine (l01Next_any q 24 _ s (by omega)).mono ?_
        rintro e w46 ⟨r46, rfl, a46, a46', s', c46⟩
        clear s
        have s := s'
        clear s'
        have zc46 := c46.size
        replace ho := ho.chg c46 (by omega)
        replace h1 := h1.chg c46 (by omega) (by omega)
        replace h2 := h2.chg c46 (by omega) (by omega)
        replace h3 := h3.chg c46 (by omega) (by omega)
        replace bb := bb.trans (c46.below (by omega) (by omega))
        clear c46
        by_cases h0 : r46 = 0
        · subst h0
          go_wp2_with fail
          refine (l01Next_any q 4 _ s (by omega)).mono ?_
          rintro e w47 ⟨r47, rfl, a47, a47', s', c47⟩
          clear s
          have s := s'
          clear s'
          have zc47 := c47.size
          replace ho := ho.chg c47 (by omega)
          replace h1 := h1.chg c47 (by omega) (by omega)
          replace h2 := h2.chg c47 (by omega) (by omega)
          replace h3 := h3.chg c47 (by omega) (by omega)
          replace bb := bb.trans (c47.below (by omega) (by omega))
          clear c47
          go_wp2_with (at_builtin; refine wpList_push (enc := encInt) _ _ (by first | rfl | simp) rfl (.tmp 57) (.tmp 60) 29 rfl w4.heap.size 2 _ (.int .i64 0) 1 8 Tryz.underlying29 (by kernel_rfl) rfl (by omega) _ cal (r47) _ rfl rfl (encInt_one _) rfl rfl ho (by omega) (by omega) (by (first | omega | (simp; omega) | (simp; done))) ?_; intro v9 w9 hown9 hg9 hk9)
          have b9 := hk9 _ _ (Nat.le_refl _) (Below.refl _ w47)
          have z9 := b9.size
          replace h1 := h1.below b9 (by omega)
          replace h2 := h2.below b9 (by omega)
          replace h3 := h3.below b9 (by omega)
          have hr9 := (hown9.rdw (fun _ => rfl)).rd
          obtain ⟨A4, c4, rfl, hcap4⟩ := hr9.form
          try go_wp2_with fail
          refine bodyPost_ret (v := .tuple #[.slice A1 xs.length c1, .slice A2 ps.length c2, .slice A3 ds.length c3, .slice A4 (cal ++ [r47]).length c4]) (by simp [results, Tryz.results81, go_sem, *]) rfl ?_
          exact ⟨_, xs, _, ps, _, ds, _, _, rfl, hx6, HX.out, hp9, hd9, by simp; omega, h1.wide (by omega) (by omega), h2.wide (by omega) (by omega), h3.wide (by omega) (by omega), hr9.wide (by omega) (by omega), Below.step b9 (by omega) bb⟩
        have hz0 : (r46 == 0) = false := by simpa using h0
        have hr9 := (ho.rdw (fun _ => rfl)).rd
        obtain ⟨A4, c4, rfl, hcap4⟩ := hr9.form
        go_wp2_with fail
        refine bodyPost_ret (v := .tuple #[.slice A1 xs.length c1, .slice A2 ps.length c2, .slice A3 ds.length c3, .slice A4 cal.length c4]) (by simp [results, Tryz.results81, go_sem, *]) rfl ?_
        exact ⟨_, xs, _, ps, _, ds, _, cal, rfl, hx6, HX.out, hp9, hd9, by omega, h1.wide (by omega) (by omega), h2.wide (by omega) (by omega), h3.wide (by omega) (by omega), hr9.wide (by omega) (by omega), bb⟩
  · have hz1 : ((smallest xs ps ds).2 == 0) = false := by simpa using hbz
    generalize (smallest xs ps ds).2 = bd at *
    clear hy
    go_wp2_with fail
    have ho : OwnL encInt 1 2 (w3.alloc (.cells #[] 2)) w3.heap.size (.slice (some ⟨w3.heap.size, 0, none⟩) 0 0) ([] : List Int) := OwnL.emptyAt rfl (Nat.le_refl _)
    have b4 : Below w3.heap.size w3 (w3.alloc (.cells #[] 2)) := (Below.refl _ _).alloc (Nat.le_refl _) _
    have zz4 : (w3.alloc (.cells #[] 2)).heap.size = w3.heap.size + 1 := by simp
    have zb4 := b4.size
    replace bb := Below.step b4 (by omega) bb
    replace s := s.below b4 (by omega)
    replace h1 := h1.below b4 (by omega)
    replace h2 := h2.below b4 (by omega)
    replace h3 := h3.below b4 (by omega)
    clear b4
    generalize (w3.alloc (.cells #[] 2)) = w4 at *
    go_loopw [12, 13] (fun u i wr => ∃ (k : Nat) (cal : List Int), i = .int .i64 k ∧ k ≤ ds.length ∧ cal.length ≤ k ∧ OwnL encInt 1 2 wr w3.heap.size u cal ∧ Src wr q ∧ RdHearing wr w1.heap.size w2.heap.size (.slice A1 xs.length c1) xs ∧ RdF Slot.enc 3 wr w1.heap.size w2.heap.size (.slice A2 ps.length c2) ps ∧ RdF Demand.enc 3 wr w1.heap.size w2.heap.size (.slice A3 ds.length c3) ds ∧ Below w.heap.size w wr ∧ w4.heap.size ≤ wr.heap.size) (fun _ i _ => ds.length - (intOf i).toNat)
    case atStart => exact ⟨0, [], rfl, Nat.zero_le _, Nat.le_refl _, ho, s, h1, h2, h3, bb, Nat.le_refl _⟩
    case round =>
      clear ho s h1 h2 h3 bb
      obtain ⟨k, cal, rfl, hk, hcl, ho, s, h1, h2, h3, bb, z0⟩ := hrel
      by_cases hlt : k < ds.length
      · have hki : (k : Int) < (ds.length : Int) := by omega
        go_wp2_with fail
        refine (l01Next_any q 2 _ s (by omega)).mono ?_
        rintro e w25 ⟨r25, rfl, a25, a25', s', c25⟩
        clear s
        have s := s'
        clear s'
        have zc25 := c25.size
        replace ho := ho.chg c25 (by omega)
        replace h1 := h1.chg c25 (by omega) (by omega)
        replace h2 := h2.chg c25 (by omega) (by omega)
        replace h3 := h3.chg c25 (by omega) (by omega)
        replace bb := bb.trans (c25.below (by omega) (by omega))
        clear c25
        by_cases h0 : r25 = 0
        · subst h0
          go_wp2_with (at_builtin; refine wpList_push (enc := encInt) _ _ (by first | rfl | simp) rfl (.tmp 50) (.tmp 52) 29 rfl w3.heap.size 2 _ (.int .i64 0) 1 8 Tryz.underlying29 (by kernel_rfl) rfl (by omega) _ cal ((k : Int)) _ rfl rfl (encInt_one _) rfl rfl ho (by omega) (by omega) (by (first | omega | (simp; omega) | (simp; done))) ?_; intro v9 w9 hown9 hg9 hk9)
          have b9 := hk9 _ _ (Nat.le_refl _) (Below.refl _ w25)
          have z9 := b9.size
          try go_wp2_with fail
          go_roundw
          case rel => exact ⟨k + 1, _, by go_num, by omega, by simp; omega, hown9, s.below b9 (by omega), h1.below b9 (by omega), h2.below b9 (by omega), h3.below b9 (by omega), Below.step b9 (by omega) bb, by omega⟩
          case measure => simp [intOf]; omega
        · have hz0 : (r25 == 0) = false := by simpa using h0
          go_wp2_with fail
          go_roundw
          case rel => exact ⟨k + 1, cal, by go_num, by omega, by omega, ho, s, h1, h2, h3, bb, by omega⟩
          case measure => simp [intOf]; omega
      · have hcl2 : cal.length ≤ 20 := by omega
        go_wp2_with fail
        refine (l01Next_any q 24 _ s (by omega)).mono ?_
        rintro e w45 ⟨r45, rfl, a45, a45', s', c45⟩
        clear s
        have s := s'
        clear s'
        have zc45 := c45.size
        replace ho := ho.chg c45 (by omega)
        replace h1 := h1.chg c45 (by omega) (by omega)
        replace h2 := h2.chg c45 (by omega) (by omega)
        replace h3 := h3.chg c45 (by omega) (by omega)
        replace bb := bb.trans (c45.below (by omega) (by omega))
        clear c45
        by_cases h0 : r45 = 0
        · subst h0
          go_wp2_with fail
          refine (l01Next_any q 4 _ s (by omega)).mono ?_
          rintro e w46 ⟨r46, rfl, a46, a46', s', c46⟩
          clear s
          have s := s'
          clear s'
          have zc46 := c46.size
          replace ho := ho.chg c46 (by omega)
          replace h1 := h1.chg c46 (by omega) (by omega)
          replace h2 := h2.chg c46 (by omega) (by omega)
          replace h3 := h3.chg c46 (by omega) (by omega)
          replace bb := bb.trans (c46.below (by omega) (by omega))
          clear c46
          go_wp2_with (at_builtin; refine wpList_push (enc := encInt) _ _ (by first | rfl | simp) rfl (.tmp 57) (.tmp 60) 29 rfl w3.heap.size 2 _ (.int .i64 0) 1 8 Tryz.underlying29 (by kernel_rfl) rfl (by omega) _ cal (r46) _ rfl rfl (encInt_one _) rfl rfl ho (by omega) (by omega) (by (first | omega | (simp; omega) | (simp; done))) ?_; intro v9 w9 hown9 hg9 hk9)
          have b9 := hk9 _ _ (Nat.le_refl _) (Below.refl _ w46)
          have z9 := b9.size
          replace h1 := h1.below b9 (by omega)
          replace h2 := h2.below b9 (by omega)
          replace h3 := h3.below b9 (by omega)
          have hr9 := (hown9.rdw (fun _ => rfl)).rd
          obtain ⟨A4, c4, rfl, hcap4⟩ := hr9.form
          try go_wp2_with fail
          refine bodyPost_ret (v := .tuple #[.slice A1 xs.length c1, .slice A2 ps.length c2, .slice A3 ds.length c3, .slice A4 (cal ++ [r46]).length c4]) (by simp [results, Tryz.results81, go_sem, *]) rfl ?_
          exact ⟨_, xs, _, ps, _, ds, _, _, rfl, hx6, HX.out, hp9, hd9, by simp; omega, h1.wide (by omega) (by omega), h2.wide (by omega) (by omega), h3.wide (by omega) (by omega), hr9.wide (by omega) (by omega), Below.step b9 (by omega) bb⟩
        have hz0 : (r45 == 0) = false := by simpa using h0
        have hr9 := (ho.rdw (fun _ => rfl)).rd
        obtain ⟨A4, c4, rfl, hcap4⟩ := hr9.form
        go_wp2_with fail
        refine bodyPost_ret (v := .tuple #[.slice A1 xs.length c1, .slice A2 ps.length c2, .slice A3 ds.length c3, .slice A4 cal.length c4]) (by simp [results, Tryz.results81, go_sem, *]) rfl ?_
        exact ⟨_, xs, _, ps, _, ds, _, cal, rfl, hx6, HX.out, hp9, hd9, by omega, h1.wide (by omega) (by omega), h2.wide (by omega) (by omega), h3.wide (by omega) (by omega), hr9.wide (by omega) (by omega), bb⟩
set_option maxRecDepth 100000 in
set_option maxHeartbeats 8000000 in
theorem drawIsConflict_any (v : Value) (bs : List Int) (lo hi : Nat) (w : World) (h : RdF encByte 1 w lo hi v bs) (hh : hi ≤ w.heap.size) (hm : bs.length ≤ 4096) (hb : ∀ x ∈ bs, 0 ≤ x ∧ x ≤ 255) :
    Calls Tryz.prog 43 #[v] w fun e w' => ∃ (v1 : Value) (xs : List Hearing) (v2 : Value) (ps : List Slot) (v3 : Value) (ds : List Demand) (v4 : Value) (cal : List Int), e = .returned (.tuple #[v1, v2, v3, v4]) ∧ xs.length ≤ 6 ∧ (∀ x ∈ xs, Hearing.by_ 64 x) ∧ ps.length ≤ 120 ∧ ds.length ≤ 20 ∧ cal.length ≤ 1048576 ∧ RdHearing w' w.heap.size w'.heap.size v1 xs ∧ RdF Slot.enc 3 w' w.heap.size w'.heap.size v2 ps ∧ RdF Demand.enc 3 w' w.heap.size w'.heap.size v3 ds ∧ RdF encInt 1 w' w.heap.size w'.heap.size v4 cal ∧ Below w.heap.size w w' := by
  go_enter Tryz.func43, Tryz.ntmps43
  go_wp2_with fail
  refine (l22Some_any _ bs lo hi _ h hh hm hb).mono ?_
  rintro e w1 ⟨v1, xs, v2, ps, v3, ds, v4, cal, rfl, h1, h2, h3, h4, h5, h6, h7, h8, h9, b1⟩
  go_wp2_with fail
  refine bodyPost_ret (v := .tuple #[v1, v2, v3, v4]) (by simp [results, Tryz.results43, go_sem, *]) rfl ?_
  exact ⟨v1, xs, v2, ps, v3, ds, v4, cal, rfl, h1, h2, h3, h4, h5, h6, h7, h8, h9, b1⟩
end Go.Proofs.YtgpknnlphabpkaaGreat
