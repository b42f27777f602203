/- Walks: the most hearings for which there is a calendar. Written by a program (gen_held.py). -/
import Derived.Test.YtmgdkblleljdaaaGreatBestW
import Derived.Test.YtmgdkblleljdaaaGreatLessW
namespace Go.Proofs.YtmgdkblleljdaaaGreat
open Go.RowKit
set_option linter.unusedVariables false

/-- The rows with some indices. -/
def rowsAt (rs : List HearingR) (s : List Int) : List HearingR := s.filterMap fun i => rs[i.toNat]?
theorem rowsAt_step {rs : List HearingR} {s : List Int} {k : Nat} {i : Int} {h : HearingR} (h1 : s[k]? = some i) (h2 : rs[i.toNat]? = some h) : rowsAt rs (s.take (k + 1)) = rowsAt rs (s.take k) ++ [h] := by
  unfold rowsAt
  rw [List.take_add_one, h1, List.filterMap_append]
  simp [h2]
theorem rowsAt_len (rs : List HearingR) (s : List Int) : (rowsAt rs s).length ≤ s.length := List.length_filterMap_le _ _
theorem rowsAt_mem {rs : List HearingR} {s : List Int} {h : HearingR} (hm : h ∈ rowsAt rs s) : h ∈ rs := by
  unfold rowsAt at hm
  rw [List.mem_filterMap] at hm
  obtain ⟨i, -, hi⟩ := hm
  exact List.mem_of_getElem? hi
theorem rowsAt_map (rs : List HearingR) (s : List Int) : (rowsAt rs s).map HearingR.h = heldAt (rs.map HearingR.h) s := by
  unfold rowsAt heldAt
  rw [List.map_filterMap]
  congr 1
  funext i
  simp
theorem HearingR.one {r : HearingR} {P : Option Addr} {n c : Nat} (h : r.p0 = .slice P n c) : ∀ u ∈ HearingR.enc r, u.oneCell' = true := by
  intro u hu
  simp [HearingR.enc, h] at hu
  rcases hu with rfl | rfl | rfl | rfl <;> rfl
theorem heldAt_ok {xs : List Hearing} {s : List Int} {p : Hearing → Prop} (h : ∀ x ∈ xs, p x) : ∀ x ∈ heldAt xs s, p x := fun x hx => h x (heldAt_mem hx)
theorem held_rd {w : World} {base lo hi : Nat} {v : Value} {rs : List HearingR} {s : List Int} (ho : OwnL HearingR.enc 4 56 w base v (rowsAt rs s)) (hP : ∀ r ∈ rs, RdF encStr 1 w lo hi r.p0 r.h.people) (hh : hi ≤ w.heap.size) : RdHearing w 0 w.heap.size v (heldAt (rs.map HearingR.h) s) :=
  ⟨rowsAt rs s, rowsAt_map rs s, ((ho.rdw (fun _ => rfl)).rd).wide (Nat.zero_le _) (Nat.le_refl _), fun r hr => (hP r (rowsAt_mem hr)).wide (Nat.zero_le _) hh⟩

def FewV (r : Option (List Int)) (lo : Nat) (w : World) (e : Ending) (w' : World) : Prop := ∃ v : Value, e = .returned (.tuple #[v, .bool r.isSome]) ∧ (∀ s, r = some s → RdW encInt 1 2 w' lo w'.heap.size v s) ∧ Below w.heap.size w w'
set_option maxRecDepth 100000 in
set_option maxHeartbeats 4000000 in
theorem l21Few_any (xs : List Hearing) (ps : List Slot) (hm : xs.length ≤ 5) (hms : ∀ x ∈ xs, Hearing.small x) (hbx : ∀ x ∈ xs, x.ok = true) (hm2 : ps.length ≤ 10) (hsl : ∀ s ∈ ps, s.ok = true) : ∀ (m : Nat) (c : List Int) (f : Nat) (v : Value) (lo hi : Nat) (v2 : Value) (lo2 hi2 : Nat) (v3 : Value) (lo3 : Nat) (w : World) (h : RdHearing w lo hi v xs) (hh : hi ≤ w.heap.size) (h2 : RdF Slot.enc 3 w lo2 hi2 v2 ps) (hh2 : hi2 ≤ w.heap.size) (h3 : RdW encInt 1 2 w lo3 w.heap.size v3 c) (hh3 : lo3 ≤ w.heap.size) (hcl : c.length + m ≤ 5) (hf : f ≤ 5) (hix : c.all (idxOk xs.length) = true),
    Calls Tryz.prog 35 #[v, v2, v3, .int .i64 (f : Int), .int .i64 (m : Int)] w fun e w' => FewV (few (canHold xs ps) xs.length m c f) lo3 w e w' := by
  intro m
  induction m with
  | zero =>
    intro c f v lo hi v2 lo2 hi2 v3 lo3 w h hh h2 hh2 h3 hh3 hcl hf hix
    obtain ⟨A2, c2, rfl, hcap2⟩ := h2.form
    obtain ⟨A3, c3, rfl, hcap3⟩ := h3.form
    obtain ⟨rs, hxs, hR, hP⟩ := h
    obtain ⟨A1, c1, rfl, hcap1⟩ := hR.form
    have hnx : xs.length = rs.length := by rw [← hxs]; simp
    rw [hnx] at hix
    have HIX := Lib.hid hix; clear hix
    have HP := Lib.hid hP; clear hP
    have HM := Lib.hid hms
    have HB := Lib.hid hbx
    have HSL := Lib.hid hsl
    have h3w := h3
    replace h3 := h3.rd
    rw [show ((0 : Nat) : Int) = 0 from rfl]
    go_enter Tryz.func35, Tryz.ntmps35
    go_wp2_with fail
    go_loopw [12, 13] (fun u j wh => ∃ k : Nat, k ≤ c.length ∧ j = .int .i64 k ∧ OwnL HearingR.enc 4 56 wh w.heap.size u (rowsAt rs (c.take k)) ∧ Below w.heap.size w wh) (fun _ j _ => c.length - (intOf j).toNat)
    case atStart => exact ⟨0, Nat.zero_le _, rfl, OwnL.emptyAt rfl (Nat.le_refl _), by (repeat (first | with_reducible assumption | with_reducible exact Below.refl _ _ | with_reducible refine Below.setCell ?_ ?_ _ | with_reducible refine Below.alloc ?_ ?_ _ | with_reducible refine Below.drew ?_ | with_reducible refine below_drewN ?_ _ | with_reducible refine Below.step (by with_reducible assumption) ?_ ?_ | omega | (simp <;> omega) | (simp; done)))⟩
    case round =>
      obtain ⟨k, hk, rfl, hown, hbel⟩ := hrel
      have z0 := hbel.size
      have hrl := rowsAt_len rs (c.take k)
      rw [List.length_take] at hrl
      by_cases hlt : k < c.length
      · have hki : (k : Int) < (c.length : Int) := by omega
        obtain ⟨i, b, off, HS, hA3, hbw, c0⟩ := RdF.int h3 hbel (by omega) hlt
        subst hA3
        have hio : idxOk rs.length i = true := List.all_eq_true.1 HIX.out i (List.mem_of_getElem? HS.out)
        unfold idxOk at hio
        have hio2 := of_decide_eq_true hio
        clear hio
        obtain ⟨n', rfl⟩ := Int.eq_ofNat_of_zero_le hio2.1
        have hn' : n' < rs.length := by omega
        have hni : (n' : Int) < (rs.length : Int) := by omega
        clear hio2
        obtain ⟨r0, b0, off0, HS0, hA1, -, hbw0, a0, a1, a2, a3⟩ := RdHearing.at hR hbel (by omega) hn'
        subst hA1
        obtain ⟨P0, C0, hpe, hpc⟩ := (HP.out r0 (List.mem_of_getElem? HS0.out)).form
        rw [hpe] at a2
        have HN := Lib.hid (rowsAt_step (rs := rs) HS.out (by simpa using HS0.out))
        have HO := HearingR.one hpe
        have HQ := Lib.hid (show (#[Value.string r0.h.code, .int .i64 r0.h.len, .slice P0 r0.h.people.length C0, .int .i64 r0.h.last] : Array Value).toList = HearingR.enc r0 by simp [HearingR.enc, hpe])
        clear hpe
        go_wp2_with (at_builtin; refine wpList_push (enc := HearingR.enc) _ _ (by first | rfl | simp) rfl (.tmp 26) (.tmp 34) 24 rfl w.heap.size 56 _ (.agg #[.string ⟨#[]⟩, .int .i64 0, .slice none 0 0, .int .i64 0]) 4 56 Tryz.underlying24 (by kernel_rfl) rfl (by omega) _ (rowsAt rs (c.take k)) r0 _ HQ.out rfl HO rfl rfl hown (by omega) (by omega) (by (first | omega | (simp; omega) | (simp; done))) ?_; intro v9 w9 hown9 hg9 hk9)
        go_roundw
        case rel => exact ⟨k + 1, by omega, by go_num, (by rw [HN.out]; exact hown9), hk9 _ _ (Nat.le_refl _) hbel⟩
        case measure => simp [intOf]; omega
      · have hkn : k = c.length := by omega
        rw [hkn, List.take_length] at hown
        clear hkn

        have hrd := held_rd hown (fun r hr => (HP.out r hr).below hbel hh) (by omega)
        rw [hxs] at hrd
        have hhl := heldAt_len xs c
        go_wp2_with fail
        refine (l21All_top _ (heldAt xs c) _ _ _ ps lo2 hi2 _ hrd (Nat.le_refl _) (h2.below hbel hh2) (by omega) (by omega) (heldAt_ok HM.out) (heldAt_ok HB.out) hm2 HSL.out).mono ?_
        rintro e w8 ⟨v8, rfl, ho8, b8⟩
        have z8 := b8.size
        obtain ⟨A8, c8, rfl, hc8⟩ := ho8.form
        have hbk := Below.step b8 z0 hbel
        have HFW := Lib.hid (show few (canHold xs ps) xs.length 0 c f = if decide (0 < (cals (heldAt xs c) ps).length) then some c else none from rfl)
        generalize cals (heldAt xs c) ps = L at *
        by_cases hpos : 0 < L.length
        · have HF := Lib.hid (show few (canHold xs ps) xs.length 0 c f = some c by rw [HFW.out, decide_eq_true hpos]; rfl)
          have hpi : decide (0 < (L.length : Int)) = true := decide_eq_true (by omega)
          go_wp2_with fail
          go_ret2
          rw [HF.out]
          exact ⟨_, rfl, fun s hs => by injection hs with hs; subst hs; exact (h3w.below hbk (Nat.le_refl _)).wide (Nat.le_refl _) hbk.size, hbk⟩
        · have HF := Lib.hid (show few (canHold xs ps) xs.length 0 c f = none by rw [HFW.out, decide_eq_false hpos]; rfl)
          have hpi : decide (0 < (L.length : Int)) = false := decide_eq_false (by omega)
          go_wp2_with fail
          go_ret2
          rw [HF.out]
          exact ⟨_, rfl, fun s hs => (by cases hs), hbk⟩
  | succ m ih =>
    intro c f v lo hi v2 lo2 hi2 v3 lo3 w h hh h2 hh2 h3 hh3 hcl hf hix
    obtain ⟨A1, c1, rfl, hcap1⟩ := h.form
    obtain ⟨A2, c2, rfl, hcap2⟩ := h2.form
    obtain ⟨A3, c3, rfl, hcap3⟩ := h3.form
    have HIX := Lib.hid hix; clear hix
    have HIH := Lib.hid ih; clear ih
    have hm0 : ((m : Int) + 1 == 0) = false := by rw [beq_eq_false_iff_ne]; omega
    rw [show ((m + 1 : Nat) : Int) = (m : Int) + 1 by omega]
    have HFW := Lib.hid (show few (canHold xs ps) xs.length (m + 1) c f = fewL (fun i => few (canHold xs ps) xs.length m (c ++ [(i : Int)]) (i + 1)) (xs.length - f) f from rfl)
    go_enter Tryz.func35, Tryz.ntmps35
    go_wp2_with fail
    go_loopw [14, 15, 16] (fun j _ _ wr => ∃ k : Nat, f ≤ k ∧ k ≤ 5 ∧ j = .int .i64 k ∧ Hid (few (canHold xs ps) xs.length (m + 1) c f = fewL (fun i => few (canHold xs ps) xs.length m (c ++ [(i : Int)]) (i + 1)) (xs.length - k) k) ∧ Below w.heap.size w wr) (fun j _ _ _ => xs.length - (intOf j).toNat)
    case atStart => exact ⟨f, Nat.le_refl _, hf, rfl, HFW, Below.refl _ _⟩
    case round =>
      obtain ⟨k, hfk, hk5, rfl, HE, hbel⟩ := hrel
      have z0 := hbel.size
      by_cases hlt : k < xs.length
      · have hki : (k : Int) < (xs.length : Int) := by omega
        have g3 := h3.below hbel (Nat.le_refl _)
        go_wp2_with fail
        refine (l01Own_any _ c lo3 w.heap.size _ g3.rd z0 (by omega)).mono ?_
        rintro e w1 ⟨v1, rfl, hown1, b1⟩
        have z1 := b1.size
        clear g3
        go_wp2_with (at_builtin; refine wpList_push (enc := encInt) _ _ (by first | rfl | simp) rfl (.tmp 54) (.tmp 56) 28 rfl wr.heap.size 2 _ (.int .i64 0) 1 8 Tryz.underlying28 (by kernel_rfl) rfl (by omega) _ c (k : Int) _ rfl rfl (encInt_one _) rfl rfl hown1 (by omega) (by omega) (by (first | omega | (simp; omega) | (simp; done))) ?_; intro v9 w9 hown9 hg9 hk9)
        have b9 : Below wr.heap.size wr w9 := hk9 _ _ (Nat.le_refl _) b1
        have z9 := b9.size
        replace hbel := Below.step b9 z0 hbel
        have hr9 := hown9.rdw (fun _ => rfl)
        clear b1 b9 hk9 hg9 hown1 hown9
        have hkc2 : (k : Int) + 1 = ((k + 1 : Nat) : Int) := by omega
        rw [hkc2]
        refine (HIH.out (c ++ [(k : Int)]) (k + 1) _ lo hi _ lo2 hi2 _ lo3 w9 (h.below hbel hh) (by omega) (h2.below hbel hh2) (by omega) (hr9.wide (by omega) (Nat.le_refl _)) (by omega) (by simp; omega) (by omega) (all_snoc HIX.out hlt)).mono ?_
        rintro e w10 ⟨v10, rfl, hs10, b10⟩
        have z10 := b10.size
        replace hbel := Below.step b10 (by omega) hbel
        clear hkc2
        cases hfe : few (canHold xs ps) xs.length m (c ++ [(k : Int)]) (k + 1) with
        | none =>
          have HN := Lib.hid (show few (canHold xs ps) xs.length (m + 1) c f = fewL (fun i => few (canHold xs ps) xs.length m (c ++ [(i : Int)]) (i + 1)) (xs.length - (k + 1)) (k + 1) by
            rw [HE.out, show xs.length - k = (xs.length - (k + 1)) + 1 by omega]
            simp only [fewL, hfe])
          clear hfe hs10
          go_wp2_with fail
          go_roundw
          case rel => exact ⟨k + 1, by omega, by omega, by go_num, HN, hbel⟩
          case measure => simp [intOf]; omega
        | some s =>
          have HN := Lib.hid (show few (canHold xs ps) xs.length (m + 1) c f = some s by
            rw [HE.out, show xs.length - k = (xs.length - (k + 1)) + 1 by omega]
            simp only [fewL, hfe])
          have HS := hs10 s hfe
          clear hfe hs10
          go_wp2_with fail
          go_ret2
          rw [HN.out]
          exact ⟨_, rfl, fun s' hs => by injection hs with hs; subst hs; exact HS, hbel⟩
      · have HN := Lib.hid (show few (canHold xs ps) xs.length (m + 1) c f = none by
          rw [HE.out, show xs.length - k = 0 by omega]
          rfl)
        go_wp2_with fail
        go_ret2
        rw [HN.out]
        exact ⟨_, rfl, fun s hs => (by cases hs), hbel⟩
end Go.Proofs.YtmgdkblleljdaaaGreat
