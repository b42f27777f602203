/- Walks: all calendars, by recursion. Written by a program (gen_cals.py). -/
import Derived.Test.YtmgdkblleljdaaaGreatCalX
import Derived.Test.YtmgdkblleljdaaaGreatRowI
namespace Go.Proofs.YtmgdkblleljdaaaGreat
open Go.RowKit
set_option linter.unusedVariables false

def calsTo (f : List Int → List (List Int)) (xs : List Hearing) (ps : List Slot) (b : List Int) : Nat → List (List Int)
  | 0 => []
  | k + 1 => calsTo f xs ps b k ++ (if calB (xs.take (b.length + 1)) ps (b ++ [(k : Int)]) then f (b ++ [(k : Int)]) else [])
def calsFrom (xs : List Hearing) (ps : List Slot) : Nat → List Int → List (List Int)
  | 0, b => [b]
  | n + 1, b => calsTo (calsFrom xs ps n) xs ps b ps.length
def cals (xs : List Hearing) (ps : List Slot) : List (List Int) := calsFrom xs ps xs.length []
theorem calsTo_yes {f : List Int → List (List Int)} {xs : List Hearing} {ps : List Slot} {b : List Int} {k : Nat} (h : calB (xs.take (b.length + 1)) ps (b ++ [(k : Int)]) = true) : calsTo f xs ps b (k + 1) = calsTo f xs ps b k ++ f (b ++ [(k : Int)]) := by rw [calsTo, if_pos h]
theorem calsTo_no {f : List Int → List (List Int)} {xs : List Hearing} {ps : List Slot} {b : List Int} {k : Nat} (h : calB (xs.take (b.length + 1)) ps (b ++ [(k : Int)]) = false) : calsTo f xs ps b (k + 1) = calsTo f xs ps b k := by rw [calsTo, if_neg (by rw [h]; simp), List.append_nil]
theorem calsTo_len {f : List Int → List (List Int)} {xs : List Hearing} {ps : List Slot} {b : List Int} {M : Nat} (hf : ∀ c, (f c).length ≤ M) : ∀ k, (calsTo f xs ps b k).length ≤ k * M
  | 0 => by simp [calsTo]
  | k + 1 => by
    have ih := calsTo_len (xs := xs) (ps := ps) (b := b) hf k
    have h1 := hf (b ++ [(k : Int)])
    rw [calsTo, List.length_append, Nat.succ_mul]
    split
    · omega
    · simp; omega
theorem calsFrom_len {xs : List Hearing} {ps : List Slot} (hp : ps.length ≤ 10) : ∀ n b, (calsFrom xs ps n b).length ≤ 10 ^ n
  | 0, b => by simp [calsFrom]
  | n + 1, b => by
    have h := calsTo_len (f := calsFrom xs ps n) (xs := xs) (ps := ps) (b := b) (fun c => calsFrom_len hp n c) ps.length
    rw [calsFrom, Nat.pow_succ, Nat.mul_comm]
    exact Nat.le_trans h (Nat.mul_le_mul_right _ hp)
theorem pow10_le {n : Nat} (h : n ≤ 5) : 10 ^ n ≤ 100000 := Nat.pow_le_pow_right (n := 10) (by omega) h
theorem calsFrom_le {xs : List Hearing} {ps : List Slot} {n : Nat} {b : List Int} (hp : ps.length ≤ 10) (h : n ≤ 5) : (calsFrom xs ps n b).length ≤ 100000 := Nat.le_trans (calsFrom_len hp n b) (pow10_le h)
theorem cals_le {xs : List Hearing} {ps : List Slot} (hp : ps.length ≤ 10) (h : xs.length ≤ 5) : (cals xs ps).length ≤ 100000 := calsFrom_le hp h
theorem calsTo_le {xs : List Hearing} {ps : List Slot} {n k : Nat} {b : List Int} (hp : ps.length ≤ 10) (h : n + 1 ≤ 5) (hk : k ≤ ps.length) : (calsTo (calsFrom xs ps n) xs ps b k).length ≤ 100000 := by
  have h1 := calsTo_len (f := calsFrom xs ps n) (xs := xs) (ps := ps) (b := b) (fun c => calsFrom_len hp n c) k
  have h2 : 10 ^ n ≤ 10000 := Nat.pow_le_pow_right (n := 10) (j := 4) (by omega) (by omega)
  have h3 : k * 10 ^ n ≤ 10 * 10000 := Nat.mul_le_mul (by omega) h2
  omega
theorem calsTo_mem {f : List Int → List (List Int)} {xs : List Hearing} {ps : List Slot} {b c : List Int} : ∀ {k : Nat}, c ∈ calsTo f xs ps b k → ∃ i, i < k ∧ calB (xs.take (b.length + 1)) ps (b ++ [(i : Int)]) = true ∧ c ∈ f (b ++ [(i : Int)])
  | 0, h => by simp [calsTo] at h
  | k + 1, h => by
    rw [calsTo, List.mem_append] at h
    rcases h with h | h
    · obtain ⟨i, h1, h2⟩ := calsTo_mem h
      exact ⟨i, by omega, h2⟩
    · split at h
      · exact ⟨k, by omega, by assumption, h⟩
      · simp at h
theorem idxOk_nat {n k : Nat} (h : k < n) : idxOk n (k : Int) = true := decide_eq_true ⟨by omega, by omega⟩
theorem all_snoc {n k : Nat} {b : List Int} (hb : b.all (idxOk n) = true) (h : k < n) : (b ++ [(k : Int)]).all (idxOk n) = true := by
  rw [List.all_append, hb]
  simp [idxOk_nat h]
theorem calsFrom_mem {xs : List Hearing} {ps : List Slot} : ∀ (n : Nat) (b c : List Int), b.all (idxOk ps.length) = true → c ∈ calsFrom xs ps n b → c.length = b.length + n ∧ c.all (idxOk ps.length) = true
  | 0, b, c, hb, h => by
    simp [calsFrom] at h
    subst h
    exact ⟨by omega, hb⟩
  | n + 1, b, c, hb, h => by
    rw [calsFrom] at h
    obtain ⟨i, hi, -, hc⟩ := calsTo_mem h
    have := calsFrom_mem n _ c (all_snoc hb hi) hc
    rw [List.length_append] at this
    exact ⟨by simp at this; omega, this.2⟩
theorem cals_mem {xs : List Hearing} {ps : List Slot} {c : List Int} (h : c ∈ cals xs ps) : c.length = xs.length ∧ c.all (idxOk ps.length) = true := by
  have := calsFrom_mem xs.length [] c rfl h
  exact ⟨by simpa using this.1, this.2⟩

theorem OwnII.one {w : World} {lo base : Nat} {A : Option Addr} {c : Nat} {b : List Int} (h : RdW encInt 1 2 w lo w.heap.size (.slice A b.length c) b) (hb : base ≤ w.heap.size) :
    OwnII (w.alloc (.cells #[.slice A b.length c] 28)) lo base (.slice (some ⟨w.heap.size, 0, none⟩) 1 1) [b] := by
  refine ⟨[⟨b, A, c⟩], rfl, ?_, fun r hr => ?_⟩
  · exact World.ownsRow_lit w #[.slice A b.length c] 1 hb (by unfold maxLen; omega) rfl
  · simp at hr
    subst hr
    exact (h.below ((Below.refl _ _).alloc (Nat.le_refl _) _) (Nat.le_refl _)).wide (Nat.le_refl _) (by simp)
theorem RdHearing.pre {w : World} {lo hi : Nat} {A : Option Addr} {n c k : Nat} {xs : List Hearing} (h : RdHearing w lo hi (.slice A n c) xs) (hk : k ≤ xs.length) : RdHearing w lo hi (.slice A k c) (xs.take k) := by
  obtain ⟨rs, rfl, h2, h3⟩ := h
  rw [List.length_map] at hk
  exact ⟨rs.take k, List.map_take, h2.pre hk, fun r hr => h3 r (List.mem_of_mem_take hr)⟩
theorem RdHearing.form {w : World} {lo hi : Nat} {v : Value} {xs : List Hearing} (h : RdHearing w lo hi v xs) : ∃ A c, v = .slice A xs.length c ∧ xs.length ≤ c := by
  obtain ⟨rs, rfl, hR, -⟩ := h
  obtain ⟨A, c, hv, hc⟩ := hR.form
  exact ⟨A, c, by rw [hv, List.length_map], by rw [List.length_map]; exact hc⟩
/-- The rows of another list behind one's own. -/
theorem OwnII.parts {w : World} {lo base : Nat} {v : Value} {L : List (List Int)} (h : OwnII w lo base v L) : ∃ rs : List RowI, rs.map RowI.xs = L ∧ rs.length = L.length ∧ OwnL RowI.enc 1 28 w base v rs ∧ RowsW w lo w.heap.size rs := by
  obtain ⟨rs, rfl, h2, h3⟩ := h
  exact ⟨rs, rfl, by simp, h2, h3⟩
theorem OwnII.join {w w' : World} {lo base : Nat} {v v' : Value} {rs qs : List RowI} (ho : OwnL RowI.enc 1 28 w base v rs) (hg : w.grownBy w' v.ownBlock) (hr : RowsW w lo w.heap.size rs) (hq : RowsW w lo w.heap.size qs) (h : OwnL RowI.enc 1 28 w' base v' (rs ++ qs)) : OwnII w' lo base v' (rs.map RowI.xs ++ qs.map RowI.xs) :=
  ⟨rs ++ qs, by simp, h, ((hr.grown ho hg (by decide)).wide (Nat.le_refl _) hg.size).app ((hq.grown ho hg (by decide)).wide (Nat.le_refl _) hg.size)⟩

set_option maxRecDepth 100000 in
set_option maxHeartbeats 4000000 in
theorem calendarsFrom_any (xs : List Hearing) (ps : List Slot) (hm : xs.length ≤ 5) (hms : ∀ x ∈ xs, Hearing.small x) (hbx : ∀ x ∈ xs, x.ok = true) (hm2 : ps.length ≤ 10) (hsl : ∀ s ∈ ps, s.ok = true) : ∀ (n : Nat) (b : List Int) (v : Value) (lo hi : Nat) (v2 : Value) (lo2 hi2 : Nat) (v3 : Value) (lo3 : Nat) (w : World) (h : RdHearing w lo hi v xs) (hh : hi ≤ w.heap.size) (h2 : RdF Slot.enc 3 w lo2 hi2 v2 ps) (hh2 : hi2 ≤ w.heap.size) (h3 : RdW encInt 1 2 w lo3 w.heap.size v3 b) (hh3 : lo3 ≤ w.heap.size) (hn : b.length + n = xs.length) (hix : b.all (idxOk ps.length) = true),
    Calls Tryz.prog 48 #[v, v2, v3] w fun e w' => RetV (fun v' w' => OwnII w' lo3 w.heap.size v' (calsFrom xs ps n b)) w e w' := by
  intro n
  induction n with
  | zero =>
    intro b v lo hi v2 lo2 hi2 v3 lo3 w h hh h2 hh2 h3 hh3 hn hix
    obtain ⟨A1, c1, rfl, hcap1⟩ := h.form
    obtain ⟨A2, c2, rfl, hcap2⟩ := h2.form
    obtain ⟨A3, c3, rfl, hcap3⟩ := h3.form
    have HO := OwnII.one (base := w.heap.size) h3 (Nat.le_refl _)
    have hl : b.length = xs.length := by omega
    rw [← hl]
    clear hn h h2 h3 hl
    go_enter Tryz.func48, Tryz.ntmps48
    go_wp2_with fail
    go_ret
    exact ⟨_, rfl, HO, by (repeat (first | with_reducible assumption | with_reducible exact Below.refl _ _ | with_reducible refine Below.setCell ?_ ?_ _ | with_reducible refine Below.alloc ?_ ?_ _ | with_reducible refine Below.drew ?_ | with_reducible refine below_drewN ?_ _ | with_reducible refine Below.step (by with_reducible assumption) ?_ ?_ | omega | (simp <;> omega) | (simp; done)))⟩
  | succ n ih =>
    intro b v lo hi v2 lo2 hi2 v3 lo3 w h hh h2 hh2 h3 hh3 hn hix
    obtain ⟨A1, c1, rfl, hcap1⟩ := h.form
    obtain ⟨A2, c2, rfl, hcap2⟩ := h2.form
    obtain ⟨A3, c3, rfl, hcap3⟩ := h3.form
    have hne : ((b.length : Int) == (xs.length : Int)) = false := by simp; omega
    have HI := Lib.hid hix; clear hix
    have HIH := Lib.hid ih; clear ih
    have HN := Lib.hid hn
    have hbl : b.length + 1 ≤ xs.length := by omega
    have hn5 : n + 1 ≤ 5 := by omega
    clear hn
    have HMS := Lib.hid hms
    have HBX := Lib.hid hbx
    have HSL := Lib.hid hsl
    go_enter Tryz.func48, Tryz.ntmps48
    go_wp2_with fail
    go_loopw [7, 8, 9, 20] (fun u _ _ j wr => ∃ k : Nat, k ≤ ps.length ∧ j = .int .i64 k ∧ OwnII wr lo3 w.heap.size u (calsTo (calsFrom xs ps n) xs ps b k) ∧ Below w.heap.size w wr) (fun _ _ _ j _ => ps.length - (intOf j).toNat)
    case atStart => exact ⟨0, Nat.zero_le _, rfl, OwnII.emptyAt rfl (Nat.le_refl _), by (repeat (first | with_reducible assumption | with_reducible exact Below.refl _ _ | with_reducible refine Below.setCell ?_ ?_ _ | with_reducible refine Below.alloc ?_ ?_ _ | with_reducible refine Below.drew ?_ | with_reducible refine below_drewN ?_ _ | with_reducible refine Below.step (by with_reducible assumption) ?_ ?_ | omega | (simp <;> omega) | (simp; done)))⟩
    case round =>
      obtain ⟨k, hk, rfl, hown, hbel⟩ := hrel
      have z0 := hbel.size
      by_cases hlt : k < ps.length
      · have hki : (k : Int) < (ps.length : Int) := by omega
        have g3 := (h3.below hbel (Nat.le_refl _))
        go_wp2_with fail
        refine (cloneInt_any _ b lo3 w.heap.size _ g3.rd z0 (by omega)).mono ?_
        rintro e w1 ⟨v1, rfl, hown1, b1⟩
        have z1 := b1.size
        go_wp2_with ((at_builtin; refine wpList_push (enc := encInt) _ _ (by first | rfl | simp) rfl (.tmp 24) (.tmp 26) 28 rfl wr.heap.size 2 _ (.int .i64 0) 1 8 Tryz.underlying28 (by kernel_rfl) rfl (by omega) _ b (k : Int) _ rfl rfl (encInt_one _) rfl rfl hown1 (by omega) (by omega) (by (first | omega | (simp; omega) | (simp; done))) ?_; intro v9 w9 hown9 hg9 hk9; obtain ⟨A9, c9, rfl, hc9⟩ := RdF.form (hown9.rdw (fun _ => rfl)).rd; have hl9 : (b ++ [(k : Int)]).length = b.length + 1 := (by simp); rw [hl9] at hown9 hc9 ⊢; clear hl9))
        have b9 : Below wr.heap.size wr w9 := hk9 _ _ (Nat.le_refl _) b1
        have z9 := b9.size
        replace hown := hown.below b9
        replace hbel := Below.step b9 z0 hbel
        have hr9 := hown9.rdw (fun _ => rfl)
        have hl9 : (b ++ [(k : Int)]).length ≤ 1048576 := by simp; omega
        clear b1 b9 hk9 hg9 hown1 hown9
        have hpx := (h.below hbel hh).pre (k := b.length + 1) hbl
        have hpl : (xs.take (b.length + 1)).length ≤ 5 := by simp; omega
        refine (isCalendar_any _ (xs.take (b.length + 1)) lo hi _ ps lo2 hi2 _ (b ++ [(k : Int)]) _ _ _ hpx (by omega) (by omega) (fun x hx => HMS.out x (List.mem_of_mem_take hx)) (h2.below hbel hh2) (by omega) (by omega) hr9.rd (Nat.le_refl _) hl9 (by omega) (fun x hx => HBX.out x (List.mem_of_mem_take hx)) HSL.out (all_snoc HI.out hlt)).mono ?_
        rintro e w10 ⟨rfl, b10⟩
        have z10 := b10.size
        replace hown := hown.below b10
        replace hbel := Below.step b10 (by omega) hbel
        replace hr9 := (hr9.below b10 (Nat.le_refl _)).wide (lo' := lo3) (hi' := w10.heap.size) (by omega) z10
        clear b10 hpx
        cases hcb : calB (xs.take (b.length + 1)) ps (b ++ [(k : Int)]) with
        | false =>
          have HF := Lib.hid (calsTo_no (f := calsFrom xs ps n) hcb)
          clear hcb
          go_wp2_with fail
          go_roundw
          case rel => exact ⟨k + 1, by omega, by go_num, (by rw [HF.out]; exact hown), hbel⟩
          case measure => simp [intOf]; omega
        | true =>
          have HF := Lib.hid (calsTo_yes (f := calsFrom xs ps n) hcb)
          clear hcb
          go_wp2_with fail
          refine (HIH.out (b ++ [(k : Int)]) _ lo hi _ lo2 hi2 _ lo3 w10 (h.below hbel hh) (by omega) (h2.below hbel hh2) (by omega) (by first | exact hr9 | simpa using hr9) (by omega) (by rw [List.length_append]; simp; have := HN.out; omega) (all_snoc HI.out hlt)).mono ?_
          rintro e w11 ⟨v11, rfl, hq, b11⟩
          have z11 := b11.size
          replace hown := hown.below b11
          replace hbel := Below.step b11 (by omega) hbel
          obtain ⟨rs, ers, lrs, ors, hrs⟩ := hown.parts
          obtain ⟨qs, eqs, lqs, oqs, hqs⟩ := hq.parts
          have lrs2 : rs.length ≤ 100000 := by rw [lrs]; exact calsTo_le hm2 hn5 hk
          have lqs2 : qs.length ≤ 100000 := by rw [lqs]; exact calsFrom_le hm2 (by omega)
          have HE := Lib.hid (show calsTo (calsFrom xs ps (n)) xs ps b (k + 1) = rs.map RowI.xs ++ qs.map RowI.xs by rw [HF.out, ers, eqs])
          clear lrs lqs ers eqs hown hq
          go_wp2_with (at_builtin; refine wpList_app (enc := RowI.enc) _ rfl _ _ 46 rfl w.heap.size 28 (.slice none 0 0) 1 24 Tryz.underlying46 (by kernel_rfl) rfl (by omega) (fun _ => rfl) RowI.one (by omega) _ _ rs qs _ _ (by rfl) (by rfl) ors (oqs.rdw (fun _ => rfl)).rd (by omega) (by omega) ?_; intro v12 w12 hown12 hg12 hk12)
          go_roundw
          case rel => exact ⟨k + 1, by omega, by go_num, (by rw [HE.out]; exact OwnII.join ors hg12 hrs hqs hown12), hk12 _ _ (Nat.le_refl _) hbel⟩
          case measure => simp [intOf]; omega
      · have hkn : k = ps.length := by omega
        subst hkn
        go_wp2_with fail
        go_ret
        exact ⟨_, rfl, hown, hbel⟩
set_option maxRecDepth 100000 in
set_option maxHeartbeats 4000000 in
theorem l21All_any (xs : List Hearing) (ps : List Slot) (hm : xs.length ≤ 5) (hms : ∀ x ∈ xs, Hearing.small x) (hbx : ∀ x ∈ xs, x.ok = true) (hm2 : ps.length ≤ 10) (hsl : ∀ s ∈ ps, s.ok = true) : ∀ (n : Nat) (b : List Int) (v : Value) (lo hi : Nat) (v2 : Value) (lo2 hi2 : Nat) (v3 : Value) (lo3 : Nat) (w : World) (h : RdHearing w lo hi v xs) (hh : hi ≤ w.heap.size) (h2 : RdF Slot.enc 3 w lo2 hi2 v2 ps) (hh2 : hi2 ≤ w.heap.size) (h3 : RdW encInt 1 2 w lo3 w.heap.size v3 b) (hh3 : lo3 ≤ w.heap.size) (hn : b.length + n = xs.length) (hix : b.all (idxOk ps.length) = true),
    Calls Tryz.prog 29 #[v, v2, v3] w fun e w' => RetV (fun v' w' => OwnII w' lo3 w.heap.size v' (calsFrom xs ps n b)) w e w' := by
  intro n
  induction n with
  | zero =>
    intro b v lo hi v2 lo2 hi2 v3 lo3 w h hh h2 hh2 h3 hh3 hn hix
    obtain ⟨A1, c1, rfl, hcap1⟩ := h.form
    obtain ⟨A2, c2, rfl, hcap2⟩ := h2.form
    obtain ⟨A3, c3, rfl, hcap3⟩ := h3.form
    have HO := OwnII.one (base := w.heap.size) h3 (Nat.le_refl _)
    have hl : b.length = xs.length := by omega
    rw [← hl]
    clear hn h h2 h3 hl
    go_enter Tryz.func29, Tryz.ntmps29
    go_wp2_with fail
    go_ret
    exact ⟨_, rfl, HO, by (repeat (first | with_reducible assumption | with_reducible exact Below.refl _ _ | with_reducible refine Below.setCell ?_ ?_ _ | with_reducible refine Below.alloc ?_ ?_ _ | with_reducible refine Below.drew ?_ | with_reducible refine below_drewN ?_ _ | with_reducible refine Below.step (by with_reducible assumption) ?_ ?_ | omega | (simp <;> omega) | (simp; done)))⟩
  | succ n ih =>
    intro b v lo hi v2 lo2 hi2 v3 lo3 w h hh h2 hh2 h3 hh3 hn hix
    obtain ⟨A1, c1, rfl, hcap1⟩ := h.form
    obtain ⟨A2, c2, rfl, hcap2⟩ := h2.form
    obtain ⟨A3, c3, rfl, hcap3⟩ := h3.form
    have hne : ((b.length : Int) == (xs.length : Int)) = false := by simp; omega
    have HI := Lib.hid hix; clear hix
    have HIH := Lib.hid ih; clear ih
    have HN := Lib.hid hn
    have hbl : b.length + 1 ≤ xs.length := by omega
    have hn5 : n + 1 ≤ 5 := by omega
    clear hn
    have HMS := Lib.hid hms
    have HBX := Lib.hid hbx
    have HSL := Lib.hid hsl
    go_enter Tryz.func29, Tryz.ntmps29
    go_wp2_with fail
    go_loopw [7, 8, 9] (fun u j _ wr => ∃ k : Nat, k ≤ ps.length ∧ j = .int .i64 k ∧ OwnII wr lo3 w.heap.size u (calsTo (calsFrom xs ps n) xs ps b k) ∧ Below w.heap.size w wr) (fun _ j _ _ => ps.length - (intOf j).toNat)
    case atStart => exact ⟨0, Nat.zero_le _, rfl, OwnII.emptyAt rfl (Nat.le_refl _), by (repeat (first | with_reducible assumption | with_reducible exact Below.refl _ _ | with_reducible refine Below.setCell ?_ ?_ _ | with_reducible refine Below.alloc ?_ ?_ _ | with_reducible refine Below.drew ?_ | with_reducible refine below_drewN ?_ _ | with_reducible refine Below.step (by with_reducible assumption) ?_ ?_ | omega | (simp <;> omega) | (simp; done)))⟩
    case round =>
      obtain ⟨k, hk, rfl, hown, hbel⟩ := hrel
      have z0 := hbel.size
      by_cases hlt : k < ps.length
      · have hki : (k : Int) < (ps.length : Int) := by omega
        have g3 := (h3.below hbel (Nat.le_refl _))
        go_wp2_with fail
        refine (l01Own_any _ b lo3 w.heap.size _ g3.rd z0 (by omega)).mono ?_
        rintro e w1 ⟨v1, rfl, hown1, b1⟩
        have z1 := b1.size
        go_wp2_with ((at_builtin; refine wpList_push (enc := encInt) _ _ (by first | rfl | simp) rfl (.tmp 25) (.tmp 27) 28 rfl wr.heap.size 2 _ (.int .i64 0) 1 8 Tryz.underlying28 (by kernel_rfl) rfl (by omega) _ b (k : Int) _ rfl rfl (encInt_one _) rfl rfl hown1 (by omega) (by omega) (by (first | omega | (simp; omega) | (simp; done))) ?_; intro v9 w9 hown9 hg9 hk9; obtain ⟨A9, c9, rfl, hc9⟩ := RdF.form (hown9.rdw (fun _ => rfl)).rd; have hl9 : (b ++ [(k : Int)]).length = b.length + 1 := (by simp); rw [hl9] at hown9 hc9 ⊢; clear hl9))
        have b9 : Below wr.heap.size wr w9 := hk9 _ _ (Nat.le_refl _) b1
        have z9 := b9.size
        replace hown := hown.below b9
        replace hbel := Below.step b9 z0 hbel
        have hr9 := hown9.rdw (fun _ => rfl)
        have hl9 : (b ++ [(k : Int)]).length ≤ 1048576 := by simp; omega
        clear b1 b9 hk9 hg9 hown1 hown9
        have hpx := (h.below hbel hh).pre (k := b.length + 1) hbl
        have hpl : (xs.take (b.length + 1)).length ≤ 5 := by simp; omega
        refine (l21Is_any _ (xs.take (b.length + 1)) lo hi _ ps lo2 hi2 _ (b ++ [(k : Int)]) _ _ _ hpx (by omega) (by omega) (fun x hx => HMS.out x (List.mem_of_mem_take hx)) (h2.below hbel hh2) (by omega) (by omega) hr9.rd (Nat.le_refl _) hl9 (by omega) (fun x hx => HBX.out x (List.mem_of_mem_take hx)) HSL.out (all_snoc HI.out hlt)).mono ?_
        rintro e w10 ⟨rfl, b10⟩
        have z10 := b10.size
        replace hown := hown.below b10
        replace hbel := Below.step b10 (by omega) hbel
        replace hr9 := (hr9.below b10 (Nat.le_refl _)).wide (lo' := lo3) (hi' := w10.heap.size) (by omega) z10
        clear b10 hpx
        cases hcb : calB (xs.take (b.length + 1)) ps (b ++ [(k : Int)]) with
        | false =>
          have HF := Lib.hid (calsTo_no (f := calsFrom xs ps n) hcb)
          clear hcb
          go_wp2_with fail
          go_roundw
          case rel => exact ⟨k + 1, by omega, by go_num, (by rw [HF.out]; exact hown), hbel⟩
          case measure => simp [intOf]; omega
        | true =>
          have HF := Lib.hid (calsTo_yes (f := calsFrom xs ps n) hcb)
          clear hcb
          go_wp2_with fail
          refine (HIH.out (b ++ [(k : Int)]) _ lo hi _ lo2 hi2 _ lo3 w10 (h.below hbel hh) (by omega) (h2.below hbel hh2) (by omega) (by first | exact hr9 | simpa using hr9) (by omega) (by rw [List.length_append]; simp; have := HN.out; omega) (all_snoc HI.out hlt)).mono ?_
          rintro e w11 ⟨v11, rfl, hq, b11⟩
          have z11 := b11.size
          replace hown := hown.below b11
          replace hbel := Below.step b11 (by omega) hbel
          obtain ⟨rs, ers, lrs, ors, hrs⟩ := hown.parts
          obtain ⟨qs, eqs, lqs, oqs, hqs⟩ := hq.parts
          have lrs2 : rs.length ≤ 100000 := by rw [lrs]; exact calsTo_le hm2 hn5 hk
          have lqs2 : qs.length ≤ 100000 := by rw [lqs]; exact calsFrom_le hm2 (by omega)
          have HE := Lib.hid (show calsTo (calsFrom xs ps (n)) xs ps b (k + 1) = rs.map RowI.xs ++ qs.map RowI.xs by rw [HF.out, ers, eqs])
          clear lrs lqs ers eqs hown hq
          go_wp2_with (at_builtin; refine wpList_app (enc := RowI.enc) _ rfl _ _ 46 rfl w.heap.size 28 (.slice none 0 0) 1 24 Tryz.underlying46 (by kernel_rfl) rfl (by omega) (fun _ => rfl) RowI.one (by omega) _ _ rs qs _ _ (by rfl) (by rfl) ors (oqs.rdw (fun _ => rfl)).rd (by omega) (by omega) ?_; intro v12 w12 hown12 hg12 hk12)
          go_roundw
          case rel => exact ⟨k + 1, by omega, by go_num, (by rw [HE.out]; exact OwnII.join ors hg12 hrs hqs hown12), hk12 _ _ (Nat.le_refl _) hbel⟩
          case measure => simp [intOf]; omega
      · have hkn : k = ps.length := by omega
        subst hkn
        go_wp2_with fail
        go_ret
        exact ⟨_, rfl, hown, hbel⟩
end Go.Proofs.YtmgdkblleljdaaaGreat
