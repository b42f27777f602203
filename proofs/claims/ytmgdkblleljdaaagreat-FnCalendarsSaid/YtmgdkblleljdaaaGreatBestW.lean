/- Walks: the best calendar, the number of calendars, the forced choices. Written by a program (gen_best.py). -/
import Derived.Test.YtmgdkblleljdaaaGreatCalsW
import Derived.Test.YtmgdkblleljdaaaGreatCostW
import Derived.Test.YtmgdkblleljdaaaGreatSubsP
namespace Go.Proofs.YtmgdkblleljdaaaGreat
open Go.RowKit
set_option linter.unusedVariables false

def pick (f : List Int → Int) (b c : List Int) : List Int := if f c < f b then c else b
def bestTo (f : List Int → Int) (L : List (List Int)) (a : List Int) (k : Nat) : List Int := (L.take k).foldl (pick f) a
theorem bestTo_yes {f : List Int → Int} {L : List (List Int)} {a c : List Int} {k : Nat} (h : L[k]? = some c) (hf : f c < f (bestTo f L a k)) : bestTo f L a (k + 1) = c := by
  unfold bestTo at *
  rw [List.take_add_one, h, List.foldl_append]
  simp [pick, hf]
theorem bestTo_no {f : List Int → Int} {L : List (List Int)} {a c : List Int} {k : Nat} (h : L[k]? = some c) (hf : ¬ f c < f (bestTo f L a k)) : bestTo f L a (k + 1) = bestTo f L a k := by
  unfold bestTo at *
  rw [List.take_add_one, h, List.foldl_append]
  simp [pick, hf]
theorem bestTo_mem {f : List Int → Int} {L : List (List Int)} {a : List Int} (ha : a ∈ L) : ∀ k, bestTo f L a k ∈ L := by
  intro k
  have : ∀ (M : List (List Int)) (b : List Int), b ∈ L → (∀ c ∈ M, c ∈ L) → M.foldl (pick f) b ∈ L := by
    intro M
    induction M with
    | nil => intro b hb _; exact hb
    | cons c M ih =>
      intro b hb hM
      rw [List.foldl_cons]
      refine ih _ ?_ (fun d hd => hM d (List.mem_cons_of_mem _ hd))
      unfold pick
      split
      · exact hM c List.mem_cons_self
      · exact hb
  exact this _ a ha (fun c hc => List.mem_of_mem_take hc)
def bestOf (f : List Int → Int) (L : List (List Int)) : List Int := match L with
  | [] => []
  | a :: M => bestTo f (a :: M) a (a :: M).length
theorem bestOf_at {f : List Int → Int} {L : List (List Int)} {a : List Int} (h : L[0]? = some a) : bestOf f L = bestTo f L a L.length := by
  cases L with
  | nil => simp at h
  | cons b M => simp at h; subst h; rfl
def bestCal (xs : List Hearing) (ps : List Slot) : List Int × Int × Int :=
  if bothOk xs ps then (if (cals xs ps).length = 0 then ([], 0, 4) else (bestOf (costL ps) (cals xs ps), costL ps (bestOf (costL ps) (cals xs ps)), 0)) else ([], 0, 1)
theorem bestCal_bad {xs : List Hearing} {ps : List Slot} (h : bothOk xs ps = false) : bestCal xs ps = ([], 0, 1) := by unfold bestCal; rw [h]; rfl
theorem bestCal_none {xs : List Hearing} {ps : List Slot} (h : bothOk xs ps = true) (hl : (cals xs ps).length = 0) : bestCal xs ps = ([], 0, 4) := by unfold bestCal; rw [if_pos h, if_pos hl]
theorem bestCal_some {xs : List Hearing} {ps : List Slot} (h : bothOk xs ps = true) (hl : ¬ (cals xs ps).length = 0) : bestCal xs ps = (bestOf (costL ps) (cals xs ps), costL ps (bestOf (costL ps) (cals xs ps)), 0) := by unfold bestCal; rw [if_pos h, if_neg hl]
def countCal (xs : List Hearing) (ps : List Slot) : Int × Int := if bothOk xs ps then (((cals xs ps).length : Int), 0) else (0, 1)
theorem countCal_bad {xs : List Hearing} {ps : List Slot} (h : bothOk xs ps = false) : countCal xs ps = (0, 1) := by unfold countCal; rw [h]; rfl
theorem countCal_ok {xs : List Hearing} {ps : List Slot} (h : bothOk xs ps = true) : countCal xs ps = (((cals xs ps).length : Int), 0) := by unfold countCal; rw [if_pos h]
theorem bestOf_mem {f : List Int → Int} {L : List (List Int)} (h : ¬ L.length = 0) : bestOf f L ∈ L := by
  cases L with
  | nil => simp at h
  | cons a M => exact bestTo_mem List.mem_cons_self _
theorem bothOk_len {xs : List Hearing} {ps : List Slot} (h : bothOk xs ps = true) : xs.length ≤ 5 ∧ ps.length ≤ 10 := ⟨hearingsOk_len (bothOk_hx h), slotsOk_len (bothOk_sx h)⟩
theorem bestCal_len {xs : List Hearing} {ps : List Slot} : (bestCal xs ps).1.length ≤ 1048576 := by
  unfold bestCal
  split
  · next h =>
    split
    · simp
    · next hl =>
      have h1 := (cals_mem (bestOf_mem (f := costL ps) hl)).1
      have h2 := (bothOk_len h).1
      simp only
      omega
  · simp

/-- Row c against out: where they part, -1. -/
def fTo (c out : List Int) : Nat → List Int
  | 0 => out
  | j + 1 => if (fTo c out j)[j]? = c[j]? then fTo c out j else (fTo c out j).set j (-1)
theorem fTo_len (c out : List Int) : ∀ j, (fTo c out j).length = out.length
  | 0 => rfl
  | j + 1 => by
    rw [fTo]
    split
    · exact fTo_len c out j
    · rw [List.length_set]; exact fTo_len c out j
theorem fTo_yes {c out : List Int} {j : Nat} {x y : Int} (h1 : (fTo c out j)[j]? = some x) (h2 : c[j]? = some y) (h : x = y) : fTo c out (j + 1) = fTo c out j := by rw [fTo, if_pos (by rw [h1, h2, h])]
theorem fTo_no {c out : List Int} {j : Nat} {x y : Int} (h1 : (fTo c out j)[j]? = some x) (h2 : c[j]? = some y) (h : ¬ x = y) : fTo c out (j + 1) = (fTo c out j).set j (-1) := by rw [fTo, if_neg (by rw [h1, h2]; simpa using h)]
def fAll (L : List (List Int)) (a : List Int) : Nat → List Int
  | 0 => a
  | k + 1 => match L[k]? with
    | some c => fTo c (fAll L a k) a.length
    | none => fAll L a k
theorem fAll_len (L : List (List Int)) (a : List Int) : ∀ k, (fAll L a k).length = a.length
  | 0 => rfl
  | k + 1 => by
    rw [fAll]
    split
    · rw [fTo_len]; exact fAll_len L a k
    · exact fAll_len L a k
theorem fAll_step {L : List (List Int)} {a c : List Int} {k : Nat} (h : L[k]? = some c) : fAll L a (k + 1) = fTo c (fAll L a k) a.length := by rw [fAll, h]
def forcedOf (L : List (List Int)) : List Int := match L with
  | [] => []
  | a :: M => fAll (a :: M) a (a :: M).length
theorem forcedOf_at {L : List (List Int)} {a : List Int} (h : L[0]? = some a) : forcedOf L = fAll L a L.length := by
  cases L with
  | nil => simp at h
  | cons b M => simp at h; subst h; rfl
def forcedCal (xs : List Hearing) (ps : List Slot) : List Int × Int :=
  if bothOk xs ps then (if (cals xs ps).length = 0 then ([], 4) else (forcedOf (cals xs ps), 0)) else ([], 1)
theorem forcedCal_bad {xs : List Hearing} {ps : List Slot} (h : bothOk xs ps = false) : forcedCal xs ps = ([], 1) := by unfold forcedCal; rw [h]; rfl
theorem forcedCal_none {xs : List Hearing} {ps : List Slot} (h : bothOk xs ps = true) (hl : (cals xs ps).length = 0) : forcedCal xs ps = ([], 4) := by unfold forcedCal; rw [if_pos h, if_pos hl]
theorem forcedCal_some {xs : List Hearing} {ps : List Slot} (h : bothOk xs ps = true) (hl : ¬ (cals xs ps).length = 0) : forcedCal xs ps = (forcedOf (cals xs ps), 0) := by unfold forcedCal; rw [if_pos h, if_neg hl]
theorem forcedOf_len {L : List (List Int)} {n : Nat} (h : ∀ c ∈ L, c.length ≤ n) : (forcedOf L).length ≤ n := by
  cases L with
  | nil => simp [forcedOf]
  | cons a M =>
    have := h a List.mem_cons_self
    rw [forcedOf, fAll_len]; exact this
theorem forcedCal_len {xs : List Hearing} {ps : List Slot} : (forcedCal xs ps).1.length ≤ 1048576 := by
  unfold forcedCal
  split
  · next h =>
    split
    · simp
    · have h2 := (bothOk_len h).1
      have := forcedOf_len (L := cals xs ps) (n := xs.length) (fun c hc => by rw [(cals_mem hc).1]; exact Nat.le_refl _)
      simp only
      omega
  · simp

/-- The hearings with some indices. -/
def heldAt (xs : List Hearing) (s : List Int) : List Hearing := s.filterMap fun i => xs[i.toNat]?
theorem heldAt_step {xs : List Hearing} {s : List Int} {k : Nat} {i : Int} {h : Hearing} (h1 : s[k]? = some i) (h2 : xs[i.toNat]? = some h) : heldAt xs (s.take (k + 1)) = heldAt xs (s.take k) ++ [h] := by
  unfold heldAt
  rw [List.take_add_one, h1, List.filterMap_append]
  simp [h2]
theorem heldAt_len (xs : List Hearing) (s : List Int) : (heldAt xs s).length ≤ s.length := List.length_filterMap_le _ _
theorem heldAt_mem {xs : List Hearing} {s : List Int} {h : Hearing} (hm : h ∈ heldAt xs s) : h ∈ xs := by
  unfold heldAt at hm
  rw [List.mem_filterMap] at hm
  obtain ⟨i, -, hi⟩ := hm
  exact List.mem_of_getElem? hi
/-- There is a calendar for some hearings. -/
def canHold (xs : List Hearing) (ps : List Slot) (s : List Int) : Bool := decide (0 < (cals (heldAt xs s) ps).length)
def mostHeld (xs : List Hearing) (ps : List Slot) : List Int × Int := if bothOk xs ps then (mostS (canHold xs ps) xs.length xs.length, 0) else ([], 1)
theorem mostS_len {P : List Int → Bool} {n : Nat} : ∀ k, (mostS P n k).length ≤ n := by
  intro k
  rcases (mostS_inv (P := P) (n := n) k).1 with h | ⟨-, h⟩
  · rw [h]; exact Nat.zero_le _
  · exact h.len
theorem mostHeld_len {xs : List Hearing} {ps : List Slot} : (mostHeld xs ps).1.length ≤ 1048576 := by
  unfold mostHeld
  split
  · next h =>
    have h2 := (bothOk_len h).1
    have := mostS_len (P := canHold xs ps) (n := xs.length) xs.length
    simp only
    omega
  · simp

def RetVII (p : Value → World → Prop) (a c : Int) (w : World) (e : Ending) (w' : World) : Prop := ∃ v : Value, e = .returned (.tuple #[v, .int .i64 a, .int .i64 c]) ∧ p v w' ∧ Below w.heap.size w w'
theorem RdW.emptyAt (w : World) : RdW encInt 1 2 (w.alloc (.cells #[] 2)) w.heap.size (w.alloc (.cells #[] 2)).heap.size (.slice (some ⟨w.heap.size, 0, none⟩) 0 0) [] :=
  (OwnL.emptyAt (enc := encInt) (sz := 1) (t := 2) (w := w) (base := w.heap.size) rfl (Nat.le_refl _)).rdw (fun _ => rfl)
theorem RdW.setI {w : World} {lo hi k n c : Nat} {A : Option Addr} {out : List Int} (h : RdW encInt 1 2 w lo hi (.slice A n c) out) (hk : k < out.length) :
    ∃ (g : Nat) (x : Int), A = some ⟨g, 0, none⟩ ∧ lo ≤ g ∧ g < hi ∧ Hid (out[k]? = some x) ∧ w.cell? ⟨g, k, none⟩ = some (.int .i64 x) ∧ w.frozen? ⟨g, k, none⟩ = false ∧ ∀ y : Int, RdW encInt 1 2 (w.setCell ⟨g, k, none⟩ (.int .i64 y)) lo hi (.slice A n c) (out.set k y) := by
  obtain ⟨A', c', hv, hc, hA⟩ := h
  injection hv with h1 h2 h3
  subst h1 h3
  obtain ⟨g, arr, hg, g1, g2, hb, hs, hr⟩ := hA (by omega)
  subst hg
  refine ⟨g, out[k], rfl, g1, g2, List.getElem?_eq_getElem hk, ?_, hb.frozen k, fun y => ?_⟩
  · rw [hb.cell]
    have := hr k out[k] hk (List.getElem?_eq_getElem hk) 0 _ rfl
    simpa using this
  · refine ⟨_, c, by rw [List.length_set, h2], by rw [List.length_set]; exact hc, fun _ => ⟨g, _, rfl, g1, g2, hb.set_ k _, by simpa using hs, ?_⟩⟩
    intro i x hi hx j u hu
    rw [List.length_set] at hi
    have hj : j = 0 := by
      have := (List.getElem?_eq_some_iff.1 hu).1
      simpa [encInt] using this
    subst hj
    rw [List.getElem?_set] at hx
    by_cases hik : k = i
    · subst hik
      simp [hk] at hx
      subst hx
      simp [encInt] at hu
      subst hu
      simp only [Nat.mul_one, Nat.add_zero]
      rw [Array.getElem?_setIfInBounds_self, if_pos (by omega)]
    · rw [if_neg hik] at hx
      have := hr i x hi hx 0 u hu
      simp only [Nat.mul_one, Nat.add_zero] at this ⊢
      rw [Array.getElem?_setIfInBounds_ne hik]
      exact this

set_option maxRecDepth 100000 in
set_option maxHeartbeats 4000000 in
theorem l21All_top (v : Value) (xs : List Hearing) (lo hi : Nat) (v2 : Value) (ps : List Slot) (lo2 hi2 : Nat) (w : World) (h : RdHearing w lo hi v xs) (hh : hi ≤ w.heap.size) (h2 : RdF Slot.enc 3 w lo2 hi2 v2 ps) (hh2 : hi2 ≤ w.heap.size) (hm : xs.length ≤ 5) (hms : ∀ x ∈ xs, Hearing.small x) (hbx : ∀ x ∈ xs, x.ok = true) (hm2 : ps.length ≤ 10) (hsl : ∀ s ∈ ps, s.ok = true) :
    Calls Tryz.prog 29 #[v, v2, .slice (some ⟨w.heap.size, 0, none⟩) 0 0] (w.alloc (.cells #[] 2)) fun e w' => RetV (fun v' w' => OwnII w' w.heap.size w.heap.size v' (cals xs ps)) w e w' := by
  have hb : Below w.heap.size w (w.alloc (.cells #[] 2)) := (Below.refl _ _).alloc (Nat.le_refl _) _
  have hz := hb.size
  refine (l21All_any xs ps hm hms hbx hm2 hsl xs.length [] v lo hi v2 lo2 hi2 _ w.heap.size _ (h.below hb hh) (by omega) (h2.below hb hh2) (by omega) (RdW.emptyAt w) hz (by simp) rfl).mono ?_
  rintro e w1 ⟨v1, rfl, ho, b1⟩
  exact ⟨v1, rfl, ho.mono (Nat.le_refl _) hz, Below.step b1 hz hb⟩
set_option maxRecDepth 100000 in
set_option maxHeartbeats 4000000 in
theorem calendars_any (v : Value) (xs : List Hearing) (lo hi : Nat) (v2 : Value) (ps : List Slot) (lo2 hi2 : Nat) (w : World) (h : RdHearing w lo hi v xs) (hh : hi ≤ w.heap.size) (h2 : RdF Slot.enc 3 w lo2 hi2 v2 ps) (hh2 : hi2 ≤ w.heap.size) (hm : xs.length ≤ 5) (hms : ∀ x ∈ xs, Hearing.small x) (hbx : ∀ x ∈ xs, x.ok = true) (hm2 : ps.length ≤ 10) (hsl : ∀ s ∈ ps, s.ok = true) :
    Calls Tryz.prog 25 #[v, v2] w fun e w' => RetV (fun v' w' => OwnII w' w.heap.size w.heap.size v' (cals xs ps)) w e w' := by
  have hb : Below w.heap.size w (w.alloc (.cells #[] 2)) := (Below.refl _ _).alloc (Nat.le_refl _) _
  have hz := hb.size
  go_enter Tryz.func25, Tryz.ntmps25
  go_wp2_with fail
  refine (calendarsFrom_any xs ps hm hms hbx hm2 hsl xs.length [] v lo hi v2 lo2 hi2 _ w.heap.size _ (h.below hb hh) (by omega) (h2.below hb hh2) (by omega) (RdW.emptyAt w) hz (by simp) rfl).mono ?_
  rintro e w1 ⟨v1, rfl, ho, b1⟩
  go_wp2_with fail
  go_ret
  exact ⟨v1, rfl, ho.mono (Nat.le_refl _) hz, Below.step b1 hz hb⟩
set_option maxRecDepth 100000 in
set_option maxHeartbeats 4000000 in
theorem best_any (v2 : Value) (ps : List Slot) (lo2 hi2 : Nat) (v3 : Value) (L : List (List Int)) (lo3 hi3 : Nat) (w : World) (h2 : RdF Slot.enc 3 w lo2 hi2 v2 ps) (hh2 : hi2 ≤ w.heap.size) (hm2 : ps.length ≤ 10) (hsl : ∀ s ∈ ps, s.ok = true) (h3 : RdII w lo3 hi3 v3 L) (hh3 : hi3 ≤ w.heap.size) (hl0 : 0 < L.length) (hl1 : L.length ≤ 1048576) (hL : ∀ c ∈ L, c.length ≤ 1048576 ∧ c.all (idxOk ps.length) = true) :
    Calls Tryz.prog 26 #[v2, v3] w fun e w' => RetV (fun v' w' => RdW encInt 1 2 w' lo3 hi3 v' (bestOf (costL ps) L)) w e w' := by
  obtain ⟨A3, c3, rfl, hcap3⟩ := h3.form
  have HL := Lib.hid hL; clear hL
  have HSL := Lib.hid hsl; clear hsl
  have hl0' : 0 < (L.length : Int) := by omega
  have h3' := h3.wide (Nat.le_refl _) hh3
  go_enter Tryz.func26, Tryz.ntmps26
  obtain ⟨a, a0, c0, b, off, HA0, rfl, hbw0, x0, hr0⟩ := RdII.at h3 (Below.refl w.heap.size w) (by omega) (show 0 < L.length by omega)
  rw [Nat.add_zero] at x0
  have ham := List.mem_of_getElem? HA0.out
  go_wp2_with fail
  go_loopw [5, 7, 13] (fun f _ j wr => ∃ k : Nat, k ≤ L.length ∧ j = .int .i64 k ∧ (∃ a1 c1, f = .slice a1 (bestTo (costL ps) L a k).length c1 ∧ RdW encInt 1 2 wr lo3 hi3 (.slice a1 (bestTo (costL ps) L a k).length c1) (bestTo (costL ps) L a k)) ∧ Below w.heap.size w wr) (fun _ _ j _ => L.length - (intOf j).toNat)
  case atStart => exact ⟨0, Nat.zero_le _, rfl, ⟨_, _, rfl, hr0⟩, Below.refl _ _⟩
  case round =>
    obtain ⟨k, hk, rfl, ⟨a1, c1, rfl, hrb⟩, hbel⟩ := hrel
    have z0 := hbel.size
    have HB := Lib.hid (HL.out _ (bestTo_mem (f := costL ps) ham k))
    by_cases hlt : k < L.length
    · have hki : (k : Int) < (L.length : Int) := by omega
      obtain ⟨c, ac, cc, b', off', HS, eA, hbw, x1, hrc⟩ := RdII.at h3 hbel (by omega) hlt
      injection eA with eA; injection eA with e1 e2; subst e1 e2
      have HC := Lib.hid (HL.out c (List.mem_of_getElem? HS.out))
      go_wp2_with fail
      refine (cost_any _ ps lo2 hi2 _ c _ _ _ (h2.below hbel (by omega)) (by omega) (by omega) hrc.rd (by omega) HC.out.1 HSL.out HC.out.2).mono ?_
      rintro e w5 ⟨rfl, b5⟩
      have z5 := b5.size
      replace hrc := hrc.below b5 (by omega)
      replace hrb := hrb.below b5 (by omega)
      replace hbel := Below.step b5 z0 hbel
      clear b5 x1
      obtain ⟨c', ac', cc', b', off', HS', eA, -, x1, hrc'⟩ := RdII.at h3 hbel (by omega) hlt
      injection eA with eA; injection eA with e1 e2; subst e1 e2
      go_wp2_with fail
      refine (cost_any _ ps lo2 hi2 _ (bestTo (costL ps) L a k) _ _ _ (h2.below hbel (by omega)) (by omega) (by omega) hrb.rd (by omega) HB.out.1 HSL.out HB.out.2).mono ?_
      rintro e w6 ⟨rfl, b6⟩
      have z6 := b6.size
      replace hrc := hrc.below b6 (by omega)
      replace hrb := hrb.below b6 (by omega)
      replace hbel := Below.step b6 (by omega) hbel
      clear b6 x1 hrc' HS'
      obtain ⟨c', ac', cc', b', off', HS', eA, -, x1, hrc'⟩ := RdII.at h3 hbel (by omega) hlt
      injection eA with eA; injection eA with e1 e2; subst e1 e2
      by_cases hf : costL ps c < costL ps (bestTo (costL ps) L a k)
      · have HY := Lib.hid (bestTo_yes HS.out hf)
        have HY' := Lib.hid (show c' = c by have := HS'.out; rw [HS.out] at this; injection this with this; exact this.symm)
        go_wp2_with fail
        go_roundw
        case rel => exact ⟨k + 1, by omega, by go_num, ⟨_, _, by rw [HY.out], by rw [HY.out]; exact hrc⟩, hbel⟩
        case measure => simp [intOf]; omega
      · have HY := Lib.hid (bestTo_no HS.out hf)
        go_wp2_with fail
        go_roundw
        case rel => exact ⟨k + 1, by omega, by go_num, ⟨a1, c1, by rw [HY.out], by rw [HY.out]; exact hrb⟩, hbel⟩
        case measure => simp [intOf]; omega
    · have hkn : k = L.length := by omega
      have HE := Lib.hid (show bestOf (costL ps) L = bestTo (costL ps) L a k by rw [hkn]; exact bestOf_at HA0.out)
      clear hkn
      go_wp2_with fail
      go_ret
      exact ⟨_, rfl, by rw [HE.out]; exact hrb, hbel⟩
set_option maxRecDepth 100000 in
set_option maxHeartbeats 4000000 in
theorem bestCalendar_any (v : Value) (xs : List Hearing) (lo hi : Nat) (v2 : Value) (ps : List Slot) (lo2 hi2 : Nat) (w : World) (h : RdHearing w lo hi v xs) (hh : hi ≤ w.heap.size) (hm : xs.length ≤ 1048576) (hms : ∀ x ∈ xs, Hearing.small x) (h2 : RdF Slot.enc 3 w lo2 hi2 v2 ps) (hh2 : hi2 ≤ w.heap.size) (hm2 : ps.length ≤ 1048576) :
    Calls Tryz.prog 6 #[v, v2] w fun e w' => RetVII (fun v' w' => RdW encInt 1 2 w' w.heap.size w'.heap.size v' (bestCal xs ps).1) (bestCal xs ps).2.1 (bestCal xs ps).2.2 w e w' := by
  go_enter Tryz.func6, Tryz.ntmps6
  go_wp2_with fail
  refine (bothOk_any _ xs lo hi _ ps lo2 hi2 _ h hh hm hms h2 hh2 hm2).mono ?_
  rintro e w1 ⟨rfl, b1⟩
  have z1 := b1.size
  replace h := h.below b1 (by omega)
  replace h2 := h2.below b1 (by omega)
  cases hc : bothOk xs ps with
  | false =>
    have HF := Lib.hid (bestCal_bad hc)
    go_wp2_with fail
    go_ret3
    rw [HF.out]
    exact ⟨_, rfl, RdW.nil, b1⟩
  | true =>
    have hcl := bothOk_len hc
    go_wp2_with fail
    refine (calendars_any _ xs lo hi _ ps lo2 hi2 _ h (by omega) h2 (by omega) hcl.1 hms (hearingsOk_all (bothOk_hx hc)) hcl.2 (slotsOk_all (bothOk_sx hc))).mono ?_
    rintro e w2 ⟨y2, rfl, ho, b2⟩
    have z2 := b2.size
    replace h2 := h2.below b2 (by omega)
    have hbk := Below.step b2 z1 b1
    have hnl := cals_le (xs := xs) (ps := ps) hcl.2 hcl.1
    have HC := Lib.hid (fun c (hcm : c ∈ cals xs ps) => cals_mem hcm)
    obtain ⟨AL, cL, rfl, hcL⟩ := ho.form
    by_cases hl : (cals xs ps).length = 0
    · have HF := Lib.hid (bestCal_none hc hl)
      have hli : ((cals xs ps).length : Int) = 0 := by omega
      go_wp2_with fail
      go_ret3
      rw [HF.out]
      exact ⟨_, rfl, RdW.nil, hbk⟩
    have HF := Lib.hid (bestCal_some hc hl)
    have hli : ¬ ((cals xs ps).length : Int) = 0 := by omega
    have hle : (((cals xs ps).length : Int) == 0) = false := by rw [beq_eq_false_iff_ne]; omega
    have HL := Lib.hid (show ∀ c ∈ cals xs ps, c.length ≤ 1048576 ∧ c.all (idxOk ps.length) = true from fun c hcm => ⟨by have := (HC.out c hcm).1; omega, (HC.out c hcm).2⟩)
    have HSL := Lib.hid (slotsOk_all (bothOk_sx hc))
    have hrd := ho.rd (Nat.le_refl _)
    clear HC ho hc h
    generalize cals xs ps = L at *
    go_wp2_with fail
    refine (best_any _ ps lo2 hi2 _ L _ _ _ h2 (by omega) hcl.2 HSL.out hrd (Nat.le_refl _) (by omega) (by omega) HL.out).mono ?_
    rintro e w3 ⟨y3, rfl, hy3, b3⟩
    have z3 := b3.size
    have HB := Lib.hid (HL.out _ (bestOf_mem (f := costL ps) hl))
    replace h2 := h2.below b3 (by omega)
    replace hbk := Below.step b3 (by omega) hbk
    obtain ⟨AB, cB, rfl, hcB⟩ := RdF.form hy3.rd
    go_wp2_with fail
    refine (cost_any _ ps lo2 hi2 _ (bestOf (costL ps) L) _ _ _ h2 (by omega) (by omega) hy3.rd (by omega) HB.out.1 HSL.out HB.out.2).mono ?_
    rintro e w4 ⟨rfl, b4⟩
    have z4 := b4.size
    go_wp2_with fail
    go_ret3
    rw [HF.out]
    exact ⟨_, rfl, (hy3.below b4 z3).wide z1 (by omega), Below.step b4 (by omega) hbk⟩
set_option maxRecDepth 100000 in
set_option maxHeartbeats 4000000 in
theorem countCalendars_any (v : Value) (xs : List Hearing) (lo hi : Nat) (v2 : Value) (ps : List Slot) (lo2 hi2 : Nat) (w : World) (h : RdHearing w lo hi v xs) (hh : hi ≤ w.heap.size) (hm : xs.length ≤ 1048576) (hms : ∀ x ∈ xs, Hearing.small x) (h2 : RdF Slot.enc 3 w lo2 hi2 v2 ps) (hh2 : hi2 ≤ w.heap.size) (hm2 : ps.length ≤ 1048576) :
    Calls Tryz.prog 8 #[v, v2] w fun e w' => e = .returned (.tuple #[.int .i64 (countCal xs ps).1, .int .i64 (countCal xs ps).2]) ∧ Below w.heap.size w w' := by
  go_enter Tryz.func8, Tryz.ntmps8
  go_wp2_with fail
  refine (bothOk_any _ xs lo hi _ ps lo2 hi2 _ h hh hm hms h2 hh2 hm2).mono ?_
  rintro e w1 ⟨rfl, b1⟩
  have z1 := b1.size
  replace h := h.below b1 (by omega)
  replace h2 := h2.below b1 (by omega)
  cases hc : bothOk xs ps with
  | false =>
    have HF := Lib.hid (countCal_bad hc)
    go_wp2_with fail
    go_ret2
    rw [HF.out]
    exact ⟨rfl, b1⟩
  | true =>
    have hcl := bothOk_len hc
    go_wp2_with fail
    refine (calendars_any _ xs lo hi _ ps lo2 hi2 _ h (by omega) h2 (by omega) hcl.1 hms (hearingsOk_all (bothOk_hx hc)) hcl.2 (slotsOk_all (bothOk_sx hc))).mono ?_
    rintro e w2 ⟨y2, rfl, ho, b2⟩
    have z2 := b2.size
    replace h2 := h2.below b2 (by omega)
    have hbk := Below.step b2 z1 b1
    have hnl := cals_le (xs := xs) (ps := ps) hcl.2 hcl.1
    have HC := Lib.hid (fun c (hcm : c ∈ cals xs ps) => cals_mem hcm)
    obtain ⟨AL, cL, rfl, hcL⟩ := ho.form
    have HF := Lib.hid (countCal_ok hc)
    go_wp2_with fail
    go_ret2
    rw [HF.out]
    exact ⟨rfl, hbk⟩
set_option maxRecDepth 100000 in
set_option maxHeartbeats 4000000 in
theorem sBestCalendar_any (v : Value) (xs : List Hearing) (lo hi : Nat) (v2 : Value) (ps : List Slot) (lo2 hi2 : Nat) (w : World) (h : RdHearing w lo hi v xs) (hh : hi ≤ w.heap.size) (hm : xs.length ≤ 1048576) (hms : ∀ x ∈ xs, Hearing.small x) (h2 : RdF Slot.enc 3 w lo2 hi2 v2 ps) (hh2 : hi2 ≤ w.heap.size) (hm2 : ps.length ≤ 1048576) :
    Calls Tryz.prog 7 #[v, v2] w fun e w' => RetVII (fun v' w' => RdW encInt 1 2 w' w.heap.size w'.heap.size v' (bestCal xs ps).1) (bestCal xs ps).2.1 (bestCal xs ps).2.2 w e w' := by
  go_enter Tryz.func7, Tryz.ntmps7
  go_wp2_with fail
  refine (l21Code_any _ xs lo hi _ ps lo2 hi2 _ h hh hm hms h2 hh2 hm2).mono ?_
  rintro e w1 ⟨rfl, b1⟩
  have z1 := b1.size
  replace h := h.below b1 (by omega)
  replace h2 := h2.below b1 (by omega)
  cases hc : bothOk xs ps with
  | false =>
    rw [bothCode_no hc]
    have HF := Lib.hid (bestCal_bad hc)
    go_wp2_with fail
    go_ret3
    rw [HF.out]
    exact ⟨_, rfl, RdW.nil, b1⟩
  | true =>
    rw [bothCode_yes hc]
    have hcl := bothOk_len hc
    go_wp2_with fail
    refine (l21All_top _ xs lo hi _ ps lo2 hi2 _ h (by omega) h2 (by omega) hcl.1 hms (hearingsOk_all (bothOk_hx hc)) hcl.2 (slotsOk_all (bothOk_sx hc))).mono ?_
    rintro e w2 ⟨y2, rfl, ho, b2⟩
    have z2 := b2.size
    replace h2 := h2.below b2 (by omega)
    have hbk := Below.step b2 z1 b1
    have hnl := cals_le (xs := xs) (ps := ps) hcl.2 hcl.1
    have HC := Lib.hid (fun c (hcm : c ∈ cals xs ps) => cals_mem hcm)
    obtain ⟨AL, cL, rfl, hcL⟩ := ho.form
    by_cases hl : (cals xs ps).length = 0
    · have HF := Lib.hid (bestCal_none hc hl)
      have hli : ((cals xs ps).length : Int) = 0 := by omega
      go_wp2_with fail
      go_ret3
      rw [HF.out]
      exact ⟨_, rfl, RdW.nil, hbk⟩
    have HF := Lib.hid (bestCal_some hc hl)
    have hli : ¬ ((cals xs ps).length : Int) = 0 := by omega
    have hle : (((cals xs ps).length : Int) == 0) = false := by rw [beq_eq_false_iff_ne]; omega
    have HL := Lib.hid (show ∀ c ∈ cals xs ps, c.length ≤ 1048576 ∧ c.all (idxOk ps.length) = true from fun c hcm => ⟨by have := (HC.out c hcm).1; omega, (HC.out c hcm).2⟩)
    have HSL := Lib.hid (slotsOk_all (bothOk_sx hc))
    have hrd := ho.rd (Nat.le_refl _)
    clear HC ho hc h
    generalize cals xs ps = L at *
    have hl0' : 0 < (L.length : Int) := by omega
    obtain ⟨a, a0, c0, b, off, HA0, rfl, hbw0, x0, hr0⟩ := RdII.at hrd (Below.refl _ w2) (Nat.le_refl _) (show 0 < L.length by omega)
    rw [Nat.add_zero] at x0
    have ham := List.mem_of_getElem? HA0.out
    go_wp2_with fail
    go_loopw [9, 10] (fun f j wr => ∃ k : Nat, k ≤ L.length ∧ j = .int .i64 k ∧ (∃ a1 c1, f = .slice a1 (bestTo (costL ps) L a k).length c1 ∧ RdW encInt 1 2 wr w1.heap.size w2.heap.size (.slice a1 (bestTo (costL ps) L a k).length c1) (bestTo (costL ps) L a k)) ∧ Below w2.heap.size w2 wr) (fun _ j _ => L.length - (intOf j).toNat)
    case atStart => exact ⟨0, Nat.zero_le _, rfl, ⟨_, _, rfl, hr0⟩, Below.refl _ _⟩
    case round =>
      obtain ⟨k, hk, rfl, ⟨a1, c1, rfl, hrb⟩, hbel⟩ := hrel
      have z0 := hbel.size
      have HB := Lib.hid (HL.out _ (bestTo_mem (f := costL ps) ham k))
      by_cases hlt : k < L.length
      · have hki : (k : Int) < (L.length : Int) := by omega
        obtain ⟨c, ac, cc, b', off', HS, eA, hbw, x1, hrc⟩ := RdII.at hrd hbel (by omega) hlt
        injection eA with eA; injection eA with e1 e2; subst e1 e2
        have HC := Lib.hid (HL.out c (List.mem_of_getElem? HS.out))
        go_wp2_with fail
        refine (l21Cost_any _ ps lo2 hi2 _ c _ _ _ (h2.below hbel (by omega)) (by omega) (by omega) hrc.rd (by omega) HC.out.1 HSL.out HC.out.2).mono ?_
        rintro e w5 ⟨rfl, b5⟩
        have z5 := b5.size
        replace hrc := hrc.below b5 (by omega)
        replace hrb := hrb.below b5 (by omega)
        replace hbel := Below.step b5 z0 hbel
        clear b5 x1
        obtain ⟨c', ac', cc', b', off', HS', eA, -, x1, hrc'⟩ := RdII.at hrd hbel (by omega) hlt
        injection eA with eA; injection eA with e1 e2; subst e1 e2
        go_wp2_with fail
        refine (l21Cost_any _ ps lo2 hi2 _ (bestTo (costL ps) L a k) _ _ _ (h2.below hbel (by omega)) (by omega) (by omega) hrb.rd (by omega) HB.out.1 HSL.out HB.out.2).mono ?_
        rintro e w6 ⟨rfl, b6⟩
        have z6 := b6.size
        replace hrc := hrc.below b6 (by omega)
        replace hrb := hrb.below b6 (by omega)
        replace hbel := Below.step b6 (by omega) hbel
        clear b6 x1 hrc' HS'
        obtain ⟨c', ac', cc', b', off', HS', eA, -, x1, hrc'⟩ := RdII.at hrd hbel (by omega) hlt
        injection eA with eA; injection eA with e1 e2; subst e1 e2
        by_cases hf : costL ps c < costL ps (bestTo (costL ps) L a k)
        · have HY := Lib.hid (bestTo_yes HS.out hf)
          have HY' := Lib.hid (show c' = c by have := HS'.out; rw [HS.out] at this; injection this with this; exact this.symm)
          go_wp2_with fail
          go_roundw
          case rel => exact ⟨k + 1, by omega, by go_num, ⟨ac', cc', by rw [HY.out, HY'.out], by rw [HY.out, ← HY'.out]; exact hrc'⟩, hbel⟩
          case measure => simp [intOf]; omega
        · have HY := Lib.hid (bestTo_no HS.out hf)
          go_wp2_with fail
          go_roundw
          case rel => exact ⟨k + 1, by omega, by go_num, ⟨a1, c1, by rw [HY.out], by rw [HY.out]; exact hrb⟩, hbel⟩
          case measure => simp [intOf]; omega
      · have hkn : k = L.length := by omega
        have HE := Lib.hid (show bestOf (costL ps) L = bestTo (costL ps) L a k by rw [hkn]; exact bestOf_at HA0.out)
        clear hkn
        go_wp2_with fail
        refine (l21Cost_any _ ps lo2 hi2 _ (bestTo (costL ps) L a k) _ _ _ (h2.below hbel (by omega)) (by omega) (by omega) hrb.rd (by omega) HB.out.1 HSL.out HB.out.2).mono ?_
        rintro e w7 ⟨rfl, b7⟩
        have z7 := b7.size
        go_wp2_with fail
        go_ret3
        rw [HF.out, HE.out]
        exact ⟨_, rfl, (hrb.below b7 (by omega)).wide z1 (by omega), Below.step b7 (by omega) (Below.step hbel (by omega) hbk)⟩
set_option maxRecDepth 100000 in
set_option maxHeartbeats 4000000 in
theorem sCountCalendars_any (v : Value) (xs : List Hearing) (lo hi : Nat) (v2 : Value) (ps : List Slot) (lo2 hi2 : Nat) (w : World) (h : RdHearing w lo hi v xs) (hh : hi ≤ w.heap.size) (hm : xs.length ≤ 1048576) (hms : ∀ x ∈ xs, Hearing.small x) (h2 : RdF Slot.enc 3 w lo2 hi2 v2 ps) (hh2 : hi2 ≤ w.heap.size) (hm2 : ps.length ≤ 1048576) :
    Calls Tryz.prog 9 #[v, v2] w fun e w' => e = .returned (.tuple #[.int .i64 (countCal xs ps).1, .int .i64 (countCal xs ps).2]) ∧ Below w.heap.size w w' := by
  go_enter Tryz.func9, Tryz.ntmps9
  go_wp2_with fail
  refine (l21Code_any _ xs lo hi _ ps lo2 hi2 _ h hh hm hms h2 hh2 hm2).mono ?_
  rintro e w1 ⟨rfl, b1⟩
  have z1 := b1.size
  replace h := h.below b1 (by omega)
  replace h2 := h2.below b1 (by omega)
  cases hc : bothOk xs ps with
  | false =>
    rw [bothCode_no hc]
    have HF := Lib.hid (countCal_bad hc)
    go_wp2_with fail
    go_ret2
    rw [HF.out]
    exact ⟨rfl, b1⟩
  | true =>
    rw [bothCode_yes hc]
    have hcl := bothOk_len hc
    go_wp2_with fail
    refine (l21All_top _ xs lo hi _ ps lo2 hi2 _ h (by omega) h2 (by omega) hcl.1 hms (hearingsOk_all (bothOk_hx hc)) hcl.2 (slotsOk_all (bothOk_sx hc))).mono ?_
    rintro e w2 ⟨y2, rfl, ho, b2⟩
    have z2 := b2.size
    replace h2 := h2.below b2 (by omega)
    have hbk := Below.step b2 z1 b1
    have hnl := cals_le (xs := xs) (ps := ps) hcl.2 hcl.1
    have HC := Lib.hid (fun c (hcm : c ∈ cals xs ps) => cals_mem hcm)
    obtain ⟨AL, cL, rfl, hcL⟩ := ho.form
    have HF := Lib.hid (countCal_ok hc)
    go_wp2_with fail
    go_ret2
    rw [HF.out]
    exact ⟨rfl, hbk⟩
end Go.Proofs.YtmgdkblleljdaaaGreat
