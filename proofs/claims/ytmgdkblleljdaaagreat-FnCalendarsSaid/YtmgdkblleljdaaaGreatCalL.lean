/- The plain law of calendars: the search finds all calendars, the best one costs the least, forced choices are those of all, the most hearings are all where there is a calendar. No program stands here. -/
import Derived.Test.YtmgdkblleljdaaaGreatForcedW
import Derived.Test.YtmgdkblleljdaaaGreatHeldW
namespace Go.Proofs.YtmgdkblleljdaaaGreat
open Go.RowKit
set_option linter.unusedVariables false

theorem slotsAt_get {ps : List Slot} : ∀ {c : List Int}, c.all (idxOk ps.length) = true → ∀ k : Nat, (slotsAt ps c)[k]? = (c[k]?).bind fun i => ps[i.toNat]?
  | [], _, k => by simp [slotsAt]
  | i :: c, h, k => by
    rw [List.all_cons, Bool.and_eq_true] at h
    have hi : 0 ≤ i ∧ i < ps.length := of_decide_eq_true h.1
    have hs : ps[i.toNat]? = some (ps[i.toNat]'(by omega)) := List.getElem?_eq_getElem (by omega)
    have e : slotsAt ps (i :: c) = ps[i.toNat]'(by omega) :: slotsAt ps c := by
      unfold slotsAt
      rw [List.filterMap_cons, hs]
    rw [e]
    cases k with
    | zero => simp [hs]
    | succ k => simpa using slotsAt_get h.2 k
theorem slotsAt_take {ps : List Slot} {c : List Int} (h : c.all (idxOk ps.length) = true) (j : Nat) : slotsAt ps (c.take j) = (slotsAt ps c).take j := by
  apply List.ext_getElem?
  intro k
  have h2 : (c.take j).all (idxOk ps.length) = true := by
    rw [List.all_eq_true] at h ⊢
    exact fun x hx => h x (List.mem_of_mem_take hx)
  rw [slotsAt_get h2, List.getElem?_take, List.getElem?_take, slotsAt_get h]
  split <;> simp
theorem slotsAt_full {ps : List Slot} {c : List Int} (h : c.all (idxOk ps.length) = true) : (slotsAt ps c).length = c.length := by
  apply Nat.le_antisymm (slotsAt_len ps c)
  rcases Nat.lt_or_ge (slotsAt ps c).length c.length with hl | hl
  · exfalso
    have h1 := slotsAt_get h (slotsAt ps c).length
    rw [List.getElem?_eq_none (Nat.le_refl _)] at h1
    have hc : c[(slotsAt ps c).length]? = some (c[(slotsAt ps c).length]'hl) := List.getElem?_eq_getElem hl
    rw [hc] at h1
    have hi := (List.all_eq_true.1 h) _ (List.mem_of_getElem? hc)
    have hi' := of_decide_eq_true hi
    have hs : ps[(c[(slotsAt ps c).length]'hl).toNat]? = some (ps[(c[(slotsAt ps c).length]'hl).toNat]'(by omega)) := List.getElem?_eq_getElem (by omega)
    rw [Option.bind_some, hs] at h1
    cases h1
  · exact hl
theorem prefOk_take {α : Type} {p : List α → α → Bool} {xs : List α} (h : prefOk p xs = true) (j : Nat) : prefOk p (xs.take j) = true := by
  have each : ∀ k, k ≤ (xs.take j).length → prefAll p (xs.take j) k = true := by
    intro k
    induction k with
    | zero => intro _; rfl
    | succ k ih =>
      intro hk
      have hk' : k < (xs.take j).length := by omega
      rw [List.length_take] at hk'
      have hx : xs[k]? = some (xs[k]'(by omega)) := List.getElem?_eq_getElem (by omega)
      have hx2 : (xs.take j)[k]? = some (xs[k]'(by omega)) := by rw [List.getElem?_take, if_pos (by omega), hx]
      rw [prefAll, ih (by omega), hx2]
      have h1 := prefOk_at h hx
      have e : (xs.take j).take k = xs.take k := by rw [List.take_take]; congr 1; omega
      simp only [e, h1, Bool.and_self]
  exact each _ (Nat.le_refl _)
theorem planAt_take {xs : List Hearing} {ps : List Slot} {i j : Nat} (hi : i < j) : planAt (xs.take j) (ps.take j) i = planAt xs ps i := by
  have hg : ∀ k, k ≤ i → (xs.take j)[k]? = xs[k]? ∧ (ps.take j)[k]? = ps[k]? := fun k hk => ⟨by rw [List.getElem?_take, if_pos (by omega)], by rw [List.getElem?_take, if_pos (by omega)]⟩
  obtain ⟨a1, a2⟩ := hg i (Nat.le_refl _)
  unfold planAt
  congr 1
  · unfold fitAt; rw [a1, a2]
  · rw [Bool.eq_iff_iff, List.all_eq_true, List.all_eq_true]
    have e : ∀ k, k < i → clAt (xs.take j) (ps.take j) i k = clAt xs ps i k := by
      intro k hk
      obtain ⟨b1, b2⟩ := hg k (by omega)
      unfold clAt; rw [a1, a2, b1, b2]
    constructor
    · intro h k hk
      rw [← e k (List.mem_range.1 hk)]
      exact h k hk
    · intro h k hk
      rw [e k (List.mem_range.1 hk)]
      exact h k hk
theorem planB_lensL {xs : List Hearing} {ps : List Slot} (h : planB xs ps = true) : ps.length = xs.length := by
  unfold planB at h
  rw [Bool.and_eq_true] at h
  exact of_decide_eq_true h.1
theorem planB_take {xs : List Hearing} {ps : List Slot} (h : planB xs ps = true) (j : Nat) : planB (xs.take j) (ps.take j) = true := by
  have hl := planB_lensL h
  unfold planB at h ⊢
  rw [Bool.and_eq_true] at h ⊢
  refine ⟨decide_eq_true (by rw [List.length_take, List.length_take, hl]), ?_⟩
  rw [List.all_eq_true] at *
  intro i hi
  rw [List.mem_range, List.length_take] at hi
  rw [planAt_take (by omega)]
  exact h.2 i (List.mem_range.2 (by omega))
theorem calB_take {xs : List Hearing} {ps : List Slot} {c : List Int} (ha : c.all (idxOk ps.length) = true) (h : calB xs ps c = true) (j : Nat) : calB (xs.take j) ps (c.take j) = true := by
  unfold calB at h ⊢
  rw [Bool.and_eq_true] at h ⊢
  exact ⟨prefOk_take h.1 j, by rw [slotsAt_take ha]; exact planB_take h.2 j⟩
theorem calsTo_in {f : List Int → List (List Int)} {xs : List Hearing} {ps : List Slot} {b c : List Int} {i : Nat} (hb : calB (xs.take (b.length + 1)) ps (b ++ [(i : Int)]) = true) (hc : c ∈ f (b ++ [(i : Int)])) : ∀ {k : Nat}, i < k → c ∈ calsTo f xs ps b k
  | 0, h => by omega
  | k + 1, h => by
    rw [calsTo, List.mem_append]
    by_cases hk : i = k
    · subst hk
      right
      rw [if_pos hb]
      exact hc
    · left
      exact calsTo_in hb hc (by omega)
/-- What the search finds beyond what is begun. -/
theorem calsFrom_in {xs : List Hearing} {ps : List Slot} : ∀ (n : Nat) (b t : List Int), t.length = n → t.all (idxOk ps.length) = true → (∀ j, b.length < j → j ≤ b.length + n → calB (xs.take j) ps ((b ++ t).take j) = true) → b ++ t ∈ calsFrom xs ps n b
  | 0, b, t, hl, _, _ => by
    have : t = [] := List.eq_nil_of_length_eq_zero hl
    subst this
    simp [calsFrom]
  | n + 1, b, [], hl, _, _ => by simp at hl
  | n + 1, b, a :: t, hl, ha, h => by
    rw [List.all_cons, Bool.and_eq_true] at ha
    have hi : 0 ≤ a ∧ a < ps.length := of_decide_eq_true ha.1
    obtain ⟨i, rfl⟩ := Int.eq_ofNat_of_zero_le hi.1
    have e : b ++ (i : Int) :: t = (b ++ [(i : Int)]) ++ t := by simp
    rw [calsFrom]
    refine calsTo_in (i := i) ?_ ?_ (by omega)
    · have := h (b.length + 1) (by omega) (by omega)
      have e2 : (b ++ (i : Int) :: t).take (b.length + 1) = b ++ [(i : Int)] := by
        rw [e, List.take_append_of_le_length (by simp)]
        exact List.take_of_length_le (by simp)
      rw [e2] at this
      exact this
    · rw [e]
      refine calsFrom_in n (b ++ [(i : Int)]) t (by simpa using hl) ha.2 (fun j h1 h2 => ?_)
      rw [← e]
      rw [List.length_append, List.length_singleton] at h1 h2
      exact h j (by omega) (by omega)
theorem cals_in {xs : List Hearing} {ps : List Slot} {c : List Int} (hl : c.length = xs.length) (ha : c.all (idxOk ps.length) = true) (h : calB xs ps c = true) : c ∈ cals xs ps := by
  have := calsFrom_in (xs := xs) (ps := ps) xs.length [] c hl ha (fun j h1 h2 => by rw [List.nil_append]; exact calB_take ha h j)
  simpa [cals] using this
theorem calsFrom_calB {xs : List Hearing} {ps : List Slot} : ∀ (n : Nat) (b c : List Int), b.length + n = xs.length → (n = 0 → calB xs ps b = true) → c ∈ calsFrom xs ps n b → calB xs ps c = true
  | 0, b, c, _, h0, h => by
    simp [calsFrom] at h
    subst h
    exact h0 rfl
  | n + 1, b, c, hb, _, h => by
    rw [calsFrom] at h
    obtain ⟨i, hi, hcal, hc⟩ := calsTo_mem h
    refine calsFrom_calB n _ c (by simp; omega) (fun hn => ?_) hc
    rw [List.take_of_length_le (by omega)] at hcal
    exact hcal
theorem calB_nil (ps : List Slot) : calB [] ps [] = true := by simp [calB, prefOk, prefAll, planB, slotsAt]
theorem cals_calB {xs : List Hearing} {ps : List Slot} {c : List Int} (h : c ∈ cals xs ps) : calB xs ps c = true :=
  calsFrom_calB xs.length [] c (by simp) (fun hn => by
    have : xs = [] := List.eq_nil_of_length_eq_zero hn
    subst this
    exact calB_nil ps) h
/-- The best one costs the least. -/
theorem bestTo_min {f : List Int → Int} {L : List (List Int)} {a : List Int} : ∀ k, k ≤ L.length → f (bestTo f L a k) ≤ f a ∧ ∀ i c, i < k → L[i]? = some c → f (bestTo f L a k) ≤ f c
  | 0, _ => ⟨by simp [bestTo], fun i c h => by omega⟩
  | k + 1, hk => by
    obtain ⟨h1, h2⟩ := bestTo_min (f := f) (L := L) (a := a) k (by omega)
    have hx : L[k]? = some (L[k]'(by omega)) := List.getElem?_eq_getElem (by omega)
    by_cases hf : f (L[k]'(by omega)) < f (bestTo f L a k)
    · rw [bestTo_yes hx hf]
      refine ⟨by omega, fun i c hi hc => ?_⟩
      by_cases hik : i = k
      · subst hik; rw [hx] at hc; injection hc with hc; rw [hc]; exact Int.le_refl _
      · have := h2 i c (by omega) hc; omega
    · rw [bestTo_no hx hf]
      refine ⟨h1, fun i c hi hc => ?_⟩
      by_cases hik : i = k
      · subst hik; rw [hx] at hc; injection hc with hc; rw [← hc]; omega
      · exact h2 i c (by omega) hc
theorem bestOf_min {f : List Int → Int} {L : List (List Int)} {c : List Int} (h : c ∈ L) : f (bestOf f L) ≤ f c := by
  obtain ⟨i, hi⟩ := List.getElem?_of_mem h
  have hl : i < L.length := (List.getElem?_eq_some_iff.1 hi).1
  have h0 : L[0]? = some (L[0]'(by omega)) := List.getElem?_eq_getElem (by omega)
  rw [bestOf_at h0]
  exact (bestTo_min L.length (Nat.le_refl _)).2 i c hl hi
theorem isCal_cost {xs : List Hearing} {ps : List Slot} {c : List Int} (h : (isCal xs ps c).2 = 0) : (isCal xs ps c).1 = decide ((costOf xs ps c).2 = 0) := by
  unfold isCal at h ⊢
  unfold costOf
  split at h
  · rename_i h1
    rw [if_pos h1, if_pos h1]
    cases calB xs ps c <;> simp
  · rename_i h1
    exact absurd h h1
theorem cost_best {xs : List Hearing} {ps : List Slot} {c : List Int} (h : (costOf xs ps c).2 = 0) : (bestCal xs ps).2.2 = 0 ∧ (bestCal xs ps).2.1 ≤ (costOf xs ps c).1 := by
  unfold costOf at h ⊢
  split at h
  · rename_i h1
    rw [if_pos h1]
    split at h
    · rename_i h2
      rw [if_pos h2]
      obtain ⟨a1, a2, a3⟩ := calCode_zero h1
      have hm := cals_in a2 a3 h2
      have hn : ¬ (cals xs ps).length = 0 := by have := List.length_pos_of_mem hm; omega
      rw [bestCal_some a1 hn]
      exact ⟨rfl, (bestOf_min hm : costL ps (bestOf (costL ps) (cals xs ps)) ≤ costL ps c)⟩
    · simp at h
  · rename_i h1
    exact absurd h h1
theorem best_is {xs : List Hearing} {ps : List Slot} (h : (bestCal xs ps).2.2 = 0) : bothOk xs ps = true ∧ (bestCal xs ps).1 ∈ cals xs ps ∧ isCal xs ps (bestCal xs ps).1 = (true, 0) := by
  cases hb : bothOk xs ps with
  | false => rw [bestCal_bad hb] at h; simp at h
  | true =>
    by_cases hn : (cals xs ps).length = 0
    · rw [bestCal_none hb hn] at h; simp at h
    · rw [bestCal_some hb hn]
      have hm := bestOf_mem (f := costL ps) hn
      obtain ⟨a1, a2⟩ := cals_mem hm
      refine ⟨rfl, hm, ?_⟩
      unfold isCal
      rw [if_pos (calCode_ok hb a1 a2), cals_calB hm]
theorem fTo_get {c out : List Int} : ∀ {m j : Nat} {x : Int}, (fTo c out m)[j]? = some x → 0 ≤ x → out[j]? = some x ∧ (j < m → c[j]? = some x)
  | 0, j, x, h, _ => ⟨h, fun h => by omega⟩
  | m + 1, j, x, h, hx => by
    rw [fTo] at h
    split at h
    · rename_i he
      obtain ⟨h1, h2⟩ := fTo_get h hx
      refine ⟨h1, fun hj => ?_⟩
      by_cases hjm : j = m
      · subst hjm; rw [← he]; exact h
      · exact h2 (by omega)
    · rw [List.getElem?_set] at h
      split at h
      · split at h
        · injection h with h; omega
        · cases h
      · rename_i hne
        obtain ⟨h1, h2⟩ := fTo_get h hx
        exact ⟨h1, fun hj => h2 (by omega)⟩
theorem fAll_get {L : List (List Int)} {a : List Int} : ∀ {k j : Nat} {x : Int}, (fAll L a k)[j]? = some x → 0 ≤ x → j < a.length → ∀ i c, i < k → L[i]? = some c → c[j]? = some x
  | 0, j, x, _, _, _, i, c, hi, _ => by omega
  | k + 1, j, x, h, hx, hj, i, c, hi, hc => by
    cases hk : L[k]? with
    | none =>
      rw [fAll, hk] at h
      by_cases hik : i = k
      · subst hik; rw [hk] at hc; cases hc
      · exact fAll_get h hx hj i c (by omega) hc
    | some d =>
      rw [fAll_step hk] at h
      obtain ⟨h1, h2⟩ := fTo_get h hx
      by_cases hik : i = k
      · subst hik; rw [hk] at hc; injection hc with hc; rw [← hc]; exact h2 hj
      · exact fAll_get h1 hx hj i c (by omega) hc
theorem forced_best {xs : List Hearing} {ps : List Slot} (h : (bestCal xs ps).2.2 = 0) : (forcedCal xs ps).1.length = (bestCal xs ps).1.length ∧ ∀ (j : Nat) (x : Int), (forcedCal xs ps).1[j]? = some x → 0 ≤ x → (bestCal xs ps).1[j]? = some x := by
  obtain ⟨hb, hm, -⟩ := best_is h
  have hn : ¬ (cals xs ps).length = 0 := by have := List.length_pos_of_mem hm; omega
  have h0 : (cals xs ps)[0]? = some ((cals xs ps)[0]'(by omega)) := List.getElem?_eq_getElem (by omega)
  have hl0 := (cals_mem (List.mem_of_getElem? h0)).1
  have hlb := (cals_mem hm).1
  rw [forcedCal_some hb hn, forcedOf_at h0]
  refine ⟨by simp only [fAll_len]; omega, fun j x hj hx => ?_⟩
  obtain ⟨i, hi⟩ := List.getElem?_of_mem hm
  have hjl : j < ((cals xs ps)[0]'(by omega)).length := by
    have := (List.getElem?_eq_some_iff.1 hj).1
    simpa [fAll_len] using this
  exact fAll_get hj hx hjl i _ (List.getElem?_eq_some_iff.1 hi).1 hi
/-- All numbers. -/
def fullI (f : Nat) : Nat → List Int
  | 0 => []
  | n + 1 => (f : Int) :: fullI (f + 1) n
theorem fullI_len : ∀ f n, (fullI f n).length = n
  | _, 0 => rfl
  | f, n + 1 => by rw [fullI, List.length_cons, fullI_len]
theorem fullI_ris : ∀ n f m, f + n ≤ m → Ris m f (fullI f n)
  | 0, _, _, _ => trivial
  | n + 1, f, m, h => ⟨f, rfl, Nat.le_refl _, by omega, fullI_ris n (f + 1) m (by omega)⟩
theorem Ris.full : ∀ {t : List Int} {n f : Nat}, Ris n f t → t.length = n - f → t = fullI f (n - f)
  | [], n, f, _, h => by
    have : n - f = 0 := by simpa using h.symm
    rw [this]; rfl
  | a :: t, n, f, ⟨i, h0, h1, h2, h3⟩, h => by
    have hl := h3.len
    rw [List.length_cons] at h
    have hi : i = f := by omega
    subst hi
    have e : n - i = (n - (i + 1)) + 1 := by omega
    rw [e, fullI, h0, ← Ris.full h3 (by omega)]
theorem heldAt_full : ∀ (n f : Nat) (xs : List Hearing), f + n = xs.length → heldAt xs (fullI f n) = xs.drop f
  | 0, f, xs, h => by
    rw [List.drop_of_length_le (by omega)]; rfl
  | n + 1, f, xs, h => by
    have hx : xs[f]? = some (xs[f]'(by omega)) := List.getElem?_eq_getElem (by omega)
    have ih := heldAt_full n (f + 1) xs (by omega)
    rw [fullI, List.drop_eq_getElem_cons (by omega), ← ih]
    unfold heldAt
    rw [List.filterMap_cons, Int.toNat_natCast, hx]
theorem most_all {xs : List Hearing} {ps : List Slot} : decide (0 < (cals xs ps).length) = decide ((mostS (canHold xs ps) xs.length xs.length).length = xs.length) := by
  obtain ⟨h1, h2⟩ := mostS_inv (P := canHold xs ps) (n := xs.length) xs.length
  have hl := mostS_len (P := canHold xs ps) (n := xs.length) xs.length
  have hf : canHold xs ps (fullI 0 xs.length) = decide (0 < (cals xs ps).length) := by
    unfold canHold
    rw [heldAt_full xs.length 0 xs (by omega), List.drop_zero]
  generalize mostS (canHold xs ps) xs.length xs.length = M at *
  rw [Bool.eq_iff_iff, decide_eq_true_iff, decide_eq_true_iff]
  constructor
  · intro h
    have := h2 (fullI 0 xs.length) (fullI_ris _ _ _ (by omega)) (by rw [fullI_len]; exact Nat.le_refl _) (by rw [hf]; exact decide_eq_true h)
    simp only [better, Bool.or_eq_false_iff, decide_eq_false_iff_not, fullI_len] at this
    omega
  · intro h
    rcases h1 with h1 | ⟨hp, hr⟩
    · rw [h1] at h
      have : xs = [] := List.eq_nil_of_length_eq_zero h.symm
      subst this
      simp [cals, calsFrom]
    · have e := hr.full (by omega)
      rw [Nat.sub_zero] at e
      rw [e, hf] at hp
      exact of_decide_eq_true hp
theorem count_law {xs : List Hearing} {ps : List Slot} (h : (countCal xs ps).2 = 0) : decide ((countCal xs ps).1 > 0) = decide ((bestCal xs ps).2.2 = 0) ∧ decide ((countCal xs ps).1 > 0) = decide (((mostHeld xs ps).1.length : Int) = (xs.length : Int)) := by
  cases hb : bothOk xs ps with
  | false => rw [countCal_bad hb] at h; simp at h
  | true =>
    rw [countCal_ok hb]
    simp only
    have e : decide ((((cals xs ps).length : Nat) : Int) > 0) = decide (0 < (cals xs ps).length) := by
      rw [Bool.eq_iff_iff, decide_eq_true_iff, decide_eq_true_iff]; omega
    rw [e]
    constructor
    · by_cases hn : (cals xs ps).length = 0
      · rw [bestCal_none hb hn, hn]; rfl
      · rw [bestCal_some hb hn]
        simp; omega
    · rw [most_all]
      unfold mostHeld
      rw [if_pos hb]
      rw [Bool.eq_iff_iff, decide_eq_true_iff, decide_eq_true_iff]
      simp only
      omega
end Go.Proofs.YtmgdkblleljdaaaGreat
