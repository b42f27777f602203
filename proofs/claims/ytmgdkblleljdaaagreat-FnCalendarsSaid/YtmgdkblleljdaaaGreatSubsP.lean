/- Sublists of 0 .. n - 1: by masks, and by a search of the first one; plain. Nothing of the program stands here. -/
import Derived.Test.YtmgdkblleljdaaaGreatMem
namespace Go.Proofs.YtmgdkblleljdaaaGreat
open Go.RowKit
set_option linter.unusedVariables false

/-- A list comes before another one. -/
def lessL : List Int → List Int → Bool
  | [], [] => false
  | [], _ :: _ => true
  | _ :: _, [] => false
  | a :: as, b :: bs => if a = b then lessL as bs else decide (a < b)
theorem lessL_irrefl : ∀ a, lessL a a = false
  | [] => rfl
  | a :: as => by simp [lessL, lessL_irrefl as]
theorem lessL_total : ∀ a b : List Int, a.length = b.length → a ≠ b → lessL a b = true ∨ lessL b a = true
  | [], [], _, h => absurd rfl h
  | [], b :: bs, h, _ => by simp at h
  | a :: as, [], h, _ => by simp at h
  | a :: as, b :: bs, h, hn => by
    by_cases he : a = b
    · subst he
      have := lessL_total as bs (by simpa using h) (fun e => hn (by rw [e]))
      simpa [lessL] using this
    · have he' : ¬ b = a := fun e => he e.symm
      simp only [lessL, if_neg he, if_neg he', decide_eq_true_eq]
      omega
theorem lessL_trans : ∀ a b c : List Int, lessL a b = true → lessL b c = true → lessL a c = true
  | [], [], _, h, _ => by simp [lessL] at h
  | [], b :: bs, [], _, h => by simp [lessL] at h
  | [], b :: bs, c :: cs, _, _ => rfl
  | a :: as, [], _, h, _ => by simp [lessL] at h
  | a :: as, b :: bs, [], _, h => by simp [lessL] at h
  | a :: as, b :: bs, c :: cs, h1, h2 => by
    by_cases e1 : a = b
    · subst e1
      by_cases e2 : a = c
      · subst e2
        simp only [lessL, if_pos] at h1 h2 ⊢
        exact lessL_trans as bs cs h1 h2
      · simp only [lessL, if_neg e2] at h2 ⊢
        exact h2
    · by_cases e2 : b = c
      · subst e2
        simp only [lessL, if_neg e1] at h1 ⊢
        exact h1
      · simp only [lessL, if_neg e1, if_neg e2, decide_eq_true_eq] at h1 h2
        have e3 : ¬ a = c := by omega
        simp only [lessL, if_neg e3, decide_eq_true_eq]
        omega
theorem lessL_app : ∀ c a b : List Int, lessL (c ++ a) (c ++ b) = lessL a b
  | [], _, _ => rfl
  | c :: cs, a, b => by simp [lessL, lessL_app cs a b]

/-- A strictly rising list of numbers from f on, below n. -/
def Ris (n : Nat) : Nat → List Int → Prop
  | _, [] => True
  | f, a :: as => ∃ i : Nat, a = (i : Int) ∧ f ≤ i ∧ i < n ∧ Ris n (i + 1) as
theorem Ris.len {n : Nat} : ∀ {f : Nat} {t : List Int}, Ris n f t → t.length ≤ n - f
  | _, [], _ => by simp
  | f, a :: as, ⟨i, _, h1, h2, h3⟩ => by have := Ris.len h3; simp only [List.length_cons]; omega
theorem Ris.lo {n : Nat} : ∀ {f g : Nat} {t : List Int}, Ris n f t → g ≤ f → Ris n g t
  | _, _, [], _, _ => trivial
  | f, g, a :: as, ⟨i, h0, h1, h2, h3⟩, hg => ⟨i, h0, by omega, h2, h3⟩
theorem Ris.filter {n : Nat} (p : Int → Bool) : ∀ {f : Nat} {t : List Int}, Ris n f t → Ris n f (t.filter p)
  | _, [], _ => trivial
  | f, a :: as, ⟨i, h0, h1, h2, h3⟩ => by
    rw [List.filter_cons]
    split
    · exact ⟨i, h0, h1, h2, Ris.filter p h3⟩
    · exact Ris.lo (Ris.filter p h3) (by omega)
theorem Ris.snoc {n : Nat} : ∀ {f : Nat} {t : List Int}, Ris n f t → f ≤ n → Ris (n + 1) f (t ++ [(n : Int)])
  | f, [], _, hf => ⟨n, rfl, hf, by omega, trivial⟩
  | f, a :: as, ⟨i, h0, h1, h2, h3⟩, hf => ⟨i, h0, h1, by omega, Ris.snoc h3 (by omega)⟩
theorem Ris.up {n m : Nat} (h : n ≤ m) : ∀ {f : Nat} {t : List Int}, Ris n f t → Ris m f t
  | _, [], _ => trivial
  | f, a :: as, ⟨i, h0, h1, h2, h3⟩ => ⟨i, h0, h1, by omega, Ris.up h h3⟩
theorem Ris.mem {n : Nat} : ∀ {f : Nat} {t : List Int}, Ris n f t → ∀ x ∈ t, ∃ i : Nat, x = (i : Int) ∧ f ≤ i ∧ i < n
  | _, [], _, x, hx => by simp at hx
  | f, a :: as, ⟨i, h0, h1, h2, h3⟩, x, hx => by
    rcases List.mem_cons.1 hx with rfl | hx
    · exact ⟨i, h0, h1, h2⟩
    · obtain ⟨j, e, h4, h5⟩ := Ris.mem h3 x hx
      exact ⟨j, e, by omega, h5⟩
/-- A list that rises below n + 1 ends with n, or rises below n. -/
theorem Ris.cut {n : Nat} : ∀ {f : Nat} {t : List Int}, Ris (n + 1) f t → Ris n f t ∨ ∃ t', t = t' ++ [(n : Int)] ∧ Ris n f t'
  | _, [], _ => .inl trivial
  | f, a :: as, ⟨i, h0, h1, h2, h3⟩ => by
    by_cases hi : i < n
    · rcases Ris.cut h3 with h | ⟨t', e, h⟩
      · exact .inl ⟨i, h0, h1, hi, h⟩
      · exact .inr ⟨a :: t', by rw [e]; rfl, i, h0, h1, hi, h⟩
    · have hin : i = n := by omega
      subst hin
      have : as = [] := by
        have := Ris.len h3
        exact List.eq_nil_of_length_eq_zero (by omega)
      subst this
      exact .inr ⟨[], by rw [h0]; rfl, trivial⟩

/-- The numbers below n whose bit is set. -/
def subs (set : Nat) : Nat → List Int
  | 0 => []
  | i + 1 => subs set i ++ (if set.testBit i then [(i : Int)] else [])
theorem subs_yes {set i : Nat} (h : set.testBit i = true) : subs set (i + 1) = subs set i ++ [(i : Int)] := by rw [subs, if_pos h]
theorem subs_no {set i : Nat} (h : set.testBit i = false) : subs set (i + 1) = subs set i := by rw [subs, if_neg (by rw [h]; simp), List.append_nil]
theorem subs_len (set : Nat) : ∀ n, (subs set n).length ≤ n
  | 0 => Nat.le_refl _
  | n + 1 => by
    have := subs_len set n
    rw [subs, List.length_append]
    split
    · simp; omega
    · simp; omega
theorem subs_ris (set : Nat) : ∀ n, Ris n 0 (subs set n)
  | 0 => trivial
  | n + 1 => by
    have h := subs_ris set n
    rw [subs]
    split
    · exact h.snoc (Nat.zero_le _)
    · rw [List.append_nil]; exact h.up (Nat.le_succ n)
theorem subs_congr {a b : Nat} : ∀ {n : Nat}, (∀ i, i < n → a.testBit i = b.testBit i) → subs a n = subs b n
  | 0, _ => rfl
  | n + 1, h => by rw [subs, subs, subs_congr (n := n) (fun i hi => h i (by omega)), h n (by omega)]
theorem subs_all : ∀ {n : Nat} {t : List Int}, Ris n 0 t → ∃ set, set < 2 ^ n ∧ subs set n = t
  | 0, t, h => by
    have := h.len
    have : t = [] := List.eq_nil_of_length_eq_zero (by omega)
    exact ⟨0, by simp, this.symm⟩
  | n + 1, t, h => by
    rcases h.cut with h1 | ⟨t', rfl, h1⟩
    · obtain ⟨s, hs, e⟩ := subs_all h1
      have hb : s.testBit n = false := Nat.testBit_lt_two_pow hs
      exact ⟨s, by rw [Nat.pow_succ]; omega, by rw [subs_no hb, e]⟩
    · obtain ⟨s, hs, e⟩ := subs_all h1
      have hb : s.testBit n = false := Nat.testBit_lt_two_pow hs
      refine ⟨2 ^ n + s, by rw [Nat.pow_succ]; omega, ?_⟩
      rw [subs_yes (by rw [Nat.testBit_two_pow_add_eq, hb]; rfl), subs_congr (b := s) (fun i hi => Nat.testBit_two_pow_add_gt hi s), e]

/-- The first value of g from f on, below f + r. -/
def fewL (g : Nat → Option (List Int)) : Nat → Nat → Option (List Int)
  | 0, _ => none
  | r + 1, f => match g f with
    | some s => some s
    | none => fewL g r (f + 1)
theorem fewL_none {g : Nat → Option (List Int)} : ∀ {r f : Nat}, fewL g r f = none → ∀ j, f ≤ j → j < f + r → g j = none
  | 0, f, _, j, h1, h2 => by omega
  | r + 1, f, h, j, h1, h2 => by
    rw [fewL] at h
    split at h
    · cases h
    · by_cases hj : j = f
      · subst hj; assumption
      · exact fewL_none h j (by omega) (by omega)
theorem fewL_some {g : Nat → Option (List Int)} {s : List Int} : ∀ {r f : Nat}, fewL g r f = some s → ∃ i, f ≤ i ∧ i < f + r ∧ g i = some s ∧ ∀ j, f ≤ j → j < i → g j = none
  | 0, f, h => by cases h
  | r + 1, f, h => by
    rw [fewL] at h
    split at h
    · next s' hs => exact ⟨f, Nat.le_refl _, by omega, by rw [hs]; exact h, fun j h1 h2 => by omega⟩
    · next hn =>
      obtain ⟨i, h1, h2, h3, h4⟩ := fewL_some h
      refine ⟨i, by omega, by omega, h3, fun j h5 h6 => ?_⟩
      by_cases hj : j = f
      · subst hj; exact hn
      · exact h4 j (by omega) h6
/-- The first list of m numbers more than c, from f on, below n. -/
def few (P : List Int → Bool) (n : Nat) : Nat → List Int → Nat → Option (List Int)
  | 0, c, _ => if P c then some c else none
  | m + 1, c, f => fewL (fun i => few P n m (c ++ [(i : Int)]) (i + 1)) (n - f) f
theorem few_none {P : List Int → Bool} {n : Nat} : ∀ {m : Nat} {c : List Int} {f : Nat}, few P n m c f = none → ∀ t, Ris n f t → t.length = m → P (c ++ t) = false
  | 0, c, f, h, t, ht, hl => by
    have : t = [] := List.eq_nil_of_length_eq_zero hl
    subst this
    rw [few] at h
    split at h
    · cases h
    · simpa using ‹¬ P c = true›
  | m + 1, c, f, h, [], ht, hl => by simp at hl
  | m + 1, c, f, h, a :: t, ⟨i, h0, h1, h2, h3⟩, hl => by
    rw [few] at h
    have := few_none (fewL_none h i h1 (by omega)) t h3 (by simpa using hl)
    rw [h0]
    simpa using this
theorem few_some {P : List Int → Bool} {n : Nat} {s : List Int} : ∀ {m : Nat} {c : List Int} {f : Nat}, few P n m c f = some s → ∃ t, s = c ++ t ∧ Ris n f t ∧ t.length = m ∧ P s = true ∧ ∀ t', Ris n f t' → t'.length = m → P (c ++ t') = true → lessL t' t = false
  | 0, c, f, h => by
    rw [few] at h
    split at h
    · injection h with h
      subst h
      refine ⟨[], by simp, trivial, rfl, by assumption, fun t' _ hl _ => ?_⟩
      have : t' = [] := List.eq_nil_of_length_eq_zero hl
      subst this
      rfl
    · cases h
  | m + 1, c, f, h => by
    rw [few] at h
    obtain ⟨i, h1, h2, h3, h4⟩ := fewL_some h
    obtain ⟨t, e, hr, hl, hp, hmin⟩ := few_some h3
    refine ⟨(i : Int) :: t, by rw [e]; simp, ⟨i, rfl, h1, by omega, hr⟩, by simp [hl], hp, fun t' hr' hl' hp' => ?_⟩
    cases t' with
    | nil => simp at hl'
    | cons a t' =>
      obtain ⟨j, e0, g1, g2, g3⟩ := hr'
      subst e0
      by_cases hj : j < i
      · have := few_none (h4 j g1 hj) t' g3 (by simpa using hl')
        rw [show c ++ (j : Int) :: t' = c ++ [(j : Int)] ++ t' by simp] at hp'
        rw [this] at hp'
        cases hp'
      · by_cases hji : j = i
        · subst hji
          have := hmin t' g3 (by simpa using hl') (by simpa using hp')
          simpa [lessL] using this
        · have hne : ¬ ((j : Int) = (i : Int)) := by omega
          simp only [lessL, if_neg hne]
          exact decide_eq_false (by omega)

/-- t is longer than m, or as long and before it. -/
def better (t m : List Int) : Bool := decide (m.length < t.length) || (decide (t.length = m.length) && lessL t m)
theorem better_trans {a b c : List Int} (h1 : better a b = true) (h2 : better b c = true) : better a c = true := by
  simp only [better, Bool.or_eq_true, Bool.and_eq_true, decide_eq_true_eq] at h1 h2 ⊢
  rcases h1 with h1 | ⟨h1, h3⟩ <;> rcases h2 with h2 | ⟨h2, h4⟩
  · exact .inl (by omega)
  · exact .inl (by omega)
  · exact .inl (by omega)
  · exact .inr ⟨by omega, lessL_trans _ _ _ h3 h4⟩
theorem better_eq {a b : List Int} (h1 : better a b = false) (h2 : better b a = false) : a = b := by
  simp only [better, Bool.or_eq_false_iff, decide_eq_false_iff_not, Bool.and_eq_false_imp, decide_eq_true_eq] at h1 h2
  have hl : a.length = b.length := by omega
  by_cases hab : a = b
  · exact hab
  · rcases lessL_total a b hl hab with h | h
    · rw [h1.2 hl] at h; cases h
    · rw [h2.2 hl.symm] at h; cases h
theorem better_irrefl (a : List Int) : better a a = false := by simp [better, lessL_irrefl]
/-- The best list among those of the masks below k: longest, then first. -/
def mostTo (P : List Int → Bool) (n : Nat) : Nat → List Int
  | 0 => []
  | k + 1 => if better (subs k n) (mostTo P n k) && P (subs k n) then subs k n else mostTo P n k
theorem mostTo_yes {P : List Int → Bool} {n k : Nat} (h1 : better (subs k n) (mostTo P n k) = true) (h2 : P (subs k n) = true) : mostTo P n (k + 1) = subs k n := by rw [mostTo, h1, h2]; rfl
theorem mostTo_no {P : List Int → Bool} {n k : Nat} (h1 : better (subs k n) (mostTo P n k) = false) : mostTo P n (k + 1) = mostTo P n k := by rw [mostTo, h1]; rfl
theorem mostTo_no2 {P : List Int → Bool} {n k : Nat} (h2 : P (subs k n) = false) : mostTo P n (k + 1) = mostTo P n k := by rw [mostTo, h2, Bool.and_false]; rfl
theorem mostTo_len {P : List Int → Bool} {n : Nat} : ∀ k, (mostTo P n k).length ≤ n
  | 0 => Nat.zero_le _
  | k + 1 => by
    rw [mostTo]
    split
    · exact subs_len _ _
    · exact mostTo_len k
theorem mostTo_inv {P : List Int → Bool} {n : Nat} : ∀ k, (mostTo P n k = [] ∨ P (mostTo P n k) = true ∧ Ris n 0 (mostTo P n k)) ∧ ∀ j, j < k → P (subs j n) = true → better (subs j n) (mostTo P n k) = false
  | 0 => ⟨.inl rfl, fun j h => by omega⟩
  | k + 1 => by
    obtain ⟨h1, h2⟩ := mostTo_inv (P := P) (n := n) k
    cases hb : better (subs k n) (mostTo P n k) with
    | false =>
      rw [mostTo_no hb]
      refine ⟨h1, fun j hj hp => ?_⟩
      by_cases hjk : j = k
      · subst hjk; exact hb
      · exact h2 j (by omega) hp
    | true =>
      cases hp : P (subs k n) with
      | false =>
        rw [mostTo_no2 hp]
        refine ⟨h1, fun j hj hp' => ?_⟩
        by_cases hjk : j = k
        · subst hjk; rw [hp] at hp'; cases hp'
        · exact h2 j (by omega) hp'
      | true =>
        rw [mostTo_yes hb hp]
        refine ⟨.inr ⟨hp, subs_ris _ _⟩, fun j hj hp' => ?_⟩
        by_cases hjk : j = k
        · subst hjk; exact better_irrefl _
        · cases hc : better (subs j n) (subs k n) with
          | false => rfl
          | true =>
            have := better_trans hc hb
            rw [h2 j (by omega) hp'] at this
            cases this
/-- The first list of k numbers, or of fewer. -/
def mostS (P : List Int → Bool) (n : Nat) : Nat → List Int
  | 0 => []
  | k + 1 => match few P n (k + 1) [] 0 with
    | some s => s
    | none => mostS P n k
theorem mostS_inv {P : List Int → Bool} {n : Nat} : ∀ k, (mostS P n k = [] ∨ P (mostS P n k) = true ∧ Ris n 0 (mostS P n k)) ∧ ∀ t, Ris n 0 t → t.length ≤ k → P t = true → better t (mostS P n k) = false
  | 0 => ⟨.inl rfl, fun t _ hl _ => by
      have : t = [] := List.eq_nil_of_length_eq_zero (by omega)
      subst this
      exact better_irrefl _⟩
  | k + 1 => by
    obtain ⟨h1, h2⟩ := mostS_inv (P := P) (n := n) k
    cases hf : few P n (k + 1) [] 0 with
    | some s =>
      have e : mostS P n (k + 1) = s := by rw [mostS, hf]
      rw [e]
      obtain ⟨t, e2, hr, hl, hp, hm⟩ := few_some hf
      simp only [List.nil_append] at e2
      subst e2
      refine ⟨.inr ⟨hp, hr⟩, fun t' hr' hl' hp' => ?_⟩
      simp only [better, Bool.or_eq_false_iff, decide_eq_false_iff_not, Bool.and_eq_false_imp, decide_eq_true_eq]
      exact ⟨by omega, fun h => hm t' hr' (by omega) (by simpa using hp')⟩
    | none =>
      have e : mostS P n (k + 1) = mostS P n k := by rw [mostS, hf]
      rw [e]
      refine ⟨h1, fun t hr hl hp => ?_⟩
      by_cases hk : t.length = k + 1
      · have := few_none hf t hr hk
        simp only [List.nil_append] at this
        rw [this] at hp; cases hp
      · exact h2 t hr (by omega) hp
theorem better_nil {t : List Int} (h : better t [] = false) : t = [] := by
  simp only [better, Bool.or_eq_false_iff, decide_eq_false_iff_not] at h
  exact List.eq_nil_of_length_eq_zero (by simpa using h.1)
/-- Both searches find the same list. -/
theorem most_eq (P : List Int → Bool) (n : Nat) : mostTo P n (2 ^ n) = mostS P n n := by
  obtain ⟨a1, a2⟩ := mostTo_inv (P := P) (n := n) (2 ^ n)
  obtain ⟨b1, b2⟩ := mostS_inv (P := P) (n := n) n
  have hA : ∀ t, Ris n 0 t → P t = true → better t (mostTo P n (2 ^ n)) = false := fun t hr hp => by
    obtain ⟨s, hs, e⟩ := subs_all hr
    rw [← e]; rw [← e] at hp
    exact a2 s hs hp
  have hB : ∀ t, Ris n 0 t → P t = true → better t (mostS P n n) = false := fun t hr hp => b2 t hr (by have := hr.len; omega) hp
  rcases a1 with a1 | ⟨a1, a3⟩ <;> rcases b1 with b1 | ⟨b1, b3⟩
  · rw [a1, b1]
  · have := hA _ b3 b1
    rw [a1] at this
    rw [a1, better_nil this]
  · have := hB _ a3 a1
    rw [b1] at this
    rw [b1, better_nil this]
  · exact better_eq (hB _ a3 a1) (hA _ b3 b1)

/-- s is shorter than f, or as long and before it. -/
def finer (s f : List Int) : Bool := decide (s.length < f.length) || (decide (s.length = f.length) && lessL s f)
theorem finer_trans {a b c : List Int} (h1 : finer a b = true) (h2 : finer b c = true) : finer a c = true := by
  simp only [finer, Bool.or_eq_true, Bool.and_eq_true, decide_eq_true_eq] at h1 h2 ⊢
  rcases h1 with h1 | ⟨h1, h3⟩ <;> rcases h2 with h2 | ⟨h2, h4⟩
  · exact .inl (by omega)
  · exact .inl (by omega)
  · exact .inl (by omega)
  · exact .inr ⟨by omega, lessL_trans _ _ _ h3 h4⟩
theorem finer_eq {a b : List Int} (h1 : finer a b = false) (h2 : finer b a = false) : a = b := by
  simp only [finer, Bool.or_eq_false_iff, decide_eq_false_iff_not, Bool.and_eq_false_imp, decide_eq_true_eq] at h1 h2
  have hl : a.length = b.length := by omega
  by_cases hab : a = b
  · exact hab
  · rcases lessL_total a b hl hab with h | h
    · rw [h1.2 hl] at h; cases h
    · rw [h2.2 hl.symm] at h; cases h
theorem finer_irrefl (a : List Int) : finer a a = false := by simp [finer, lessL_irrefl]
def finerO (s : List Int) : Option (List Int) → Bool
  | none => true
  | some f => finer s f
/-- The finest list among those of the masks below k. -/
def leastTo (Q : List Int → Bool) (n : Nat) : Nat → Option (List Int)
  | 0 => none
  | k + 1 => if finerO (subs k n) (leastTo Q n k) && Q (subs k n) then some (subs k n) else leastTo Q n k
theorem leastTo_yes {P : List Int → Bool} {n k : Nat} (h1 : finerO (subs k n) (leastTo P n k) = true) (h2 : P (subs k n) = true) : leastTo P n (k + 1) = some (subs k n) := by rw [leastTo, h1, h2]; rfl
theorem leastTo_no {P : List Int → Bool} {n k : Nat} (h1 : finerO (subs k n) (leastTo P n k) = false) : leastTo P n (k + 1) = leastTo P n k := by rw [leastTo, h1]; rfl
theorem leastTo_no2 {P : List Int → Bool} {n k : Nat} (h2 : P (subs k n) = false) : leastTo P n (k + 1) = leastTo P n k := by rw [leastTo, h2, Bool.and_false]; rfl
theorem leastTo_len {Q : List Int → Bool} {n : Nat} : ∀ {k : Nat} {f : List Int}, leastTo Q n k = some f → f.length ≤ n
  | 0, f, h => by cases h
  | k + 1, f, h => by
    rw [leastTo] at h
    split at h
    · injection h with h; rw [← h]; exact subs_len _ _
    · exact leastTo_len h
theorem leastTo_inv {Q : List Int → Bool} {n : Nat} : ∀ k, (∀ f, leastTo Q n k = some f → Q f = true ∧ Ris n 0 f ∧ ∀ j, j < k → Q (subs j n) = true → finer (subs j n) f = false) ∧ (leastTo Q n k = none → ∀ j, j < k → Q (subs j n) = false)
  | 0 => ⟨fun f h => (by cases h), fun _ j h => (by omega)⟩
  | k + 1 => by
    obtain ⟨h1, h2⟩ := leastTo_inv (Q := Q) (n := n) k
    cases hq : Q (subs k n) with
    | false =>
      rw [leastTo_no2 hq]
      refine ⟨fun f hf => ?_, fun hn j hj => ?_⟩
      · obtain ⟨a, b, c⟩ := h1 f hf
        refine ⟨a, b, fun j hj hp => ?_⟩
        by_cases hjk : j = k
        · subst hjk; rw [hq] at hp; cases hp
        · exact c j (by omega) hp
      · by_cases hjk : j = k
        · subst hjk; exact hq
        · exact h2 hn j (by omega)
    | true =>
      cases hb : finerO (subs k n) (leastTo Q n k) with
      | false =>
        rw [leastTo_no hb]
        cases hl : leastTo Q n k with
        | none => rw [hl] at hb; cases hb
        | some f0 =>
          rw [hl] at hb
          refine ⟨fun f hf => ?_, fun hn => by cases hn⟩
          injection hf with hf
          subst hf
          obtain ⟨a, b, c⟩ := h1 f0 hl
          refine ⟨a, b, fun j hj hp => ?_⟩
          by_cases hjk : j = k
          · subst hjk; exact hb
          · exact c j (by omega) hp
      | true =>
        rw [leastTo_yes hb hq]
        refine ⟨fun f hf => ?_, fun hn => by cases hn⟩
        injection hf with hf
        subst hf
        refine ⟨hq, subs_ris _ _, fun j hj hp => ?_⟩
        by_cases hjk : j = k
        · subst hjk; exact finer_irrefl _
        · cases hl : leastTo Q n k with
          | none => rw [h2 hl j (by omega)] at hp; cases hp
          | some f0 =>
            rw [hl] at hb
            obtain ⟨a, b, c⟩ := h1 f0 hl
            cases hc : finer (subs j n) (subs k n) with
            | false => rfl
            | true =>
              have := finer_trans hc hb
              rw [c j (by omega) hp] at this
              cases this
/-- The first list of k numbers, or of more: r sizes. -/
def leastS (P : List Int → Bool) (n : Nat) : Nat → Nat → Option (List Int)
  | 0, _ => none
  | r + 1, k => match few P n k [] 0 with
    | some s => some s
    | none => leastS P n r (k + 1)
theorem leastS_some {P : List Int → Bool} {n : Nat} {s : List Int} : ∀ {r k : Nat}, leastS P n r k = some s → Ris n 0 s ∧ P s = true ∧ ∀ t, Ris n 0 t → k ≤ t.length → P t = true → finer t s = false
  | 0, k, h => by cases h
  | r + 1, k, h => by
    rw [leastS] at h
    split at h
    · next s' hs =>
      injection h with h
      subst h
      obtain ⟨t, e, hr, hl, hp, hm⟩ := few_some hs
      simp only [List.nil_append] at e
      subst e
      refine ⟨hr, hp, fun t' hr' hl' hp' => ?_⟩
      simp only [finer, Bool.or_eq_false_iff, decide_eq_false_iff_not, Bool.and_eq_false_imp, decide_eq_true_eq]
      exact ⟨by omega, fun h => hm t' hr' (by omega) (by simpa using hp')⟩
    · next hn =>
      obtain ⟨a, b, c⟩ := leastS_some h
      refine ⟨a, b, fun t hr hl hp => ?_⟩
      by_cases hk : t.length = k
      · have := few_none hn t hr hk
        simp only [List.nil_append] at this
        rw [this] at hp; cases hp
      · exact c t hr (by omega) hp
theorem leastS_none {P : List Int → Bool} {n : Nat} : ∀ {r k : Nat}, leastS P n r k = none → ∀ t, Ris n 0 t → k ≤ t.length → t.length < k + r → P t = false
  | 0, k, _, t, _, h1, h2 => by omega
  | r + 1, k, h, t, hr, h1, h2 => by
    rw [leastS] at h
    split at h
    · cases h
    · next hn =>
      by_cases hk : t.length = k
      · simpa using few_none hn t hr hk
      · exact leastS_none h t hr (by omega) (by omega)
/-- Where Q says P, and that P holds of no part, both searches find the same list. -/
theorem least_eq {P Q : List Int → Bool} {n : Nat} (h1 : ∀ s, Ris n 0 s → Q s = true → P s = true) (h2 : ∀ s, Ris n 0 s → P s = true → (∀ t, Ris n 0 t → t.length < s.length → P t = false) → Q s = true) : leastTo Q n (2 ^ n) = leastS P n (n + 1) 0 := by
  obtain ⟨a1, a2⟩ := leastTo_inv (Q := Q) (n := n) (2 ^ n)
  cases hb : leastS P n (n + 1) 0 with
  | none =>
    have hb2 := leastS_none hb
    cases ha : leastTo Q n (2 ^ n) with
    | none => rfl
    | some f =>
      obtain ⟨q, hr, -⟩ := a1 f ha
      have := hb2 f hr (Nat.zero_le _) (by have := hr.len; omega)
      rw [h1 f hr q] at this; cases this
  | some s =>
    obtain ⟨hr, hp, hm⟩ := leastS_some hb
    have hq : Q s = true := h2 s hr hp (fun t ht hl => by
      cases hpt : P t with
      | false => rfl
      | true =>
        have := hm t ht (Nat.zero_le _) hpt
        simp only [finer, Bool.or_eq_false_iff, decide_eq_false_iff_not] at this
        omega)
    obtain ⟨j, hj, e⟩ := subs_all hr
    cases ha : leastTo Q n (2 ^ n) with
    | none =>
      have := a2 ha j hj
      rw [e, hq] at this; cases this
    | some f =>
      obtain ⟨q, hrf, hmf⟩ := a1 f ha
      have g1 := hmf j hj (by rw [e]; exact hq)
      rw [e] at g1
      have g2 := hm f hrf (Nat.zero_le _) (h1 f hrf q)
      rw [finer_eq g1 g2]
end Go.Proofs.YtmgdkblleljdaaaGreat
