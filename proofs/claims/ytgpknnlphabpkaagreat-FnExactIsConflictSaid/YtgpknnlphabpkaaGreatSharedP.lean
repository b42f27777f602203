/- Sorted words: the plain law. -/
import Derived.Test.YtgpknnlphabpkaaGreatHearingP
namespace Go.Proofs.YtgpknnlphabpkaaGreat
open Go
set_option linter.unusedVariables false

def ltW (a b : ByteArray) : Bool := Op.bytesLess a.toList b.toList
theorem bLess_eq : ∀ (x y : List UInt8), Op.bytesLess x y = decide (x < y)
  | [], [] => by simp [Op.bytesLess]
  | _ :: _, [] => by simp [Op.bytesLess]
  | [], _ :: _ => by simp [Op.bytesLess]
  | a :: x, b :: y => by
    rw [Op.bytesLess, bLess_eq x y]
    simp only [List.cons_lt_cons_iff]
    by_cases h1 : a < b <;> by_cases h2 : a = b <;> by_cases h3 : x < y <;> simp [h1, h2, h3]
def leW (a b : ByteArray) : Prop := a.data.toList ≤ b.data.toList
theorem ltW_iff {a b : ByteArray} : ltW a b = true ↔ a.data.toList < b.data.toList := by
  rw [ltW, bytes_toList, bytes_toList, bLess_eq]; simp
theorem ltW_no {a b : ByteArray} : ltW a b = false ↔ leW b a := by
  rw [← Bool.not_eq_true, ltW_iff]; exact Iff.rfl
theorem data_inj {a b : ByteArray} (h : a.data.toList = b.data.toList) : a = b := by
  cases a; cases b; simpa using h
theorem leW_anti {a b : ByteArray} (h1 : leW a b) (h2 : leW b a) : a = b := data_inj (List.le_antisymm h1 h2)
theorem leW_trans {a b c : ByteArray} (h1 : leW a b) (h2 : leW b c) : leW a c := List.le_trans h1 h2
theorem leW_of_lt {a b : ByteArray} (h : ltW a b = true) : leW a b := List.le_of_lt (ltW_iff.1 h)

def sortW (xs : List ByteArray) : List ByteArray := ((xs.map fun s => s.data.toList).mergeSort fun x y => decide (x ≤ y)).map fun l => ⟨l.toArray⟩
theorem sortW_perm (xs : List ByteArray) : (sortW xs).Perm xs := by
  have h := (List.mergeSort_perm (xs.map fun s => s.data.toList) fun x y => decide (x ≤ y)).map fun l => (⟨l.toArray⟩ : ByteArray)
  rw [List.map_map] at h
  have e : (xs.map ((fun l => (⟨l.toArray⟩ : ByteArray)) ∘ fun s => s.data.toList)) = xs := by
    conv => rhs; rw [← List.map_id xs]
    apply List.map_congr_left
    intro s _
    simp
  rw [e] at h
  exact h
theorem sortW_len (xs : List ByteArray) : (sortW xs).length = xs.length := (sortW_perm xs).length_eq
theorem sortW_sorted (xs : List ByteArray) : (sortW xs).Pairwise leW := by
  have h := List.pairwise_mergeSort (le := fun x y : List UInt8 => decide (x ≤ y)) (fun a b c h1 h2 => by simp at *; exact List.le_trans h1 h2) (fun a b => by simp; exact List.le_total a b) (xs.map fun s => s.data.toList)
  unfold sortW
  rw [List.pairwise_map]
  exact h.imp fun {a b} hab => by simpa [leW] using hab

/-- Where a word goes into a sorted list. -/
def posW (s : ByteArray) : List ByteArray → Nat
  | [] => 0
  | x :: xs => if ltW x s then posW s xs + 1 else 0
theorem posW_le (s : ByteArray) : ∀ xs, posW s xs ≤ xs.length
  | [] => Nat.le_refl _
  | x :: xs => by have := posW_le s xs; simp only [posW]; split <;> simp <;> omega
/-- The loop's two facts. -/
theorem posW_before {s : ByteArray} : ∀ {xs : List ByteArray} {k : Nat} {x : ByteArray}, k < posW s xs → xs[k]? = some x → ltW x s = true
  | [], k, x, h, _ => by simp [posW] at h
  | y :: ys, k, x, h, hx => by
    simp only [posW] at h
    split at h
    · rename_i hy
      cases k with
      | zero => simp at hx; subst hx; exact hy
      | succ k => exact posW_before (xs := ys) (k := k) (by omega) (by simpa using hx)
    · omega
theorem posW_at {s : ByteArray} : ∀ {xs : List ByteArray} {x : ByteArray}, xs[posW s xs]? = some x → ltW x s = false
  | [], x, h => by simp [posW] at h
  | y :: ys, x, h => by
    simp only [posW] at h
    split at h
    · exact posW_at (by simpa using h)
    · rename_i hy; simp at h; subst h; simpa using hy
theorem posW_of {s : ByteArray} {xs : List ByteArray} {k : Nat} (hk : k ≤ xs.length) (h1 : ∀ i x, i < k → xs[i]? = some x → ltW x s = true) (h2 : ∀ x, xs[k]? = some x → ltW x s = false) : posW s xs = k := by
  rcases Nat.lt_trichotomy (posW s xs) k with h | h | h
  · have hx : xs[posW s xs]? = some (xs[posW s xs]'(by omega)) := List.getElem?_eq_getElem (by omega)
    have a := posW_at hx
    rw [h1 _ _ h hx] at a; cases a
  · exact h
  · have := posW_le s xs
    have hx : xs[k]? = some (xs[k]'(by omega)) := List.getElem?_eq_getElem (by omega)
    have a := posW_before h hx
    rw [h2 _ hx] at a; cases a
def insW (s : ByteArray) (xs : List ByteArray) : List ByteArray := if hasW (xs.drop (posW s xs)).head?.toList s then xs else xs.take (posW s xs) ++ (s :: xs.drop (posW s xs))
theorem insW_len (s : ByteArray) (xs : List ByteArray) : (insW s xs).length ≤ xs.length + 1 := by
  unfold insW
  split
  · omega
  · have := posW_le s xs; simp; omega
theorem insW_dup {s : ByteArray} {xs : List ByteArray} {x : ByteArray} (hx : xs[posW s xs]? = some x) (he : (x.toList == s.toList) = true) : insW s xs = xs := by
  unfold insW
  rw [if_pos]
  rw [List.head?_drop, hx]
  simpa [hasW] using he
theorem insW_new {s : ByteArray} {xs : List ByteArray} (h : ∀ x, xs[posW s xs]? = some x → (x.toList == s.toList) = false) : insW s xs = xs.take (posW s xs) ++ (s :: xs.drop (posW s xs)) := by
  unfold insW
  rw [if_neg]
  rw [List.head?_drop]
  cases hx : xs[posW s xs]? with
  | none => simp [hasW]
  | some x => have := h x hx; simp [hasW, this]
def insR (s : ByteArray) : List ByteArray → List ByteArray
  | [] => [s]
  | x :: xs => if ltW x s then x :: insR s xs else s :: x :: xs
theorem insR_take (s : ByteArray) : ∀ xs, insR s xs = xs.take (posW s xs) ++ (s :: xs.drop (posW s xs))
  | [] => rfl
  | x :: xs => by
    simp only [insR, posW]
    split
    · rw [insR_take s xs]; simp
    · simp
theorem insR_perm (s : ByteArray) : ∀ xs, (insR s xs).Perm (s :: xs)
  | [] => List.Perm.refl _
  | x :: xs => by
    simp only [insR]
    split
    · exact ((insR_perm s xs).cons x).trans (List.Perm.swap s x xs)
    · exact List.Perm.refl _
theorem insR_sorted (s : ByteArray) : ∀ xs, xs.Pairwise leW → (insR s xs).Pairwise leW
  | [], _ => by simp [insR]
  | x :: xs, h => by
    rw [List.pairwise_cons] at h
    simp only [insR]
    split
    · rename_i hx
      rw [List.pairwise_cons]
      refine ⟨fun b hb => ?_, insR_sorted s xs h.2⟩
      rcases List.mem_cons.1 ((insR_perm s xs).mem_iff.1 hb) with rfl | hb
      · exact leW_of_lt hx
      · exact h.1 b hb
    · rename_i hx
      have hx' : leW s x := ltW_no.1 (by simpa using hx)
      rw [List.pairwise_cons]
      refine ⟨fun b hb => ?_, by rw [List.pairwise_cons]; exact h⟩
      rcases List.mem_cons.1 hb with rfl | hb
      · exact hx'
      · exact leW_trans hx' (h.1 b hb)
theorem insW_insR {s : ByteArray} {xs : List ByteArray} (h : s ∉ xs) : insW s xs = insR s xs := by
  rw [insR_take, insW_new]
  intro x hx
  rw [← Bool.not_eq_true]
  intro he
  have : x = s := by simpa [toList_inj] using he
  subst this
  exact h (List.mem_of_getElem? hx)
def insAll (acc ys : List ByteArray) : List ByteArray := ys.foldl (fun a y => insW y a) acc
theorem insAll_facts : ∀ (ys acc : List ByteArray), acc.Pairwise leW → (acc ++ ys).Nodup → (insAll acc ys).Pairwise leW ∧ (insAll acc ys).Perm (acc ++ ys)
  | [], acc, h, _ => ⟨h, by simp [insAll]⟩
  | y :: ys, acc, h, hn => by
    have hy : y ∉ acc := by
      rw [List.nodup_append] at hn
      intro hm
      exact hn.2.2 y hm y (by simp) rfl
    have e : insAll acc (y :: ys) = insAll (insR y acc) ys := by simp [insAll, insW_insR hy]
    have hp := insR_perm y acc
    have hp2 : (insR y acc ++ ys).Perm (acc ++ y :: ys) := (hp.append_right ys).trans (by rw [List.cons_append]; exact List.perm_middle.symm)
    obtain ⟨a, b⟩ := insAll_facts ys (insR y acc) (insR_sorted y acc h) (hp2.nodup_iff.2 hn)
    rw [e]
    exact ⟨a, b.trans hp2⟩
theorem insAll_sortW {ys : List ByteArray} (h : ys.Nodup) : insAll [] ys = sortW ys := by
  obtain ⟨a, b⟩ := insAll_facts ys [] List.Pairwise.nil (by simpa using h)
  simp at b
  exact List.Perm.eq_of_pairwise (le := leW) (fun x y _ _ h1 h2 => leW_anti h1 h2) a (sortW_sorted ys) (b.trans (sortW_perm ys).symm)

/-- The people whom two hearings need. -/
def sharedL (a b : Hearing) : List ByteArray := a.people.filter fun p => hasW b.people p
theorem sharedL_len (a b : Hearing) : (sharedL a b).length ≤ a.people.length := List.length_filter_le _ _
theorem newW_nodup {xs : List ByteArray} (h : prefOk newW xs = true) : xs.Nodup := by
  have h2 : ∀ k, k ≤ xs.length → (xs.take k).Nodup := by
    intro k
    induction k with
    | zero => intro _; simp
    | succ k ih =>
      intro hk
      have hx : xs[k]? = some xs[k] := List.getElem?_eq_getElem (by omega)
      have h3 := prefOk_at h hx
      rw [List.take_add_one, hx]
      simp only [Option.toList_some]
      rw [List.nodup_append]
      refine ⟨ih (by omega), by simp, fun a ha b hb e => ?_⟩
      simp at hb
      subst hb
      subst e
      rw [newW, hasW_iff.2 ha] at h3
      cases h3
  have := h2 xs.length (Nat.le_refl _)
  rwa [List.take_length] at this
theorem ok_nodup {a : Hearing} (h : a.ok = true) : a.people.Nodup := by
  simp only [Hearing.ok, Bool.and_eq_true] at h
  exact newW_nodup h.1
theorem sharedL_ins {a b : Hearing} (h : a.people.Nodup) : insAll [] (sharedL a b) = sortW (sharedL a b) := insAll_sortW (h.filter _)
theorem filter_yes {α : Type} {p : α → Bool} {xs : List α} {k : Nat} {x : α} (hx : xs[k]? = some x) (hp : p x = true) : (xs.take (k + 1)).filter p = (xs.take k).filter p ++ [x] := by
  rw [List.take_add_one, hx]; simp [List.filter_append, hp]
theorem filter_no {α : Type} {p : α → Bool} {xs : List α} {k : Nat} {x : α} (hx : xs[k]? = some x) (hp : p x = false) : (xs.take (k + 1)).filter p = (xs.take k).filter p := by
  rw [List.take_add_one, hx]; simp [List.filter_append, hp]
theorem insAll_snoc (acc ys : List ByteArray) (y : ByteArray) : insAll acc (ys ++ [y]) = insW y (insAll acc ys) := by simp [insAll]
theorem insAll_len : ∀ (ys acc : List ByteArray), (insAll acc ys).length ≤ acc.length + ys.length
  | [], acc => by simp [insAll]
  | y :: ys, acc => by
    have := insAll_len ys (insW y acc)
    have := insW_len y acc
    have e : insAll acc (y :: ys) = insAll (insW y acc) ys := by simp [insAll]
    rw [e]; simp; omega
end Go.Proofs.YtgpknnlphabpkaaGreat
