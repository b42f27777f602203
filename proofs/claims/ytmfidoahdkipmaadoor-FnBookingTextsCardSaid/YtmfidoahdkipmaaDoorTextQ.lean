/- Plain laws beside the walks of texts: decimals, joining, splitting step by step, reading numbers. No program stands here. -/
import Derived.Test.YtmfidoahdkipmaaDoorTextP
import Derived.Laws.BytesArg
namespace Go.Proofs.YtmfidoahdkipmaaDoor
set_option linter.unusedVariables false

def natB (u : Nat) : ByteArray := ⟨(Lib.decDigits u).toArray⟩
def numB (n : Int) : ByteArray := ⟨(Lib.itoa n).toArray⟩
theorem natB_small {u : Nat} (h : u < 10) : natB u = ⟨#[UInt8.ofNat (48 + u)]⟩ := by
  unfold natB
  rw [Lib.decDigits, dif_pos h]
theorem natB_step {u : Nat} (h : ¬ u < 10) : natB u = natB (u / 10) ++ ⟨#[UInt8.ofNat (48 + u % 10)]⟩ := by
  apply ByteArray.ext
  unfold natB
  rw [Lib.decDigits, dif_neg h]
  simp
theorem natB_size (u : Nat) : (natB u).size ≤ u + 1 := by
  induction u using Nat.strongRecOn with
  | _ u ih =>
    by_cases h : u < 10
    · rw [natB_small h]; exact Nat.succ_le_succ (Nat.zero_le _)
    · rw [natB_step h, ByteArray.size_append]
      have := ih (u / 10) (by omega)
      have e : (ByteArray.mk #[UInt8.ofNat (48 + u % 10)]).size = 1 := rfl
      omega
theorem numB_neg {n : Int} (h : n < 0) : numB n = ⟨#[45]⟩ ++ natB (-n).toNat := by
  apply ByteArray.ext
  unfold numB natB Lib.itoa
  rw [if_pos h, show n.natAbs = (-n).toNat by omega]
  simp
theorem numB_pos {n : Int} (h : ¬ n < 0) : numB n = natB n.toNat := by
  unfold numB natB Lib.itoa
  rw [if_neg h]
theorem numB_data (n : Int) : (numB n).data.toList = Lib.itoa n := by simp [numB]
theorem numB_size {n : Int} (h0 : -1000000000000000 ≤ n) (h1 : n ≤ 1000000000000000) : (numB n).size ≤ 21 := by
  have := Lib.itoa_length_le n (by omega) (by omega)
  have e : (numB n).size = (Lib.itoa n).length := by show (Lib.itoa n).toArray.size = _; rw [List.size_toArray]
  omega
def joinB (xs : List Int) : ByteArray := ⟨(Lib.join (xs.map Lib.itoa) [47]).toArray⟩
theorem joinB_nil : joinB [] = ByteArray.empty := rfl
theorem joinB_one (x : Int) : joinB [x] = numB x := by
  unfold joinB numB
  rw [List.map_cons, List.map_nil, Lib.join_one]
theorem joinB_snoc {xs : List Int} (h : xs ≠ []) (x : Int) : joinB (xs ++ [x]) = joinB xs ++ ⟨#[47]⟩ ++ numB x := by
  apply ByteArray.ext
  cases xs with
  | nil => exact absurd rfl h
  | cons y ys =>
    unfold joinB numB
    rw [List.cons_append, List.map_cons, List.map_cons, Lib.join_cons, Lib.join_cons]
    simp [Lib.joinTail]
theorem joinB_take {xs : List Int} {k : Nat} {x : Int} (h : xs[k]? = some x) (hk : k ≠ 0) : joinB (xs.take (k + 1)) = joinB (xs.take k) ++ ⟨#[47]⟩ ++ numB x := by
  have hl := (List.getElem?_eq_some_iff.1 h).1
  rw [List.take_add_one, h]
  refine joinB_snoc ?_ x
  intro e
  have := congrArg List.length e
  rw [List.length_take, List.length_nil] at this
  omega
theorem joinB_first {xs : List Int} {x : Int} (h : xs[0]? = some x) : joinB (xs.take 1) = numB x := by
  cases xs with
  | nil => cases h
  | cons y ys =>
    simp at h
    subst h
    exact joinB_one y
theorem joinB_size {xs : List Int} (h : ∀ x ∈ xs, -1000000000000000 ≤ x ∧ x ≤ 1000000000000000) : (joinB xs).size ≤ 22 * xs.length := by
  have key : ∀ k, k ≤ xs.length → (joinB (xs.take k)).size ≤ 22 * k := by
    intro k
    induction k with
    | zero => intro _; exact Nat.le_refl _
    | succ k ih =>
      intro hk
      have hx : xs[k]? = some (xs[k]'hk) := List.getElem?_eq_getElem hk
      have hb := h _ (List.mem_of_getElem? hx)
      have hn := numB_size hb.1 hb.2
      by_cases h0 : k = 0
      · subst h0
        rw [joinB_first hx]
        omega
      · rw [joinB_take hx h0, ByteArray.size_append, ByteArray.size_append]
        have := ih (by omega)
        have e : (ByteArray.mk #[47]).size = 1 := rfl
        omega
  have := key xs.length (Nat.le_refl _)
  rwa [List.take_length] at this
/-- How far a split has come: at byte k, the last piece begun at byte f, the pieces ps told. -/
def SplitAt (s : ByteArray) (k f : Nat) (ps : List ByteArray) : Prop :=
  (k ≤ s.size ∧ f ≤ k ∧ (∀ j, f ≤ j → j < k → s.data.toList[j]? ≠ some 47) ∧ ps.map (fun p => p.data.toList) ++ splitL (s.data.toList.drop f) = splitL s.data.toList) ∨ (k = s.size + 1 ∧ ps = piecesB s)
theorem SplitAt.start (s : ByteArray) : SplitAt s 0 0 [] := .inl ⟨Nat.zero_le _, Nat.le_refl _, fun j _ h => absurd h (by omega), by simp⟩
theorem SplitAt.miss {s : ByteArray} {k f : Nat} {ps : List ByteArray} (h : SplitAt s k f ps) (hk : k < s.size) (hc : s.data.toList[k]? ≠ some 47) : SplitAt s (k + 1) f ps := by
  rcases h with ⟨h1, h2, h3, h4⟩ | ⟨h1, -⟩
  · refine .inl ⟨hk, by omega, fun j hj hj2 => ?_, h4⟩
    by_cases e : j = k
    · rw [e]; exact hc
    · exact h3 j hj (by omega)
  · omega
theorem extract_data (s : ByteArray) (f k : Nat) : (s.extract f k).data.toList = (s.data.toList.drop f).take (k - f) := by
  rw [ByteArray.data_extract]
  simp [Array.toList_extract, List.extract]
theorem noSep_mid {s : ByteArray} {k f : Nat} (h3 : ∀ j, f ≤ j → j < k → s.data.toList[j]? ≠ some 47) : ∀ c ∈ (s.data.toList.drop f).take (k - f), c ≠ 47 := by
  intro c hc e
  obtain ⟨i, hi, hx⟩ := List.mem_iff_getElem.1 hc
  have h1 : ((s.data.toList.drop f).take (k - f))[i]? = some c := by rw [List.getElem?_eq_getElem hi, hx]
  rw [List.length_take] at hi
  rw [List.getElem?_take, if_pos (by omega), List.getElem?_drop] at h1
  exact h3 (f + i) (by omega) (by omega) (by rw [h1, e])
theorem SplitAt.hit {s : ByteArray} {k f : Nat} {ps : List ByteArray} (h : SplitAt s k f ps) (hk : k < s.size) (hc : s.data.toList[k]? = some 47) : SplitAt s (k + 1) (k + 1) (ps ++ [s.extract f k]) := by
  rcases h with ⟨h1, h2, h3, h4⟩ | ⟨h1, -⟩
  · refine .inl ⟨hk, Nat.le_refl _, fun j hj hj2 => by omega, ?_⟩
    have hm := noSep_mid h3
    have hsz : k < s.data.toList.length := by rw [Array.length_toList]; exact hk
    have e : s.data.toList.drop f = (s.data.toList.drop f).take (k - f) ++ 47 :: s.data.toList.drop (k + 1) := by
      conv => lhs; rw [← List.take_append_drop (k - f) (s.data.toList.drop f)]
      rw [List.drop_drop, show f + (k - f) = k by omega, List.drop_eq_getElem_cons hsz]
      have := (List.getElem?_eq_some_iff.1 hc).2
      rw [this]
    rw [e, splitL_cut hm] at h4
    rw [List.map_append, ← h4, List.append_assoc]
    simp
  · omega
theorem SplitAt.last {s : ByteArray} {k f : Nat} {ps : List ByteArray} (h : SplitAt s k f ps) (hk : k = s.size) : SplitAt s (k + 1) (k + 1) (ps ++ [s.extract f k]) := by
  rcases h with ⟨h1, h2, h3, h4⟩ | ⟨h1, -⟩
  · refine .inr ⟨by omega, data_inj ?_⟩
    have hm := noSep_mid h3
    have hsz : s.data.toList.length = k := by rw [Array.length_toList]; exact hk.symm
    have e : (s.data.toList.drop f).take (k - f) = s.data.toList.drop f := List.take_of_length_le (by rw [List.length_drop]; omega)
    rw [e] at hm
    rw [splitL_one hm] at h4
    rw [piecesB_data, ← h4, List.map_append]
    simp [e]
  · omega
theorem SplitAt.whole {s : ByteArray} {k f : Nat} {ps : List ByteArray} (h : SplitAt s k f ps) (hk : ¬ k ≤ s.size) : ps = piecesB s := by
  rcases h with ⟨h1, -⟩ | ⟨-, h2⟩
  · omega
  · exact h2
/-- Numbers of texts, all or none. -/
def numsOf (f : ByteArray → Option Int) : List ByteArray → Option (List Int)
  | [] => some []
  | a :: r => match f a, numsOf f r with
    | some n, some ns => some (n :: ns)
    | _, _ => none
theorem numsOf_snoc {f : ByteArray → Option Int} : ∀ (xs : List ByteArray) (a : ByteArray), numsOf f (xs ++ [a]) = match numsOf f xs, f a with
    | some ns, some n => some (ns ++ [n])
    | _, _ => none
  | [], a => by cases h : f a <;> simp [numsOf, h]
  | x :: r, a => by
    rw [List.cons_append, numsOf, numsOf, numsOf_snoc r a]
    cases f x <;> cases numsOf f r <;> cases f a <;> rfl
theorem numsOf_take {f : ByteArray → Option Int} {xs : List ByteArray} {k : Nat} {a : ByteArray} {ns : List Int} {n : Int} (h : numsOf f (xs.take k) = some ns) (ha : xs[k]? = some a) (hn : f a = some n) : numsOf f (xs.take (k + 1)) = some (ns ++ [n]) := by
  rw [List.take_add_one, ha]
  show numsOf f (xs.take k ++ [a]) = _
  rw [numsOf_snoc, h, hn]
theorem numsOf_bad {f : ByteArray → Option Int} : ∀ {xs : List ByteArray} {a : ByteArray}, a ∈ xs → f a = none → numsOf f xs = none
  | x :: r, a, h, ha => by
    rcases List.mem_cons.1 h with rfl | h
    · simp [numsOf, ha]
    · rw [numsOf, numsOf_bad h ha]
      cases f x <;> rfl
theorem numsOf_len {f : ByteArray → Option Int} : ∀ {xs : List ByteArray} {ns : List Int}, numsOf f xs = some ns → ns.length = xs.length
  | [], ns, h => by injection h with h; subst h; rfl
  | x :: r, ns, h => by
    rw [numsOf] at h
    cases hx : f x with
    | none => rw [hx] at h; cases h
    | some n =>
      cases hr : numsOf f r with
      | none => rw [hx, hr] at h; cases h
      | some ms =>
        rw [hx, hr] at h
        injection h with h
        subst h
        simp [numsOf_len hr]
end Go.Proofs.YtmfidoahdkipmaaDoor
