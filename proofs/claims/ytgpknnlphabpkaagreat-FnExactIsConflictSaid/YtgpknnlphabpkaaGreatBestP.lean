/- The best calendar, the same choices of all calendars, the most hearings: plain. -/
import Derived.Test.YtgpknnlphabpkaaGreatCalsW
import Derived.Test.YtgpknnlphabpkaaGreatCostW
import Derived.Test.YtgpknnlphabpkaaGreatSubsP
namespace Go.Proofs.YtgpknnlphabpkaaGreat
open Go.RowKit
set_option linter.unusedVariables false

def pick (f : List Int → Int) (b c : List Int) : List Int := if f c < f b then c else b
def bestTo (f : List Int → Int) (L : List (List Int)) (a : List Int) (k : Nat) : List Int := (L.take k).foldl (pick f) a
theorem bestTo_yes {f : List Int → Int} {L : List (List Int)} {a c : List Int} {k : Nat} (h : L[k]? = some c) (hf : f c < f (bestTo f L a k)) : bestTo f L a (k + 1) = c := by
  unfold bestTo at *
  rw [List.take_add_one, h, List.foldl_append]
  simp [pick, hf]
theorem bestTo_no {f : List Int → Int} {L : List (List Int)} {a c : List Int} {k : Nat} (h : L[k]? = some c) (hf : ¬ f c < f (bestTo f L a k)) : bestTo f L a (k + 1) = bestTo f L a k := by
  unfold bestTo at *
  rw [List.take_add_one, h, List.foldl_append]
  simp [pick, hf]
theorem bestTo_mem {f : List Int → Int} {L : List (List Int)} {a : List Int} (ha : a ∈ L) : ∀ k, bestTo f L a k ∈ L := by
  intro k
  have : ∀ (M : List (List Int)) (b : List Int), b ∈ L → (∀ c ∈ M, c ∈ L) → M.foldl (pick f) b ∈ L := by
    intro M
    induction M with
    | nil => intro b hb _; exact hb
    | cons c M ih =>
      intro b hb hM
      rw [List.foldl_cons]
      refine ih _ ?_ (fun d hd => hM d (List.mem_cons_of_mem _ hd))
      unfold pick
      split
      · exact hM c List.mem_cons_self
      · exact hb
  exact this _ a ha (fun c hc => List.mem_of_mem_take hc)
def bestOf (f : List Int → Int) (L : List (List Int)) : List Int := match L with
  | [] => []
  | a :: M => bestTo f (a :: M) a (a :: M).length
theorem bestOf_at {f : List Int → Int} {L : List (List Int)} {a : List Int} (h : L[0]? = some a) : bestOf f L = bestTo f L a L.length := by
  cases L with
  | nil => simp at h
  | cons b M => simp at h; subst h; rfl
def bestCal (xs : List Hearing) (ps : List Slot) : List Int × Int × Int :=
  if bothOk xs ps then (if (cals xs ps).length = 0 then ([], 0, 4) else (bestOf (costL ps) (cals xs ps), costL ps (bestOf (costL ps) (cals xs ps)), 0)) else ([], 0, 1)
theorem bestCal_bad {xs : List Hearing} {ps : List Slot} (h : bothOk xs ps = false) : bestCal xs ps = ([], 0, 1) := by unfold bestCal; rw [h]; rfl
theorem bestCal_none {xs : List Hearing} {ps : List Slot} (h : bothOk xs ps = true) (hl : (cals xs ps).length = 0) : bestCal xs ps = ([], 0, 4) := by unfold bestCal; rw [if_pos h, if_pos hl]
theorem bestCal_some {xs : List Hearing} {ps : List Slot} (h : bothOk xs ps = true) (hl : ¬ (cals xs ps).length = 0) : bestCal xs ps = (bestOf (costL ps) (cals xs ps), costL ps (bestOf (costL ps) (cals xs ps)), 0) := by unfold bestCal; rw [if_pos h, if_neg hl]
def countCal (xs : List Hearing) (ps : List Slot) : Int × Int := if bothOk xs ps then (((cals xs ps).length : Int), 0) else (0, 1)
theorem countCal_bad {xs : List Hearing} {ps : List Slot} (h : bothOk xs ps = false) : countCal xs ps = (0, 1) := by unfold countCal; rw [h]; rfl
theorem countCal_ok {xs : List Hearing} {ps : List Slot} (h : bothOk xs ps = true) : countCal xs ps = (((cals xs ps).length : Int), 0) := by unfold countCal; rw [if_pos h]
theorem bestOf_mem {f : List Int → Int} {L : List (List Int)} (h : ¬ L.length = 0) : bestOf f L ∈ L := by
  cases L with
  | nil => simp at h
  | cons a M => exact bestTo_mem List.mem_cons_self _
theorem bothOk_len {xs : List Hearing} {ps : List Slot} (h : bothOk xs ps = true) : xs.length ≤ 5 ∧ ps.length ≤ 10 := ⟨hearingsOk_len (bothOk_hx h), slotsOk_len (bothOk_sx h)⟩
theorem bestCal_len {xs : List Hearing} {ps : List Slot} : (bestCal xs ps).1.length ≤ 1048576 := by
  unfold bestCal
  split
  · next h =>
    split
    · simp
    · next hl =>
      have h1 := (cals_mem (bestOf_mem (f := costL ps) hl)).1
      have h2 := (bothOk_len h).1
      simp only
      omega
  · simp

/-- Row c against out: where they part, -1. -/
def fTo (c out : List Int) : Nat → List Int
  | 0 => out
  | j + 1 => if (fTo c out j)[j]? = c[j]? then fTo c out j else (fTo c out j).set j (-1)
theorem fTo_len (c out : List Int) : ∀ j, (fTo c out j).length = out.length
  | 0 => rfl
  | j + 1 => by
    rw [fTo]
    split
    · exact fTo_len c out j
    · rw [List.length_set]; exact fTo_len c out j
theorem fTo_yes {c out : List Int} {j : Nat} {x y : Int} (h1 : (fTo c out j)[j]? = some x) (h2 : c[j]? = some y) (h : x = y) : fTo c out (j + 1) = fTo c out j := by rw [fTo, if_pos (by rw [h1, h2, h])]
theorem fTo_no {c out : List Int} {j : Nat} {x y : Int} (h1 : (fTo c out j)[j]? = some x) (h2 : c[j]? = some y) (h : ¬ x = y) : fTo c out (j + 1) = (fTo c out j).set j (-1) := by rw [fTo, if_neg (by rw [h1, h2]; simpa using h)]
def fAll (L : List (List Int)) (a : List Int) : Nat → List Int
  | 0 => a
  | k + 1 => match L[k]? with
    | some c => fTo c (fAll L a k) a.length
    | none => fAll L a k
theorem fAll_len (L : List (List Int)) (a : List Int) : ∀ k, (fAll L a k).length = a.length
  | 0 => rfl
  | k + 1 => by
    rw [fAll]
    split
    · rw [fTo_len]; exact fAll_len L a k
    · exact fAll_len L a k
theorem fAll_step {L : List (List Int)} {a c : List Int} {k : Nat} (h : L[k]? = some c) : fAll L a (k + 1) = fTo c (fAll L a k) a.length := by rw [fAll, h]
def forcedOf (L : List (List Int)) : List Int := match L with
  | [] => []
  | a :: M => fAll (a :: M) a (a :: M).length
theorem forcedOf_at {L : List (List Int)} {a : List Int} (h : L[0]? = some a) : forcedOf L = fAll L a L.length := by
  cases L with
  | nil => simp at h
  | cons b M => simp at h; subst h; rfl
def forcedCal (xs : List Hearing) (ps : List Slot) : List Int × Int :=
  if bothOk xs ps then (if (cals xs ps).length = 0 then ([], 4) else (forcedOf (cals xs ps), 0)) else ([], 1)
theorem forcedCal_bad {xs : List Hearing} {ps : List Slot} (h : bothOk xs ps = false) : forcedCal xs ps = ([], 1) := by unfold forcedCal; rw [h]; rfl
theorem forcedCal_none {xs : List Hearing} {ps : List Slot} (h : bothOk xs ps = true) (hl : (cals xs ps).length = 0) : forcedCal xs ps = ([], 4) := by unfold forcedCal; rw [if_pos h, if_pos hl]
theorem forcedCal_some {xs : List Hearing} {ps : List Slot} (h : bothOk xs ps = true) (hl : ¬ (cals xs ps).length = 0) : forcedCal xs ps = (forcedOf (cals xs ps), 0) := by unfold forcedCal; rw [if_pos h, if_neg hl]
theorem forcedOf_len {L : List (List Int)} {n : Nat} (h : ∀ c ∈ L, c.length ≤ n) : (forcedOf L).length ≤ n := by
  cases L with
  | nil => simp [forcedOf]
  | cons a M =>
    have := h a List.mem_cons_self
    rw [forcedOf, fAll_len]; exact this
theorem forcedCal_len {xs : List Hearing} {ps : List Slot} : (forcedCal xs ps).1.length ≤ 1048576 := by
  unfold forcedCal
  split
  · next h =>
    split
    · simp
    · have h2 := (bothOk_len h).1
      have := forcedOf_len (L := cals xs ps) (n := xs.length) (fun c hc => by rw [(cals_mem hc).1]; exact Nat.le_refl _)
      simp only
      omega
  · simp

/-- The hearings with some indices. -/
def heldAt (xs : List Hearing) (s : List Int) : List Hearing := s.filterMap fun i => xs[i.toNat]?
theorem heldAt_step {xs : List Hearing} {s : List Int} {k : Nat} {i : Int} {h : Hearing} (h1 : s[k]? = some i) (h2 : xs[i.toNat]? = some h) : heldAt xs (s.take (k + 1)) = heldAt xs (s.take k) ++ [h] := by
  unfold heldAt
  rw [List.take_add_one, h1, List.filterMap_append]
  simp [h2]
theorem heldAt_len (xs : List Hearing) (s : List Int) : (heldAt xs s).length ≤ s.length := List.length_filterMap_le _ _
theorem heldAt_mem {xs : List Hearing} {s : List Int} {h : Hearing} (hm : h ∈ heldAt xs s) : h ∈ xs := by
  unfold heldAt at hm
  rw [List.mem_filterMap] at hm
  obtain ⟨i, -, hi⟩ := hm
  exact List.mem_of_getElem? hi
/-- There is a calendar for some hearings. -/
def canHold (xs : List Hearing) (ps : List Slot) (s : List Int) : Bool := decide (0 < (cals (heldAt xs s) ps).length)
def mostHeld (xs : List Hearing) (ps : List Slot) : List Int × Int := if bothOk xs ps then (mostS (canHold xs ps) xs.length xs.length, 0) else ([], 1)
theorem mostS_len {P : List Int → Bool} {n : Nat} : ∀ k, (mostS P n k).length ≤ n := by
  intro k
  rcases (mostS_inv (P := P) (n := n) k).1 with h | ⟨-, h⟩
  · rw [h]; exact Nat.zero_le _
  · exact h.len
theorem mostHeld_len {xs : List Hearing} {ps : List Slot} : (mostHeld xs ps).1.length ≤ 1048576 := by
  unfold mostHeld
  split
  · next h =>
    have h2 := (bothOk_len h).1
    have := mostS_len (P := canHold xs ps) (n := xs.length) xs.length
    simp only
    omega
  · simp
end Go.Proofs.YtgpknnlphabpkaaGreat
