/- Demands on calendars: which lists of demands contradict each other; plain. -/
import Derived.Test.YtgpknnlphabpkaaGreatKeptX
import Derived.Test.YtgpknnlphabpkaaGreatBestW
import Derived.Test.YtgpknnlphabpkaaGreatLessW
import Derived.Test.YtgpknnlphabpkaaGreatWithW
namespace Go.Proofs.YtgpknnlphabpkaaGreat
open Go.RowKit
set_option linter.unusedVariables false

def tabs (xs : List Hearing) (ps : List Slot) (ds : List Demand) : List (List Int) := (cals xs ps).map fun c => keptIdx ps c ds ds.length
theorem tabs_len (xs : List Hearing) (ps : List Slot) (ds : List Demand) : (tabs xs ps ds).length = (cals xs ps).length := by simp [tabs]
theorem tabs_row {xs : List Hearing} {ps : List Slot} {ds : List Demand} {l : List Int} (h : l ∈ tabs xs ps ds) : l.length ≤ ds.length := by
  unfold tabs at h
  obtain ⟨c, -, rfl⟩ := List.mem_map.1 h
  exact keptIdx_len _ _ _ _
/-- No list has all of some numbers. -/
def against (L : List (List Int)) (s : List Int) : Bool := !L.any fun l => s.all (hasI l)
def isConf (L : List (List Int)) (s : List Int) : Bool := against L s && s.all fun i => !against L (withoutL s [i])
def someC (xs : List Hearing) (ps : List Slot) (ds : List Demand) (s : List Int) : Int := if areDemands xs ps ds then (if incr 0 ((ds.length : Int) - 1) s then 0 else 2) else 1
def doContradict (xs : List Hearing) (ps : List Slot) (ds : List Demand) (s : List Int) : Bool × Int := if someC xs ps ds s = 0 then (against (tabs xs ps ds) s, 0) else (false, someC xs ps ds s)
def isConflictR (xs : List Hearing) (ps : List Slot) (ds : List Demand) (s : List Int) : Bool × Int := if someC xs ps ds s = 0 then (isConf (tabs xs ps ds) s, 0) else (false, someC xs ps ds s)
theorem someC_bad {xs : List Hearing} {ps : List Slot} {ds : List Demand} {s : List Int} (h : areDemands xs ps ds = false) : someC xs ps ds s = 1 := by unfold someC; rw [h]; rfl
theorem someC_incr {xs : List Hearing} {ps : List Slot} {ds : List Demand} {s : List Int} (h : areDemands xs ps ds = true) (hi : incr 0 ((ds.length : Int) - 1) s = false) : someC xs ps ds s = 2 := by unfold someC; rw [if_pos h, hi]; rfl
theorem someC_ok {xs : List Hearing} {ps : List Slot} {ds : List Demand} {s : List Int} (h : areDemands xs ps ds = true) (hi : incr 0 ((ds.length : Int) - 1) s = true) : someC xs ps ds s = 0 := by unfold someC; rw [if_pos h, if_pos hi]
theorem someC_zero {xs : List Hearing} {ps : List Slot} {ds : List Demand} {s : List Int} (h : someC xs ps ds s = 0) : areDemands xs ps ds = true ∧ incr 0 ((ds.length : Int) - 1) s = true := by
  unfold someC at h
  split at h
  · split at h
    · exact ⟨by assumption, by assumption⟩
    · simp at h
  · simp at h
theorem without_nil {s l : List Int} : (withoutL s l).length = 0 ↔ s.all (hasI l) = true := by
  unfold withoutL
  rw [List.length_eq_zero_iff, List.filter_eq_nil_iff, List.all_eq_true]
  simp [notIn]
theorem withoutL_len (s l : List Int) : (withoutL s l).length ≤ s.length := List.length_filter_le _ _
/-- A list that passes the test rises. -/
theorem incr_ris {n : Nat} {s : List Int} : ∀ {k : Nat}, k ≤ s.length → prefAll (incrP 0 ((n : Int) - 1)) s k = true → ∃ m : Nat, m ≤ n ∧ Ris m 0 (s.take k) ∧ (∀ l, (s.take k).getLast? = some l → l + 1 = (m : Int)) ∧ (k = 0 → m = 0)
  | 0, _, _ => ⟨0, Nat.zero_le _, trivial, fun l h => by simp at h, fun _ => rfl⟩
  | k + 1, hk, h => by
    have hlt : k < s.length := by omega
    have hx : s[k]? = some s[k] := List.getElem?_eq_getElem hlt
    simp only [prefAll, hx, Bool.and_eq_true] at h
    obtain ⟨h1, h2⟩ := h
    obtain ⟨m, hm, hr, hl, h0⟩ := incr_ris (by omega) h1
    unfold incrP at h2
    rw [Bool.and_eq_true, inR_iff] at h2
    obtain ⟨⟨h3, h4⟩, h5⟩ := h2
    obtain ⟨i, hi⟩ := Int.eq_ofNat_of_zero_le h3
    have hin : i < n := by omega
    have hmi : m ≤ i := by
      by_cases hk0 : k = 0
      · have := h0 hk0; omega
      · cases hg : (s.take k).getLast? with
        | none =>
          rw [List.getLast?_eq_none_iff, List.take_eq_nil_iff] at hg
          rcases hg with hg | hg
          · exact absurd hg hk0
          · rw [hg] at hlt; simp at hlt
        | some l =>
          have e := hl l hg
          rw [hg] at h5
          have := of_decide_eq_true h5
          omega
    refine ⟨i + 1, by omega, ?_, fun l h => ?_, fun h => by omega⟩
    · rw [List.take_add_one, hx]
      simp only [Option.toList_some]
      rw [hi]
      exact (hr.up hmi).snoc (Nat.zero_le _)
    · rw [take_last hx] at h
      injection h with h
      omega
theorem incr_ris' {n : Nat} {s : List Int} (h : incr 0 ((n : Int) - 1) s = true) : Ris n 0 s := by
  obtain ⟨m, hm, hr, -, -⟩ := incr_ris (Nat.le_refl _) h
  rw [List.take_length] at hr
  exact hr.up hm
theorem Ris.parts {n : Nat} : ∀ {f : Nat} {t1 : List Int} {x : Int} {t2 : List Int}, Ris n f (t1 ++ x :: t2) → x ∉ t1 ∧ x ∉ t2
  | f, [], x, t2, ⟨i, h0, h1, h2, h3⟩ => by
    refine ⟨by simp, fun hm => ?_⟩
    obtain ⟨j, e, h4, h5⟩ := h3.mem x hm
    omega
  | f, a :: t1, x, t2, ⟨i, h0, h1, h2, h3⟩ => by
    have ih := Ris.parts h3
    refine ⟨fun hm => ?_, ih.2⟩
    rcases List.mem_cons.1 hm with rfl | hm
    · obtain ⟨j, e, h4, h5⟩ := h3.mem x (by simp)
      omega
    · exact ih.1 hm
theorem without_one {n : Nat} {s : List Int} (h : Ris n 0 s) {k : Nat} {x : Int} (hx : s[k]? = some x) : withoutL s [x] = s.take k ++ s.drop (k + 1) := by
  obtain ⟨hk, e⟩ := List.getElem?_eq_some_iff.1 hx
  have hs : s = s.take k ++ x :: s.drop (k + 1) := by
    conv => lhs; rw [← List.take_append_drop k s]
    rw [List.drop_eq_getElem_cons hk, e]
  have hp : x ∉ s.take k ∧ x ∉ s.drop (k + 1) := by
    rw [hs] at h
    have := h.parts
    exact this
  have hf : ∀ t : List Int, x ∉ t → t.filter (notIn [x]) = t := fun t ht => by
    rw [List.filter_eq_self]
    intro y hy
    have : ¬ x = y := fun e => ht (e ▸ hy)
    simp [notIn, hasI, this]
  unfold withoutL
  conv => lhs; rw [hs]
  rw [List.filter_append, List.filter_cons, hf _ hp.1, hf _ hp.2]
  simp [notIn, hasI]
theorem without_shorter {s : List Int} {x : Int} (h : x ∈ s) : (withoutL s [x]).length < s.length := by
  unfold withoutL
  rcases Nat.lt_or_ge (s.filter (notIn [x])).length s.length with h1 | h1
  · exact h1
  · exfalso
    have e := List.length_filter_eq_length_iff.1 (Nat.le_antisymm (List.length_filter_le _ _) h1)
    have := e x h
    simp [notIn, hasI] at this
/-- The smallest conflict, by both searches. -/
def conflictOf (L : List (List Int)) (n : Nat) : Option (List Int) := leastS (against L) n (n + 1) 0
theorem conflict_eq (L : List (List Int)) (n : Nat) : leastTo (isConf L) n (2 ^ n) = conflictOf L n := by
  refine least_eq (fun s _ h => ?_) (fun s hr h hm => ?_)
  · unfold isConf at h
    rw [Bool.and_eq_true] at h
    exact h.1
  · unfold isConf
    rw [h, Bool.true_and, List.all_eq_true]
    intro i hi
    have := hm (withoutL s [i]) (Ris.filter _ hr) (without_shorter hi)
    rw [this]; rfl
def smallest (xs : List Hearing) (ps : List Slot) (ds : List Demand) : List Int × Int :=
  if areDemands xs ps ds then (match conflictOf (tabs xs ps ds) ds.length with | some s => (s, 0) | none => ([], 4)) else ([], 1)
theorem smallest_bad {xs : List Hearing} {ps : List Slot} {ds : List Demand} (h : areDemands xs ps ds = false) : smallest xs ps ds = ([], 1) := by unfold smallest; rw [h]; rfl
theorem smallest_some {xs : List Hearing} {ps : List Slot} {ds : List Demand} {s : List Int} (h : areDemands xs ps ds = true) (hs : conflictOf (tabs xs ps ds) ds.length = some s) : smallest xs ps ds = (s, 0) := by unfold smallest; rw [if_pos h, hs]
theorem smallest_none {xs : List Hearing} {ps : List Slot} {ds : List Demand} (h : areDemands xs ps ds = true) (hs : conflictOf (tabs xs ps ds) ds.length = none) : smallest xs ps ds = ([], 4) := by unfold smallest; rw [if_pos h, hs]
theorem conflictOf_len {L : List (List Int)} {n : Nat} {s : List Int} (h : conflictOf L n = some s) : s.length ≤ n := (leastS_some h).1.len
theorem smallest_len {xs : List Hearing} {ps : List Slot} {ds : List Demand} (hm : ds.length ≤ 1048576) : (smallest xs ps ds).1.length ≤ 1048576 := by
  unfold smallest
  split
  · split
    · next s hs => exact Nat.le_trans (conflictOf_len hs) hm
    · simp
  · simp

/-- The best list of a table: longest, then first. -/
def upd (m l : List Int) : List Int := if better l m then l else m
def mkTo (L : List (List Int)) (a : List Int) (k : Nat) : List Int := (L.take k).foldl upd a
theorem mkTo_yes {L : List (List Int)} {a l : List Int} {k : Nat} (h : L[k]? = some l) (hb : better l (mkTo L a k) = true) : mkTo L a (k + 1) = l := by
  unfold mkTo at *
  rw [List.take_add_one, h, List.foldl_append]
  simp [upd, hb]
theorem mkTo_no {L : List (List Int)} {a l : List Int} {k : Nat} (h : L[k]? = some l) (hb : better l (mkTo L a k) = false) : mkTo L a (k + 1) = mkTo L a k := by
  unfold mkTo at *
  rw [List.take_add_one, h, List.foldl_append]
  simp [upd, hb]
theorem mkTo_mem {L : List (List Int)} {a : List Int} (ha : a ∈ L) : ∀ k, mkTo L a k ∈ L := by
  intro k
  have : ∀ (M : List (List Int)) (b : List Int), b ∈ L → (∀ c ∈ M, c ∈ L) → M.foldl upd b ∈ L := by
    intro M
    induction M with
    | nil => intro b hb _; exact hb
    | cons c M ih =>
      intro b hb hM
      rw [List.foldl_cons]
      refine ih _ ?_ (fun d hd => hM d (List.mem_cons_of_mem _ hd))
      unfold upd
      split
      · exact hM c List.mem_cons_self
      · exact hb
  exact this _ a ha (fun c hc => List.mem_of_mem_take hc)
def mkOf (L : List (List Int)) : List Int := match L with
  | [] => []
  | a :: M => mkTo (a :: M) a (a :: M).length
theorem mkOf_at {L : List (List Int)} {a : List Int} (h : L[0]? = some a) : mkOf L = mkTo L a L.length := by
  cases L with
  | nil => simp at h
  | cons b M => simp at h; subst h; rfl
theorem mkOf_mem {L : List (List Int)} (h : ¬ L.length = 0) : mkOf L ∈ L := by
  cases L with
  | nil => simp at h
  | cons a M => exact mkTo_mem List.mem_cons_self _
def mostKept (xs : List Hearing) (ps : List Slot) (ds : List Demand) : List Int × Int :=
  if areDemands xs ps ds then (if (tabs xs ps ds).length = 0 then ([], 4) else (mkOf (tabs xs ps ds), 0)) else ([], 1)
theorem mostKept_bad {xs : List Hearing} {ps : List Slot} {ds : List Demand} (h : areDemands xs ps ds = false) : mostKept xs ps ds = ([], 1) := by unfold mostKept; rw [h]; rfl
theorem mostKept_none {xs : List Hearing} {ps : List Slot} {ds : List Demand} (h : areDemands xs ps ds = true) (hl : (tabs xs ps ds).length = 0) : mostKept xs ps ds = ([], 4) := by unfold mostKept; rw [if_pos h, if_pos hl]
theorem mostKept_some {xs : List Hearing} {ps : List Slot} {ds : List Demand} (h : areDemands xs ps ds = true) (hl : ¬ (tabs xs ps ds).length = 0) : mostKept xs ps ds = (mkOf (tabs xs ps ds), 0) := by unfold mostKept; rw [if_pos h, if_neg hl]
theorem mostKept_len {xs : List Hearing} {ps : List Slot} {ds : List Demand} (hm : ds.length ≤ 1048576) : (mostKept xs ps ds).1.length ≤ 1048576 := by
  unfold mostKept
  split
  · split
    · simp
    · next hl => exact Nat.le_trans (tabs_row (mkOf_mem hl)) hm
  · simp

/-- The numbers that all lists have. -/
def inAll (L : List (List Int)) (x : Int) : Bool := L.all fun l => hasI l x
def freeTo (L : List (List Int)) (k : Nat) : List Int := ((List.range k).map fun (i : Nat) => (i : Int)).filter (inAll L)
theorem freeTo_yes {L : List (List Int)} {k : Nat} (h : inAll L (k : Int) = true) : freeTo L (k + 1) = freeTo L k ++ [(k : Int)] := by
  unfold freeTo
  rw [List.range_succ, List.map_append, List.filter_append]
  simp [h]
theorem freeTo_no {L : List (List Int)} {k : Nat} (h : inAll L (k : Int) = false) : freeTo L (k + 1) = freeTo L k := by
  unfold freeTo
  rw [List.range_succ, List.map_append, List.filter_append]
  simp [h]
theorem freeTo_len (L : List (List Int)) (k : Nat) : (freeTo L k).length ≤ k := by
  unfold freeTo
  exact Nat.le_trans (List.length_filter_le _ _) (by simp)
theorem without_twice (f l : List Int) : withoutL f (withoutL f l) = f.filter (hasI l) := by
  unfold withoutL
  apply List.filter_congr
  intro x hx
  cases hl : hasI l x with
  | true =>
    have : ¬ hasI (f.filter (notIn l)) x = true := fun h => by
      have := (List.mem_filter.1 (hasI_iff.1 h)).2
      unfold notIn at this
      rw [hl] at this
      cases this
    show (!hasI (f.filter (notIn l)) x) = true
    simpa using this
  | false =>
    have : hasI (f.filter (notIn l)) x = true := hasI_iff.2 (List.mem_filter.2 ⟨hx, by unfold notIn; rw [hl]; rfl⟩)
    show (!hasI (f.filter (notIn l)) x) = false
    rw [this]; rfl
/-- The numbers of the first list that the first k lists have. -/
def freeI (L : List (List Int)) (a : List Int) (k : Nat) : List Int := a.filter (inAll (L.take k))
theorem freeI_succ {L : List (List Int)} {a l : List Int} {k : Nat} (h : L[k]? = some l) : freeI L a (k + 1) = (freeI L a k).filter (hasI l) := by
  unfold freeI
  rw [List.filter_filter, List.take_add_one, h]
  congr 1
  funext x
  simp [inAll, List.all_append, Bool.and_comm]
theorem freeI_zero (L : List (List Int)) (a : List Int) : freeI L a 0 = a := by
  unfold freeI
  rw [List.filter_eq_self]
  intro x _
  rfl
theorem free_eq {ps : List Slot} {c : List Int} {ds : List Demand} {L : List (List Int)} (h : L[0]? = some (keptIdx ps c ds ds.length)) : freeI L (keptIdx ps c ds ds.length) L.length = freeTo L ds.length := by
  unfold freeI freeTo
  rw [List.take_length]
  have hq : ∀ x, inAll L x = true → x ∈ keptIdx ps c ds ds.length := fun x hx => by
    unfold inAll at hx
    exact hasI_iff.1 (List.all_eq_true.1 hx _ (List.mem_of_getElem? h))
  unfold keptIdx at hq ⊢
  rw [List.filter_map, List.filter_map, List.filter_filter]
  congr 1
  apply List.filter_congr
  intro i hi
  cases hx : (inAll L ∘ fun (i : Nat) => (i : Int)) i with
  | false => simp
  | true =>
    have := hq (i : Int) hx
    rw [List.mem_map] at this
    obtain ⟨j, hj, e⟩ := this
    have hij : j = i := by omega
    subst hij
    rw [List.mem_filter] at hj
    simp [hj.2]
def freeOf (xs : List Hearing) (ps : List Slot) (ds : List Demand) : List Int × Int :=
  if areDemands xs ps ds then (if (tabs xs ps ds).length = 0 then ([], 4) else (freeTo (tabs xs ps ds) ds.length, 0)) else ([], 1)
theorem freeOf_bad {xs : List Hearing} {ps : List Slot} {ds : List Demand} (h : areDemands xs ps ds = false) : freeOf xs ps ds = ([], 1) := by unfold freeOf; rw [h]; rfl
theorem freeOf_none {xs : List Hearing} {ps : List Slot} {ds : List Demand} (h : areDemands xs ps ds = true) (hl : (tabs xs ps ds).length = 0) : freeOf xs ps ds = ([], 4) := by unfold freeOf; rw [if_pos h, if_pos hl]
theorem freeOf_some {xs : List Hearing} {ps : List Slot} {ds : List Demand} (h : areDemands xs ps ds = true) (hl : ¬ (tabs xs ps ds).length = 0) : freeOf xs ps ds = (freeTo (tabs xs ps ds) ds.length, 0) := by unfold freeOf; rw [if_pos h, if_neg hl]
theorem freeOf_len {xs : List Hearing} {ps : List Slot} {ds : List Demand} (hm : ds.length ≤ 1048576) : (freeOf xs ps ds).1.length ≤ 1048576 := by
  unfold freeOf
  split
  · split
    · simp
    · exact Nat.le_trans (freeTo_len _ _) hm
  · simp

/-- The calendars that keep all demands. -/
def keepsAll (ps : List Slot) (ds : List Demand) (c : List Int) : Bool := decide ((keptIdx ps c ds ds.length).length = ds.length)
def keepers (xs : List Hearing) (ps : List Slot) (ds : List Demand) : List (List Int) := (cals xs ps).filter (keepsAll ps ds)
def keepTo (q : List Int → Bool) (L : List (List Int)) (k : Nat) : List (List Int) := (L.take k).filter q
theorem keepTo_yes {q : List Int → Bool} {L : List (List Int)} {k : Nat} {c : List Int} (h : L[k]? = some c) (hq : q c = true) : keepTo q L (k + 1) = keepTo q L k ++ [c] := by
  unfold keepTo
  rw [List.take_add_one, h, List.filter_append]
  simp [hq]
theorem keepTo_no {q : List Int → Bool} {L : List (List Int)} {k : Nat} {c : List Int} (h : L[k]? = some c) (hq : q c = false) : keepTo q L (k + 1) = keepTo q L k := by
  unfold keepTo
  rw [List.take_add_one, h, List.filter_append]
  simp [hq]
theorem keepTo_len (q : List Int → Bool) (L : List (List Int)) (k : Nat) : (keepTo q L k).length ≤ L.length := Nat.le_trans (List.length_filter_le _ _) (List.length_take_le' _ _)
theorem keepTo_mem {q : List Int → Bool} {L : List (List Int)} {k : Nat} {c : List Int} (h : c ∈ keepTo q L k) : c ∈ L := List.mem_of_mem_take (List.mem_filter.1 h).1
theorem bestOf_snoc {f : List Int → Int} {M : List (List Int)} {c : List Int} : bestOf f (M ++ [c]) = if M.length = 0 then c else pick f (bestOf f M) c := by
  cases M with
  | nil => simp [bestOf, bestTo, pick]
  | cons a M =>
    rw [if_neg (by simp)]
    show bestTo f (a :: M ++ [c]) a _ = pick f (bestTo f (a :: M) a _) c
    unfold bestTo
    have e1 : List.take (a :: (M ++ [c])).length (a :: (M ++ [c])) = a :: (M ++ [c]) := List.take_length
    have e2 : List.take (a :: M).length (a :: M) = a :: M := List.take_length
    rw [e2]
    show List.foldl (pick f) a (List.take (a :: (M ++ [c])).length (a :: (M ++ [c]))) = _
    rw [e1]
    show List.foldl (pick f) a ((a :: M) ++ [c]) = _
    rw [List.foldl_append]
    rfl
def bestKeep (xs : List Hearing) (ps : List Slot) (ds : List Demand) : List Int × Int :=
  if areDemands xs ps ds then (if (keepers xs ps ds).length = 0 then ([], 4) else (bestOf (costL ps) (keepers xs ps ds), 0)) else ([], 1)
theorem bestKeep_bad {xs : List Hearing} {ps : List Slot} {ds : List Demand} (h : areDemands xs ps ds = false) : bestKeep xs ps ds = ([], 1) := by unfold bestKeep; rw [h]; rfl
theorem bestKeep_none {xs : List Hearing} {ps : List Slot} {ds : List Demand} (h : areDemands xs ps ds = true) (hl : (keepers xs ps ds).length = 0) : bestKeep xs ps ds = ([], 4) := by unfold bestKeep; rw [if_pos h, if_pos hl]
theorem bestKeep_some {xs : List Hearing} {ps : List Slot} {ds : List Demand} (h : areDemands xs ps ds = true) (hl : ¬ (keepers xs ps ds).length = 0) : bestKeep xs ps ds = (bestOf (costL ps) (keepers xs ps ds), 0) := by unfold bestKeep; rw [if_pos h, if_neg hl]
theorem bestKeep_len {xs : List Hearing} {ps : List Slot} {ds : List Demand} : (bestKeep xs ps ds).1.length ≤ 1048576 := by
  unfold bestKeep
  split
  · next h =>
    split
    · simp
    · next hl =>
      have h1 : (bestOf (costL ps) (keepers xs ps ds)).length = xs.length := (cals_mem (List.mem_filter.1 (bestOf_mem (f := costL ps) hl)).1).1
      have h2 := (bothOk_len (areDemands_both h)).1
      simp only
      omega
  · simp
end Go.Proofs.YtgpknnlphabpkaaGreat
