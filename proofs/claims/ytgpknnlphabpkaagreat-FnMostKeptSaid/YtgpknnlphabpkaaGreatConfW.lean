/- Walks: tables of kept demands, contradictions, conflicts. Written by a program (gen_conf.py). -/
import Derived.Test.YtgpknnlphabpkaaGreatKeptX
import Derived.Test.YtgpknnlphabpkaaGreatBestW
import Derived.Test.YtgpknnlphabpkaaGreatLessW
import Derived.Test.YtgpknnlphabpkaaGreatWithW
import Derived.BigQuiet
import Derived.Deep.QuietTactic
namespace Go.Proofs.YtgpknnlphabpkaaGreat
open Go.RowKit
set_option linter.unusedVariables false

def tabs (xs : List Hearing) (ps : List Slot) (ds : List Demand) : List (List Int) := (cals xs ps).map fun c => keptIdx ps c ds ds.length
theorem tabs_len (xs : List Hearing) (ps : List Slot) (ds : List Demand) : (tabs xs ps ds).length = (cals xs ps).length := by simp [tabs]
theorem tabs_row {xs : List Hearing} {ps : List Slot} {ds : List Demand} {l : List Int} (h : l ∈ tabs xs ps ds) : l.length ≤ ds.length := by
  unfold tabs at h
  obtain ⟨c, -, rfl⟩ := List.mem_map.1 h
  exact keptIdx_len _ _ _ _
/-- No list has all of some numbers. -/
def against (L : List (List Int)) (s : List Int) : Bool := !L.any fun l => s.all (hasI l)
def isConf (L : List (List Int)) (s : List Int) : Bool := against L s && s.all fun i => !against L (withoutL s [i])
def someC (xs : List Hearing) (ps : List Slot) (ds : List Demand) (s : List Int) : Int := if areDemands xs ps ds then (if incr 0 ((ds.length : Int) - 1) s then 0 else 2) else 1
def doContradict (xs : List Hearing) (ps : List Slot) (ds : List Demand) (s : List Int) : Bool × Int := if someC xs ps ds s = 0 then (against (tabs xs ps ds) s, 0) else (false, someC xs ps ds s)
def isConflictR (xs : List Hearing) (ps : List Slot) (ds : List Demand) (s : List Int) : Bool × Int := if someC xs ps ds s = 0 then (isConf (tabs xs ps ds) s, 0) else (false, someC xs ps ds s)
theorem someC_bad {xs : List Hearing} {ps : List Slot} {ds : List Demand} {s : List Int} (h : areDemands xs ps ds = false) : someC xs ps ds s = 1 := by unfold someC; rw [h]; rfl
theorem someC_incr {xs : List Hearing} {ps : List Slot} {ds : List Demand} {s : List Int} (h : areDemands xs ps ds = true) (hi : incr 0 ((ds.length : Int) - 1) s = false) : someC xs ps ds s = 2 := by unfold someC; rw [if_pos h, hi]; rfl
theorem someC_ok {xs : List Hearing} {ps : List Slot} {ds : List Demand} {s : List Int} (h : areDemands xs ps ds = true) (hi : incr 0 ((ds.length : Int) - 1) s = true) : someC xs ps ds s = 0 := by unfold someC; rw [if_pos h, if_pos hi]
theorem someC_zero {xs : List Hearing} {ps : List Slot} {ds : List Demand} {s : List Int} (h : someC xs ps ds s = 0) : areDemands xs ps ds = true ∧ incr 0 ((ds.length : Int) - 1) s = true := by
  unfold someC at h
  split at h
  · split at h
    · exact ⟨by assumption, by assumption⟩
    · simp at h
  · simp at h
theorem without_nil {s l : List Int} : (withoutL s l).length = 0 ↔ s.all (hasI l) = true := by
  unfold withoutL
  rw [List.length_eq_zero_iff, List.filter_eq_nil_iff, List.all_eq_true]
  simp [notIn]
theorem withoutL_len (s l : List Int) : (withoutL s l).length ≤ s.length := List.length_filter_le _ _
/-- A list that passes the test rises. -/
theorem incr_ris {n : Nat} {s : List Int} : ∀ {k : Nat}, k ≤ s.length → prefAll (incrP 0 ((n : Int) - 1)) s k = true → ∃ m : Nat, m ≤ n ∧ Ris m 0 (s.take k) ∧ (∀ l, (s.take k).getLast? = some l → l + 1 = (m : Int)) ∧ (k = 0 → m = 0)
  | 0, _, _ => ⟨0, Nat.zero_le _, trivial, fun l h => by simp at h, fun _ => rfl⟩
  | k + 1, hk, h => by
    have hlt : k < s.length := by omega
    have hx : s[k]? = some s[k] := List.getElem?_eq_getElem hlt
    simp only [prefAll, hx, Bool.and_eq_true] at h
    obtain ⟨h1, h2⟩ := h
    obtain ⟨m, hm, hr, hl, h0⟩ := incr_ris (by omega) h1
    unfold incrP at h2
    rw [Bool.and_eq_true, inR_iff] at h2
    obtain ⟨⟨h3, h4⟩, h5⟩ := h2
    obtain ⟨i, hi⟩ := Int.eq_ofNat_of_zero_le h3
    have hin : i < n := by omega
    have hmi : m ≤ i := by
      by_cases hk0 : k = 0
      · have := h0 hk0; omega
      · cases hg : (s.take k).getLast? with
        | none =>
          rw [List.getLast?_eq_none_iff, List.take_eq_nil_iff] at hg
          rcases hg with hg | hg
          · exact absurd hg hk0
          · rw [hg] at hlt; simp at hlt
        | some l =>
          have e := hl l hg
          rw [hg] at h5
          have := of_decide_eq_true h5
          omega
    refine ⟨i + 1, by omega, ?_, fun l h => ?_, fun h => by omega⟩
    · rw [List.take_add_one, hx]
      simp only [Option.toList_some]
      rw [hi]
      exact (hr.up hmi).snoc (Nat.zero_le _)
    · rw [take_last hx] at h
      injection h with h
      omega
theorem incr_ris' {n : Nat} {s : List Int} (h : incr 0 ((n : Int) - 1) s = true) : Ris n 0 s := by
  obtain ⟨m, hm, hr, -, -⟩ := incr_ris (Nat.le_refl _) h
  rw [List.take_length] at hr
  exact hr.up hm
theorem Ris.parts {n : Nat} : ∀ {f : Nat} {t1 : List Int} {x : Int} {t2 : List Int}, Ris n f (t1 ++ x :: t2) → x ∉ t1 ∧ x ∉ t2
  | f, [], x, t2, ⟨i, h0, h1, h2, h3⟩ => by
    refine ⟨by simp, fun hm => ?_⟩
    obtain ⟨j, e, h4, h5⟩ := h3.mem x hm
    omega
  | f, a :: t1, x, t2, ⟨i, h0, h1, h2, h3⟩ => by
    have ih := Ris.parts h3
    refine ⟨fun hm => ?_, ih.2⟩
    rcases List.mem_cons.1 hm with rfl | hm
    · obtain ⟨j, e, h4, h5⟩ := h3.mem x (by simp)
      omega
    · exact ih.1 hm
theorem without_one {n : Nat} {s : List Int} (h : Ris n 0 s) {k : Nat} {x : Int} (hx : s[k]? = some x) : withoutL s [x] = s.take k ++ s.drop (k + 1) := by
  obtain ⟨hk, e⟩ := List.getElem?_eq_some_iff.1 hx
  have hs : s = s.take k ++ x :: s.drop (k + 1) := by
    conv => lhs; rw [← List.take_append_drop k s]
    rw [List.drop_eq_getElem_cons hk, e]
  have hp : x ∉ s.take k ∧ x ∉ s.drop (k + 1) := by
    rw [hs] at h
    have := h.parts
    exact this
  have hf : ∀ t : List Int, x ∉ t → t.filter (notIn [x]) = t := fun t ht => by
    rw [List.filter_eq_self]
    intro y hy
    have : ¬ x = y := fun e => ht (e ▸ hy)
    simp [notIn, hasI, this]
  unfold withoutL
  conv => lhs; rw [hs]
  rw [List.filter_append, List.filter_cons, hf _ hp.1, hf _ hp.2]
  simp [notIn, hasI]
theorem without_shorter {s : List Int} {x : Int} (h : x ∈ s) : (withoutL s [x]).length < s.length := by
  unfold withoutL
  rcases Nat.lt_or_ge (s.filter (notIn [x])).length s.length with h1 | h1
  · exact h1
  · exfalso
    have e := List.length_filter_eq_length_iff.1 (Nat.le_antisymm (List.length_filter_le _ _) h1)
    have := e x h
    simp [notIn, hasI] at this
/-- The smallest conflict, by both searches. -/
def conflictOf (L : List (List Int)) (n : Nat) : Option (List Int) := leastS (against L) n (n + 1) 0
theorem conflict_eq (L : List (List Int)) (n : Nat) : leastTo (isConf L) n (2 ^ n) = conflictOf L n := by
  refine least_eq (fun s _ h => ?_) (fun s hr h hm => ?_)
  · unfold isConf at h
    rw [Bool.and_eq_true] at h
    exact h.1
  · unfold isConf
    rw [h, Bool.true_and, List.all_eq_true]
    intro i hi
    have := hm (withoutL s [i]) (Ris.filter _ hr) (without_shorter hi)
    rw [this]; rfl
def smallest (xs : List Hearing) (ps : List Slot) (ds : List Demand) : List Int × Int :=
  if areDemands xs ps ds then (match conflictOf (tabs xs ps ds) ds.length with | some s => (s, 0) | none => ([], 4)) else ([], 1)
theorem smallest_bad {xs : List Hearing} {ps : List Slot} {ds : List Demand} (h : areDemands xs ps ds = false) : smallest xs ps ds = ([], 1) := by unfold smallest; rw [h]; rfl
theorem smallest_some {xs : List Hearing} {ps : List Slot} {ds : List Demand} {s : List Int} (h : areDemands xs ps ds = true) (hs : conflictOf (tabs xs ps ds) ds.length = some s) : smallest xs ps ds = (s, 0) := by unfold smallest; rw [if_pos h, hs]
theorem smallest_none {xs : List Hearing} {ps : List Slot} {ds : List Demand} (h : areDemands xs ps ds = true) (hs : conflictOf (tabs xs ps ds) ds.length = none) : smallest xs ps ds = ([], 4) := by unfold smallest; rw [if_pos h, hs]
theorem conflictOf_len {L : List (List Int)} {n : Nat} {s : List Int} (h : conflictOf L n = some s) : s.length ≤ n := (leastS_some h).1.len
theorem smallest_len {xs : List Hearing} {ps : List Slot} {ds : List Demand} (hm : ds.length ≤ 1048576) : (smallest xs ps ds).1.length ≤ 1048576 := by
  unfold smallest
  split
  · split
    · next s hs => exact Nat.le_trans (conflictOf_len hs) hm
    · simp
  · simp

/-- The best list of a table: longest, then first. -/
def upd (m l : List Int) : List Int := if better l m then l else m
def mkTo (L : List (List Int)) (a : List Int) (k : Nat) : List Int := (L.take k).foldl upd a
theorem mkTo_yes {L : List (List Int)} {a l : List Int} {k : Nat} (h : L[k]? = some l) (hb : better l (mkTo L a k) = true) : mkTo L a (k + 1) = l := by
  unfold mkTo at *
  rw [List.take_add_one, h, List.foldl_append]
  simp [upd, hb]
theorem mkTo_no {L : List (List Int)} {a l : List Int} {k : Nat} (h : L[k]? = some l) (hb : better l (mkTo L a k) = false) : mkTo L a (k + 1) = mkTo L a k := by
  unfold mkTo at *
  rw [List.take_add_one, h, List.foldl_append]
  simp [upd, hb]
theorem mkTo_mem {L : List (List Int)} {a : List Int} (ha : a ∈ L) : ∀ k, mkTo L a k ∈ L := by
  intro k
  have : ∀ (M : List (List Int)) (b : List Int), b ∈ L → (∀ c ∈ M, c ∈ L) → M.foldl upd b ∈ L := by
    intro M
    induction M with
    | nil => intro b hb _; exact hb
    | cons c M ih =>
      intro b hb hM
      rw [List.foldl_cons]
      refine ih _ ?_ (fun d hd => hM d (List.mem_cons_of_mem _ hd))
      unfold upd
      split
      · exact hM c List.mem_cons_self
      · exact hb
  exact this _ a ha (fun c hc => List.mem_of_mem_take hc)
def mkOf (L : List (List Int)) : List Int := match L with
  | [] => []
  | a :: M => mkTo (a :: M) a (a :: M).length
theorem mkOf_at {L : List (List Int)} {a : List Int} (h : L[0]? = some a) : mkOf L = mkTo L a L.length := by
  cases L with
  | nil => simp at h
  | cons b M => simp at h; subst h; rfl
theorem mkOf_mem {L : List (List Int)} (h : ¬ L.length = 0) : mkOf L ∈ L := by
  cases L with
  | nil => simp at h
  | cons a M => exact mkTo_mem List.mem_cons_self _
def mostKept (xs : List Hearing) (ps : List Slot) (ds : List Demand) : List Int × Int :=
  if areDemands xs ps ds then (if (tabs xs ps ds).length = 0 then ([], 4) else (mkOf (tabs xs ps ds), 0)) else ([], 1)
theorem mostKept_bad {xs : List Hearing} {ps : List Slot} {ds : List Demand} (h : areDemands xs ps ds = false) : mostKept xs ps ds = ([], 1) := by unfold mostKept; rw [h]; rfl
theorem mostKept_none {xs : List Hearing} {ps : List Slot} {ds : List Demand} (h : areDemands xs ps ds = true) (hl : (tabs xs ps ds).length = 0) : mostKept xs ps ds = ([], 4) := by unfold mostKept; rw [if_pos h, if_pos hl]
theorem mostKept_some {xs : List Hearing} {ps : List Slot} {ds : List Demand} (h : areDemands xs ps ds = true) (hl : ¬ (tabs xs ps ds).length = 0) : mostKept xs ps ds = (mkOf (tabs xs ps ds), 0) := by unfold mostKept; rw [if_pos h, if_neg hl]
theorem mostKept_len {xs : List Hearing} {ps : List Slot} {ds : List Demand} (hm : ds.length ≤ 1048576) : (mostKept xs ps ds).1.length ≤ 1048576 := by
  unfold mostKept
  split
  · split
    · simp
    · next hl => exact Nat.le_trans (tabs_row (mkOf_mem hl)) hm
  · simp

/-- The numbers that all lists have. -/
def inAll (L : List (List Int)) (x : Int) : Bool := L.all fun l => hasI l x
def freeTo (L : List (List Int)) (k : Nat) : List Int := ((List.range k).map fun (i : Nat) => (i : Int)).filter (inAll L)
theorem freeTo_yes {L : List (List Int)} {k : Nat} (h : inAll L (k : Int) = true) : freeTo L (k + 1) = freeTo L k ++ [(k : Int)] := by
  unfold freeTo
  rw [List.range_succ, List.map_append, List.filter_append]
  simp [h]
theorem freeTo_no {L : List (List Int)} {k : Nat} (h : inAll L (k : Int) = false) : freeTo L (k + 1) = freeTo L k := by
  unfold freeTo
  rw [List.range_succ, List.map_append, List.filter_append]
  simp [h]
theorem freeTo_len (L : List (List Int)) (k : Nat) : (freeTo L k).length ≤ k := by
  unfold freeTo
  exact Nat.le_trans (List.length_filter_le _ _) (by simp)
theorem without_twice (f l : List Int) : withoutL f (withoutL f l) = f.filter (hasI l) := by
  unfold withoutL
  apply List.filter_congr
  intro x hx
  cases hl : hasI l x with
  | true =>
    have : ¬ hasI (f.filter (notIn l)) x = true := fun h => by
      have := (List.mem_filter.1 (hasI_iff.1 h)).2
      unfold notIn at this
      rw [hl] at this
      cases this
    show (!hasI (f.filter (notIn l)) x) = true
    simpa using this
  | false =>
    have : hasI (f.filter (notIn l)) x = true := hasI_iff.2 (List.mem_filter.2 ⟨hx, by unfold notIn; rw [hl]; rfl⟩)
    show (!hasI (f.filter (notIn l)) x) = false
    rw [this]; rfl
/-- The numbers of the first list that the first k lists have. -/
def freeI (L : List (List Int)) (a : List Int) (k : Nat) : List Int := a.filter (inAll (L.take k))
theorem freeI_succ {L : List (List Int)} {a l : List Int} {k : Nat} (h : L[k]? = some l) : freeI L a (k + 1) = (freeI L a k).filter (hasI l) := by
  unfold freeI
  rw [List.filter_filter, List.take_add_one, h]
  congr 1
  funext x
  simp [inAll, List.all_append, Bool.and_comm]
theorem freeI_zero (L : List (List Int)) (a : List Int) : freeI L a 0 = a := by
  unfold freeI
  rw [List.filter_eq_self]
  intro x _
  rfl
theorem free_eq {ps : List Slot} {c : List Int} {ds : List Demand} {L : List (List Int)} (h : L[0]? = some (keptIdx ps c ds ds.length)) : freeI L (keptIdx ps c ds ds.length) L.length = freeTo L ds.length := by
  unfold freeI freeTo
  rw [List.take_length]
  have hq : ∀ x, inAll L x = true → x ∈ keptIdx ps c ds ds.length := fun x hx => by
    unfold inAll at hx
    exact hasI_iff.1 (List.all_eq_true.1 hx _ (List.mem_of_getElem? h))
  unfold keptIdx at hq ⊢
  rw [List.filter_map, List.filter_map, List.filter_filter]
  congr 1
  apply List.filter_congr
  intro i hi
  cases hx : (inAll L ∘ fun (i : Nat) => (i : Int)) i with
  | false => simp
  | true =>
    have := hq (i : Int) hx
    rw [List.mem_map] at this
    obtain ⟨j, hj, e⟩ := this
    have hij : j = i := by omega
    subst hij
    rw [List.mem_filter] at hj
    simp [hj.2]
def freeOf (xs : List Hearing) (ps : List Slot) (ds : List Demand) : List Int × Int :=
  if areDemands xs ps ds then (if (tabs xs ps ds).length = 0 then ([], 4) else (freeTo (tabs xs ps ds) ds.length, 0)) else ([], 1)
theorem freeOf_bad {xs : List Hearing} {ps : List Slot} {ds : List Demand} (h : areDemands xs ps ds = false) : freeOf xs ps ds = ([], 1) := by unfold freeOf; rw [h]; rfl
theorem freeOf_none {xs : List Hearing} {ps : List Slot} {ds : List Demand} (h : areDemands xs ps ds = true) (hl : (tabs xs ps ds).length = 0) : freeOf xs ps ds = ([], 4) := by unfold freeOf; rw [if_pos h, if_pos hl]
theorem freeOf_some {xs : List Hearing} {ps : List Slot} {ds : List Demand} (h : areDemands xs ps ds = true) (hl : ¬ (tabs xs ps ds).length = 0) : freeOf xs ps ds = (freeTo (tabs xs ps ds) ds.length, 0) := by unfold freeOf; rw [if_pos h, if_neg hl]
theorem freeOf_len {xs : List Hearing} {ps : List Slot} {ds : List Demand} (hm : ds.length ≤ 1048576) : (freeOf xs ps ds).1.length ≤ 1048576 := by
  unfold freeOf
  split
  · split
    · simp
    · exact Nat.le_trans (freeTo_len _ _) hm
  · simp

/-- The calendars that keep all demands. -/
def keepsAll (ps : List Slot) (ds : List Demand) (c : List Int) : Bool := decide ((keptIdx ps c ds ds.length).length = ds.length)
def keepers (xs : List Hearing) (ps : List Slot) (ds : List Demand) : List (List Int) := (cals xs ps).filter (keepsAll ps ds)
def keepTo (q : List Int → Bool) (L : List (List Int)) (k : Nat) : List (List Int) := (L.take k).filter q
theorem keepTo_yes {q : List Int → Bool} {L : List (List Int)} {k : Nat} {c : List Int} (h : L[k]? = some c) (hq : q c = true) : keepTo q L (k + 1) = keepTo q L k ++ [c] := by
  unfold keepTo
  rw [List.take_add_one, h, List.filter_append]
  simp [hq]
theorem keepTo_no {q : List Int → Bool} {L : List (List Int)} {k : Nat} {c : List Int} (h : L[k]? = some c) (hq : q c = false) : keepTo q L (k + 1) = keepTo q L k := by
  unfold keepTo
  rw [List.take_add_one, h, List.filter_append]
  simp [hq]
theorem keepTo_len (q : List Int → Bool) (L : List (List Int)) (k : Nat) : (keepTo q L k).length ≤ L.length := Nat.le_trans (List.length_filter_le _ _) (List.length_take_le' _ _)
theorem keepTo_mem {q : List Int → Bool} {L : List (List Int)} {k : Nat} {c : List Int} (h : c ∈ keepTo q L k) : c ∈ L := List.mem_of_mem_take (List.mem_filter.1 h).1
theorem bestOf_snoc {f : List Int → Int} {M : List (List Int)} {c : List Int} : bestOf f (M ++ [c]) = if M.length = 0 then c else pick f (bestOf f M) c := by
  cases M with
  | nil => simp [bestOf, bestTo, pick]
  | cons a M =>
    rw [if_neg (by simp)]
    show bestTo f (a :: M ++ [c]) a _ = pick f (bestTo f (a :: M) a _) c
    unfold bestTo
    have e1 : List.take (a :: (M ++ [c])).length (a :: (M ++ [c])) = a :: (M ++ [c]) := List.take_length
    have e2 : List.take (a :: M).length (a :: M) = a :: M := List.take_length
    rw [e2]
    show List.foldl (pick f) a (List.take (a :: (M ++ [c])).length (a :: (M ++ [c]))) = _
    rw [e1]
    show List.foldl (pick f) a ((a :: M) ++ [c]) = _
    rw [List.foldl_append]
    rfl
def bestKeep (xs : List Hearing) (ps : List Slot) (ds : List Demand) : List Int × Int :=
  if areDemands xs ps ds then (if (keepers xs ps ds).length = 0 then ([], 4) else (bestOf (costL ps) (keepers xs ps ds), 0)) else ([], 1)
theorem bestKeep_bad {xs : List Hearing} {ps : List Slot} {ds : List Demand} (h : areDemands xs ps ds = false) : bestKeep xs ps ds = ([], 1) := by unfold bestKeep; rw [h]; rfl
theorem bestKeep_none {xs : List Hearing} {ps : List Slot} {ds : List Demand} (h : areDemands xs ps ds = true) (hl : (keepers xs ps ds).length = 0) : bestKeep xs ps ds = ([], 4) := by unfold bestKeep; rw [if_pos h, if_pos hl]
theorem bestKeep_some {xs : List Hearing} {ps : List Slot} {ds : List Demand} (h : areDemands xs ps ds = true) (hl : ¬ (keepers xs ps ds).length = 0) : bestKeep xs ps ds = (bestOf (costL ps) (keepers xs ps ds), 0) := by unfold bestKeep; rw [if_pos h, if_neg hl]
theorem bestKeep_len {xs : List Hearing} {ps : List Slot} {ds : List Demand} : (bestKeep xs ps ds).1.length ≤ 1048576 := by
  unfold bestKeep
  split
  · next h =>
    split
    · simp
    · next hl =>
      have h1 : (bestOf (costL ps) (keepers xs ps ds)).length = xs.length := (cals_mem (List.mem_filter.1 (bestOf_mem (f := costL ps) hl)).1).1
      have h2 := (bothOk_len (areDemands_both h)).1
      simp only
      omega
  · simp

theorem RdF.dropC {w : World} {lo hi b off n c k : Nat} {xs : List Int} (h : RdF encInt 1 w lo hi (.slice (some ⟨b, off, none⟩) n c) xs) (hk : k ≤ xs.length) : RdF encInt 1 w lo hi (.slice (some ⟨b, off + k, none⟩) (n - k) (c - k)) (xs.drop k) := by
  by_cases hl : k < xs.length
  · simpa using h.suf hk hl
  · obtain ⟨A, c', hv, hc, -⟩ := h
    injection hv with e1 e2 e3
    have e : xs.drop k = [] := List.drop_eq_nil_of_le (by omega)
    rw [e]
    exact ⟨some ⟨b, off + k, none⟩, c - k, by rw [show n - k = 0 by omega]; rfl, Nat.zero_le _, fun h => by simp at h⟩
theorem RdF.zeroLen {w : World} {lo hi : Nat} {A : Option Addr} {c n : Nat} (h : n = 0) : RdF encInt 1 w lo hi (.slice A n c) [] := ⟨A, c, by rw [h]; rfl, Nat.zero_le _, fun h => by simp at h⟩

set_option maxRecDepth 100000 in
set_option maxHeartbeats 4000000 in
theorem keptLists_any (v : Value) (xs : List Hearing) (lo hi : Nat) (v2 : Value) (ps : List Slot) (lo2 hi2 : Nat) (v3 : Value) (ds : List Demand) (lo3 hi3 : Nat) (w : World) (h : RdHearing w lo hi v xs) (hh : hi ≤ w.heap.size) (hm : xs.length ≤ 1048576) (hms : ∀ x ∈ xs, Hearing.small x) (h2 : RdF Slot.enc 3 w lo2 hi2 v2 ps) (hh2 : hi2 ≤ w.heap.size) (hm2 : ps.length ≤ 1048576) (h3 : RdF Demand.enc 3 w lo3 hi3 v3 ds) (hh3 : hi3 ≤ w.heap.size) (hm3 : ds.length ≤ 1048576) (hd : areDemands xs ps ds = true) :
    Calls Tryz.prog 52 #[v, v2, v3] w fun e w' => RetV (fun v' w' => OwnII w' w.heap.size w.heap.size v' (tabs xs ps ds)) w e w' := by
  obtain ⟨A2, c2, rfl, hcap2⟩ := h2.form
  obtain ⟨A3, c3, rfl, hcap3⟩ := h3.form
  have hbo := areDemands_both hd
  have hcl := bothOk_len hbo
  have HSL := Lib.hid (slotsOk_all (bothOk_sx hbo))
  have HBX := Lib.hid (hearingsOk_all (bothOk_hx hbo))
  have HDP := Lib.hid (areDemands_parts hd)
  have hdl := areDemands_len hd
  have hcl1 := hcl.1
  have hcl2 := hcl.2
  have HMS := Lib.hid hms
  have HTB := Lib.hid (show tabs xs ps ds = (cals xs ps).map fun c => keptIdx ps c ds ds.length from rfl)
  clear hbo hd hcl hms

  have hb : Below w.heap.size w (w.alloc (.cells #[] 29)) := (Below.refl _ _).alloc (Nat.le_refl _) _
  have hz := hb.size
  have HO0 : OwnII (w.alloc (.cells #[] 29)) w.heap.size w.heap.size (.slice (some ⟨w.heap.size, 0, none⟩) 0 0) [] := OwnII.emptyAt rfl (Nat.le_refl _)
  go_enter Tryz.func52, Tryz.ntmps52
  go_wp2_with fail
  refine (calendars_any _ xs lo hi _ ps lo2 hi2 _ (h.below hb hh) (by omega) (h2.below hb hh2) (by omega) hcl1 HMS.out HBX.out hcl2 HSL.out).mono ?_
  rintro e w2 ⟨y2, rfl, ho, b2⟩
  have z2 := b2.size
  have hown0 := HO0.below b2
  have hrd := ho.rd (Nat.le_refl _)
  have hbk := Below.step b2 hz hb
  have zk := hbk.size
  clear HO0
  obtain ⟨AL, cL, rfl, hcL⟩ := ho.form
  have hnl := cals_le (xs := xs) (ps := ps) hcl2 hcl1
  have HC := Lib.hid (fun c (hcm : c ∈ cals xs ps) => cals_mem hcm)
  clear ho b2
  generalize cals xs ps = L at *
  go_wp2_with fail
  go_loopw [7, 9, 15] (fun u _ j wr => ∃ k : Nat, k ≤ L.length ∧ j = .int .i64 k ∧ OwnII wr w.heap.size w.heap.size u ((L.take k).map fun c => keptIdx ps c ds ds.length) ∧ Chg w.heap.size (w.heap.size + 1) w2 wr ∧ Hid (∀ g, u.ownBlock = some g → g = w.heap.size ∨ w2.heap.size ≤ g)) (fun _ _ j _ => L.length - (intOf j).toNat)
  case atStart => exact ⟨0, Nat.zero_le _, rfl, hown0, Chg.refl _ _ _, fun g hg => (by simp only [Value.ownBlock, Option.some.injEq] at hg; exact .inl hg.symm)⟩
  case round =>
    obtain ⟨k, hk, rfl, hown, hbel, HOB⟩ := hrel
    have z0 := hbel.size
    have hbw2 : Below w.heap.size w wr := hbk.trans (hbel.below (Nat.le_refl _) zk)
    by_cases hlt : k < L.length
    · have hki : (k : Int) < (L.length : Int) := by omega
      obtain ⟨c, ac, cc, b, off, HS, rfl, hbw, x1, hrc⟩ := RdII.at (hrd.chg hbel (Nat.le_refl _) (.inr (by simp))) (Below.refl wr.heap.size wr) z0 hlt
      have HCC := Lib.hid (HC.out c (List.mem_of_getElem? HS.out))
      have hcl5 : c.length ≤ 5 := by have := HCC.out.1; omega
      have hb0 := hbw2
      go_wp2_with fail
      refine (keptByL_any _ ps lo2 hi2 _ ds lo3 hi3 _ c _ _ _ (h2.below hb0 (by omega)) (by omega) (by omega) (h3.below hb0 (by omega)) (by omega) (by omega) hrc.rd (by omega) (by omega) HCC.out.2 (by rw [HCC.out.1]; exact HDP.out)).mono ?_
      rintro e w5 ⟨v5, rfl, ho5, b5⟩
      have z5 := b5.size
      have hrw5 := ho5.rdw (fun _ => rfl)
      obtain ⟨A5, c5, rfl, hc5⟩ := RdF.form hrw5.rd
      replace hown := hown.below b5
      have hc5 : Chg w.heap.size (w.heap.size + 1) w2 w5 := hbel.trans (Chg.of_below b5)
      obtain ⟨rs, ers, lrs, ors, hrs⟩ := hown.parts
      have lrs2 : rs.length ≤ 100000 := by rw [lrs, List.length_map, List.length_take]; omega
      have hqs : RowsW w5 w.heap.size w5.heap.size [⟨keptIdx ps c ds ds.length, A5, c5⟩] := fun r hr => by
        simp at hr
        subst hr
        exact hrw5.wide (by omega) (Nat.le_refl _)
      have HE := Lib.hid (show (L.take (k + 1)).map (fun c => keptIdx ps c ds ds.length) = rs.map RowI.xs ++ [(⟨keptIdx ps c ds ds.length, A5, c5⟩ : RowI)].map RowI.xs by rw [List.take_add_one, HS.out, List.map_append, ers]; rfl)
      clear lrs ers hown ho5 b5
      go_wp2_with (at_builtin; refine wpList_push2 (enc := RowI.enc) _ _ (by first | rfl | simp) rfl (.tmp 19) (.tmp 24) 62 rfl w.heap.size 29 _ (.slice none 0 0) 1 24 Tryz.underlying62 (by kernel_rfl) rfl (by omega) _ rs ⟨keptIdx ps c ds ds.length, A5, c5⟩ _ rfl rfl (RowI.one _) rfl rfl ors (by omega) (by omega) (by (first | omega | (simp; omega) | (simp; done))) ?_; intro v9 w9 hown9 hg9 hk9)
      go_roundw
      case rel => exact ⟨k + 1, by omega, by go_num, (by rw [HE.out]; exact OwnII.join ors hg9 hrs hqs hown9), hc5.grown hg9 (fun g hg => by rcases HOB.out g hg with h | h <;> omega), fun g hg => by rcases hk9 with h | h <;> rw [h] at hg; exact HOB.out g hg; injection hg with hg; right; omega⟩
      case measure => simp [intOf]; omega
    · have hkn : k = L.length := by omega
      rw [hkn, List.take_length] at hown
      clear hkn
      go_wp2_with fail
      go_ret
      exact ⟨_, rfl, by rw [HTB.out]; exact hown.mono (Nat.le_refl _) (Nat.le_refl _), hbw2⟩
set_option maxRecDepth 100000 in
set_option maxHeartbeats 4000000 in
theorem l22Tables_any (v : Value) (xs : List Hearing) (lo hi : Nat) (v2 : Value) (ps : List Slot) (lo2 hi2 : Nat) (v3 : Value) (ds : List Demand) (lo3 hi3 : Nat) (w : World) (h : RdHearing w lo hi v xs) (hh : hi ≤ w.heap.size) (hm : xs.length ≤ 1048576) (hms : ∀ x ∈ xs, Hearing.small x) (h2 : RdF Slot.enc 3 w lo2 hi2 v2 ps) (hh2 : hi2 ≤ w.heap.size) (hm2 : ps.length ≤ 1048576) (h3 : RdF Demand.enc 3 w lo3 hi3 v3 ds) (hh3 : hi3 ≤ w.heap.size) (hm3 : ds.length ≤ 1048576) (hd : areDemands xs ps ds = true) :
    Calls Tryz.prog 54 #[v, v2, v3] w fun e w' => RetV (fun v' w' => OwnII w' w.heap.size w.heap.size v' (tabs xs ps ds)) w e w' := by
  obtain ⟨A2, c2, rfl, hcap2⟩ := h2.form
  obtain ⟨A3, c3, rfl, hcap3⟩ := h3.form
  have hbo := areDemands_both hd
  have hcl := bothOk_len hbo
  have HSL := Lib.hid (slotsOk_all (bothOk_sx hbo))
  have HBX := Lib.hid (hearingsOk_all (bothOk_hx hbo))
  have HDP := Lib.hid (areDemands_parts hd)
  have hdl := areDemands_len hd
  have hcl1 := hcl.1
  have hcl2 := hcl.2
  have HMS := Lib.hid hms
  have HTB := Lib.hid (show tabs xs ps ds = (cals xs ps).map fun c => keptIdx ps c ds ds.length from rfl)
  clear hbo hd hcl hms

  go_enter Tryz.func54, Tryz.ntmps54
  go_wp2_with fail
  refine (l21All_top _ xs lo hi _ ps lo2 hi2 _ h hh h2 hh2 hcl1 HMS.out HBX.out hcl2 HSL.out).mono ?_
  rintro e w2 ⟨y2, rfl, ho, hbk⟩
  have zk := hbk.size
  have hrd := ho.rd (Nat.le_refl _)
  have b2 := Below.refl w2.heap.size w2
  obtain ⟨AL, cL, rfl, hcL⟩ := ho.form
  have hnl := cals_le (xs := xs) (ps := ps) hcl2 hcl1
  have HC := Lib.hid (fun c (hcm : c ∈ cals xs ps) => cals_mem hcm)
  clear ho b2
  generalize cals xs ps = L at *
  go_wp2_with fail
  go_loopw [8, 9] (fun u j wr => ∃ k : Nat, k ≤ L.length ∧ j = .int .i64 k ∧ OwnII wr w.heap.size w2.heap.size u ((L.take k).map fun c => keptIdx ps c ds ds.length) ∧ Below w2.heap.size w2 wr) (fun _ j _ => L.length - (intOf j).toNat)
  case atStart => exact ⟨0, Nat.zero_le _, rfl, OwnII.emptyAt rfl (Nat.le_refl _), (Below.refl _ _).alloc (Nat.le_refl _) _⟩
  case round =>
    obtain ⟨k, hk, rfl, hown, hbel⟩ := hrel
    have z0 := hbel.size
    have hbw2 : Below w.heap.size w wr := Below.step hbel zk hbk
    by_cases hlt : k < L.length
    · have hki : (k : Int) < (L.length : Int) := by omega
      obtain ⟨c, ac, cc, b, off, HS, rfl, hbw, x1, hrc⟩ := RdII.at hrd hbel (Nat.le_refl _) hlt
      have HCC := Lib.hid (HC.out c (List.mem_of_getElem? HS.out))
      have hcl5 : c.length ≤ 5 := by have := HCC.out.1; omega
      have hb0 := hbw2
      go_wp2_with fail
      refine (l22Kept_any _ ps lo2 hi2 _ ds lo3 hi3 _ c _ _ _ (h2.below hb0 (by omega)) (by omega) (by omega) (h3.below hb0 (by omega)) (by omega) (by omega) hrc.rd (by omega) (by omega) HCC.out.2 (by rw [HCC.out.1]; exact HDP.out)).mono ?_
      rintro e w5 ⟨v5, rfl, ho5, b5⟩
      have z5 := b5.size
      have hrw5 := ho5.rdw (fun _ => rfl)
      obtain ⟨A5, c5, rfl, hc5⟩ := RdF.form hrw5.rd
      replace hown := hown.below b5
      replace hbel := Below.step b5 z0 hbel
      obtain ⟨rs, ers, lrs, ors, hrs⟩ := hown.parts
      have lrs2 : rs.length ≤ 100000 := by rw [lrs, List.length_map, List.length_take]; omega
      have hqs : RowsW w5 w.heap.size w5.heap.size [⟨keptIdx ps c ds ds.length, A5, c5⟩] := fun r hr => by
        simp at hr
        subst hr
        exact hrw5.wide (by omega) (Nat.le_refl _)
      have HE := Lib.hid (show (L.take (k + 1)).map (fun c => keptIdx ps c ds ds.length) = rs.map RowI.xs ++ [(⟨keptIdx ps c ds ds.length, A5, c5⟩ : RowI)].map RowI.xs by rw [List.take_add_one, HS.out, List.map_append, ers]; rfl)
      clear lrs ers hown ho5 b5
      go_wp2_with (at_builtin; refine wpList_push (enc := RowI.enc) _ _ (by first | rfl | simp) rfl (.tmp 21) (.tmp 29) 62 rfl w2.heap.size 29 _ (.slice none 0 0) 1 24 Tryz.underlying62 (by kernel_rfl) rfl (by omega) _ rs ⟨keptIdx ps c ds ds.length, A5, c5⟩ _ rfl rfl (RowI.one _) rfl rfl ors (by omega) (by omega) (by (first | omega | (simp; omega) | (simp; done))) ?_; intro v9 w9 hown9 hg9 hk9)
      go_roundw
      case rel => exact ⟨k + 1, by omega, by go_num, (by rw [HE.out]; exact OwnII.join ors hg9 hrs hqs hown9), hk9 _ _ (Nat.le_refl _) hbel⟩
      case measure => simp [intOf]; omega
    · have hkn : k = L.length := by omega
      rw [hkn, List.take_length] at hown
      clear hkn
      go_wp2_with fail
      go_ret
      exact ⟨_, rfl, by rw [HTB.out]; exact hown.mono (Nat.le_refl _) zk, hbw2⟩
set_option maxRecDepth 100000 in
set_option maxHeartbeats 4000000 in
theorem l22Within_any (v : Value) (s : List Int) (lo hi : Nat) (v2 : Value) (l : List Int) (lo2 hi2 : Nat) (w : World) (h : RdF encInt 1 w lo hi v s) (hh : hi ≤ w.heap.size) (hm : s.length ≤ 1048576) (h2 : RdF encInt 1 w lo2 hi2 v2 l) (hh2 : hi2 ≤ w.heap.size) (hm2 : l.length ≤ 1048576) :
    Calls Tryz.prog 107 #[v, v2] w fun e w' => e = .returned (.bool (s.all (hasI l))) ∧ w = w' := by
  obtain ⟨A, c, rfl, hcap⟩ := h.form
  obtain ⟨A2, c2, rfl, hcap2⟩ := h2.form
  go_enter Tryz.func107, Tryz.ntmps107
  go_wp2_with fail
  go_loop [5] (fun j => ∃ k : Nat, k ≤ s.length ∧ j = .int .i64 k ∧ Hid ((s.take k).all (hasI l) = true)) (fun j => s.length - (intOf j).toNat)
  case atStart => exact ⟨0, Nat.zero_le _, rfl, rfl⟩
  case round =>
    obtain ⟨k, hk, rfl, HA⟩ := hrel
    by_cases hlt : k < s.length
    · have hki : (k : Int) < (s.length : Int) := by omega
      obtain ⟨x, b, off, HS, rfl, hbw, c0⟩ := RdF.int h (Below.refl w.heap.size w) (by omega) hlt
      go_wp2_with (go_at_call 57; refine (l01Has_any _ l _ _ x _ h2 hh2 hm2).mono ?_; rintro e w' ⟨rfl, rfl⟩)
      · have hf : (!hasI l x) = true := by assumption
        go_ret
        exact ⟨ret_bool (by rw [all_false_of HS.out (by simpa using hf)]), rfl⟩
      · have hf : (!hasI l x) = false := by assumption
        go_round
        case rel => exact ⟨k + 1, by omega, by go_num, Lib.hid (take_all_succ HA.out HS.out (by simpa using hf))⟩
        case measure => simp [intOf]; omega
    · have HF := Lib.hid (all_of_take HA.out hlt)
      go_wp2_with fail
      go_ret
      exact ⟨ret_bool HF.out.symm, rfl⟩
set_option maxRecDepth 100000 in
set_option maxHeartbeats 4000000 in
theorem contradict_any (v : Value) (L : List (List Int)) (lo hi : Nat) (v2 : Value) (s : List Int) (lo2 hi2 : Nat) (w : World) (h : RdII w lo hi v L) (hh : hi ≤ w.heap.size) (hl : L.length ≤ 1048576) (hr : ∀ l ∈ L, l.length ≤ 1048576) (h2 : RdF encInt 1 w lo2 hi2 v2 s) (hh2 : hi2 ≤ w.heap.size) (hm2 : s.length ≤ 1048576) :
    Calls Tryz.prog 64 #[v, v2] w fun e w' => e = .returned (.bool (against L s)) ∧ Below w.heap.size w w' := by
  obtain ⟨A, c, rfl, hcap⟩ := h.form
  obtain ⟨A2, c2, rfl, hcap2⟩ := h2.form
  have HR := Lib.hid hr; clear hr
  go_enter Tryz.func64, Tryz.ntmps64
  go_wp2_with fail
  go_loopw [6, 9] (fun _ j wr => ∃ k : Nat, k ≤ L.length ∧ j = .int .i64 k ∧ Hid (((L.take k).any fun l => s.all (hasI l)) = false) ∧ Below w.heap.size w wr) (fun _ j _ => L.length - (intOf j).toNat)
  case atStart => exact ⟨0, Nat.zero_le _, rfl, rfl, Below.refl _ _⟩
  case round =>
    obtain ⟨k, hk, rfl, HA, hbel⟩ := hrel
    have z0 := hbel.size
    by_cases hlt : k < L.length
    · have hki : (k : Int) < (L.length : Int) := by omega
      obtain ⟨l, al, cl, b, off, HS, rfl, hbw, x1, hrl⟩ := RdII.at h hbel (by omega) hlt
      have HL := Lib.hid (HR.out l (List.mem_of_getElem? HS.out))
      have hll := HL.out

      go_wp2_with fail
      refine (without_any _ s lo2 hi2 _ l _ _ _ (h2.below hbel hh2) (by omega) hm2 hrl.rd (by omega) hll).mono ?_
      rintro e w5 ⟨v5, rfl, hw5, b5⟩
      have z5 := b5.size
      obtain ⟨A5, c5, rfl, hc5⟩ := RdF.form hw5.rd
      replace hbel := Below.step b5 z0 hbel
      have HWN := Lib.hid (without_nil (s := s) (l := l))
      clear b5
      generalize withoutL s l = t at *
      by_cases hz : t.length = 0
      · have HF := Lib.hid (show against L s = false by unfold against; rw [any_true_of (p := fun l => s.all (hasI l)) HS.out (HWN.out.1 hz)]; rfl)
        have hzi : ((t.length : Int) == 0) = true := by rw [beq_iff_eq]; omega
        clear hz
        go_wp2_with fail
        go_ret
        exact ⟨ret_bool HF.out.symm, hbel⟩
      · have HN := Lib.hid (any_take_succ (p := fun l => s.all (hasI l)) HA.out HS.out (by
          cases hq : s.all (hasI l) with
          | false => rfl
          | true => exact absurd (HWN.out.2 hq) hz))
        have hzi : ((t.length : Int) == 0) = false := by rw [beq_eq_false_iff_ne]; omega
        go_wp2_with fail
        go_roundw
        case rel => exact ⟨k + 1, by omega, by go_num, HN, hbel⟩
        case measure => simp [intOf]; omega
    · have HF := Lib.hid (show against L s = true by unfold against; rw [any_of_take HA.out hlt]; rfl)
      go_wp2_with fail
      go_ret
      exact ⟨ret_bool HF.out.symm, hbel⟩
set_option maxRecDepth 100000 in
set_option maxHeartbeats 4000000 in
theorem l22Against_any (v : Value) (L : List (List Int)) (lo hi : Nat) (v2 : Value) (s : List Int) (lo2 hi2 : Nat) (w : World) (h : RdII w lo hi v L) (hh : hi ≤ w.heap.size) (hl : L.length ≤ 1048576) (hr : ∀ l ∈ L, l.length ≤ 1048576) (h2 : RdF encInt 1 w lo2 hi2 v2 s) (hh2 : hi2 ≤ w.heap.size) (hm2 : s.length ≤ 1048576) :
    Calls Tryz.prog 84 #[v, v2] w fun e w' => e = .returned (.bool (against L s)) ∧ Below w.heap.size w w' := by
  obtain ⟨A, c, rfl, hcap⟩ := h.form
  obtain ⟨A2, c2, rfl, hcap2⟩ := h2.form
  have HR := Lib.hid hr; clear hr
  go_enter Tryz.func84, Tryz.ntmps84
  go_wp2_with fail
  go_loopw [5] (fun j wr => ∃ k : Nat, k ≤ L.length ∧ j = .int .i64 k ∧ Hid (((L.take k).any fun l => s.all (hasI l)) = false) ∧ Below w.heap.size w wr) (fun j _ => L.length - (intOf j).toNat)
  case atStart => exact ⟨0, Nat.zero_le _, rfl, rfl, Below.refl _ _⟩
  case round =>
    obtain ⟨k, hk, rfl, HA, hbel⟩ := hrel
    have z0 := hbel.size
    by_cases hlt : k < L.length
    · have hki : (k : Int) < (L.length : Int) := by omega
      obtain ⟨l, al, cl, b, off, HS, rfl, hbw, x1, hrl⟩ := RdII.at h hbel (by omega) hlt
      have HL := Lib.hid (HR.out l (List.mem_of_getElem? HS.out))
      have hll := HL.out

      cases hq : s.all (hasI l) with
      | true =>
        have HF := Lib.hid (show against L s = false by unfold against; rw [any_true_of (p := fun l => s.all (hasI l)) HS.out hq]; rfl)
        go_wp2_with (go_at_call 107; refine (l22Within_any _ s lo2 hi2 _ l _ _ _ (h2.below hbel hh2) (by omega) hm2 hrl.rd (by omega) hll).mono ?_; rintro e w' ⟨rfl, rfl⟩; rw [hq])
        go_ret
        exact ⟨ret_bool HF.out.symm, hbel⟩
      | false =>
        have HN := Lib.hid (any_take_succ (p := fun l => s.all (hasI l)) HA.out HS.out hq)
        go_wp2_with (go_at_call 107; refine (l22Within_any _ s lo2 hi2 _ l _ _ _ (h2.below hbel hh2) (by omega) hm2 hrl.rd (by omega) hll).mono ?_; rintro e w' ⟨rfl, rfl⟩; rw [hq])
        go_roundw
        case rel => exact ⟨k + 1, by omega, by go_num, HN, hbel⟩
        case measure => simp [intOf]; omega
    · have HF := Lib.hid (show against L s = true by unfold against; rw [any_of_take HA.out hlt]; rfl)
      go_wp2_with fail
      go_ret
      exact ⟨ret_bool HF.out.symm, hbel⟩
set_option maxRecDepth 100000 in
set_option maxHeartbeats 4000000 in
theorem isConflict_any (v : Value) (L : List (List Int)) (lo hi : Nat) (v2 : Value) (s : List Int) (lo2 hi2 : Nat) (w : World) (h : RdII w lo hi v L) (hh : hi ≤ w.heap.size) (hl : L.length ≤ 1048576) (hr : ∀ l ∈ L, l.length ≤ 1048576) (h2 : RdF encInt 1 w lo2 hi2 v2 s) (hh2 : hi2 ≤ w.heap.size) (hm2 : s.length ≤ 1048576) :
    Calls Tryz.prog 71 #[v, v2] w fun e w' => e = .returned (.bool (isConf L s)) ∧ Below w.heap.size w w' := by
  obtain ⟨A, c, rfl, hcap⟩ := h.form
  obtain ⟨A2, c2, rfl, hcap2⟩ := h2.form
  have HR := Lib.hid hr; clear hr
  go_enter Tryz.func71, Tryz.ntmps71
  go_wp2_with fail
  go_loopw [6, 9] (fun _ j wr => ∃ k : Nat, k ≤ s.length ∧ j = .int .i64 k ∧ Hid (((s.take k).all fun i => !against L (withoutL s [i])) = true) ∧ Below w.heap.size w wr) (fun _ j _ => s.length - (intOf j).toNat)
  case atStart => exact ⟨0, Nat.zero_le _, rfl, rfl, Below.refl _ _⟩
  case round =>
    obtain ⟨k, hk, rfl, HA, hbel⟩ := hrel
    have z0 := hbel.size
    by_cases hlt : k < s.length
    · have hki : (k : Int) < (s.length : Int) := by omega
      obtain ⟨x, b, off, HS, rfl, hbw, c0⟩ := RdF.int h2 hbel (by omega) hlt
      have hb1 : Below wr.heap.size wr (wr.alloc (.cells #[.int .i64 x] 2)) := (Below.refl _ _).alloc (Nat.le_refl _) _
      have hz1 : (wr.alloc (.cells #[.int .i64 x] 2)).heap.size = wr.heap.size + 1 := by simp
      have hone : RdF encInt 1 (wr.alloc (.cells #[.int .i64 x] 2)) 0 (wr.heap.size + 1) (.slice (some ⟨wr.heap.size, 0, none⟩) 1 1) [x] := RdF.one (enc := encInt) (Blk.newAt rfl) rfl (Nat.zero_le _) (Nat.lt_succ_self _)
      have hb2 := Below.step hb1 z0 hbel
      go_wp2_with fail
      refine (without_any _ s lo2 hi2 _ [x] _ _ _ (h2.below hb2 hh2) (by omega) hm2 hone (by omega) (by simp)).mono ?_
      rintro e w5 ⟨v5, rfl, hw5, b5⟩
      have z5 := b5.size
      have hb3 := Below.step b5 (by omega) hb2
      have hwl := withoutL_len s [x]
      go_wp2_with fail
      refine (contradict_any _ L lo hi _ (withoutL s [x]) _ _ _ (h.below hb3 hh) (by omega) hl HR.out hw5.rd (Nat.le_refl _) (by omega)).mono ?_
      rintro e w6 ⟨rfl, b6⟩
      have z6 := b6.size
      replace hbel := Below.step b6 (by omega) hb3
      clear hb1 hb2 hb3 b5 b6 hone
      cases hq : against L (withoutL s [x]) with
      | true =>
        have HF := Lib.hid (show isConf L s = false by unfold isConf; rw [all_false_of (p := fun i => !against L (withoutL s [i])) HS.out (by rw [hq]; rfl), Bool.and_false])
        clear hq
        go_wp2_with fail
        go_ret
        exact ⟨ret_bool HF.out.symm, hbel⟩
      | false =>
        have HN := Lib.hid (take_all_succ (p := fun i => !against L (withoutL s [i])) HA.out HS.out (by rw [hq]; rfl))
        clear hq
        go_wp2_with fail
        go_roundw
        case rel => exact ⟨k + 1, by omega, by go_num, HN, hbel⟩
        case measure => simp [intOf]; omega
    · have HF := Lib.hid (show isConf L s = against L s by unfold isConf; rw [all_of_take HA.out hlt, Bool.and_true])
      go_wp2_with fail
      refine (contradict_any _ L lo hi _ s lo2 hi2 _ (h.below hbel hh) (by omega) hl HR.out (h2.below hbel hh2) (by omega) hm2).mono ?_
      rintro e w6 ⟨rfl, b6⟩
      go_wp2_with fail
      go_ret
      exact ⟨ret_bool HF.out.symm, Below.step b6 z0 hbel⟩
set_option maxRecDepth 100000 in
set_option maxHeartbeats 4000000 in
theorem l22Conflict_any (v : Value) (L : List (List Int)) (lo hi : Nat) (v2 : Value) (s : List Int) (lo2 hi2 : Nat) (w : World) (h : RdII w lo hi v L) (hh : hi ≤ w.heap.size) (hl : L.length ≤ 1048576) (hr : ∀ l ∈ L, l.length ≤ 1048576) (h2 : RdF encInt 1 w lo2 hi2 v2 s) (hh2 : hi2 ≤ w.heap.size) (hm2 : s.length ≤ 1048576) (hris : ∃ n, Ris n 0 s) :
    Calls Tryz.prog 83 #[v, v2] w fun e w' => e = .returned (.bool (isConf L s)) ∧ Below w.heap.size w w' := by
  obtain ⟨A, c, rfl, hcap⟩ := h.form
  obtain ⟨A2, c2, rfl, hcap2⟩ := h2.form
  have HR := Lib.hid hr; clear hr
  have HRI := Lib.hid hris; clear hris
  go_enter Tryz.func83, Tryz.ntmps83
  go_wp2_with fail
  refine (l22Against_any _ L lo hi _ s lo2 hi2 _ h hh hl HR.out h2 hh2 hm2).mono ?_
  rintro e w1 ⟨rfl, b1⟩
  have z1 := b1.size
  replace h := h.below b1 hh
  replace h2 := h2.below b1 hh2
  cases hag : against L s with
  | false =>
    have HF := Lib.hid (show isConf L s = false by unfold isConf; rw [hag]; rfl)
    go_wp2_with fail
    go_ret
    exact ⟨ret_bool HF.out.symm, b1⟩
  | true =>
    have HG := Lib.hid hag
    clear hag
    go_wp2_with fail
    go_loopw [5] (fun j wr => ∃ k : Nat, k ≤ s.length ∧ j = .int .i64 k ∧ Hid (((s.take k).all fun i => !against L (withoutL s [i])) = true) ∧ Below w1.heap.size w1 wr) (fun j _ => s.length - (intOf j).toNat)
    case atStart => exact ⟨0, Nat.zero_le _, rfl, rfl, Below.refl _ _⟩
    case round =>
      obtain ⟨k, hk, rfl, HA, hbel⟩ := hrel
      have z0 := hbel.size
      by_cases hlt : k < s.length
      · have hki : (k : Int) < (s.length : Int) := by omega
        obtain ⟨x, b, off, HS, rfl, hbw, c0⟩ := RdF.int h2 (Below.refl w1.heap.size w1) (by omega) hlt
        clear c0
        have HWO := Lib.hid (show withoutL s [x] = s.take k ++ s.drop (k + 1) from (HRI.out).elim fun n hn => without_one hn HS.out)
        have hpre := (h2.pre (k := k) (by omega)).below hbel (by omega)
        have hln : (s.take k).length ≤ 1048576 := by simp; omega
        have hln2 : (s.take k).length + (s.drop (k + 1)).length ≤ 1048576 := by simp; omega
        have hln3 : (s.take k ++ s.drop (k + 1)).length ≤ 1048576 := by rw [List.length_append]; exact hln2
        have hw1 : IntKind.i64.wrap ((k : Int) + 1) = (k : Int) + 1 := IntWalk.i64_in _ (by omega)
        have hk1 : 0 ≤ (k : Int) + 1 := by omega
        have hk2 : ((k : Int) + 1).toNat = k + 1 := by omega
        have hk3 : (k : Int) + 1 ≤ (s.length : Int) := by omega
        have hk4 : (k : Int) ≤ (c2 : Int) := by omega
        have hk5 : (k : Int) + 1 ≤ (c2 : Int) := by omega
        have hL := h.below hbel (by omega)
        by_cases hcp : c2 = k + 1
        · subst hcp
          have hk6 : (k : Int) ≤ (k : Int) + 1 := by omega
          have hsl : s.drop (k + 1) = [] := List.drop_eq_nil_of_le (by omega)
          have hsuf : RdF encInt 1 wr lo2 hi2 (.slice (some ⟨b, off, none⟩) 0 0) (s.drop (k + 1)) := by rw [hsl]; exact RdF.zeroLen rfl
          clear hsl
          cases hq : against L (withoutL s [x]) with
          | true =>
            have HF := Lib.hid (show isConf L s = false by unfold isConf; rw [all_false_of (p := fun i => !against L (withoutL s [i])) HS.out (by rw [hq]; rfl), Bool.and_false])
            have HQ := Lib.hid (show against L (s.take k ++ s.drop (k + 1)) = true by rw [← HWO.out]; exact hq)
            clear hq
            go_wp2_with fail
            go_region_held3 (fun w' => True) (trivial)
              (first
                | (go_at_call 84; refine (l22Against_any _ L lo hi _ (s.take k ++ s.drop (k + 1)) _ _ _ (hL.below b6 (by omega)) (by omega) hl HR.out (hown6.rdw (fun _ => rfl)).rd (Nat.le_refl _) hln3).mono ?_; rintro e w7 ⟨rfl, b7⟩; rw [HQ.out]; have hb7 : Below w1.heap.size w1 w7 := Below.step b7 (by omega) (Below.step b6 z0 hbel))
                | (go_at_call 100; refine (l01Own_any _ (s.take k) lo2 hi2 _ (hpre.below (B := wr.heap.size) (Below.refl _ wr).drew (by omega)) (by show _ ≤ wr.heap.size; omega) hln).mono ?_; rintro e w5 ⟨v5, rfl, ho5, b5⟩; replace b5 : Below wr.heap.size wr w5 := Below.undrew b5; have z5 := b5.size)
                | (rw [if_pos (by rfl)]; refine wp_app (enc := encInt) _ _ _ _ (by rfl) wr.heap.size 2 (.int .i64 0) 1 8 Tryz.underlying29 (by kernel_rfl) rfl (by omega) (fun _ => rfl) encInt_one (by omega) _ _ (s.take k) (s.drop (k + 1)) lo2 hi2 (by rfl) (by rfl) ho5 (hsuf.below b5 (by omega)) (by omega) (by omega) ?_; intro v6 w6 hown6 hg6 hk6; have b6 : Below wr.heap.size wr w6 := hk6 _ _ (Nat.le_refl _) b5; have z6 := b6.size))
            go_wp2_with fail
            go_ret
            exact ⟨ret_bool HF.out.symm, Below.step hb7 z1 b1⟩
          | false =>
            have HN := Lib.hid (take_all_succ (p := fun i => !against L (withoutL s [i])) HA.out HS.out (by rw [hq]; rfl))
            have HQ := Lib.hid (show against L (s.take k ++ s.drop (k + 1)) = false by rw [← HWO.out]; exact hq)
            clear hq
            go_wp2_with fail
            go_region_held3 (fun w' => True) (trivial)
              (first
                | (go_at_call 84; refine (l22Against_any _ L lo hi _ (s.take k ++ s.drop (k + 1)) _ _ _ (hL.below b6 (by omega)) (by omega) hl HR.out (hown6.rdw (fun _ => rfl)).rd (Nat.le_refl _) hln3).mono ?_; rintro e w7 ⟨rfl, b7⟩; rw [HQ.out]; have hb7 : Below w1.heap.size w1 w7 := Below.step b7 (by omega) (Below.step b6 z0 hbel))
                | (go_at_call 100; refine (l01Own_any _ (s.take k) lo2 hi2 _ (hpre.below (B := wr.heap.size) (Below.refl _ wr).drew (by omega)) (by show _ ≤ wr.heap.size; omega) hln).mono ?_; rintro e w5 ⟨v5, rfl, ho5, b5⟩; replace b5 : Below wr.heap.size wr w5 := Below.undrew b5; have z5 := b5.size)
                | (rw [if_pos (by rfl)]; refine wp_app (enc := encInt) _ _ _ _ (by rfl) wr.heap.size 2 (.int .i64 0) 1 8 Tryz.underlying29 (by kernel_rfl) rfl (by omega) (fun _ => rfl) encInt_one (by omega) _ _ (s.take k) (s.drop (k + 1)) lo2 hi2 (by rfl) (by rfl) ho5 (hsuf.below b5 (by omega)) (by omega) (by omega) ?_; intro v6 w6 hown6 hg6 hk6; have b6 : Below wr.heap.size wr w6 := hk6 _ _ (Nat.le_refl _) b5; have z6 := b6.size))
            clear hw1 hk2
            go_wp2_with fail
            go_roundw
            case rel => exact ⟨k + 1, by omega, by go_num, HN, hb7⟩
            case measure => simp [intOf]; omega
        · have hsuf : RdF encInt 1 wr lo2 hi2 (.slice (some ⟨b, off + (k + 1), none⟩) (s.length - (k + 1)) (c2 - (k + 1))) (s.drop (k + 1)) := (h2.dropC (k := k + 1) (by omega)).below hbel (by omega)
          cases hq : against L (withoutL s [x]) with
          | true =>
            have HF := Lib.hid (show isConf L s = false by unfold isConf; rw [all_false_of (p := fun i => !against L (withoutL s [i])) HS.out (by rw [hq]; rfl), Bool.and_false])
            have HQ := Lib.hid (show against L (s.take k ++ s.drop (k + 1)) = true by rw [← HWO.out]; exact hq)
            clear hq
            go_wp2_with fail
            go_region_held3 (fun w' => True) (trivial)
              (first
                | (go_at_call 84; refine (l22Against_any _ L lo hi _ (s.take k ++ s.drop (k + 1)) _ _ _ (hL.below b6 (by omega)) (by omega) hl HR.out (hown6.rdw (fun _ => rfl)).rd (Nat.le_refl _) hln3).mono ?_; rintro e w7 ⟨rfl, b7⟩; rw [HQ.out]; have hb7 : Below w1.heap.size w1 w7 := Below.step b7 (by omega) (Below.step b6 z0 hbel))
                | (go_at_call 100; refine (l01Own_any _ (s.take k) lo2 hi2 _ (hpre.below (B := wr.heap.size) (Below.refl _ wr).drew (by omega)) (by show _ ≤ wr.heap.size; omega) hln).mono ?_; rintro e w5 ⟨v5, rfl, ho5, b5⟩; replace b5 : Below wr.heap.size wr w5 := Below.undrew b5; have z5 := b5.size)
                | (rw [if_pos (by rfl)]; refine wp_app (enc := encInt) _ _ _ _ (by rfl) wr.heap.size 2 (.int .i64 0) 1 8 Tryz.underlying29 (by kernel_rfl) rfl (by omega) (fun _ => rfl) encInt_one (by omega) _ _ (s.take k) (s.drop (k + 1)) lo2 hi2 (by rfl) (by rfl) ho5 (hsuf.below b5 (by omega)) (by omega) (by omega) ?_; intro v6 w6 hown6 hg6 hk6; have b6 : Below wr.heap.size wr w6 := hk6 _ _ (Nat.le_refl _) b5; have z6 := b6.size))
            go_wp2_with fail
            go_ret
            exact ⟨ret_bool HF.out.symm, Below.step hb7 z1 b1⟩
          | false =>
            have HN := Lib.hid (take_all_succ (p := fun i => !against L (withoutL s [i])) HA.out HS.out (by rw [hq]; rfl))
            have HQ := Lib.hid (show against L (s.take k ++ s.drop (k + 1)) = false by rw [← HWO.out]; exact hq)
            clear hq
            go_wp2_with fail
            go_region_held3 (fun w' => True) (trivial)
              (first
                | (go_at_call 84; refine (l22Against_any _ L lo hi _ (s.take k ++ s.drop (k + 1)) _ _ _ (hL.below b6 (by omega)) (by omega) hl HR.out (hown6.rdw (fun _ => rfl)).rd (Nat.le_refl _) hln3).mono ?_; rintro e w7 ⟨rfl, b7⟩; rw [HQ.out]; have hb7 : Below w1.heap.size w1 w7 := Below.step b7 (by omega) (Below.step b6 z0 hbel))
                | (go_at_call 100; refine (l01Own_any _ (s.take k) lo2 hi2 _ (hpre.below (B := wr.heap.size) (Below.refl _ wr).drew (by omega)) (by show _ ≤ wr.heap.size; omega) hln).mono ?_; rintro e w5 ⟨v5, rfl, ho5, b5⟩; replace b5 : Below wr.heap.size wr w5 := Below.undrew b5; have z5 := b5.size)
                | (rw [if_pos (by rfl)]; refine wp_app (enc := encInt) _ _ _ _ (by rfl) wr.heap.size 2 (.int .i64 0) 1 8 Tryz.underlying29 (by kernel_rfl) rfl (by omega) (fun _ => rfl) encInt_one (by omega) _ _ (s.take k) (s.drop (k + 1)) lo2 hi2 (by rfl) (by rfl) ho5 (hsuf.below b5 (by omega)) (by omega) (by omega) ?_; intro v6 w6 hown6 hg6 hk6; have b6 : Below wr.heap.size wr w6 := hk6 _ _ (Nat.le_refl _) b5; have z6 := b6.size))
            clear hw1 hk2
            go_wp2_with fail
            go_roundw
            case rel => exact ⟨k + 1, by omega, by go_num, HN, hb7⟩
            case measure => simp [intOf]; omega
      · have HF := Lib.hid (show isConf L s = true by unfold isConf; rw [all_of_take HA.out hlt, HG.out]; rfl)
        go_wp2_with fail
        go_ret
        exact ⟨ret_bool HF.out.symm, Below.step hbel z1 b1⟩
set_option maxRecDepth 100000 in
set_option maxHeartbeats 4000000 in
theorem l01Rises_any (v : Value) (xs : List Int) (lo hi : Nat) (n : Nat) (w : World) (h : RdF encInt 1 w lo hi v xs) (hh : hi ≤ w.heap.size) (hm : xs.length ≤ 1048576) (hn : n ≤ 1048576) :
    Calls Tryz.prog 106 #[v, .int .i64 (n : Int)] w fun e w' => e = .returned (.bool (incr 0 ((n : Int) - 1) xs)) ∧ Below w.heap.size w w' := by
  obtain ⟨A, c, rfl, hc⟩ := h.form
  have HW0 := Lib.hid (show IntKind.i64.wrap ((n : Int) - 1) = (n : Int) - 1 from IntWalk.i64_in _ (by omega))
  go_enter Tryz.func106, Tryz.ntmps106
  go_wp2_with fail
  go_loopw [5] (fun i wr => ∃ k : Nat, k ≤ xs.length ∧ i = .int .i64 k ∧ Hid (prefAll (incrP 0 ((n : Int) - 1)) xs k = true) ∧ Below w.heap.size w wr) (fun i _ => xs.length - (intOf i).toNat)
  case atStart => exact ⟨0, Nat.zero_le _, rfl, rfl, Below.refl _ _⟩
  case round =>
    obtain ⟨k, hk, rfl, HA, hb⟩ := hrel
    have z0 := hb.size
    by_cases hlt : k < xs.length
    · obtain ⟨s, b, off, HS, rfl, hbw, c0⟩ := RdF.int h hb hh hlt
      have hki : (k : Int) < (xs.length : Int) := by omega
      have hww := HW0.out
      cases hr : inR s 0 ((n : Int) - 1) with
      | false =>
        have HP := Lib.hid (show incr 0 ((n : Int) - 1) xs = false by rw [incr, prefOk_false HS.out (by rw [incrP, hr]; rfl)])
        go_wp2_with fail
        go_quiet ((go_at_call 89; exact Calls.quiet_of_same ((l01In_any _ _ _ _).mono (by rintro e w' ⟨rfl, rfl⟩; exact ⟨by rw [hr], rfl⟩))))
        clear hww
        go_wp2_with fail
        go_ret
        exact ⟨ret_bool HP.out.symm, by (repeat (first | with_reducible assumption | with_reducible exact Below.refl _ _ | with_reducible refine Below.setCell ?_ ?_ _ | with_reducible refine Below.alloc ?_ ?_ _ | with_reducible refine Below.drew ?_ | with_reducible refine below_drewN ?_ _ | with_reducible refine Below.step (by with_reducible assumption) ?_ ?_ | omega | (simp <;> omega) | (simp; done)))⟩
      | true =>
        by_cases hk0 : k = 0
        · have hkz : decide (0 < k) = false := by simp; omega
          have HP := Lib.hid (show incrP 0 ((n : Int) - 1) (xs.take k) s = true by rw [hk0, incrP, hr]; rfl)
          clear hk0
          go_wp2_with fail
          go_quiet ((go_at_call 89; exact Calls.quiet_of_same ((l01In_any _ _ _ _).mono (by rintro e w' ⟨rfl, rfl⟩; exact ⟨by rw [hr], rfl⟩))))
          clear hww
          go_wp2_with fail
          go_roundw
          case rel => exact ⟨k + 1, by omega, by go_num, prefAll_succ HA.out HS.out HP.out, by (repeat (first | with_reducible assumption | with_reducible exact Below.refl _ _ | with_reducible refine Below.setCell ?_ ?_ _ | with_reducible refine Below.alloc ?_ ?_ _ | with_reducible refine Below.drew ?_ | with_reducible refine below_drewN ?_ _ | with_reducible refine Below.step (by with_reducible assumption) ?_ ?_ | omega | (simp <;> omega) | (simp; done)))⟩
          case measure => simp [intOf]; omega
        · obtain ⟨t, b2, off2, HT, hA2, hbw2, c1⟩ := RdF.int h hb hh (show k - 1 < xs.length by omega)
          injection hA2 with hA2; injection hA2 with e1 e2; subst e1 e2
          have HP := Lib.hid (show incrP 0 ((n : Int) - 1) (xs.take k) s = decide (t < s) by have e := take_last HT.out; rw [show k - 1 + 1 = k by omega] at e; rw [incrP, hr, e]; rfl)
          have hkp : 1 ≤ (k : Int) := by omega
          have hkq : decide (0 < (k : Int)) = true := by simp; omega
          have hkr : decide (0 < k) = true := by simp; omega
          have hks : 0 < k := by omega
          have hkw : IntKind.i64.wrap ((k : Int) - 1) = (k : Int) - 1 := IntWalk.i64_in _ (by omega)
          have hk1 : 0 ≤ (k : Int) - 1 := by omega
          have hk2 : (k : Int) - 1 < (xs.length : Int) := by omega
          have hk3 : ((k : Int) - 1).toNat = k - 1 := by omega
          clear hk0
          by_cases hts : t < s
          · have ht1 : decide (s ≤ t) = false := by simpa using hts
            go_wp2_with fail
            go_quiet ((go_at_call 89; exact Calls.quiet_of_same ((l01In_any _ _ _ _).mono (by rintro e w' ⟨rfl, rfl⟩; exact ⟨by rw [hr], rfl⟩))))
            clear hww hkw hk3
            go_wp2_with fail
            go_roundw
            case rel => exact ⟨k + 1, by omega, by go_num, prefAll_succ HA.out HS.out (by rw [HP.out]; simpa using hts), by (repeat (first | with_reducible assumption | with_reducible exact Below.refl _ _ | with_reducible refine Below.setCell ?_ ?_ _ | with_reducible refine Below.alloc ?_ ?_ _ | with_reducible refine Below.drew ?_ | with_reducible refine below_drewN ?_ _ | with_reducible refine Below.step (by with_reducible assumption) ?_ ?_ | omega | (simp <;> omega) | (simp; done)))⟩
            case measure => simp [intOf]; omega
          · have ht1 : decide (s ≤ t) = true := by simpa using hts
            have HF := Lib.hid (show incr 0 ((n : Int) - 1) xs = false by rw [incr, prefOk_false HS.out (by rw [HP.out]; simpa using hts)])
            go_wp2_with fail
            go_quiet ((go_at_call 89; exact Calls.quiet_of_same ((l01In_any _ _ _ _).mono (by rintro e w' ⟨rfl, rfl⟩; exact ⟨by rw [hr], rfl⟩))))
            clear hww hkw hk3
            go_wp2_with fail
            go_ret
            exact ⟨ret_bool HF.out.symm, by (repeat (first | with_reducible assumption | with_reducible exact Below.refl _ _ | with_reducible refine Below.setCell ?_ ?_ _ | with_reducible refine Below.alloc ?_ ?_ _ | with_reducible refine Below.drew ?_ | with_reducible refine below_drewN ?_ _ | with_reducible refine Below.step (by with_reducible assumption) ?_ ?_ | omega | (simp <;> omega) | (simp; done)))⟩
    · have HF := Lib.hid (show incr 0 ((n : Int) - 1) xs = true by rw [incr, prefOk_of HA.out hk hlt])
      go_wp2_with fail
      go_ret
      exact ⟨ret_bool HF.out.symm, by (repeat (first | with_reducible assumption | with_reducible exact Below.refl _ _ | with_reducible refine Below.setCell ?_ ?_ _ | with_reducible refine Below.alloc ?_ ?_ _ | with_reducible refine Below.drew ?_ | with_reducible refine below_drewN ?_ _ | with_reducible refine Below.step (by with_reducible assumption) ?_ ?_ | omega | (simp <;> omega) | (simp; done)))⟩
set_option maxRecDepth 100000 in
set_option maxHeartbeats 4000000 in
theorem someCode_any (v : Value) (xs : List Hearing) (lo hi : Nat) (v2 : Value) (ps : List Slot) (lo2 hi2 : Nat) (v3 : Value) (ds : List Demand) (lo3 hi3 : Nat) (v4 : Value) (s : List Int) (lo4 hi4 : Nat) (w : World) (h : RdHearing w lo hi v xs) (hh : hi ≤ w.heap.size) (hm : xs.length ≤ 1048576) (hms : ∀ x ∈ xs, Hearing.small x) (h2 : RdF Slot.enc 3 w lo2 hi2 v2 ps) (hh2 : hi2 ≤ w.heap.size) (hm2 : ps.length ≤ 1048576) (h3 : RdF Demand.enc 3 w lo3 hi3 v3 ds) (hh3 : hi3 ≤ w.heap.size) (hm3 : ds.length ≤ 1048576) (h4 : RdF encInt 1 w lo4 hi4 v4 s) (hh4 : hi4 ≤ w.heap.size) (hm4 : s.length ≤ 1048576) :
    Calls Tryz.prog 63 #[v, v2, v3, v4] w fun e w' => e = .returned (.int .i64 (someC xs ps ds s)) ∧ Below w.heap.size w w' := by
  obtain ⟨A3, c3, rfl, hcap3⟩ := h3.form
  go_enter Tryz.func63, Tryz.ntmps63
  go_wp2_with fail
  refine (areDemands_any _ xs lo hi _ ps lo2 hi2 _ ds lo3 hi3 _ h hh hm hms h2 hh2 hm2 h3 hh3 hm3).mono ?_
  rintro e w1 ⟨rfl, b1⟩
  have z1 := b1.size
  replace h4 := h4.below b1 (by omega)
  clear h h2 h3
  cases hc : areDemands xs ps ds with
  | false =>
    have HF := Lib.hid (someC_bad (s := s) hc)
    go_wp2_with fail
    go_ret
    exact ⟨ret_int HF.out.symm, b1⟩
  | true =>
    have HC := Lib.hid hc
    clear hc
    go_wp2_with fail
    refine (increasing_any _ s lo4 hi4 0 ((ds.length : Int) - 1) _ h4 (by omega) hm4).mono ?_
    rintro e w2 ⟨rfl, rfl⟩
    cases hi : incr 0 ((ds.length : Int) - 1) s with
    | false =>
      have HF := Lib.hid (someC_incr HC.out hi)
      go_wp2_with fail
      go_ret
      exact ⟨ret_int HF.out.symm, b1⟩
    | true =>
      have HF := Lib.hid (someC_ok HC.out hi)
      go_wp2_with fail
      go_ret
      exact ⟨ret_int HF.out.symm, b1⟩
set_option maxRecDepth 100000 in
set_option maxHeartbeats 4000000 in
theorem l22Code_any (v : Value) (xs : List Hearing) (lo hi : Nat) (v2 : Value) (ps : List Slot) (lo2 hi2 : Nat) (v3 : Value) (ds : List Demand) (lo3 hi3 : Nat) (v4 : Value) (s : List Int) (lo4 hi4 : Nat) (w : World) (h : RdHearing w lo hi v xs) (hh : hi ≤ w.heap.size) (hm : xs.length ≤ 1048576) (hms : ∀ x ∈ xs, Hearing.small x) (h2 : RdF Slot.enc 3 w lo2 hi2 v2 ps) (hh2 : hi2 ≤ w.heap.size) (hm2 : ps.length ≤ 1048576) (h3 : RdF Demand.enc 3 w lo3 hi3 v3 ds) (hh3 : hi3 ≤ w.heap.size) (hm3 : ds.length ≤ 1048576) (h4 : RdF encInt 1 w lo4 hi4 v4 s) (hh4 : hi4 ≤ w.heap.size) (hm4 : s.length ≤ 1048576) :
    Calls Tryz.prog 82 #[v, v2, v3, v4] w fun e w' => e = .returned (.int .i64 (someC xs ps ds s)) ∧ Below w.heap.size w w' := by
  obtain ⟨A3, c3, rfl, hcap3⟩ := h3.form
  go_enter Tryz.func82, Tryz.ntmps82
  go_wp2_with fail
  refine (sAreDemands_any _ xs lo hi _ ps lo2 hi2 _ ds lo3 hi3 _ h hh hm hms h2 hh2 hm2 h3 hh3 hm3).mono ?_
  rintro e w1 ⟨rfl, b1⟩
  have z1 := b1.size
  replace h4 := h4.below b1 (by omega)
  clear h h2 h3
  cases hc : areDemands xs ps ds with
  | false =>
    have HF := Lib.hid (someC_bad (s := s) hc)
    go_wp2_with fail
    go_ret
    exact ⟨ret_int HF.out.symm, b1⟩
  | true =>
    have HC := Lib.hid hc
    clear hc
    go_wp2_with fail
    refine (l01Rises_any _ s lo4 hi4 ds.length _ h4 (by omega) hm4 hm3).mono ?_
    rintro e w2 ⟨rfl, b2⟩
    cases hi : incr 0 ((ds.length : Int) - 1) s with
    | false =>
      have HF := Lib.hid (someC_incr HC.out hi)
      go_wp2_with fail
      go_ret
      exact ⟨ret_int HF.out.symm, Below.step b2 z1 b1⟩
    | true =>
      have HF := Lib.hid (someC_ok HC.out hi)
      go_wp2_with fail
      go_ret
      exact ⟨ret_int HF.out.symm, Below.step b2 z1 b1⟩
end Go.Proofs.YtgpknnlphabpkaaGreat
