/- Walks: the people whom two hearings need, sorted. -/
import Derived.Test.YtmgdkblleljdaaaGreatHearingP
import Derived.Test.YtmgdkblleljdaaaGreatHearingW
import Derived.Test.YtmgdkblleljdaaaGreatMem3
import Derived.Test.YtmgdkblleljdaaaGreatShelf
import Derived.Deep.RegionHeld3
namespace Go.Proofs.YtmgdkblleljdaaaGreat
open Go.RowKit
set_option linter.unusedVariables false

def ltW (a b : ByteArray) : Bool := Op.bytesLess a.toList b.toList
theorem bLess_eq : ∀ (x y : List UInt8), Op.bytesLess x y = decide (x < y)
  | [], [] => by simp [Op.bytesLess]
  | _ :: _, [] => by simp [Op.bytesLess]
  | [], _ :: _ => by simp [Op.bytesLess]
  | a :: x, b :: y => by
    rw [Op.bytesLess, bLess_eq x y]
    simp only [List.cons_lt_cons_iff]
    by_cases h1 : a < b <;> by_cases h2 : a = b <;> by_cases h3 : x < y <;> simp [h1, h2, h3]
def leW (a b : ByteArray) : Prop := a.data.toList ≤ b.data.toList
theorem ltW_iff {a b : ByteArray} : ltW a b = true ↔ a.data.toList < b.data.toList := by
  rw [ltW, bytes_toList, bytes_toList, bLess_eq]; simp
theorem ltW_no {a b : ByteArray} : ltW a b = false ↔ leW b a := by
  rw [← Bool.not_eq_true, ltW_iff]; exact Iff.rfl
theorem data_inj {a b : ByteArray} (h : a.data.toList = b.data.toList) : a = b := by
  cases a; cases b; simpa using h
theorem leW_anti {a b : ByteArray} (h1 : leW a b) (h2 : leW b a) : a = b := data_inj (List.le_antisymm h1 h2)
theorem leW_trans {a b c : ByteArray} (h1 : leW a b) (h2 : leW b c) : leW a c := List.le_trans h1 h2
theorem leW_of_lt {a b : ByteArray} (h : ltW a b = true) : leW a b := List.le_of_lt (ltW_iff.1 h)

def sortW (xs : List ByteArray) : List ByteArray := ((xs.map fun s => s.data.toList).mergeSort fun x y => decide (x ≤ y)).map fun l => ⟨l.toArray⟩
theorem sortW_perm (xs : List ByteArray) : (sortW xs).Perm xs := by
  have h := (List.mergeSort_perm (xs.map fun s => s.data.toList) fun x y => decide (x ≤ y)).map fun l => (⟨l.toArray⟩ : ByteArray)
  rw [List.map_map] at h
  have e : (xs.map ((fun l => (⟨l.toArray⟩ : ByteArray)) ∘ fun s => s.data.toList)) = xs := by
    conv => rhs; rw [← List.map_id xs]
    apply List.map_congr_left
    intro s _
    simp
  rw [e] at h
  exact h
theorem sortW_len (xs : List ByteArray) : (sortW xs).length = xs.length := (sortW_perm xs).length_eq
theorem sortW_sorted (xs : List ByteArray) : (sortW xs).Pairwise leW := by
  have h := List.pairwise_mergeSort (le := fun x y : List UInt8 => decide (x ≤ y)) (fun a b c h1 h2 => by simp at *; exact List.le_trans h1 h2) (fun a b => by simp; exact List.le_total a b) (xs.map fun s => s.data.toList)
  unfold sortW
  rw [List.pairwise_map]
  exact h.imp fun {a b} hab => by simpa [leW] using hab

/-- Where a word goes into a sorted list. -/
def posW (s : ByteArray) : List ByteArray → Nat
  | [] => 0
  | x :: xs => if ltW x s then posW s xs + 1 else 0
theorem posW_le (s : ByteArray) : ∀ xs, posW s xs ≤ xs.length
  | [] => Nat.le_refl _
  | x :: xs => by have := posW_le s xs; simp only [posW]; split <;> simp <;> omega
/-- The loop's two facts. -/
theorem posW_before {s : ByteArray} : ∀ {xs : List ByteArray} {k : Nat} {x : ByteArray}, k < posW s xs → xs[k]? = some x → ltW x s = true
  | [], k, x, h, _ => by simp [posW] at h
  | y :: ys, k, x, h, hx => by
    simp only [posW] at h
    split at h
    · rename_i hy
      cases k with
      | zero => simp at hx; subst hx; exact hy
      | succ k => exact posW_before (xs := ys) (k := k) (by omega) (by simpa using hx)
    · omega
theorem posW_at {s : ByteArray} : ∀ {xs : List ByteArray} {x : ByteArray}, xs[posW s xs]? = some x → ltW x s = false
  | [], x, h => by simp [posW] at h
  | y :: ys, x, h => by
    simp only [posW] at h
    split at h
    · exact posW_at (by simpa using h)
    · rename_i hy; simp at h; subst h; simpa using hy
theorem posW_of {s : ByteArray} {xs : List ByteArray} {k : Nat} (hk : k ≤ xs.length) (h1 : ∀ i x, i < k → xs[i]? = some x → ltW x s = true) (h2 : ∀ x, xs[k]? = some x → ltW x s = false) : posW s xs = k := by
  rcases Nat.lt_trichotomy (posW s xs) k with h | h | h
  · have hx : xs[posW s xs]? = some (xs[posW s xs]'(by omega)) := List.getElem?_eq_getElem (by omega)
    have a := posW_at hx
    rw [h1 _ _ h hx] at a; cases a
  · exact h
  · have := posW_le s xs
    have hx : xs[k]? = some (xs[k]'(by omega)) := List.getElem?_eq_getElem (by omega)
    have a := posW_before h hx
    rw [h2 _ hx] at a; cases a
def insW (s : ByteArray) (xs : List ByteArray) : List ByteArray := if hasW (xs.drop (posW s xs)).head?.toList s then xs else xs.take (posW s xs) ++ (s :: xs.drop (posW s xs))
theorem insW_len (s : ByteArray) (xs : List ByteArray) : (insW s xs).length ≤ xs.length + 1 := by
  unfold insW
  split
  · omega
  · have := posW_le s xs; simp; omega
theorem insW_dup {s : ByteArray} {xs : List ByteArray} {x : ByteArray} (hx : xs[posW s xs]? = some x) (he : (x.toList == s.toList) = true) : insW s xs = xs := by
  unfold insW
  rw [if_pos]
  rw [List.head?_drop, hx]
  simpa [hasW] using he
theorem insW_new {s : ByteArray} {xs : List ByteArray} (h : ∀ x, xs[posW s xs]? = some x → (x.toList == s.toList) = false) : insW s xs = xs.take (posW s xs) ++ (s :: xs.drop (posW s xs)) := by
  unfold insW
  rw [if_neg]
  rw [List.head?_drop]
  cases hx : xs[posW s xs]? with
  | none => simp [hasW]
  | some x => have := h x hx; simp [hasW, this]
def insR (s : ByteArray) : List ByteArray → List ByteArray
  | [] => [s]
  | x :: xs => if ltW x s then x :: insR s xs else s :: x :: xs
theorem insR_take (s : ByteArray) : ∀ xs, insR s xs = xs.take (posW s xs) ++ (s :: xs.drop (posW s xs))
  | [] => rfl
  | x :: xs => by
    simp only [insR, posW]
    split
    · rw [insR_take s xs]; simp
    · simp
theorem insR_perm (s : ByteArray) : ∀ xs, (insR s xs).Perm (s :: xs)
  | [] => List.Perm.refl _
  | x :: xs => by
    simp only [insR]
    split
    · exact ((insR_perm s xs).cons x).trans (List.Perm.swap s x xs)
    · exact List.Perm.refl _
theorem insR_sorted (s : ByteArray) : ∀ xs, xs.Pairwise leW → (insR s xs).Pairwise leW
  | [], _ => by simp [insR]
  | x :: xs, h => by
    rw [List.pairwise_cons] at h
    simp only [insR]
    split
    · rename_i hx
      rw [List.pairwise_cons]
      refine ⟨fun b hb => ?_, insR_sorted s xs h.2⟩
      rcases List.mem_cons.1 ((insR_perm s xs).mem_iff.1 hb) with rfl | hb
      · exact leW_of_lt hx
      · exact h.1 b hb
    · rename_i hx
      have hx' : leW s x := ltW_no.1 (by simpa using hx)
      rw [List.pairwise_cons]
      refine ⟨fun b hb => ?_, by rw [List.pairwise_cons]; exact h⟩
      rcases List.mem_cons.1 hb with rfl | hb
      · exact hx'
      · exact leW_trans hx' (h.1 b hb)
theorem insW_insR {s : ByteArray} {xs : List ByteArray} (h : s ∉ xs) : insW s xs = insR s xs := by
  rw [insR_take, insW_new]
  intro x hx
  rw [← Bool.not_eq_true]
  intro he
  have : x = s := by simpa [toList_inj] using he
  subst this
  exact h (List.mem_of_getElem? hx)
def insAll (acc ys : List ByteArray) : List ByteArray := ys.foldl (fun a y => insW y a) acc
theorem insAll_facts : ∀ (ys acc : List ByteArray), acc.Pairwise leW → (acc ++ ys).Nodup → (insAll acc ys).Pairwise leW ∧ (insAll acc ys).Perm (acc ++ ys)
  | [], acc, h, _ => ⟨h, by simp [insAll]⟩
  | y :: ys, acc, h, hn => by
    have hy : y ∉ acc := by
      rw [List.nodup_append] at hn
      intro hm
      exact hn.2.2 y hm y (by simp) rfl
    have e : insAll acc (y :: ys) = insAll (insR y acc) ys := by simp [insAll, insW_insR hy]
    have hp := insR_perm y acc
    have hp2 : (insR y acc ++ ys).Perm (acc ++ y :: ys) := (hp.append_right ys).trans (by rw [List.cons_append]; exact List.perm_middle.symm)
    obtain ⟨a, b⟩ := insAll_facts ys (insR y acc) (insR_sorted y acc h) (hp2.nodup_iff.2 hn)
    rw [e]
    exact ⟨a, b.trans hp2⟩
theorem insAll_sortW {ys : List ByteArray} (h : ys.Nodup) : insAll [] ys = sortW ys := by
  obtain ⟨a, b⟩ := insAll_facts ys [] List.Pairwise.nil (by simpa using h)
  simp at b
  exact List.Perm.eq_of_pairwise (le := leW) (fun x y _ _ h1 h2 => leW_anti h1 h2) a (sortW_sorted ys) (b.trans (sortW_perm ys).symm)

/-- The people whom two hearings need. -/
def sharedL (a b : Hearing) : List ByteArray := a.people.filter fun p => hasW b.people p
theorem sharedL_len (a b : Hearing) : (sharedL a b).length ≤ a.people.length := List.length_filter_le _ _
theorem newW_nodup {xs : List ByteArray} (h : prefOk newW xs = true) : xs.Nodup := by
  have h2 : ∀ k, k ≤ xs.length → (xs.take k).Nodup := by
    intro k
    induction k with
    | zero => intro _; simp
    | succ k ih =>
      intro hk
      have hx : xs[k]? = some xs[k] := List.getElem?_eq_getElem (by omega)
      have h3 := prefOk_at h hx
      rw [List.take_add_one, hx]
      simp only [Option.toList_some]
      rw [List.nodup_append]
      refine ⟨ih (by omega), by simp, fun a ha b hb e => ?_⟩
      simp at hb
      subst hb
      subst e
      rw [newW, hasW_iff.2 ha] at h3
      cases h3
  have := h2 xs.length (Nat.le_refl _)
  rwa [List.take_length] at this
theorem ok_nodup {a : Hearing} (h : a.ok = true) : a.people.Nodup := by
  simp only [Hearing.ok, Bool.and_eq_true] at h
  exact newW_nodup h.1
theorem sharedL_ins {a b : Hearing} (h : a.people.Nodup) : insAll [] (sharedL a b) = sortW (sharedL a b) := insAll_sortW (h.filter _)
theorem filter_yes {α : Type} {p : α → Bool} {xs : List α} {k : Nat} {x : α} (hx : xs[k]? = some x) (hp : p x = true) : (xs.take (k + 1)).filter p = (xs.take k).filter p ++ [x] := by
  rw [List.take_add_one, hx]; simp [List.filter_append, hp]
theorem filter_no {α : Type} {p : α → Bool} {xs : List α} {k : Nat} {x : α} (hx : xs[k]? = some x) (hp : p x = false) : (xs.take (k + 1)).filter p = (xs.take k).filter p := by
  rw [List.take_add_one, hx]; simp [List.filter_append, hp]
theorem insAll_snoc (acc ys : List ByteArray) (y : ByteArray) : insAll acc (ys ++ [y]) = insW y (insAll acc ys) := by simp [insAll]
theorem insAll_len : ∀ (ys acc : List ByteArray), (insAll acc ys).length ≤ acc.length + ys.length
  | [], acc => by simp [insAll]
  | y :: ys, acc => by
    have := insAll_len ys (insW y acc)
    have := insW_len y acc
    have e : insAll acc (y :: ys) = insAll (insW y acc) ys := by simp [insAll]
    rw [e]; simp; omega

/-- slices.Sort of a slice of the call's own. -/
theorem sortS_any (v : Value) (xs : List ByteArray) (lo hi : Nat) (w : World) (h : RdW encStr 1 9 w lo hi v xs) (hh : hi ≤ w.heap.size) (hm : xs.length ≤ 1048576) :
    Calls Tryz.prog 87 #[v] w fun e w' => e = .returned (.tuple #[]) ∧ (RdW encStr 1 9 w' lo hi v (sortW xs) ∧ Chg lo hi w w') := by
  obtain ⟨A, c, rfl, hc, hA⟩ := h
  by_cases hz : xs.length = 0
  · have hx : xs = [] := List.eq_nil_of_length_eq_zero hz
    subst hx
    refine (Tryz.slices_Sort_string_none A c w).mono fun e w' ⟨h1, h2⟩ => ?_
    subst h2
    exact ⟨h1, ⟨A, c, by rw [sortW_len], by rw [sortW_len]; exact hc, fun hl => by rw [sortW_len] at hl; simp at hl⟩, Chg.refl _ _ _⟩
  · obtain ⟨g, arr, rfl, hg1, hg2, hblk, hsz, hrow⟩ := hA (by omega)
    have hH : Go.Sort.Holds Go.Proofs.encStr w g 0 (xs.map fun s => s.data.toList).toArray := by
      intro j hj
      simp at hj
      have hx : xs[j]? = some xs[j] := List.getElem?_eq_getElem hj
      refine ⟨?_, hblk.frozen _⟩
      have h1 := hrow j xs[j] hj hx 0 _ rfl
      rw [Nat.zero_add, hblk.cell]
      have e : ((xs.map fun s => s.data.toList).toArray)[j]! = xs[j].data.toList := by
        rw [getElem!_pos _ j (by simpa using hj)]; simp
      rw [e]
      simpa using h1
    have hl : (xs.map fun s => s.data.toList).length = xs.length := by simp
    have hs := Tryz.slices_Sort_string g 0 c (xs.map fun s => s.data.toList) w hH hblk.lt (by rw [hl]; omega)
    rw [hl] at hs
    refine hs.mono fun e w' ⟨h1, n, os, h2⟩ => ?_
    subst h2
    have hsl : ((xs.map fun s => s.data.toList).mergeSort fun x y => decide (x ≤ y)).length = xs.length := by simp
    refine ⟨h1, ⟨_, c, by rw [sortW_len], by rw [sortW_len]; exact hc, fun _ => ⟨g, Go.Sort.putCells Go.Proofs.encStr 0 ((xs.map fun s => s.data.toList).mergeSort fun x y => decide (x ≤ y)).toArray arr, rfl, hg1, hg2, ?_, ?_, ?_⟩⟩, ?_⟩
    · have hlt := hblk.lt
      show (w.heap.modify g _ ++ os)[g]? = _
      rw [Array.getElem?_append_left (by simpa using hlt), Array.getElem?_modify, if_pos rfl, show w.heap[g]? = _ from hblk]
      rfl
    · rw [sortW_len]; simpa [Go.Sort.putCells] using hsz
    · rw [sortW_len]
      intro i x hi hx j u hu
      have hj : j = 0 := by
        have := (List.getElem?_eq_some_iff.1 hu).1
        simp [encStr] at this; exact this
      subst hj
      simp [encStr] at hu
      subst hu
      have hi2 : i < arr.size := by omega
      have hx2 : ((xs.map fun s => s.data.toList).mergeSort fun x y => decide (x ≤ y))[i]? = some x.data.toList := by
        unfold sortW at hx
        rw [List.getElem?_map] at hx
        cases hq : ((xs.map fun s => s.data.toList).mergeSort fun x y => decide (x ≤ y))[i]? with
        | none => rw [hq] at hx; simp at hx
        | some l => rw [hq] at hx; simp at hx; rw [← hx]
      have hi3 : i < ((xs.map fun s => s.data.toList).mergeSort fun x y => decide (x ≤ y)).length := (List.getElem?_eq_some_iff.1 hx2).1
      unfold Go.Sort.putCells
      rw [Nat.mul_one, Nat.add_zero, Array.getElem?_mapIdx, Array.getElem?_eq_getElem hi2]
      simp only [Option.map_some]
      rw [if_pos ⟨Nat.zero_le _, by simpa using hi3⟩]
      have e : (((xs.map fun s => s.data.toList).mergeSort fun x y => decide (x ≤ y)).toArray)[i - 0]! = x.data.toList := by
        rw [Nat.sub_zero, getElem!_pos _ i (by simpa using hi3)]
        have := (List.getElem?_eq_some_iff.1 hx2).2
        simpa using this
      rw [e]
    · refine ⟨rfl, rfl, rfl, by simp, fun b hb ho => ?_⟩
      show (w.heap.modify g _ ++ os)[b]? = _
      rw [Array.getElem?_append_left (by simpa using hb), Array.getElem?_modify, if_neg (by omega)]

set_option maxRecDepth 100000 in
set_option maxHeartbeats 4000000 in
theorem shared_any (a : Hearing) (pa : Value) (lo hi : Nat) (b : Hearing) (pb : Value) (lo2 hi2 : Nat) (w : World) (ha : RdF encStr 1 w lo hi pa a.people) (hh : hi ≤ w.heap.size) (hsa : a.small) (hb : RdF encStr 1 w lo2 hi2 pb b.people) (hh2 : hi2 ≤ w.heap.size) (hsb : b.small) :
    Calls Tryz.prog 85 #[.agg #[.string a.code, .int .i64 a.len, pa, .int .i64 a.last], .agg #[.string b.code, .int .i64 b.len, pb, .int .i64 b.last]] w fun e w' => RetV (fun v' w' => RdW encStr 1 9 w' w.heap.size w'.heap.size v' (sortW (sharedL a b))) w e w' := by
  have hla := hsa.len0
  have hlb := hsb.len0
  obtain ⟨A, c, rfl, hc⟩ := ha.form
  have kA := (Blk.newAt (w := w) (n := w.heap.size) (t := 56) (cs := #[.string a.code, .int .i64 a.len, .slice A a.people.length c, .int .i64 a.last]) rfl).alloc (.cells #[.string b.code, .int .i64 b.len, pb, .int .i64 b.last] 56)
  have kB := Blk.newAt (w := (w.alloc (.cells #[.string a.code, .int .i64 a.len, .slice A a.people.length c, .int .i64 a.last] 56))) (n := w.heap.size + 1) (t := 56) (cs := #[.string b.code, .int .i64 b.len, pb, .int .i64 b.last]) (by simp)
  have hbk : Below w.heap.size w ((w.alloc (.cells #[.string a.code, .int .i64 a.len, .slice A a.people.length c, .int .i64 a.last] 56)).alloc (.cells #[.string b.code, .int .i64 b.len, pb, .int .i64 b.last] 56)) := ((Below.refl _ _).alloc (Nat.le_refl _) _).alloc (by simp) _
  have hzk : ((w.alloc (.cells #[.string a.code, .int .i64 a.len, .slice A a.people.length c, .int .i64 a.last] 56)).alloc (.cells #[.string b.code, .int .i64 b.len, pb, .int .i64 b.last] 56)).heap.size = w.heap.size + 2 := by simp
  replace ha := ha.below hbk hh
  replace hb := hb.below hbk hh2
  go_enter Tryz.func85, Tryz.ntmps85
  go_wp2
  generalize ((w.alloc (.cells #[.string a.code, .int .i64 a.len, .slice A a.people.length c, .int .i64 a.last] 56)).alloc (.cells #[.string b.code, .int .i64 b.len, pb, .int .i64 b.last] 56)) = W0 at *
  go_loopw [5, 7, 12] (fun v _ i wr => ∃ k : Nat, k ≤ a.people.length ∧ i = .int .i64 k ∧ OwnL encStr 1 9 wr W0.heap.size v ((a.people.take k).filter fun p => hasW b.people p) ∧ Below W0.heap.size W0 wr) (fun _ _ i _ => a.people.length - (intOf i).toNat)
  case atStart => exact ⟨0, Nat.zero_le _, rfl, OwnL.emptyAt (w := W0) hzk.symm (Nat.le_refl _), (Below.refl _ _).alloc (Nat.le_refl _) _⟩
  case round =>
    obtain ⟨k, hk, rfl, hown, hbl⟩ := hrel
    have z0 := hbl.size
    have kB2 := kB.below hbl (by omega)
    by_cases hlt : k < a.people.length
    · obtain ⟨s, bb, off, HS, rfl, hbw, c0⟩ := RdF.str ha hbl (by omega) hlt
      obtain ⟨q0, q1, q2, q3⟩ := kB2.c4
      have hb2 := hb.below hbl (by omega)
      have hlen : ((a.people.take k).filter fun p => hasW b.people p).length ≤ k := Nat.le_trans (List.length_filter_le _ _) (by simp; omega)
      cases hf : hasW b.people s with
      | true =>
        have HN := Lib.hid (filter_yes (p := fun p => hasW b.people p) HS.out hf)
        go_wp2_with (first | (go_at_call 76; refine (hasStr_any _ b.people _ _ s _ hb2 (by omega) hlb).mono ?_; rintro e w' ⟨rfl, rfl⟩; rw [hf]) | (at_builtin; refine wpList_push (enc := encStr) _ _ (by first | rfl | simp) rfl (.tmp 20) (.tmp 22) 54 rfl W0.heap.size 9 _ (.string ByteArray.empty) 1 16 Tryz.underlying54 (by kernel_rfl) rfl (by omega) _ ((a.people.take k).filter fun p => hasW b.people p) s _ rfl rfl (by intro u hu; simp [encStr] at hu; subst hu; rfl) rfl rfl hown (by omega) (by omega) (by omega) ?_; intro v2 w3 hown3 hg3 hk3))
        go_roundw
        case rel => exact ⟨k + 1, by omega, by go_num, (by rw [HN.out]; exact hown3), hk3 _ _ (Nat.le_refl _) hbl⟩
        case measure => simp [intOf]; omega
      | false =>
        have HN := Lib.hid (filter_no (p := fun p => hasW b.people p) HS.out hf)
        go_wp2_with (first | (go_at_call 76; refine (hasStr_any _ b.people _ _ s _ hb2 (by omega) hlb).mono ?_; rintro e w' ⟨rfl, rfl⟩; rw [hf]))
        go_roundw
        case rel => exact ⟨k + 1, by omega, by go_num, (by rw [HN.out]; exact hown), hbl⟩
        case measure => simp [intOf]; omega
    · have e : k = a.people.length := by omega
      have hown' : OwnL encStr 1 9 wr W0.heap.size u5 (sharedL a b) := by
        have h := hown
        rw [e, List.take_length] at h
        exact h
      have hrw := hown'.rdw (fun _ => rfl)
      have hll := sharedL_len a b
      clear e hown'
      go_wp2_with fail
      refine (sortS_any u5 (sharedL a b) _ _ _ hrw (Nat.le_refl _) (by omega)).mono ?_
      rintro e w1 ⟨rfl, hr1, hc1⟩
      have z1 := hc1.size
      go_wp2_with fail
      go_ret
      exact ⟨_, rfl, hr1.wide (by omega) z1, (hbk.trans (hbl.mono (by omega))).trans (hc1.below (by omega) (by omega))⟩

theorem encStr_one (x : ByteArray) : ∀ u ∈ encStr x, u.oneCell' = true := by
  intro u hu
  simp [encStr] at hu
  subst hu
  rfl
def NonNil (v : Value) : Prop := ∃ a n c, v = .slice (some a) n c
theorem RdW.nonNil {α : Type} {enc : α → List Value} {sz : Nat} {t : TypeId} {w : World} {lo hi : Nat} {v : Value} {xs : List α} (h : RdW enc sz t w lo hi v xs) (hl : 0 < xs.length) : NonNil v := by
  obtain ⟨A, c, hv, hc, hA⟩ := h
  obtain ⟨g, arr, h1, _⟩ := hA hl
  exact ⟨_, _, _, by rw [hv, h1]⟩
set_option maxRecDepth 100000 in
set_option maxHeartbeats 4000000 in
theorem l13Insert_any (v : Value) (xs : List ByteArray) (lo hi : Nat) (s : ByteArray) (w : World) (h : RdW encStr 1 9 w lo hi v xs) (hnn : NonNil v) (hh : hi ≤ w.heap.size) (hlo : lo ≤ w.heap.size) (hm : xs.length ≤ 1048576) :
    Calls Tryz.prog 86 #[v, .string s] w fun e w' => RetV (fun v' w' => RdW encStr 1 9 w' lo w'.heap.size v' (insW s xs) ∧ NonNil v') w e w' := by
  have h0 := h
  have hr := h.rd
  obtain ⟨A, c, rfl, hc⟩ := h.form
  clear h
  obtain ⟨ad, n1, n2, hnv⟩ := hnn
  injection hnv with e1 e2 e3
  clear e2 e3
  subst e1
  have hpl := posW_le s xs
  have HB := Lib.hid (fun (k : Nat) (x : ByteArray) => posW_before (s := s) (xs := xs) (k := k) (x := x))
  have HA := Lib.hid (fun (x : ByteArray) => posW_at (s := s) (xs := xs) (x := x))
  have HD := Lib.hid (fun (x : ByteArray) => insW_dup (s := s) (xs := xs) (x := x))
  have HN := Lib.hid (insW_new (s := s) (xs := xs))
  generalize posW s xs = p at *
  go_enter Tryz.func86, Tryz.ntmps86
  go_wp2
  go_loop [5] (fun i => ∃ k : Nat, k ≤ p ∧ i = .int .i64 k) (fun i => p - (intOf i).toNat)
  case atStart => exact ⟨0, Nat.zero_le _, rfl⟩
  case round =>
    obtain ⟨k, hk, rfl⟩ := hrel
    by_cases hkp : k < p
    · obtain ⟨x, b, off, HS, hA1, hbw, c0⟩ := RdF.str hr (Below.refl _ w) hh (show k < xs.length by omega)
      injection hA1 with hA1
      subst hA1
      have hlt : Op.bytesLess x.toList s.toList = true := HB.out k x hkp HS.out
      have hkl : k < xs.length := by omega
      go_wp2_with fail
      go_round
      case rel => exact ⟨k + 1, by omega, by go_num⟩
      case measure => simp [intOf]; omega
    · obtain rfl : p = k := by omega
      by_cases hkl : p < xs.length
      · obtain ⟨x, b, off, HS, hA1, hbw, c0⟩ := RdF.str hr (Below.refl _ w) hh hkl
        injection hA1 with hA1
        subst hA1
        have hlt : Op.bytesLess x.toList s.toList = false := HA.out x HS.out
        cases he : (x.toList == s.toList) with
        | true =>
          have HX := Lib.hid (HD.out x HS.out he)
          go_wp2_with fail
          go_ret
          rw [HX.out]
          exact ⟨_, rfl, ⟨h0.wide (Nat.le_refl _) hh, _, _, _, rfl⟩, Below.refl _ _⟩
        | false =>
          have HX := Lib.hid (HN.out (fun y hy => by have e : x = y := by { have := HS.out; rw [hy] at this; injection this with this; exact this.symm }; rw [← e]; exact he))
          have ht := hr.pre (k := p) (by omega)
          have hpc : (p : Int) ≤ (c : Int) := by omega
          have hpl' : (p : Int) ≤ (xs.length : Int) := by omega
          have hpl2 : p ≤ xs.length := by omega
          have hp0 : (0 : Int) ≤ (p : Int) := by omega
          have hlc : (xs.length : Int) ≤ (c : Int) := by omega
          have hdr : RdF encStr 1 w lo hi (.slice (some ⟨b, off + p, none⟩) (xs.length - p) (c - p)) (xs.drop p) := by simpa using hr.suf (k := p) hpl2 hkl
          have hcp : ¬ c = p := by omega
          have hle1 : (xs.take p).length ≤ 1048576 := by simp; omega
          have hle2 : (xs.drop p).length ≤ 1048576 := by simp; omega
          go_wp2_with fail
          go_region_held3 (fun w' => True) (trivial)
            (first
              | (rw [if_pos (by rfl)]; refine wp_app (enc := encStr) _ (.tmp 33) (.tmp 36) _ (by rfl) w.heap.size 9 (.string ByteArray.empty) 1 16 Tryz.underlying54 (by kernel_rfl) rfl (by omega) (fun _ => rfl) encStr_one (by omega) _ _ [] (xs.take p) lo hi (by rfl) (by rfl) (by first | exact OwnL.empty _ _ (by (first | omega | (simp; omega) | (simp; done))) | exact (OwnL.empty _ _ (by (first | omega | (simp; omega) | (simp; done)))).alloc _ | exact OwnL.emptyAt (w := w.alloc (.cells #[.string s] 9)) (n := w.heap.size + 1) (by simp) (by (first | omega | (simp; omega) | (simp; done)))) (RdF.below ht (B := w.heap.size) (by (repeat (first | with_reducible assumption | with_reducible exact Below.refl _ _ | with_reducible refine Below.setCell ?_ ?_ _ | with_reducible refine Below.alloc ?_ ?_ _ | with_reducible refine Below.drew ?_ | with_reducible refine below_drewN ?_ _ | with_reducible refine Below.step (by with_reducible assumption) ?_ ?_ | omega | (simp <;> omega) | (simp; done)))) (by omega)) (by (first | omega | (simp; omega) | (simp; done))) (by (first | omega | (simp; omega) | (simp; done))) ?_; intro v4 w4 hown4 hg4 hk4; have b34 : Below w.heap.size w w4 := hk4 _ _ (Nat.le_refl _) (by (repeat (first | with_reducible assumption | with_reducible exact Below.refl _ _ | with_reducible refine Below.setCell ?_ ?_ _ | with_reducible refine Below.alloc ?_ ?_ _ | with_reducible refine Below.drew ?_ | with_reducible refine below_drewN ?_ _ | with_reducible refine Below.step (by with_reducible assumption) ?_ ?_ | omega | (simp <;> omega) | (simp; done)))); have z4 := b34.size; have hs4 := hg4.size)
              | (rw [if_pos (by rfl)]; refine wp_app (enc := encStr) _ (.tmp 37) (.tmp 39) _ (by rfl) w.heap.size 9 (.string ByteArray.empty) 1 16 Tryz.underlying54 (by kernel_rfl) rfl (by omega) (fun _ => rfl) encStr_one (by omega) _ _ _ [s] 0 (w4.heap.size + 1) (by rfl) (by rfl) (by first | exact hown4 | exact hown4.alloc _) (by first | exact RdF.one (enc := encStr) (sz := 1) (x := s) (lo := 0) (hi := w4.heap.size + 1) (b := w4.heap.size) (Blk.new w4 9 #[.string s]) rfl (Nat.zero_le _) (Nat.lt_succ_self _) | exact RdF.one (enc := encStr) (sz := 1) (x := s) (lo := 0) (hi := w4.heap.size + 1) (b := w.heap.size + 1) (Blk.grown hg4 (Blk.drew (Blk.newAt (w := w.alloc (.cells #[] 9)) (cs := #[.string s]) (by simp))) (fun h => by have h2 : (some (w.heap.size + 1) : Option Nat) = some w.heap.size := h; simp at h2)) rfl (Nat.zero_le _) (by simp at hs4; omega) | exact RdF.one (enc := encStr) (sz := 1) (x := s) (lo := 0) (hi := w4.heap.size + 1) (b := w.heap.size) (Blk.grown hg4 (Blk.drew (Blk.alloc (Blk.new w 9 #[.string s]) _)) (fun h => by have h2 : (some w.heap.size : Option Nat) = some (w.heap.size + 1) := h; simp at h2)) rfl (Nat.zero_le _) (by simp at hs4; omega)) (by (first | omega | (simp; omega) | (simp; done))) (by (first | omega | (simp; omega) | (simp; done))) ?_; intro v5 w5 hown5 hg5 hk5; have b35 : Below w.heap.size w w5 := hk5 _ _ (Nat.le_refl _) (by (repeat (first | with_reducible assumption | with_reducible exact Below.refl _ _ | with_reducible refine Below.setCell ?_ ?_ _ | with_reducible refine Below.alloc ?_ ?_ _ | with_reducible refine Below.drew ?_ | with_reducible refine below_drewN ?_ _ | with_reducible refine Below.step (by with_reducible assumption) ?_ ?_ | omega | (simp <;> omega) | (simp; done)))); have z5 := b35.size)
              | (rw [if_pos (by rfl)]; refine wp_app (enc := encStr) _ (.tmp 40) (.tmp 43) _ (by rfl) w.heap.size 9 (.string ByteArray.empty) 1 16 Tryz.underlying54 (by kernel_rfl) rfl (by omega) (fun _ => rfl) encStr_one (by omega) _ _ _ (xs.drop p) lo hi (by rfl) (by rfl) hown5 (RdF.below hdr (B := w.heap.size) b35 (by omega)) (by (first | omega | (simp; omega) | (simp; done))) (by first | (simp; omega) | (simp; done) | omega) ?_; intro v6 w6 hown6 hg6 hk6; have b36 : Below w.heap.size w w6 := hk6 _ _ (Nat.le_refl _) b35))
          all_goals
            have z6 := b36.size
            have hrw := hown6.rdw (fun _ => rfl)
            have HR := Lib.hid (show ([] ++ xs.take p ++ [s]) ++ xs.drop p = insW s xs by rw [HX.out]; simp)
            rw [HR.out] at hrw
            have hip : 0 < (insW s xs).length := by { rw [← HR.out]; simp only [List.length_append, List.length_singleton]; omega }
            have hnn := hrw.nonNil hip
            go_wp2_with fail
            go_ret
            exact ⟨_, rfl, ⟨hrw.wide hlo (Nat.le_refl _), hnn⟩, b36⟩
      · have HX := Lib.hid (HN.out (fun y hy => by have := (List.getElem?_eq_some_iff.1 hy).1; omega))
        have ht := hr.pre (k := p) (by omega)
        have hpl' : (p : Int) ≤ (xs.length : Int) := by omega
        have hp0 : (0 : Int) ≤ (p : Int) := by omega
        have hlc : (xs.length : Int) ≤ (c : Int) := by omega
        have hpc : (p : Int) ≤ (c : Int) := by omega
        have hle1 : (xs.take p).length ≤ 1048576 := by simp; omega
        have hle2 : (xs.drop p).length ≤ 1048576 := by simp; omega
        have hdn : xs.drop p = [] := List.drop_eq_nil_of_le (by omega)
        have HDN := Lib.hid hdn
        clear hdn
        have hpn : xs.length = p := by omega
        have hdr : ∀ (A' : Option Addr) (n' c' : Nat), n' = xs.length - p → RdF encStr 1 w lo hi (.slice A' n' c') (xs.drop p) := fun A' n' c' hn' => ⟨A', c', by rw [List.length_drop, hn'], by rw [List.length_drop]; omega, fun h => by rw [List.length_drop] at h; omega⟩
        obtain ⟨ab, ao, ap⟩ := ad
        subst hpn
        by_cases hcap : c = xs.length
        · subst hcap
          go_wp2_with fail
          go_region_held3 (fun w' => True) (trivial)
            (first
              | (rw [if_pos (by rfl)]; refine wp_app (enc := encStr) _ (.tmp 33) (.tmp 36) _ (by rfl) w.heap.size 9 (.string ByteArray.empty) 1 16 Tryz.underlying54 (by kernel_rfl) rfl (by omega) (fun _ => rfl) encStr_one (by omega) _ _ [] (xs.take xs.length) lo hi (by rfl) (by rfl) (by first | exact OwnL.empty _ _ (by (first | omega | (simp; omega) | (simp; done))) | exact (OwnL.empty _ _ (by (first | omega | (simp; omega) | (simp; done)))).alloc _ | exact OwnL.emptyAt (w := w.alloc (.cells #[.string s] 9)) (n := w.heap.size + 1) (by simp) (by (first | omega | (simp; omega) | (simp; done)))) (RdF.below ht (B := w.heap.size) (by (repeat (first | with_reducible assumption | with_reducible exact Below.refl _ _ | with_reducible refine Below.setCell ?_ ?_ _ | with_reducible refine Below.alloc ?_ ?_ _ | with_reducible refine Below.drew ?_ | with_reducible refine below_drewN ?_ _ | with_reducible refine Below.step (by with_reducible assumption) ?_ ?_ | omega | (simp <;> omega) | (simp; done)))) (by omega)) (by (first | omega | (simp; omega) | (simp; done))) (by (first | omega | (simp; omega) | (simp; done))) ?_; intro v4 w4 hown4 hg4 hk4; have b34 : Below w.heap.size w w4 := hk4 _ _ (Nat.le_refl _) (by (repeat (first | with_reducible assumption | with_reducible exact Below.refl _ _ | with_reducible refine Below.setCell ?_ ?_ _ | with_reducible refine Below.alloc ?_ ?_ _ | with_reducible refine Below.drew ?_ | with_reducible refine below_drewN ?_ _ | with_reducible refine Below.step (by with_reducible assumption) ?_ ?_ | omega | (simp <;> omega) | (simp; done)))); have z4 := b34.size; have hs4 := hg4.size)
              | (rw [if_pos (by rfl)]; refine wp_app (enc := encStr) _ (.tmp 37) (.tmp 39) _ (by rfl) w.heap.size 9 (.string ByteArray.empty) 1 16 Tryz.underlying54 (by kernel_rfl) rfl (by omega) (fun _ => rfl) encStr_one (by omega) _ _ _ [s] 0 (w4.heap.size + 1) (by rfl) (by rfl) (by first | exact hown4 | exact hown4.alloc _) (by first | exact RdF.one (enc := encStr) (sz := 1) (x := s) (lo := 0) (hi := w4.heap.size + 1) (b := w4.heap.size) (Blk.new w4 9 #[.string s]) rfl (Nat.zero_le _) (Nat.lt_succ_self _) | exact RdF.one (enc := encStr) (sz := 1) (x := s) (lo := 0) (hi := w4.heap.size + 1) (b := w.heap.size + 1) (Blk.grown hg4 (Blk.drew (Blk.newAt (w := w.alloc (.cells #[] 9)) (cs := #[.string s]) (by simp))) (fun h => by have h2 : (some (w.heap.size + 1) : Option Nat) = some w.heap.size := h; simp at h2)) rfl (Nat.zero_le _) (by simp at hs4; omega) | exact RdF.one (enc := encStr) (sz := 1) (x := s) (lo := 0) (hi := w4.heap.size + 1) (b := w.heap.size) (Blk.grown hg4 (Blk.drew (Blk.alloc (Blk.new w 9 #[.string s]) _)) (fun h => by have h2 : (some w.heap.size : Option Nat) = some (w.heap.size + 1) := h; simp at h2)) rfl (Nat.zero_le _) (by simp at hs4; omega)) (by (first | omega | (simp; omega) | (simp; done))) (by (first | omega | (simp; omega) | (simp; done))) ?_; intro v5 w5 hown5 hg5 hk5; have b35 : Below w.heap.size w w5 := hk5 _ _ (Nat.le_refl _) (by (repeat (first | with_reducible assumption | with_reducible exact Below.refl _ _ | with_reducible refine Below.setCell ?_ ?_ _ | with_reducible refine Below.alloc ?_ ?_ _ | with_reducible refine Below.drew ?_ | with_reducible refine below_drewN ?_ _ | with_reducible refine Below.step (by with_reducible assumption) ?_ ?_ | omega | (simp <;> omega) | (simp; done)))); have z5 := b35.size)
              | (rw [if_pos (by rfl)]; refine wp_app (enc := encStr) _ (.tmp 40) (.tmp 43) _ (by rfl) w.heap.size 9 (.string ByteArray.empty) 1 16 Tryz.underlying54 (by kernel_rfl) rfl (by omega) (fun _ => rfl) encStr_one (by omega) _ _ _ (xs.drop xs.length) lo hi (by rfl) (by rfl) hown5 (RdF.below (hdr _ _ _ (by first | rfl | (simp; done) | omega)) (B := w.heap.size) b35 (by omega)) (by (first | omega | (simp; omega) | (simp; done))) (by first | (simp; omega) | (simp; done) | omega) ?_; intro v6 w6 hown6 hg6 hk6; have b36 : Below w.heap.size w w6 := hk6 _ _ (Nat.le_refl _) b35))
          all_goals
            have z6 := b36.size
            have hrw := hown6.rdw (fun _ => rfl)
            have HR := Lib.hid (show ([] ++ xs.take xs.length ++ [s]) ++ xs.drop xs.length = insW s xs by rw [HX.out]; simp)
            rw [HR.out] at hrw
            have hip : 0 < (insW s xs).length := by { rw [← HR.out]; simp only [List.length_append, List.length_singleton]; omega }
            have hnn := hrw.nonNil hip
            go_wp2_with fail
            go_ret
            exact ⟨_, rfl, ⟨hrw.wide hlo (Nat.le_refl _), hnn⟩, b36⟩
        · go_wp2_with fail
          go_region_held3 (fun w' => True) (trivial)
            (first
              | (rw [if_pos (by rfl)]; refine wp_app (enc := encStr) _ (.tmp 33) (.tmp 36) _ (by rfl) w.heap.size 9 (.string ByteArray.empty) 1 16 Tryz.underlying54 (by kernel_rfl) rfl (by omega) (fun _ => rfl) encStr_one (by omega) _ _ [] (xs.take xs.length) lo hi (by rfl) (by rfl) (by first | exact OwnL.empty _ _ (by (first | omega | (simp; omega) | (simp; done))) | exact (OwnL.empty _ _ (by (first | omega | (simp; omega) | (simp; done)))).alloc _ | exact OwnL.emptyAt (w := w.alloc (.cells #[.string s] 9)) (n := w.heap.size + 1) (by simp) (by (first | omega | (simp; omega) | (simp; done)))) (RdF.below ht (B := w.heap.size) (by (repeat (first | with_reducible assumption | with_reducible exact Below.refl _ _ | with_reducible refine Below.setCell ?_ ?_ _ | with_reducible refine Below.alloc ?_ ?_ _ | with_reducible refine Below.drew ?_ | with_reducible refine below_drewN ?_ _ | with_reducible refine Below.step (by with_reducible assumption) ?_ ?_ | omega | (simp <;> omega) | (simp; done)))) (by omega)) (by (first | omega | (simp; omega) | (simp; done))) (by (first | omega | (simp; omega) | (simp; done))) ?_; intro v4 w4 hown4 hg4 hk4; have b34 : Below w.heap.size w w4 := hk4 _ _ (Nat.le_refl _) (by (repeat (first | with_reducible assumption | with_reducible exact Below.refl _ _ | with_reducible refine Below.setCell ?_ ?_ _ | with_reducible refine Below.alloc ?_ ?_ _ | with_reducible refine Below.drew ?_ | with_reducible refine below_drewN ?_ _ | with_reducible refine Below.step (by with_reducible assumption) ?_ ?_ | omega | (simp <;> omega) | (simp; done)))); have z4 := b34.size; have hs4 := hg4.size)
              | (rw [if_pos (by rfl)]; refine wp_app (enc := encStr) _ (.tmp 37) (.tmp 39) _ (by rfl) w.heap.size 9 (.string ByteArray.empty) 1 16 Tryz.underlying54 (by kernel_rfl) rfl (by omega) (fun _ => rfl) encStr_one (by omega) _ _ _ [s] 0 (w4.heap.size + 1) (by rfl) (by rfl) (by first | exact hown4 | exact hown4.alloc _) (by first | exact RdF.one (enc := encStr) (sz := 1) (x := s) (lo := 0) (hi := w4.heap.size + 1) (b := w4.heap.size) (Blk.new w4 9 #[.string s]) rfl (Nat.zero_le _) (Nat.lt_succ_self _) | exact RdF.one (enc := encStr) (sz := 1) (x := s) (lo := 0) (hi := w4.heap.size + 1) (b := w.heap.size + 1) (Blk.grown hg4 (Blk.drew (Blk.newAt (w := w.alloc (.cells #[] 9)) (cs := #[.string s]) (by simp))) (fun h => by have h2 : (some (w.heap.size + 1) : Option Nat) = some w.heap.size := h; simp at h2)) rfl (Nat.zero_le _) (by simp at hs4; omega) | exact RdF.one (enc := encStr) (sz := 1) (x := s) (lo := 0) (hi := w4.heap.size + 1) (b := w.heap.size) (Blk.grown hg4 (Blk.drew (Blk.alloc (Blk.new w 9 #[.string s]) _)) (fun h => by have h2 : (some w.heap.size : Option Nat) = some (w.heap.size + 1) := h; simp at h2)) rfl (Nat.zero_le _) (by simp at hs4; omega)) (by (first | omega | (simp; omega) | (simp; done))) (by (first | omega | (simp; omega) | (simp; done))) ?_; intro v5 w5 hown5 hg5 hk5; have b35 : Below w.heap.size w w5 := hk5 _ _ (Nat.le_refl _) (by (repeat (first | with_reducible assumption | with_reducible exact Below.refl _ _ | with_reducible refine Below.setCell ?_ ?_ _ | with_reducible refine Below.alloc ?_ ?_ _ | with_reducible refine Below.drew ?_ | with_reducible refine below_drewN ?_ _ | with_reducible refine Below.step (by with_reducible assumption) ?_ ?_ | omega | (simp <;> omega) | (simp; done)))); have z5 := b35.size)
              | (rw [if_pos (by rfl)]; refine wp_app (enc := encStr) _ (.tmp 40) (.tmp 43) _ (by rfl) w.heap.size 9 (.string ByteArray.empty) 1 16 Tryz.underlying54 (by kernel_rfl) rfl (by omega) (fun _ => rfl) encStr_one (by omega) _ _ _ (xs.drop xs.length) lo hi (by rfl) (by rfl) hown5 (RdF.below (hdr _ _ _ (by first | rfl | (simp; done) | omega)) (B := w.heap.size) b35 (by omega)) (by (first | omega | (simp; omega) | (simp; done))) (by first | (simp; omega) | (simp; done) | omega) ?_; intro v6 w6 hown6 hg6 hk6; have b36 : Below w.heap.size w w6 := hk6 _ _ (Nat.le_refl _) b35))
          all_goals
            have z6 := b36.size
            have hrw := hown6.rdw (fun _ => rfl)
            have HR := Lib.hid (show ([] ++ xs.take xs.length ++ [s]) ++ xs.drop xs.length = insW s xs by rw [HX.out]; simp)
            rw [HR.out] at hrw
            have hip : 0 < (insW s xs).length := by { rw [← HR.out]; simp only [List.length_append, List.length_singleton]; omega }
            have hnn := hrw.nonNil hip
            go_wp2_with fail
            go_ret
            exact ⟨_, rfl, ⟨hrw.wide hlo (Nat.le_refl _), hnn⟩, b36⟩
end Go.Proofs.YtmgdkblleljdaaaGreat
