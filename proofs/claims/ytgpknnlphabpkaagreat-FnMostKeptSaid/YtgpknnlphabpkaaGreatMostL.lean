/- The most demands that are kept do not contradict each other, and free ones are among them: returns true for all arguments. No conditions. -/
import Derived.Test.YtgpknnlphabpkaaGreatSrcL
import Derived.Test.YtgpknnlphabpkaaGreatConfW
import Derived.Test.YtgpknnlphabpkaaGreatDrawDe
import Derived.Test.YtgpknnlphabpkaaGreatOpenB
import Derived.Test.YtgpknnlphabpkaaGreatConfX
import Derived.Test.YtgpknnlphabpkaaGreatMostW
import Derived.Test.YtgpknnlphabpkaaGreatFreeW
import Derived.Test.YtgpknnlphabpkaaGreatKeptX
namespace Go.Proofs.YtgpknnlphabpkaaGreat
open Go.RowKit
set_option linter.unusedVariables false

set_option maxRecDepth 100000 in
set_option maxHeartbeats 1000000 in
theorem big_any (A : Option Addr) (c n : Nat) (w : World) : Calls Tryz.prog 11 #[.slice A n c] w fun e w' => e = .returned (.bool (decide ((4096 : Int) < (n : Int)))) ∧ Below w.heap.size w w' := by
  by_cases hb : (4096 : Int) < (n : Int)
  · go_enter Tryz.func11, Tryz.ntmps11
    go_wp2_with fail
    go_ret
    exact ⟨ret_bool (by simp; omega), Below.refl _ _⟩
  · go_enter Tryz.func11, Tryz.ntmps11
    go_wp2_with fail
    go_ret
    exact ⟨ret_bool (by simp; omega), Below.refl _ _⟩
set_option maxRecDepth 100000 in
set_option maxHeartbeats 1000000 in
theorem likeInts_any (v v' : Value) (xs : List Int) (lo hi lo' hi' : Nat) (w : World) (h : RdF encInt 1 w lo hi v xs) (hh : hi ≤ w.heap.size) (h' : RdF encInt 1 w lo' hi' v' xs) (hh' : hi' ≤ w.heap.size) (hm : xs.length ≤ 1048576) :
    Calls Tryz.prog 20 #[v, v'] w fun e w' => e = .returned (.bool true) ∧ Below w.heap.size w w' := by
  obtain ⟨A, c, rfl, hc⟩ := h.form
  obtain ⟨A', c', rfl, hc'⟩ := h'.form
  go_enter Tryz.func20, Tryz.ntmps20
  go_wp2_with fail
  go_loopw [5] (fun i wr => ∃ k : Nat, k ≤ xs.length ∧ i = .int .i64 k ∧ Below w.heap.size w wr) (fun i _ => xs.length - (intOf i).toNat)
  case atStart => exact ⟨0, Nat.zero_le _, rfl, Below.refl _ _⟩
  case round =>
    obtain ⟨k, hk, rfl, hbel⟩ := hrel
    have z0 := hbel.size
    by_cases hlt : k < xs.length
    · have hki : (k : Int) < (xs.length : Int) := by omega
      obtain ⟨x, b, off, HS, rfl, -, hbw, hcell⟩ := RdF.get h hbel hh hlt
      obtain ⟨x', b', off', HS', rfl, -, hbw', hcell'⟩ := RdF.get h' hbel hh' hlt
      obtain rfl : x' = x := by have := HS'.out; rw [HS.out] at this; injection this with this; exact this.symm
      have x1 : wr.cell? ⟨b, off + k, none⟩ = some (.int .i64 x') := by simpa [encInt] using hcell 0 _ rfl
      have x2 : wr.cell? ⟨b', off' + k, none⟩ = some (.int .i64 x') := by simpa [encInt] using hcell' 0 _ rfl
      clear hcell hcell'
      go_wp2_with fail
      go_quiet (fail)
      go_wp2_with fail
      go_roundw
      case rel => exact ⟨k + 1, by omega, by go_num, by (repeat (first | with_reducible assumption | with_reducible exact Below.refl _ _ | with_reducible refine Below.setCell ?_ ?_ _ | with_reducible refine Below.alloc ?_ ?_ _ | with_reducible refine Below.drew ?_ | with_reducible refine below_drewN ?_ _ | with_reducible refine Below.step (by with_reducible assumption) ?_ ?_ | omega | (simp <;> omega) | (simp; done)))⟩
      case measure => simp [intOf]; omega
    · go_wp2_with fail
      go_ret
      exact ⟨rfl, hbel⟩
set_option maxRecDepth 100000 in
set_option maxHeartbeats 1000000 in
theorem hasIntL_any (v : Value) (xs : List Int) (lo hi : Nat) (z : Int) (w : World) (h : RdF encInt 1 w lo hi v xs) (hh : hi ≤ w.heap.size) (hm : xs.length ≤ 1048576) :
    Calls Tryz.prog 22 #[v, .int .i64 z] w fun e w' => e = .returned (.bool (decide (z ∈ xs))) ∧ Below w.heap.size w w' := by
  obtain ⟨A, c, rfl, hc⟩ := h.form
  go_enter Tryz.func22, Tryz.ntmps22
  go_wp2_with fail
  go_loopw [5] (fun i wr => ∃ k : Nat, k ≤ xs.length ∧ i = .int .i64 k ∧ Hid (z ∉ xs.take k) ∧ Below w.heap.size w wr) (fun i _ => xs.length - (intOf i).toNat)
  case atStart => exact ⟨0, Nat.zero_le _, rfl, by show z ∉ xs.take 0; simp, Below.refl _ _⟩
  case round =>
    obtain ⟨k, hk, rfl, HZ, hbel⟩ := hrel
    have z0 := hbel.size
    by_cases hlt : k < xs.length
    · have hki : (k : Int) < (xs.length : Int) := by omega
      obtain ⟨x, b, off, HS, rfl, -, hbw, hcell⟩ := RdF.get h hbel hh hlt
      have x1 : wr.cell? ⟨b, off + k, none⟩ = some (.int .i64 x) := by simpa [encInt] using hcell 0 _ rfl
      clear hcell
      cases hx : (x == z) with
      | true =>
        have HR := Lib.hid (show decide (z ∈ xs) = true by
          have e : x = z := by simpa using hx
          rw [← e]
          simpa using List.mem_of_getElem? HS.out)
        go_wp2_with fail
        go_ret
        exact ⟨ret_bool (by rw [HR.out]), hbel⟩
      | false =>
        have HN : Hid (z ∉ xs.take (k + 1)) := by
          have e : x ≠ z := by simpa using hx
          show z ∉ xs.take (k + 1)
          rw [List.take_add_one, HS.out]
          have := HZ.out
          simp [this, e.symm]
        go_wp2_with fail
        go_roundw
        case rel => exact ⟨k + 1, by omega, by go_num, HN, hbel⟩
        case measure => simp [intOf]; omega
    · have HR := Lib.hid (show decide (z ∈ xs) = false by
        have h1 := HZ.out
        rw [List.take_of_length_le (by omega)] at h1
        simpa using h1)
      go_wp2_with fail
      go_ret
      exact ⟨ret_bool (by rw [HR.out]), hbel⟩
end Go.Proofs.YtgpknnlphabpkaaGreat
namespace Go.Proofs.YtgpknnlphabpkaaGreat
open Go.RowKit
set_option linter.unusedVariables false

theorem Ris.getLast {n : Nat} : ∀ {f : Nat} {t : List Int} {l : Int}, Ris n f t → t.getLast? = some l → (f : Int) ≤ l ∧ l < n
  | f, t, l, h, hl => by
    obtain ⟨i, e, h1, h2⟩ := h.mem l (List.mem_of_getLast? hl)
    omega
theorem Ris.incr_from {n : Nat} : ∀ {t : List Int} {f : Nat} {s : List Int}, Ris n f t → (∀ l, s.getLast? = some l → l < (f : Int)) → ∀ k x, t[k]? = some x → incrP 0 ((n : Int) - 1) (s ++ t.take k) x = true
  | [], f, s, _, _, k, x, hx => by simp at hx
  | a :: t, f, s, ⟨i, h0, h1, h2, h3⟩, hs, k, x, hx => by
    cases k with
    | zero =>
      simp at hx
      subst hx
      rw [List.take_zero, List.append_nil]
      unfold incrP
      rw [inR_true (by omega) (by omega), Bool.true_and]
      cases hl : s.getLast? with
      | none => rfl
      | some l => have := hs l hl; exact decide_eq_true (by omega)
    | succ k =>
      have e : s ++ (a :: t).take (k + 1) = (s ++ [a]) ++ t.take k := by simp
      rw [e]
      refine Ris.incr_from h3 (fun l hl => ?_) k x (by simpa using hx)
      simp at hl
      omega
theorem Ris.incr {n : Nat} {s : List Int} (h : Ris n 0 s) : incr 0 ((n : Int) - 1) s = true := by
  unfold Go.Proofs.YtgpknnlphabpkaaGreat.incr
  have : ∀ k, k ≤ s.length → prefAll (incrP 0 ((n : Int) - 1)) s k = true := by
    intro k
    induction k with
    | zero => intro _; rfl
    | succ k ih =>
      intro hk
      have hx : s[k]? = some (s[k]'(by omega)) := List.getElem?_eq_getElem (by omega)
      have := Ris.incr_from (s := []) h (fun l hl => by simp at hl) k _ hx
      rw [prefAll, ih (by omega), hx]
      simpa using this
  exact this s.length (Nat.le_refl _)
theorem keptIdx_ris (ps : List Slot) (c : List Int) (ds : List Demand) : ∀ k, Ris k 0 (keptIdx ps c ds k)
  | 0 => trivial
  | k + 1 => by
    have h := keptIdx_ris ps c ds k
    unfold keptIdx at h ⊢
    rw [List.range_succ, List.filter_append, List.map_append]
    cases hq : keptI ps c ds k with
    | true => simp [hq]; exact h.snoc (Nat.zero_le _)
    | false => simp [hq]; exact h.up (Nat.le_succ k)
theorem tabs_ris {xs : List Hearing} {ps : List Slot} {ds : List Demand} {l : List Int} (h : l ∈ tabs xs ps ds) : Ris ds.length 0 l := by
  unfold tabs at h
  obtain ⟨c, -, rfl⟩ := List.mem_map.1 h
  exact keptIdx_ris _ _ _ _
theorem most_free {xs : List Hearing} {ps : List Slot} {ds : List Demand} : (freeOf xs ps ds).2 = (mostKept xs ps ds).2 := by
  unfold freeOf mostKept
  split
  · split <;> rfl
  · rfl
theorem mostKept_facts {xs : List Hearing} {ps : List Slot} {ds : List Demand} (h : (mostKept xs ps ds).2 = 0) : doContradict xs ps ds (mostKept xs ps ds).1 = (false, 0) ∧ ∀ x ∈ (freeOf xs ps ds).1, x ∈ (mostKept xs ps ds).1 := by
  cases ha : areDemands xs ps ds with
  | false => rw [mostKept_bad ha] at h; simp at h
  | true =>
    by_cases hn : (tabs xs ps ds).length = 0
    · rw [mostKept_none ha hn] at h; simp at h
    · rw [mostKept_some ha hn, freeOf_some ha hn]
      have hm := mkOf_mem hn
      constructor
      · unfold doContradict
        rw [if_pos (someC_ok ha (tabs_ris hm).incr)]
        have : against (tabs xs ps ds) (mkOf (tabs xs ps ds)) = false := by
          unfold against
          rw [Bool.not_eq_false', List.any_eq_true]
          refine ⟨_, hm, ?_⟩
          rw [List.all_eq_true]
          exact fun x hx => hasI_iff.2 hx
        rw [this]
      · intro x hx
        unfold freeTo at hx
        have := (List.mem_filter.1 hx).2
        unfold inAll at this
        exact hasI_iff.1 (List.all_eq_true.1 this _ hm)
theorem conflict_contra {xs : List Hearing} {ps : List Slot} {ds : List Demand} {s : List Int} (h : (isConflictR xs ps ds s).1 = true) : (doContradict xs ps ds s).1 = true := by
  unfold isConflictR at h
  unfold doContradict
  split at h
  · rename_i h1
    rw [if_pos h1]
    unfold isConf at h
    simp only [Bool.and_eq_true] at h
    exact h.1
  · simp at h
theorem bestKeep_facts {xs : List Hearing} {ps : List Slot} {ds : List Demand} (h : (bestKeep xs ps ds).2 = 0) : (keptBy xs ps ds (bestKeep xs ps ds).1).2 = 0 ∧ (keptBy xs ps ds (bestKeep xs ps ds).1).1.length = ds.length := by
  cases ha : areDemands xs ps ds with
  | false => rw [bestKeep_bad ha] at h; simp at h
  | true =>
    by_cases hn : (keepers xs ps ds).length = 0
    · rw [bestKeep_none ha hn] at h; simp at h
    · rw [bestKeep_some ha hn]
      have hm := bestOf_mem (f := costL ps) hn
      have hm2 := List.mem_filter.1 hm
      obtain ⟨a1, a2⟩ := cals_mem hm2.1
      unfold keptBy
      rw [if_pos ha, if_pos (calCode_ok (areDemands_both ha) a1 a2)]
      exact ⟨rfl, of_decide_eq_true hm2.2⟩
theorem allKept {ps : List Slot} {c : List Int} {ds : List Demand} : (∀ i : Nat, i < ds.length → (i : Int) ∈ keptIdx ps c ds ds.length) ↔ keepsAll ps ds c = true := by
  unfold keepsAll
  rw [decide_eq_true_iff]
  constructor
  · intro h
    unfold keptIdx
    rw [List.length_map]
    have : (List.range ds.length).filter (keptI ps c ds) = List.range ds.length := by
      rw [List.filter_eq_self]
      intro i hi
      have := h i (List.mem_range.1 hi)
      unfold keptIdx at this
      rw [List.mem_map] at this
      obtain ⟨j, hj, e⟩ := this
      have hij : j = i := by omega
      subst hij
      exact (List.mem_filter.1 hj).2
    rw [this, List.length_range]
  · intro h i hi
    unfold keptIdx at h ⊢
    rw [List.length_map] at h
    have h2 := List.length_filter_eq_length_iff.1 (show ((List.range ds.length).filter (keptI ps c ds)).length = (List.range ds.length).length by rw [h, List.length_range])
    rw [List.mem_map]
    exact ⟨i, List.mem_filter.2 ⟨List.mem_range.2 hi, h2 i (List.mem_range.2 hi)⟩, rfl⟩
theorem keepers_iff {xs : List Hearing} {ps : List Slot} {ds : List Demand} : (keepers xs ps ds).length ≠ 0 ↔ ∃ l ∈ tabs xs ps ds, ∀ i : Nat, i < ds.length → (i : Int) ∈ l := by
  constructor
  · intro h
    obtain ⟨c, hc⟩ := List.exists_mem_of_length_pos (Nat.pos_of_ne_zero h)
    obtain ⟨h1, h2⟩ := List.mem_filter.1 hc
    exact ⟨_, List.mem_map.2 ⟨c, h1, rfl⟩, allKept.2 h2⟩
  · rintro ⟨l, hl, h⟩
    obtain ⟨c, h1, rfl⟩ := List.mem_map.1 hl
    have : c ∈ keepers xs ps ds := List.mem_filter.2 ⟨h1, allKept.1 h⟩
    have := List.length_pos_of_mem this
    omega
def allI (n : Nat) : List Int := (List.range n).map fun (i : Nat) => (i : Int)
theorem allI_ris : ∀ n, Ris n 0 (allI n)
  | 0 => trivial
  | n + 1 => by
    have := allI_ris n
    unfold allI at this ⊢
    rw [List.range_succ, List.map_append]
    exact this.snoc (Nat.zero_le _)
theorem conflict_or_keep {xs : List Hearing} {ps : List Slot} {ds : List Demand} : ((smallest xs ps ds).2 = 0 → (bestKeep xs ps ds).2 ≠ 0) ∧ ((smallest xs ps ds).2 = 4 → (bestKeep xs ps ds).2 = 0) := by
  cases ha : areDemands xs ps ds with
  | false => rw [smallest_bad ha]; simp
  | true =>
    cases hs : conflictOf (tabs xs ps ds) ds.length with
    | some s =>
      rw [smallest_some ha hs]
      refine ⟨fun _ hb => ?_, fun h => by simp at h⟩
      obtain ⟨hr, hp, -⟩ := leastS_some hs
      by_cases hn : (keepers xs ps ds).length = 0
      · rw [bestKeep_none ha hn] at hb; simp at hb
      · obtain ⟨l, hl, h⟩ := keepers_iff.1 hn
        unfold against at hp
        rw [Bool.not_eq_true', List.any_eq_false] at hp
        refine hp l hl ?_
        rw [List.all_eq_true]
        intro x hx
        obtain ⟨i, rfl, -, hi⟩ := hr.mem x hx
        exact hasI_iff.2 (h i hi)
    | none =>
      rw [smallest_none ha hs]
      refine ⟨fun h => by simp at h, fun _ => ?_⟩
      have := leastS_none hs (allI ds.length) (allI_ris _) (Nat.zero_le _) (by simp [allI])
      unfold against at this
      rw [Bool.not_eq_false', List.any_eq_true] at this
      obtain ⟨l, hl, h⟩ := this
      rw [List.all_eq_true] at h
      have hn : (keepers xs ps ds).length ≠ 0 := keepers_iff.2 ⟨l, hl, fun i hi => hasI_iff.1 (h _ (List.mem_map.2 ⟨i, List.mem_range.2 hi, rfl⟩))⟩
      rw [bestKeep_some ha hn]
theorem smallest_facts {xs : List Hearing} {ps : List Slot} {ds : List Demand} (h : (smallest xs ps ds).2 = 0) : isConflictR xs ps ds (smallest xs ps ds).1 = (true, 0) := by
  cases ha : areDemands xs ps ds with
  | false => rw [smallest_bad ha] at h; simp at h
  | true =>
    cases hs : conflictOf (tabs xs ps ds) ds.length with
    | none => rw [smallest_none ha hs] at h; simp at h
    | some s =>
      rw [smallest_some ha hs]
      obtain ⟨hr, -, -⟩ := leastS_some hs
      unfold isConflictR
      rw [if_pos (someC_ok ha hr.incr)]
      rw [← conflict_eq] at hs
      have := ((leastTo_inv (Q := isConf (tabs xs ps ds)) (n := ds.length) _).1 s hs).1
      rw [this]
end Go.Proofs.YtgpknnlphabpkaaGreat
namespace Go.Proofs.YtgpknnlphabpkaaGreat.mostL
open Go.ChangeShapes Go.WideShapes Go.ChangeAt Go.RowKit
open Go.ChangeMaps (open_string shut_string)
set_option linter.unusedVariables false

theorem own : ownKnob Tryz.prog.godebug = none := by kernel_rfl
theorem laidOut : laidOutB Tryz.prog = true := by kernel_rfl


set_option maxRecDepth 100000 in
set_option maxHeartbeats 40000000 in
theorem walk (v0 : Value) (code : List Int) (w : World) (hx0 : RdF encByte 1 w 0 w.heap.size v0 code) (hl0 : code.length ≤ maxLen) (hq0 : ∀ x ∈ code, 0 ≤ x ∧ x ≤ 255) :
    Calls Tryz.prog 3 #[v0] w fun e w' => e = .returned (.bool true) ∧ Below w.heap.size w w' := by
  try unfold maxLen at *
  obtain ⟨A0, C0, rfl, hc0⟩ := hx0.form
  by_cases hbig : (4096 : Int) < (code.length : Int)
  · go_enter Tryz.func3, Tryz.ntmps3
    go_wp2_with fail
    refine (big_any A0 C0 code.length _).mono ?_
    rintro e w1 ⟨rfl, b1⟩
    rw [decide_eq_true hbig]
    go_wp2_with fail
    go_ret
    exact ⟨rfl, b1⟩
  go_enter Tryz.func3, Tryz.ntmps3
  have BB : Below w.heap.size w w := Below.refl _ _
  go_wp2_with fail
  refine (big_any A0 C0 code.length _).mono ?_
  rintro e w1 ⟨rfl, b1⟩
  have zb1 := b1.size
  replace hx0 := hx0.below b1 (by omega)
  replace BB := Below.step b1 (by omega) BB
  clear b1
  rw [decide_eq_false (show ¬ (4096 : Int) < (code.length : Int) by omega)]
  go_wp2_with fail
  refine (drawMostKept_any _ code _ _ _ hx0 (by omega) (by omega) hq0).mono ?_
  rintro e w2 ⟨v1, xs, v2, ps, v3, ds, rfl, hx6, hxb, hp9, hd9, h1, h2, h3, b2⟩
  have zb2 := b2.size
  replace hx0 := hx0.below b2 (by omega)
  replace BB := Below.step b2 (by omega) BB
  clear b2
  have hsm : ∀ x ∈ xs, Hearing.small x := fun x hx => Hearing.small_of (hxb x hx) (by omega)
  clear hxb
  go_wp2_with fail
  refine (impMostKept_any _ xs _ _ _ ps _ _ _ ds _ _ _ h1 (by omega) (by omega) hsm h2 (by omega) (by omega) h3 (by omega) (by omega)).mono ?_
  rintro e w3 ⟨ym0, rfl, hm0, b3⟩
  have zb3 := b3.size
  replace hx0 := hx0.below b3 (by omega)
  replace h1 := h1.below b3 (by omega)
  replace h2 := h2.below b3 (by omega)
  replace h3 := h3.below b3 (by omega)
  replace BB := Below.step b3 (by omega) BB
  clear b3
  go_wp2_with fail
  refine (sMostKept_any _ xs _ _ _ ps _ _ _ ds _ _ _ h1 (by omega) (by omega) hsm h2 (by omega) (by omega) h3 (by omega) (by omega)).mono ?_
  rintro e w4 ⟨ym1, rfl, hm1, b4⟩
  have zb4 := b4.size
  replace hx0 := hx0.below b4 (by omega)
  replace h1 := h1.below b4 (by omega)
  replace h2 := h2.below b4 (by omega)
  replace h3 := h3.below b4 (by omega)
  replace hm0 := hm0.below b4 (by omega)
  replace BB := Below.step b4 (by omega) BB
  clear b4
  go_wp2_with fail
  refine (impFreeDemands_any _ xs _ _ _ ps _ _ _ ds _ _ _ h1 (by omega) (by omega) hsm h2 (by omega) (by omega) h3 (by omega) (by omega)).mono ?_
  rintro e w5 ⟨yf0, rfl, hf0, b5⟩
  have zb5 := b5.size
  replace hx0 := hx0.below b5 (by omega)
  replace h1 := h1.below b5 (by omega)
  replace h2 := h2.below b5 (by omega)
  replace h3 := h3.below b5 (by omega)
  replace hm0 := hm0.below b5 (by omega)
  replace hm1 := hm1.below b5 (by omega)
  replace BB := Below.step b5 (by omega) BB
  clear b5
  go_wp2_with fail
  refine (sFreeDemands_any _ xs _ _ _ ps _ _ _ ds _ _ _ h1 (by omega) (by omega) hsm h2 (by omega) (by omega) h3 (by omega) (by omega)).mono ?_
  rintro e w6 ⟨yf1, rfl, hf1, b6⟩
  have zb6 := b6.size
  replace hx0 := hx0.below b6 (by omega)
  replace h1 := h1.below b6 (by omega)
  replace h2 := h2.below b6 (by omega)
  replace h3 := h3.below b6 (by omega)
  replace hm0 := hm0.below b6 (by omega)
  replace hm1 := hm1.below b6 (by omega)
  replace hf0 := hf0.below b6 (by omega)
  replace BB := Below.step b6 (by omega) BB
  clear b6
  have hml : (mostKept xs ps ds).1.length ≤ 1048576 := mostKept_len (by omega)
  have hfl : (freeOf xs ps ds).1.length ≤ 1048576 := freeOf_len (by omega)
  obtain ⟨Af, Cf, rfl, hcf⟩ := hf0.rd.form
  go_wp2_with fail
  refine (drawKeptBy_any _ code _ _ _ hx0 (by omega) (by omega) hq0).mono ?_
  rintro e w7 ⟨v4, xs', v5, ps', v6, ds', v7, cal, rfl, hx'6, hxb', hp'9, hd'9, hs'9, h4, h5, h6, h7, b7⟩
  have zb7 := b7.size
  replace hx0 := hx0.below b7 (by omega)
  replace h1 := h1.below b7 (by omega)
  replace h2 := h2.below b7 (by omega)
  replace h3 := h3.below b7 (by omega)
  replace hm0 := hm0.below b7 (by omega)
  replace hm1 := hm1.below b7 (by omega)
  replace hf0 := hf0.below b7 (by omega)
  replace hf1 := hf1.below b7 (by omega)
  replace BB := Below.step b7 (by omega) BB
  clear b7
  have hsm' : ∀ x ∈ xs', Hearing.small x := fun x hx => Hearing.small_of (hxb' x hx) (by omega)
  clear hxb'
  clear hx0
  go_wp2_with fail
  refine (impKeptBy_any _ xs' _ _ _ ps' _ _ _ ds' _ _ _ cal _ _ _ h4 (by omega) (by omega) hsm' h5 (by omega) (by omega) h6 (by omega) (by omega) h7 (by omega) (by omega)).mono ?_
  rintro e w8 ⟨yk0, rfl, hk0, b8⟩
  have zb8 := b8.size
  replace h1 := h1.below b8 (by omega)
  replace h2 := h2.below b8 (by omega)
  replace h3 := h3.below b8 (by omega)
  replace hm0 := hm0.below b8 (by omega)
  replace hm1 := hm1.below b8 (by omega)
  replace hf0 := hf0.below b8 (by omega)
  replace hf1 := hf1.below b8 (by omega)
  replace h4 := h4.below b8 (by omega)
  replace h5 := h5.below b8 (by omega)
  replace h6 := h6.below b8 (by omega)
  replace h7 := h7.below b8 (by omega)
  replace BB := Below.step b8 (by omega) BB
  clear b8
  go_wp2_with fail
  refine (sKeptBy_any _ xs' _ _ _ ps' _ _ _ ds' _ _ _ cal _ _ _ h4 (by omega) (by omega) hsm' h5 (by omega) (by omega) h6 (by omega) (by omega) h7 (by omega) (by omega)).mono ?_
  rintro e w9 ⟨yk1, rfl, hk1, b9⟩
  have zb9 := b9.size
  replace h1 := h1.below b9 (by omega)
  replace h2 := h2.below b9 (by omega)
  replace h3 := h3.below b9 (by omega)
  replace hm0 := hm0.below b9 (by omega)
  replace hm1 := hm1.below b9 (by omega)
  replace hf0 := hf0.below b9 (by omega)
  replace hf1 := hf1.below b9 (by omega)
  replace h4 := h4.below b9 (by omega)
  replace h5 := h5.below b9 (by omega)
  replace h6 := h6.below b9 (by omega)
  replace h7 := h7.below b9 (by omega)
  replace hk0 := hk0.below b9 (by omega)
  replace BB := Below.step b9 (by omega) BB
  clear b9
  have hkl : (keptBy xs' ps' ds' cal).1.length ≤ 1048576 := keptBy_len (by omega)
  rw [most_free]
  clear h4 h5 h6 h7
  go_wp2_with fail
  refine (likeInts_any _ _ (mostKept xs ps ds).1 _ _ _ _ _ hm0.rd (by omega) hm1.rd (by omega) hml).mono ?_
  rintro e w10 ⟨rfl, b10⟩
  have zb10 := b10.size
  replace h1 := h1.below b10 (by omega)
  replace h2 := h2.below b10 (by omega)
  replace h3 := h3.below b10 (by omega)
  replace hm0 := hm0.below b10 (by omega)
  replace hm1 := hm1.below b10 (by omega)
  replace hf0 := hf0.below b10 (by omega)
  replace hf1 := hf1.below b10 (by omega)
  replace hk0 := hk0.below b10 (by omega)
  replace hk1 := hk1.below b10 (by omega)
  replace BB := Below.step b10 (by omega) BB
  clear b10
  go_wp2_with fail
  refine (likeInts_any _ _ (freeOf xs ps ds).1 _ _ _ _ _ hf0.rd (by omega) hf1.rd (by omega) hfl).mono ?_
  rintro e w11 ⟨rfl, b11⟩
  have zb11 := b11.size
  replace h1 := h1.below b11 (by omega)
  replace h2 := h2.below b11 (by omega)
  replace h3 := h3.below b11 (by omega)
  replace hm0 := hm0.below b11 (by omega)
  replace hm1 := hm1.below b11 (by omega)
  replace hf0 := hf0.below b11 (by omega)
  replace hf1 := hf1.below b11 (by omega)
  replace hk0 := hk0.below b11 (by omega)
  replace hk1 := hk1.below b11 (by omega)
  replace BB := Below.step b11 (by omega) BB
  clear b11
  go_wp2_with fail
  refine (likeInts_any _ _ (keptBy xs' ps' ds' cal).1 _ _ _ _ _ hk0.rd (by omega) hk1.rd (by omega) hkl).mono ?_
  rintro e w12 ⟨rfl, b12⟩
  have zb12 := b12.size
  replace h1 := h1.below b12 (by omega)
  replace h2 := h2.below b12 (by omega)
  replace h3 := h3.below b12 (by omega)
  replace hm0 := hm0.below b12 (by omega)
  replace hm1 := hm1.below b12 (by omega)
  replace hf0 := hf0.below b12 (by omega)
  replace hf1 := hf1.below b12 (by omega)
  replace hk0 := hk0.below b12 (by omega)
  replace hk1 := hk1.below b12 (by omega)
  replace BB := Below.step b12 (by omega) BB
  clear b12
  clear hm1 hf1 hk0 hk1
  by_cases hz : ¬ (mostKept xs ps ds).2 = 0
  · generalize (mostKept xs ps ds).2 = bd at *
    have hz' : (bd != 0) = true := by simpa using hz
    go_wp2_with fail
    go_ret
    exact ⟨rfl, by (repeat (first | with_reducible assumption | with_reducible exact Below.refl _ _ | with_reducible refine Below.setCell ?_ ?_ _ | with_reducible refine Below.alloc ?_ ?_ _ | with_reducible refine Below.drew ?_ | with_reducible refine below_drewN ?_ _ | with_reducible refine Below.step (by with_reducible assumption) ?_ ?_ | omega | (simp <;> omega) | (simp; done)))⟩
  · have hz1 : (mostKept xs ps ds).2 = 0 := by simpa using hz
    obtain ⟨hdc, hmem⟩ := mostKept_facts hz1
    have HM := Lib.hid hmem
    rw [hz1]
    clear hz hz1 hmem
    go_wp2_with fail
    refine (impDoContradict_any _ xs _ _ _ ps _ _ _ ds _ _ _ (mostKept xs ps ds).1 _ _ _ h1 (by omega) (by omega) hsm h2 (by omega) (by omega) h3 (by omega) (by omega) hm0.rd (by omega) hml).mono ?_
    rintro e w13 ⟨rfl, b13⟩
    have zb13 := b13.size
    replace h1 := h1.below b13 (by omega)
    replace h2 := h2.below b13 (by omega)
    replace h3 := h3.below b13 (by omega)
    replace hm0 := hm0.below b13 (by omega)
    replace hf0 := hf0.below b13 (by omega)
    replace BB := Below.step b13 (by omega) BB
    clear b13
    rw [hdc]
    clear h1 h2 h3
    go_wp2_with fail
    go_loopw [24] (fun i wr => ∃ k : Nat, k ≤ (freeOf xs ps ds).1.length ∧ i = .int .i64 k ∧ Below w13.heap.size w13 wr) (fun i _ => (freeOf xs ps ds).1.length - (intOf i).toNat)
    case atStart => exact ⟨0, Nat.zero_le _, rfl, Below.refl _ _⟩
    case round =>
      obtain ⟨k, hk, rfl, hbel⟩ := hrel
      have z9 := hbel.size
      by_cases hlt : k < (freeOf xs ps ds).1.length
      · have hki : (k : Int) < ((freeOf xs ps ds).1.length : Int) := by omega
        obtain ⟨x, b0, off0, HS, rfl, -, hbw, hcell⟩ := RdF.get hf0.rd hbel (by omega) hlt
        have x1 : wr.cell? ⟨b0, off0 + k, none⟩ = some (.int .i64 x) := by simpa [encInt] using hcell 0 _ rfl
        have hin := decide_eq_true (HM.out x (List.mem_of_getElem? HS.out))
        clear hcell
        go_wp2_with fail
        refine (hasIntL_any _ (mostKept xs ps ds).1 _ _ x _ (hm0.rd.below hbel (by omega)) (by omega) hml).mono ?_
        rintro e w9 ⟨rfl, b9⟩
        rw [hin]
        have hb9 := Below.step b9 z9 hbel
        go_wp2_with fail
        go_roundw
        case rel => exact ⟨k + 1, by omega, by go_num, hb9⟩
        case measure => simp [intOf]; omega
      · go_wp2_with fail
        go_ret
        exact ⟨rfl, by (repeat (first | with_reducible assumption | with_reducible exact Below.refl _ _ | with_reducible refine Below.setCell ?_ ?_ _ | with_reducible refine Below.alloc ?_ ?_ _ | with_reducible refine Below.drew ?_ | with_reducible refine below_drewN ?_ _ | with_reducible refine Below.step (by with_reducible assumption) ?_ ?_ | omega | (simp <;> omega) | (simp; done)))⟩

set_option maxRecDepth 100000 in
theorem lifted (os : Os) (started : os.Started) (H : Type) (enc : TypeId × Value → H) :
    ReturnsInHanded {} Tryz.checked os 3 .any (Rows.fnMostKeptSpec.pre6 enc Tryz.prog Tryz.f3 Rows.fnMostKeptRow.domain false) (Rows.fnMostKeptSpec.post enc Tryz.prog Tryz.f3 false true false false) := by
  refine returnsInHanded_of_change (C := Tryz.checked) own started (by kernel_rfl) Tryz.func3
    (ChangeSpec.witness6 (enc := enc) (C := Tryz.checked) false ⟨#[], #[.slice none 0 0], []⟩ 8 (by kernel_rfl) (by kernel_rfl) (by kernel_rfl) (by kernel_rfl)) ?_
  intro W base args ds gs before hval0 hW hcnd _
  have hval : ∀ (j : Nat) t v, Tryz.f3.params[j]? = some t → args[j]? = some v → Value.okWide Tryz.prog W .any base t v := hval0
  have hW' := hW
  obtain ⟨p, q, hA0, hV, rfl, hfz, hnd⟩ := hW
  have hA : DataW.TrodAll enc Tryz.prog W 0 (fun _ => true) true Tryz.f3.params.toList args.toList ds p := hA0
  rw [Tryz.params3] at hA hval
  obtain ⟨v0, vs0, d0, ds0, p0, q0, hargs, rfl, rfl, h0, r0⟩ := trodAll_cons hA
  obtain ⟨rfl, rfl, rfl⟩ := trodAll_nil r0
  obtain rfl : args = #[v0] := by cases args; simp_all
  obtain ⟨rfl, rfl⟩ := trodVars_none hV
  have k0 := h0
  have lt0 : ∀ x ∈ p0, x.block < W.heap.size := by obtain ⟨m, hm⟩ := k0; exact DataW.trod_lt m _ _ _ hm
  obtain ⟨code, hx0, hl0, hq0⟩ := open_bytes Tryz.underlying22 Tryz.underlying5 (by kernel_rfl) (hval 0 22 v0 rfl rfl) h0
  clear hA0 hval0
  refine (walk v0 code W hx0 hl0 hq0).mono fun e W' ⟨he, bel⟩ => ?_
  subst he
  exact ⟨_, rfl, _, _, _, [], _, [], hW', trodAll_mk1 (shut_bool Tryz.underlying4 _), (trodAll_cons_mk (Below.trod laidOut (by kernel_rfl) (of_decide_eq_true (by kernel_rfl)) k0 bel lt0) trodAll_mk0), rfl, bel.frame _, fun h => by cases h⟩

theorem over : Rows.fnMostKeptRow.holds Tryz.pinned (OpenSpec.ofChange Rows.fnMostKeptSpec) :=
  OpenClaim.holds_of_wide 3 Tryz.f3 rfl rfl rfl rfl rfl rfl rfl ⟨rfl, rfl, rfl, rfl, rfl⟩ rfl rfl rfl rfl rfl (by kernel_rfl) Tryz.func3 (by kernel_rfl)
    (of_decide_eq_true (by kernel_rfl)) (by unfold Func.isWrapper; first | (rw [if_pos (by decide +kernel)]; kernel_rfl) | (rw [if_neg (by decide +kernel)]; exact ⟨rfl, rfl⟩))
    (fun os started H enc _ => lifted os started H enc)

theorem proved : Rows.FnMostKeptSaid := over
#print axioms proved
end Go.Proofs.YtgpknnlphabpkaaGreat.mostL
