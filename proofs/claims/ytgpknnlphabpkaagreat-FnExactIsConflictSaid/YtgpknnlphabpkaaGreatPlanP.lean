/- Plans of hearings: which pairs clash, plain. -/
import Derived.Test.YtgpknnlphabpkaaGreatSharedX
namespace Go.Proofs.YtgpknnlphabpkaaGreat
open Go.RowKit
set_option linter.unusedVariables false

def clAt (xs : List Hearing) (ps : List Slot) (i k : Nat) : Bool := match xs[i]?, ps[i]?, xs[k]?, ps[k]? with
  | some a, some s, some b, some t => clashB a s b t
  | _, _, _, _ => false
def fitAt (xs : List Hearing) (ps : List Slot) (i : Nat) : Bool := match xs[i]?, ps[i]? with
  | some a, some s => fitB a s
  | _, _ => false
theorem clAt_of {xs : List Hearing} {ps : List Slot} {i k : Nat} {a b : Hearing} {s t : Slot} (h1 : xs[i]? = some a) (h2 : ps[i]? = some s) (h3 : xs[k]? = some b) (h4 : ps[k]? = some t) : clAt xs ps i k = clashB a s b t := by simp [clAt, h1, h2, h3, h4]
theorem fitAt_of {xs : List Hearing} {ps : List Slot} {i : Nat} {a : Hearing} {s : Slot} (h1 : xs[i]? = some a) (h2 : ps[i]? = some s) : fitAt xs ps i = fitB a s := by simp [fitAt, h1, h2]
theorem hasW_mem {xs : List ByteArray} {p : ByteArray} : hasW xs p = true ↔ p ∈ xs := by
  unfold hasW
  simp only [List.any_eq_true]
  constructor
  · rintro ⟨x, hx, he⟩
    have e : x = p := strEq_iff x p |>.1 (by simpa [strEq] using he)
    exact e ▸ hx
  · intro h
    exact ⟨p, h, by simp⟩
theorem sharedL_sym {a b : Hearing} (h : 0 < (sharedL a b).length) : 0 < (sharedL b a).length := by
  obtain ⟨p, hp⟩ := List.exists_mem_of_length_pos h
  unfold sharedL at hp
  rw [List.mem_filter, hasW_mem] at hp
  have : p ∈ sharedL b a := by unfold sharedL; rw [List.mem_filter, hasW_mem]; exact ⟨hp.2, hp.1⟩
  exact List.length_pos_of_mem this
theorem sharedL_pos_sym (a b : Hearing) : decide (0 < (sharedL a b).length) = decide (0 < (sharedL b a).length) := by
  by_cases h : 0 < (sharedL a b).length
  · rw [decide_eq_true h, decide_eq_true (sharedL_sym h)]
  · rw [decide_eq_false h, decide_eq_false (fun h2 => h (sharedL_sym h2))]
theorem clashB_sym (a : Hearing) (s : Slot) (b : Hearing) (t : Slot) : clashB a s b t = clashB b t a s := by
  unfold clashB
  rw [sharedL_pos_sym a b, show decide (s.day = t.day) = decide (t.day = s.day) by simp [eq_comm], show decide (s.room = t.room) = decide (t.room = s.room) by simp [eq_comm]]
  cases decide (t.day = s.day) <;> cases decide (s.frm < t.frm + b.len) <;> cases decide (t.frm < s.frm + a.len) <;> rfl
theorem clAt_sym (xs : List Hearing) (ps : List Slot) (i k : Nat) : clAt xs ps i k = clAt xs ps k i := by
  unfold clAt
  cases h1 : xs[i]? <;> cases h2 : ps[i]? <;> cases h3 : xs[k]? <;> cases h4 : ps[k]? <;> simp [clashB_sym]
def clRow (xs : List Hearing) (ps : List Slot) (i n : Nat) : List (Nat × Nat) := ((List.range n).filter fun k => decide (i < k) && clAt xs ps i k).map fun k => (i, k)
def clList (xs : List Hearing) (ps : List Slot) (n i : Nat) : List (Nat × Nat) := (List.range i).flatMap fun j => clRow xs ps j n
theorem clRow_start (xs : List Hearing) (ps : List Slot) (i : Nat) : clRow xs ps i (i + 1) = [] := by
  unfold clRow
  rw [List.map_eq_nil_iff, List.filter_eq_nil_iff]
  intro k hk
  rw [List.mem_range] at hk
  simp; omega
theorem clRow_yes {xs : List Hearing} {ps : List Slot} {i k : Nat} (h : i < k) (hc : clAt xs ps i k = true) : clRow xs ps i (k + 1) = clRow xs ps i k ++ [(i, k)] := by
  unfold clRow
  rw [List.range_succ, List.filter_append, List.map_append]
  simp [h, hc]
theorem clRow_no {xs : List Hearing} {ps : List Slot} {i k : Nat} (hc : clAt xs ps i k = false) : clRow xs ps i (k + 1) = clRow xs ps i k := by
  unfold clRow
  rw [List.range_succ, List.filter_append, List.map_append]
  simp [hc]
theorem clList_succ (xs : List Hearing) (ps : List Slot) (n i : Nat) : clList xs ps n (i + 1) = clList xs ps n i ++ clRow xs ps i n := by
  unfold clList
  rw [List.range_succ, List.flatMap_append]
  simp
theorem clRow_len (xs : List Hearing) (ps : List Slot) (i n : Nat) : (clRow xs ps i n).length ≤ n := by
  unfold clRow
  rw [List.length_map]
  exact Nat.le_trans (List.length_filter_le _ _) (by simp)
theorem clList_len (xs : List Hearing) (ps : List Slot) (n : Nat) : ∀ i, (clList xs ps n i).length ≤ i * n
  | 0 => by simp [clList]
  | i + 1 => by
    rw [clList_succ, List.length_append, Nat.succ_mul]
    have := clList_len xs ps n i
    have := clRow_len xs ps i n
    omega
def planAt (xs : List Hearing) (ps : List Slot) (i : Nat) : Bool := fitAt xs ps i && (List.range i).all fun k => !clAt xs ps i k
def planB (xs : List Hearing) (ps : List Slot) : Bool := decide (ps.length = xs.length) && (List.range xs.length).all (planAt xs ps)
def isPlan (xs : List Hearing) (ps : List Slot) : Bool × Int := if hearingsOk xs && slotsOk ps then (planB xs ps, 0) else (false, 1)
theorem clList_nil {xs : List Hearing} {ps : List Slot} {n : Nat} : (clList xs ps n n).length = 0 ↔ ∀ i, i < n → ∀ k, k < i → clAt xs ps i k = false := by
  rw [List.length_eq_zero_iff]
  unfold clList
  rw [List.flatMap_eq_nil_iff]
  constructor
  · intro h i hi k hk
    have h1 := h k (List.mem_range.2 (by omega))
    unfold clRow at h1
    rw [List.map_eq_nil_iff, List.filter_eq_nil_iff] at h1
    have h2 := h1 i (List.mem_range.2 hi)
    rw [clAt_sym]
    cases hc : clAt xs ps k i with
    | false => rfl
    | true => rw [hc] at h2; simp [hk] at h2
  · intro h k hk
    unfold clRow
    rw [List.map_eq_nil_iff, List.filter_eq_nil_iff]
    intro i hi
    rw [List.mem_range] at hi hk
    by_cases hl : k < i
    · have := h i hi k hl
      rw [clAt_sym] at this
      simp [this]
    · simp [hl]
theorem planB_impl {xs : List Hearing} {ps : List Slot} (hl : ps.length = xs.length) (hf : (List.range xs.length).all (fitAt xs ps) = true) : planB xs ps = decide ((clList xs ps xs.length xs.length).length = 0) := by
  unfold planB
  rw [decide_eq_true hl, Bool.true_and]
  rw [List.all_eq_true] at hf
  rw [Bool.eq_iff_iff, List.all_eq_true, decide_eq_true_eq, clList_nil]
  constructor
  · intro h i hi k hk
    have := h i (List.mem_range.2 hi)
    unfold planAt at this
    rw [Bool.and_eq_true, List.all_eq_true] at this
    have := this.2 k (List.mem_range.2 hk)
    simpa using this
  · intro h i hi
    unfold planAt
    rw [Bool.and_eq_true, List.all_eq_true]
    refine ⟨hf i hi, fun k hk => ?_⟩
    rw [h i (List.mem_range.1 hi) k (List.mem_range.1 hk)]; rfl
theorem planB_len {xs : List Hearing} {ps : List Slot} (hl : ¬ ps.length = xs.length) : planB xs ps = false := by unfold planB; rw [decide_eq_false hl]; rfl
theorem planB_unfit {xs : List Hearing} {ps : List Slot} {k : Nat} (hk : k < xs.length) (hf : planAt xs ps k = false) : planB xs ps = false := by
  unfold planB
  rw [Bool.and_eq_false_iff]
  right
  rw [List.all_eq_false]
  exact ⟨k, List.mem_range.2 hk, by simp [hf]⟩
theorem planAt_unfit {xs : List Hearing} {ps : List Slot} {k : Nat} (hf : fitAt xs ps k = false) : planAt xs ps k = false := by unfold planAt; rw [hf]; rfl
theorem planAt_clash {xs : List Hearing} {ps : List Slot} {i k : Nat} (hk : k < i) (hf : clAt xs ps i k = true) : planAt xs ps i = false := by
  unfold planAt
  rw [Bool.and_eq_false_iff]
  right
  rw [List.all_eq_false]
  exact ⟨k, List.mem_range.2 hk, by simp [hf]⟩
theorem ra_succ {p : Nat → Bool} {k : Nat} (h : (List.range k).all p = true) (hp : p k = true) : (List.range (k + 1)).all p = true := by
  rw [List.range_succ, List.all_append, h]; simp [hp]
theorem planB_true {xs : List Hearing} {ps : List Slot} (hl : ps.length = xs.length) (h : (List.range xs.length).all (planAt xs ps) = true) : planB xs ps = true := by unfold planB; rw [decide_eq_true hl, h]; rfl
theorem slotsOk_len {xs : List Slot} (h : slotsOk xs = true) : xs.length ≤ 10 := by simp [slotsOk] at h; exact h.2
end Go.Proofs.YtgpknnlphabpkaaGreat
