/- Slices of integers: copies, comparison, sizes, marks; the marks' text. -/
import Derived.Test.YtgpknnlphabpkaaGreatRows
import Derived.Test.YtgpknnlphabpkaaGreatMem
namespace Go.Proofs.YtgpknnlphabpkaaGreat
open Go.RowKit
set_option linter.unusedVariables false

def intEq (a b : Int) : Bool := a == b
theorem intEq_iff (a b : Int) : intEq a b = true ↔ a = b := by simp [intEq]

set_option maxRecDepth 100000 in
set_option maxHeartbeats 1000000 in
theorem eqInt64S_any (v v' : Value) (xs ys : List Int) (lo hi lo' hi' : Nat) (w : World) (h : RdF encInt 1 w lo hi v xs) (hh : hi ≤ w.heap.size) (h' : RdF encInt 1 w lo' hi' v' ys) (hh' : hi' ≤ w.heap.size)
    (hm : xs.length ≤ 9223372036854775807) (hm' : ys.length ≤ 9223372036854775807) :
    Calls Tryz.prog 31 #[v, v'] w fun e w' => e = .returned (.bool (eqL intEq xs ys)) ∧ Below w.heap.size w w' := by
  obtain ⟨A, c, rfl, hc, hA⟩ := h
  obtain ⟨A', c', rfl, hc', hA'⟩ := h'
  by_cases hlen : xs.length = ys.length
  · have hne : ((xs.length : Int) != (ys.length : Int)) = false := by simp [hlen]
    go_enter Tryz.func31, Tryz.ntmps31
    go_wp2
    go_loopw [5] (fun i wr => ∃ k : Nat, k ≤ xs.length ∧ i = .int .i64 k ∧ Hid (eqL intEq (xs.take k) (ys.take k) = true) ∧ Below w.heap.size w wr) (fun i _ => xs.length - (intOf i).toNat)
    case atStart => exact ⟨0, Nat.zero_le _, rfl, rfl, by (repeat (first | with_reducible assumption | with_reducible exact Below.refl _ _ | with_reducible refine Below.setCell ?_ ?_ _ | with_reducible refine Below.alloc ?_ ?_ _ | with_reducible refine Below.drew ?_ | with_reducible refine below_drewN ?_ _ | with_reducible refine Below.step (by with_reducible assumption) ?_ ?_ | omega | (simp <;> omega) | (simp; done)))⟩
    case round =>
      obtain ⟨k, hk, rfl, HE, hb⟩ := hrel
      have HL := Lib.hid hlen; clear hlen
      have z0 := hb.size
      by_cases hlt : k < xs.length
      · have hlt' : k < ys.length := by rw [← HL.out]; exact hlt
        obtain ⟨b, off, rfl, -, hbw, hcell⟩ := hA (by omega)
        obtain ⟨b', off', rfl, -, hbw', hcell'⟩ := hA' (by omega)
        have hs : xs[k]? = some xs[k] := List.getElem?_eq_getElem hlt
        have hs' : ys[k]? = some ys[k] := List.getElem?_eq_getElem hlt'
        have c0 : wr.cell? ⟨b, off + k, none⟩ = _ := (hb.cell (p := ⟨b, off + k, none⟩) (by omega : b < _)).trans (by simpa using hcell k _ hs 0 _ rfl)
        have d0 : wr.cell? ⟨b', off' + k, none⟩ = _ := (hb.cell (p := ⟨b', off' + k, none⟩) (by omega : b' < _)).trans (by simpa using hcell' k _ hs' 0 _ rfl)
        clear hcell hA hcell' hA'
        have HS := Lib.hid hs; clear hs
        have HS' := Lib.hid hs'; clear hs'
        generalize xs[k] = s at *
        generalize ys[k] = s' at *
        have hki : (k : Int) < (xs.length : Int) := by omega
        have hki' : (k : Int) < (ys.length : Int) := by omega
        by_cases hq : s = s'
        · subst hq
          go_wp2_with fail
          go_quiet (fail)
          go_wp2_with fail
          go_roundw
          case rel => exact ⟨k + 1, by omega, by go_num, eqL_succ HE.out HS.out HS'.out (by simp [intEq]), by (repeat (first | with_reducible assumption | with_reducible exact Below.refl _ _ | with_reducible refine Below.setCell ?_ ?_ _ | with_reducible refine Below.alloc ?_ ?_ _ | with_reducible refine Below.drew ?_ | with_reducible refine below_drewN ?_ _ | with_reducible refine Below.step (by with_reducible assumption) ?_ ?_ | omega | (simp <;> omega) | (simp; done)))⟩
          case measure => simp [intOf]; omega
        · have hn : (s != s') = true := by simpa using hq
          have HQ := Lib.hid hq; clear hq
          go_wp2_with fail
          go_quiet (fail)
          go_wp2_with fail
          go_ret
          exact ⟨ret_bool (by rw [eqL_false HS.out HS'.out (by simpa [intEq] using HQ.out)]), by (repeat (first | with_reducible assumption | with_reducible exact Below.refl _ _ | with_reducible refine Below.setCell ?_ ?_ _ | with_reducible refine Below.alloc ?_ ?_ _ | with_reducible refine Below.drew ?_ | with_reducible refine below_drewN ?_ _ | with_reducible refine Below.step (by with_reducible assumption) ?_ ?_ | omega | (simp <;> omega) | (simp; done)))⟩
      · go_wp2
        go_ret
        exact ⟨ret_bool (by rw [eqL_of_take HE.out hlt HL.out]), by (repeat (first | with_reducible assumption | with_reducible exact Below.refl _ _ | with_reducible refine Below.setCell ?_ ?_ _ | with_reducible refine Below.alloc ?_ ?_ _ | with_reducible refine Below.drew ?_ | with_reducible refine below_drewN ?_ _ | with_reducible refine Below.step (by with_reducible assumption) ?_ ?_ | omega | (simp <;> omega) | (simp; done)))⟩
  · have hne : ((xs.length : Int) != (ys.length : Int)) = true := by simp; omega
    go_enter Tryz.func31, Tryz.ntmps31
    go_wp2
    go_ret
    exact ⟨ret_bool (by rw [eqL_len _ hlen]), by (repeat (first | with_reducible assumption | with_reducible exact Below.refl _ _ | with_reducible refine Below.setCell ?_ ?_ _ | with_reducible refine Below.alloc ?_ ?_ _ | with_reducible refine Below.drew ?_ | with_reducible refine below_drewN ?_ _ | with_reducible refine Below.step (by with_reducible assumption) ?_ ?_ | omega | (simp <;> omega) | (simp; done)))⟩

/-- The marks k, k + 1, .. of n cells. -/
def marksI (k : Int) (n : Nat) : List Int := (List.range n).map fun (i : Nat) => k + (i : Int)
theorem marksI_len (k : Int) (n : Nat) : (marksI k n).length = n := by simp [marksI]
theorem marksI_at {k : Int} {n i : Nat} (h : i < n) : (marksI k n)[i]? = some (k + (i : Int)) := by simp [marksI, h]

set_option maxRecDepth 100000 in
set_option maxHeartbeats 1000000 in
theorem markInt64S_any (v : Value) (xs : List Int) (lo hi : Nat) (m : Int) (w : World) (h : RdW encInt 1 2 w lo hi v xs) (hh : hi ≤ w.heap.size) (hm : xs.length ≤ 1099511627776) (h0 : 0 ≤ m) (h1 : m ≤ 1099511627776) :
    Calls Tryz.prog 38 #[v, .int .i64 m] w fun e w' => e = .returned (.int .i64 (m + xs.length)) ∧ (RdW encInt 1 2 w' lo hi v (marksI m xs.length) ∧ Chg lo hi w w') := by
  obtain ⟨A, c, rfl, hc, hA⟩ := h
  by_cases hz : xs.length = 0
  · have hlt : ¬ ((0 : Int) < (xs.length : Int)) := by omega
    go_enter Tryz.func38, Tryz.ntmps38
    go_wp2
    refine wp_loop_rounds 1 ?_
    rw [rounds_succ]
    go_wp2_with fail
    go_ret
    refine ⟨ret_int (by omega), ⟨A, c, by rw [marksI_len], by rw [marksI_len]; exact hc, fun hl => ?_⟩, Chg.refl _ _ _⟩
    rw [marksI_len] at hl
    omega
  · obtain ⟨g, arr, rfl, hg1, hg2, hblk, hsz, hrow⟩ := hA (by omega)
    clear hrow hA
    go_enter Tryz.func38, Tryz.ntmps38
    go_wp2
    go_loopw [1, 5] (fun q i wr => ∃ k : Nat, k ≤ xs.length ∧ i = .int .i64 k ∧ q = .int .i64 (m + (k : Int)) ∧ ∃ ar : Array Value, Hid (xs.length * 1 ≤ ar.size) ∧ Hid (RowTo encInt 1 ar (marksI m xs.length) k) ∧ Blk wr g 2 ar ∧ Chg lo hi w wr) (fun _ i _ => xs.length - (intOf i).toNat)
    case atStart => exact ⟨0, Nat.zero_le _, rfl, by simp, arr, hsz, RowTo.zero, hblk, Chg.refl _ _ _⟩
    case round =>
      obtain ⟨k, hk, rfl, rfl, ar, hsz', HR, hb, hcg⟩ := hrel
      have z0 := hcg.size
      by_cases hlt : k < xs.length
      · obtain ⟨u0, f0⟩ := hb.some_ k (by have := hsz'.out; omega)
        have g0 := hb.frozen k
        go_wp2_with fail
        go_roundw
        case rel =>
          refine ⟨k + 1, by omega, by go_num, by go_num, setL ar (k * 1) (encInt (m + (k : Int))), ?_, ?_, ?_, hcg.setCell hg1 hg2 _⟩
          · show _ ≤ _
            rw [setL_size]; exact hsz'.out
          · exact HR.out.step' (marksI_at hlt) (fun _ => rfl) (by have := hsz'.out; omega)
          · have := hb.set1 (k * 1) (.int .i64 (m + (k : Int)))
            simpa [encInt] using this
        case measure => simp [intOf]; omega
      · have e : k = xs.length := by omega
        have HR' : Hid (RowTo encInt 1 ar (marksI m xs.length) xs.length) := by have h := HR.out; rw [e] at h; exact h
        have HK := Lib.hid e; clear e
        go_wp2_with fail
        go_ret
        exact ⟨ret_int (by rw [HK.out]), ⟨some ⟨g, 0, none⟩, c, by rw [marksI_len], by rw [marksI_len]; exact hc, fun _ => ⟨g, ar, rfl, hg1, hg2, hb, by rw [marksI_len]; exact hsz'.out, by rw [marksI_len]; exact HR'.out⟩⟩, hcg⟩
set_option maxRecDepth 100000 in
set_option maxHeartbeats 1000000 in
theorem heldInt64S_any (v : Value) (n : Nat) (lo hi : Nat) (m : Int) (w : World) (h : RdF encInt 1 w lo hi v (marksI m n)) (hh : hi ≤ w.heap.size) (hm : n ≤ 1099511627776) (h0 : 0 ≤ m) (h1 : m ≤ 1099511627776) :
    Calls Tryz.prog 39 #[v, .int .i64 m] w fun e w' => e = .returned (.int .i64 (m + n)) ∧ Below w.heap.size w w' := by
  obtain ⟨A, c, rfl, hc, hA⟩ := h
  rw [marksI_len] at hc hA ⊢
  go_enter Tryz.func39, Tryz.ntmps39
  go_wp2
  go_loop [1, 5] (fun q i => ∃ k : Nat, k ≤ n ∧ i = .int .i64 k ∧ q = .int .i64 (m + (k : Int))) (fun _ i => n - (intOf i).toNat)
  case atStart => exact ⟨0, Nat.zero_le _, rfl, by simp⟩
  case round =>
    obtain ⟨k, hk, rfl, rfl⟩ := hrel
    by_cases hlt : k < n
    · obtain ⟨b, off, rfl, -, hbw, hcell⟩ := hA (by omega)
      have c0 : w.cell? ⟨b, off + k, none⟩ = some (.int .i64 (m + (k : Int))) := by simpa using hcell k _ (marksI_at hlt) 0 _ rfl
      clear hcell hA
      go_wp2_with fail
      go_round
      case rel => exact ⟨k + 1, by omega, by go_num, by go_num⟩
      case measure => simp [intOf]; omega
    · have e : k = n := by omega
      have HK := Lib.hid e; clear e
      go_wp2_with fail
      go_ret
      exact ⟨ret_int (by rw [HK.out]), Below.refl _ _⟩
end Go.Proofs.YtgpknnlphabpkaaGreat
