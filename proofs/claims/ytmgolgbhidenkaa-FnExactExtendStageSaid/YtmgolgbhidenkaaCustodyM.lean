/- Custody: marks and their test. -/
import Derived.Test.YtmgolgbhidenkaaCustodyH
import Derived.Test.YtmgolgbhidenkaaIntsH
import Derived.Test.YtmgolgbhidenkaaBoolsH
import Derived.Test.YtmgolgbhidenkaaMem4
namespace Go.Proofs.Ytmgolgbhidenkaa
open Go.RowKit
set_option linter.unusedVariables false

theorem RdW.mrk {α : Type} {enc : α → List Value} {sz : Nat} {t t' : TypeId} {w w' : World} {lo hi lo2 hi2 : Nat} {v : Value} {xs : List α} (h : RdW enc sz t' w lo hi v xs) (hm : Mrk t lo2 hi2 w w') (hne : t' ≠ t) : RdW enc sz t' w' lo hi v xs :=
  h.mono_blk fun g ar hb => by
    obtain ⟨ar', h1, -, h3⟩ := hm.form g t' ar hb
    rw [h3 hne] at h1
    exact h1
def marksB (m : Int) (n : Nat) : List Bool := (List.range n).map fun (i : Nat) => decide ((m + (i : Int)) % 3 = 0)
theorem marksB_len (m : Int) (n : Nat) : (marksB m n).length = n := by simp [marksB]
theorem marksB_at {m : Int} {n k : Nat} (h : k < n) : (marksB m n)[k]? = some (decide ((m + (k : Int)) % 3 = 0)) := by simp [marksB, h]
set_option maxRecDepth 100000 in
set_option maxHeartbeats 1000000 in
theorem markIntM_any (v : Value) (xs : List Int) (lo hi : Nat) (m : Int) (w : World) (h : RdW encInt 1 2 w lo hi v xs) (hh : hi ≤ w.heap.size) (hm : xs.length ≤ 1099511627776) (h0 : 0 ≤ m) (h1 : m ≤ 1099511627776) :
    Calls Try.prog 42 #[v, .int .i64 m] w fun e w' => e = .returned (.int .i64 (m + xs.length)) ∧ (RdW encInt 1 2 w' lo hi v (marksI m xs.length) ∧ Mrk 2 lo hi w w') := by
  obtain ⟨A, c, rfl, hc, hA⟩ := h
  by_cases hz : xs.length = 0
  · have hlt : ¬ ((0 : Int) < (xs.length : Int)) := by omega
    go_enter Try.func42, Try.ntmps42
    go_wp2
    refine wp_loop_rounds 1 ?_
    rw [rounds_succ]
    go_wp2_with fail
    go_ret
    refine ⟨ret_int (by omega), ⟨A, c, by rw [marksI_len], by rw [marksI_len]; exact hc, fun hl => ?_⟩, Mrk.refl _ _ _ _⟩
    rw [marksI_len] at hl
    omega
  · obtain ⟨g, arr, rfl, hg1, hg2, hblk, hsz, hrow⟩ := hA (by omega)
    clear hrow hA
    go_enter Try.func42, Try.ntmps42
    go_wp2
    go_loopw [1, 5] (fun q i wr => ∃ k : Nat, k ≤ xs.length ∧ i = .int .i64 k ∧ q = .int .i64 (m + (k : Int)) ∧ ∃ ar : Array Value, Hid (xs.length * 1 ≤ ar.size) ∧ Hid (RowTo encInt 1 ar (marksI m xs.length) k) ∧ Blk wr g 2 ar ∧ Mrk 2 lo hi w wr) (fun _ i _ => xs.length - (intOf i).toNat)
    case atStart => exact ⟨0, Nat.zero_le _, rfl, by simp, arr, hsz, RowTo.zero, hblk, Mrk.refl _ _ _ _⟩
    case round =>
      obtain ⟨k, hk, rfl, rfl, ar, hsz', HR, hb, hcg⟩ := hrel
      have z0 := hcg.chg.size
      by_cases hlt : k < xs.length
      · obtain ⟨u0, f0⟩ := hb.some_ k (by have := hsz'.out; omega)
        have g0 := hb.frozen k
        go_wp2_with fail
        go_roundw
        case rel =>
          refine ⟨k + 1, by omega, by go_num, by go_num, setL ar (k * 1) (encInt (m + (k : Int))), ?_, ?_, ?_, hcg.trans (Mrk.set hb hg1 hg2 k _)⟩
          · show _ ≤ _
            rw [setL_size]; exact hsz'.out
          · exact HR.out.step' (marksI_at hlt) (fun _ => rfl) (by have := hsz'.out; omega)
          · have := hb.set1 (k * 1) (.int .i64 (m + (k : Int)))
            simpa [encInt] using this
        case measure => simp [intOf]; omega
      · have e : k = xs.length := by omega
        have HR' : Hid (RowTo encInt 1 ar (marksI m xs.length) xs.length) := by have h := HR.out; rw [e] at h; exact h
        have HK := Lib.hid e; clear e
        go_wp2_with fail
        go_ret
        exact ⟨ret_int (by rw [HK.out]), ⟨some ⟨g, 0, none⟩, c, by rw [marksI_len], by rw [marksI_len]; exact hc, fun _ => ⟨g, ar, rfl, hg1, hg2, hb, by rw [marksI_len]; exact hsz'.out, by rw [marksI_len]; exact HR'.out⟩⟩, hcg⟩
set_option maxRecDepth 100000 in
set_option maxHeartbeats 1000000 in
theorem markBoolM_any (v : Value) (xs : List Bool) (lo hi : Nat) (m : Int) (w : World) (h : RdW encBool 1 4 w lo hi v xs) (hh : hi ≤ w.heap.size) (hm : xs.length ≤ 1099511627776) (h0 : 0 ≤ m) (h1 : m ≤ 1099511627776) :
    Calls Try.prog 79 #[v, .int .i64 m] w fun e w' => e = .returned (.int .i64 (m + xs.length)) ∧ (RdW encBool 1 4 w' lo hi v (marksB m xs.length) ∧ Mrk 4 lo hi w w') := by
  obtain ⟨A, c, rfl, hc, hA⟩ := h
  by_cases hz : xs.length = 0
  · have hlt : ¬ ((0 : Int) < (xs.length : Int)) := by omega
    go_enter Try.func79, Try.ntmps79
    go_wp2
    refine wp_loop_rounds 1 ?_
    rw [rounds_succ]
    go_wp2_with fail
    go_ret
    refine ⟨ret_int (by omega), ⟨A, c, by rw [marksB_len], by rw [marksB_len]; exact hc, fun hl => ?_⟩, Mrk.refl _ _ _ _⟩
    rw [marksB_len] at hl
    omega
  · obtain ⟨g, arr, rfl, hg1, hg2, hblk, hsz, hrow⟩ := hA (by omega)
    clear hrow hA
    go_enter Try.func79, Try.ntmps79
    go_wp2
    go_loopw [1, 5] (fun q i wr => ∃ k : Nat, k ≤ xs.length ∧ i = .int .i64 k ∧ q = .int .i64 (m + (k : Int)) ∧ ∃ ar : Array Value, Hid (xs.length * 1 ≤ ar.size) ∧ Hid (RowTo encBool 1 ar (marksB m xs.length) k) ∧ Blk wr g 4 ar ∧ Mrk 4 lo hi w wr) (fun _ i _ => xs.length - (intOf i).toNat)
    case atStart => exact ⟨0, Nat.zero_le _, rfl, by simp, arr, hsz, RowTo.zero, hblk, Mrk.refl _ _ _ _⟩
    case round =>
      obtain ⟨k, hk, rfl, rfl, ar, hsz', HR, hb, hcg⟩ := hrel
      have z0 := hcg.chg.size
      by_cases hlt : k < xs.length
      · obtain ⟨u0, f0⟩ := hb.some_ k (by have := hsz'.out; omega)
        have g0 := hb.frozen k
        cases hd : decide ((m + (k : Int)) % 3 = 0)
        all_goals
          have HD := Lib.hid hd
          have hd2 : (((m + (k : Int)) % 3 : Int) == 0) = decide ((m + (k : Int)) % 3 = 0) := by rw [Bool.eq_iff_iff]; simp
          rw [hd] at hd2
          clear hd
          go_wp2_with fail
          go_roundw
          case rel =>
            refine ⟨k + 1, by omega, by go_num, by go_num, setL ar (k * 1) (encBool (decide ((m + (k : Int)) % 3 = 0))), ?_, ?_, ?_, hcg.trans (Mrk.set hb hg1 hg2 k _)⟩
            · show _ ≤ _
              rw [setL_size]; exact hsz'.out
            · exact HR.out.step' (marksB_at hlt) (fun _ => rfl) (by have := hsz'.out; omega)
            · have := hb.set1 (k * 1) (.bool (decide ((m + (k : Int)) % 3 = 0)))
              rw [HD.out] at this ⊢
              simpa [encBool] using this
          case measure => simp [intOf]; omega
      · have e : k = xs.length := by omega
        have HR' : Hid (RowTo encBool 1 ar (marksB m xs.length) xs.length) := by have h := HR.out; rw [e] at h; exact h
        have HK := Lib.hid e; clear e
        go_wp2_with fail
        go_ret
        exact ⟨ret_int (by rw [HK.out]), ⟨some ⟨g, 0, none⟩, c, by rw [marksB_len], by rw [marksB_len]; exact hc, fun _ => ⟨g, ar, rfl, hg1, hg2, hb, by rw [marksB_len]; exact hsz'.out, by rw [marksB_len]; exact HR'.out⟩⟩, hcg⟩
set_option maxRecDepth 100000 in
set_option maxHeartbeats 1000000 in
theorem heldBoolS_any (v : Value) (n : Nat) (lo hi : Nat) (m : Int) (w : World) (h : RdF encBool 1 w lo hi v (marksB m n)) (hh : hi ≤ w.heap.size) (hm : n ≤ 1099511627776) (h0 : 0 ≤ m) (h1 : m ≤ 1099511627776) :
    Calls Try.prog 81 #[v, .int .i64 m] w fun e w' => e = .returned (.int .i64 (m + n)) ∧ Below w.heap.size w w' := by
  obtain ⟨A, c, rfl, hc, hA⟩ := h
  rw [marksB_len] at hc hA ⊢
  go_enter Try.func81, Try.ntmps81
  go_wp2
  go_loopw [1, 5] (fun q i wr => ∃ k : Nat, k ≤ n ∧ i = .int .i64 k ∧ q = .int .i64 (m + (k : Int)) ∧ Below w.heap.size w wr) (fun _ i _ => n - (intOf i).toNat)
  case atStart => exact ⟨0, Nat.zero_le _, rfl, by simp, Below.refl _ _⟩
  case round =>
    obtain ⟨k, hk, rfl, rfl, hbel⟩ := hrel
    have z0 := hbel.size
    by_cases hlt : k < n
    · obtain ⟨b, off, rfl, -, hbw, hcell⟩ := hA (by omega)
      have c0 : wr.cell? ⟨b, off + k, none⟩ = some (.bool (decide ((m + (k : Int)) % 3 = 0))) := (hbel.cell (p := ⟨b, off + k, none⟩) (by show b < _; omega)).trans (by simpa using hcell k _ (marksB_at hlt) 0 _ rfl)
      clear hcell hA
      cases hd : decide ((m + (k : Int)) % 3 = 0)
      all_goals
        have hd2 : (((m + (k : Int)) % 3 : Int) == 0) = decide ((m + (k : Int)) % 3 = 0) := by rw [Bool.eq_iff_iff]; simp
        rw [hd] at hd2 c0
        clear hd
        go_wp2_with fail
        try (go_quiet (fail))
        try (go_wp2_with fail)
        go_roundw
        case rel => exact ⟨k + 1, by omega, by go_num, by go_num, by (repeat (first | with_reducible assumption | with_reducible exact Below.refl _ _ | with_reducible refine Below.setCell ?_ ?_ _ | with_reducible refine Below.alloc ?_ ?_ _ | with_reducible refine Below.drew ?_ | with_reducible refine below_drewN ?_ _ | with_reducible refine Below.step (by with_reducible assumption) ?_ ?_ | omega | (simp <;> omega) | (simp; done)))⟩
        case measure => simp [intOf]; omega
    · have e : k = n := by omega
      have HK := Lib.hid e; clear e
      go_wp2_with fail
      go_ret
      exact ⟨ret_int (by rw [HK.out]), hbel⟩
set_option maxRecDepth 100000 in
set_option maxHeartbeats 1000000 in
theorem markCustody_any (c : Custody) (p0 p1 : Value) (lo hi : Nat) (m : Int) (w : World) (h0 : RdW encInt 1 2 w lo hi p0 c.done) (h1 : RdW encBool 1 4 w lo hi p1 c.ext) (hh : hi ≤ w.heap.size) (hs : c.small) (hm0 : 0 ≤ m) (hm1 : m ≤ 1099511627776 - 1048576) :
    Calls Try.prog 43 #[.agg #[.int .i64 c.start, p0, p1], .int .i64 m] w fun e w' => e = .returned (.int .i64 (m + (c.done.length : Int) + (c.ext.length : Int))) ∧ RdW encInt 1 2 w' lo hi p0 (marksI m c.done.length) ∧ RdW encBool 1 4 w' lo hi p1 (marksB (m + (c.done.length : Int)) c.ext.length) ∧ Chg lo hi w w' := by
  obtain ⟨A0, C0, rfl, hC0⟩ := h0.form
  obtain ⟨A1, C1, rfl, hC1⟩ := h1.form
  have hl0 := hs.len0
  have hl1 := hs.len1
  have kX := Blk.newAt (w := w) (n := w.heap.size) (t := 32) (cs := #[.int .i64 c.start, .slice A0 c.done.length C0, .slice A1 c.ext.length C1]) rfl
  have hbkX : Below w.heap.size w (w.alloc (.cells #[.int .i64 c.start, .slice A0 c.done.length C0, .slice A1 c.ext.length C1] 32)) := (Below.refl _ _).alloc (Nat.le_refl _) _
  have hzkX : (w.alloc (.cells #[.int .i64 c.start, .slice A0 c.done.length C0, .slice A1 c.ext.length C1] 32)).heap.size = w.heap.size + 1 := by simp
  have hck := Chg.of_below (lo := lo) (hi := hi) hbkX
  replace h0 := h0.below hbkX hh
  replace h1 := h1.below hbkX hh
  go_enter Try.func43, Try.ntmps43
  go_wp2_with fail
  generalize (w.alloc (.cells #[.int .i64 c.start, .slice A0 c.done.length C0, .slice A1 c.ext.length C1] 32)) = W0 at *
  refine (markIntM_any _ c.done lo hi m _ h0 (by omega) (by omega) hm0 (by omega)).mono ?_
  rintro e w1 ⟨rfl, hg0, mk1⟩
  have z1 := mk1.chg.size
  have kX1 := kX.chg mk1.chg (by omega) (.inr hh)
  obtain ⟨q0, q1, q2⟩ := kX1.c3
  replace h1 := h1.mrk mk1 (by decide)
  go_wp2_with fail
  refine (markBoolM_any _ c.ext lo hi _ _ h1 (by omega) (by omega) (by omega) (by omega)).mono ?_
  rintro e w2 ⟨rfl, hg1, mk2⟩
  have z2 := mk2.chg.size
  replace hg0 := hg0.mrk mk2 (by decide)
  go_wp2_with fail
  go_ret
  exact ⟨rfl, hg0, hg1, hck.trans (mk1.chg.trans mk2.chg)⟩
set_option maxRecDepth 100000 in
set_option maxHeartbeats 1000000 in
theorem heldCustody_any (s : Int) (n0 n1 : Nat) (p0 p1 : Value) (lo hi : Nat) (m : Int) (w : World) (h0 : RdF encInt 1 w lo hi p0 (marksI m n0)) (h1 : RdF encBool 1 w lo hi p1 (marksB (m + (n0 : Int)) n1)) (hh : hi ≤ w.heap.size) (hn0 : n0 ≤ 1048576) (hn1 : n1 ≤ 1048576) (hm0 : 0 ≤ m) (hm1 : m ≤ 1099511627776 - 1048576) :
    Calls Try.prog 44 #[.agg #[.int .i64 s, p0, p1], .int .i64 m] w fun e w' => e = .returned (.int .i64 (m + (n0 : Int) + (n1 : Int))) ∧ Below w.heap.size w w' := by
  obtain ⟨A0, C0, rfl, hC0⟩ := h0.form
  obtain ⟨A1, C1, rfl, hC1⟩ := h1.form
  have kX := Blk.newAt (w := w) (n := w.heap.size) (t := 32) (cs := #[.int .i64 s, .slice A0 (marksI m n0).length C0, .slice A1 (marksB (m + (n0 : Int)) n1).length C1]) rfl
  have hbkX : Below w.heap.size w (w.alloc (.cells #[.int .i64 s, .slice A0 (marksI m n0).length C0, .slice A1 (marksB (m + (n0 : Int)) n1).length C1] 32)) := (Below.refl _ _).alloc (Nat.le_refl _) _
  have hzkX : (w.alloc (.cells #[.int .i64 s, .slice A0 (marksI m n0).length C0, .slice A1 (marksB (m + (n0 : Int)) n1).length C1] 32)).heap.size = w.heap.size + 1 := by simp
  replace h0 := h0.below hbkX hh
  replace h1 := h1.below hbkX hh
  go_enter Try.func44, Try.ntmps44
  go_wp2_with fail
  generalize (w.alloc (.cells #[.int .i64 s, .slice A0 (marksI m n0).length C0, .slice A1 (marksB (m + (n0 : Int)) n1).length C1] 32)) = W0 at *
  refine (heldInt64S_any _ n0 lo hi m _ h0 (by omega) (by omega) hm0 (by omega)).mono ?_
  rintro e w1 ⟨rfl, b1⟩
  have z1 := b1.size
  have kX1 := kX.below b1 (by omega)
  obtain ⟨q0, q1, q2⟩ := kX1.c3
  replace h1 := h1.below b1 (by omega)
  have hp : ¬ m + (n0 : Int) < 0 := by omega
  go_wp2_with fail
  refine (heldBoolS_any _ n1 lo hi _ _ h1 (by omega) (by omega) (by omega) (by omega)).mono ?_
  rintro e w2 ⟨rfl, b2⟩
  have hp2 : ¬ m + (n0 : Int) + (n1 : Int) < 0 := by omega
  go_wp2_with fail
  go_ret
  exact ⟨rfl, Below.step b2 (by omega) (Below.step b1 (by omega) hbkX)⟩
end Go.Proofs.Ytmgolgbhidenkaa
