/- The source of the draws: what a draw tells, and what it turns. -/
import Derived.Test.YtfafcicbfgdmcaaIntsH
import Derived.Test.YtfafcicbfgdmcaaMem4
import Derived.StillTailTactics
namespace Go.Proofs.Ytfafcicbfgdmcaa
open Go.RowKit
set_option linter.unusedVariables false

/- The source at block q: the code it reads lies in older blocks. -/
def encByte (x : Int) : List Value := [.int .u8 x]
def Src (w : World) (q : Nat) : Prop := ∃ (lo hi : Nat) (A : Option Addr) (c : Nat) (bs : List Int) (a s : Nat), RdF encByte 1 w lo hi (.slice A bs.length c) bs ∧ hi ≤ q ∧ bs.length ≤ 4096 ∧ (∀ x ∈ bs, 0 ≤ x ∧ x ≤ 255) ∧ a ≤ bs.length ∧ s < 2147483647 ∧ Blk w q 70 #[.slice A bs.length c, .int .i64 a, .int .i64 s]
theorem Src.lt {w : World} {q : Nat} (h : Src w q) : q < w.heap.size := by
  obtain ⟨_, _, _, _, _, _, _, _, _, _, _, _, _, h⟩ := h
  exact h.lt
theorem Src.below {w w' : World} {q B : Nat} (h : Src w q) (hb : Below B w w') (hB : q < B) : Src w' q := by
  obtain ⟨lo, hi, A, c, bs, a, s, h1, h2, h3, h4, h5, h6, h7⟩ := h
  exact ⟨lo, hi, A, c, bs, a, s, h1.below hb (by omega), h2, h3, h4, h5, h6, h7.below hb hB⟩
theorem Src.chg {w w' : World} {q lo' hi' : Nat} (h : Src w q) (hc : Chg lo' hi' w w') (hd : q < lo') : Src w' q := by
  have hl := h.lt
  obtain ⟨lo, hi, A, c, bs, a, s, h1, h2, h3, h4, h5, h6, h7⟩ := h
  exact ⟨lo, hi, A, c, bs, a, s, h1.chg hc (by omega) (.inl (by omega)), h2, h3, h4, h5, h6, h7.chg hc hl (.inl hd)⟩
theorem Src.alloc {w : World} {q : Nat} (h : Src w q) (o : Obj) : Src (w.alloc o) q := h.below (B := w.heap.size) ((Below.refl _ _).alloc (Nat.le_refl _) o) h.lt
theorem Src.drew {w : World} {q : Nat} (h : Src w q) : Src w.drew q := h
theorem Chg.drewN {lo hi : Nat} {a w : World} (h : Chg lo hi a w) (n : Nat) : Chg lo hi a (w.drewN n) := ⟨h.os, h.tape, h.output, h.size, h.block⟩
set_option maxRecDepth 100000 in
set_option maxHeartbeats 2000000 in
theorem l01Next_any (q : Nat) (n : Int) (w : World) (h : Src w q) (hn9 : n ≤ 9223372036854775807) :
    Calls Try.prog 37 #[.pointer (some ⟨q, 0, none⟩), .int .i64 n] w fun e w' => ∃ r : Int, e = .returned (.int .i64 r) ∧ 0 ≤ r ∧ (r < n ∨ n ≤ 1 ∧ r = 0) ∧ Src w' q ∧ Chg q (q + 1) w w' := by
  by_cases hn : n ≤ 1
  · go_enter Try.func37, Try.ntmps37
    go_wp2_with fail
    go_ret
    exact ⟨0, rfl, Int.le_refl _, .inr ⟨hn, rfl⟩, h, Chg.refl _ _ _⟩
  · obtain ⟨lo, hi, A, c, bs, a, s, h1, h2, h3, h4, h5, h6, h7⟩ := h
    have hl := h7.lt
    have h4' := Lib.hid h4; clear h4
    obtain ⟨c0, c1, c2⟩ := h7.c3
    have f0 := h7.frozen 0
    have f1 := h7.frozen 1
    have f2 := h7.frozen 2
    go_enter Try.func37, Try.ntmps37
    go_wp2_with fail
    obtain ⟨s1, h61, es⟩ : ∃ s1 : Nat, s1 < 2147483647 ∧ ((s : Int) * 48271 + 29) % 2147483647 = (s1 : Int) := ⟨(s * 48271 + 29) % 2147483647, by omega, by omega⟩
    rw [es]
    have k7 : Blk (w.setCell ⟨q, 2, none⟩ (.int .i64 (s1 : Int))) q 70 #[.slice A bs.length c, .int .i64 a, .int .i64 s1] := h7.set1 2 (.int .i64 (s1 : Int))
    have kc : Chg q (q + 1) w (w.setCell ⟨q, 2, none⟩ (.int .i64 (s1 : Int))) := (Chg.refl _ _ _).setCell (p := ⟨q, 2, none⟩) (Nat.le_refl _) (Nat.lt_succ_self _) _
    have kR := h1.chg kc (by omega) (.inl h2)
    clear c0 c1 c2 f0 f1 f2 h7 h1 es
    generalize w.setCell ⟨q, 2, none⟩ (.int .i64 (s1 : Int)) = W1 at *
    obtain ⟨c0, c1, c2⟩ := k7.c3
    have f0 := k7.frozen 0
    have f1 := k7.frozen 1
    have f2 := k7.frozen 2
    by_cases ha : a < bs.length
    rotate_left
    · have hai : ¬ (a : Int) < (bs.length : Int) := by omega
      go_quiet (fail)
      go_wp2_with fail
      go_ret
      exact ⟨(s1 : Int) / 31 % n, rfl, Int.emod_nonneg _ (by omega), .inl (Int.emod_lt_of_pos _ (by omega)), ⟨lo, hi, A, c, bs, a, s1, kR, h2, h3, h4'.out, h5, h61, k7⟩, kc.drewN _⟩
    · have hai : (a : Int) < (bs.length : Int) := by omega
      obtain ⟨x, b, off, HS, rfl, -, hbw, hcell⟩ := RdF.get kR (Below.refl W1.heap.size W1) (by have := kc.size; omega) ha
      have x1 : W1.cell? ⟨b, off + a, none⟩ = some (.int .u8 x) := by simpa [encByte] using hcell 0 _ rfl
      have hx := h4'.out x (List.mem_of_getElem? HS.out)
      have hbq : b ≠ q := by omega
      have hqb : q ≠ b := by omega
      clear hcell
      by_cases hn2 : n ≤ 256
      · cases hpar : (((a : Int) + 1) % 2 == 0) with
        | true =>
          go_quiet (fail)
          go_wp2_with fail
          go_quiet (fail)
          go_wp2_with fail
          have x2 : ∀ u, ∀ k, ((W1.drewN k).setCell ⟨q, 1, none⟩ u).cell? ⟨b, off + a, none⟩ = some (.int .u8 x) := fun u k => (((Below.refl q (W1.drewN k)).setCell (p := ⟨q, 1, none⟩) (Nat.le_refl _) u).cell (p := ⟨b, off + a, none⟩) (show b < q by omega)).trans x1
          go_quiet (fail)
          go_wp2_with fail
          go_ret
          exact ⟨x % n, rfl, Int.emod_nonneg _ (by omega), .inl (Int.emod_lt_of_pos _ (by omega)), ⟨lo, hi, some ⟨b, off, none⟩, c, bs, a + 1, s1, RdF.set (w := W1.drewN _) kR (.inr h2) _, h2, h3, h4'.out, ha, h61, (k7.drewN _).set1 1 _⟩, ((kc.drewN _).setCell (p := ⟨q, 1, none⟩) (Nat.le_refl _) (Nat.lt_succ_self _) _).drewN _⟩
        | false =>
          go_quiet (fail)
          go_wp2_with fail
          go_quiet (fail)
          go_wp2_with fail
          go_ret
          exact ⟨((s1 : Int) / 31 + x) % n, rfl, Int.emod_nonneg _ (by omega), .inl (Int.emod_lt_of_pos _ (by omega)), ⟨lo, hi, some ⟨b, off, none⟩, c, bs, a + 1, s1, RdF.set (w := W1.drewN _) kR (.inr h2) _, h2, h3, h4'.out, ha, h61, (k7.drewN _).set1 1 _⟩, (kc.drewN _).setCell (p := ⟨q, 1, none⟩) (Nat.le_refl _) (Nat.lt_succ_self _) _⟩
      · go_quiet (fail)
        go_wp2_with fail
        go_quiet (fail)
        go_wp2_with fail
        go_ret
        exact ⟨((s1 : Int) / 31 + x) % n, rfl, Int.emod_nonneg _ (by omega), .inl (Int.emod_lt_of_pos _ (by omega)), ⟨lo, hi, some ⟨b, off, none⟩, c, bs, a + 1, s1, RdF.set (w := W1.drewN _) kR (.inr h2) _, h2, h3, h4'.out, ha, h61, (k7.drewN _).set1 1 _⟩, (kc.drewN _).setCell (p := ⟨q, 1, none⟩) (Nat.le_refl _) (Nat.lt_succ_self _) _⟩
theorem Chg.allocd {lo hi : Nat} {a w : World} (h : Chg lo hi a w) (o : Obj) : Chg lo hi a (w.alloc o) := h.trans (Chg.of_below ((Below.refl _ _).alloc (Nat.le_refl _) o))
set_option maxRecDepth 100000 in
set_option maxHeartbeats 2000000 in
theorem l01Pick_any (q : Nat) (v : Value) (L : List Int) (lo hi : Nat) (w : World) (h : Src w q) (hr : RdF encInt 1 w lo hi v L) (hh : hi ≤ w.heap.size) (hd : hi ≤ q ∨ q + 1 ≤ lo) (h0 : 0 < L.length) (hm : L.length ≤ 1048576) :
    Calls Try.prog 38 #[.pointer (some ⟨q, 0, none⟩), v] w fun e w' => ∃ r : Int, e = .returned (.int .i64 r) ∧ r ∈ L ∧ Src w' q ∧ Chg q (q + 1) w w' := by
  obtain ⟨A, c, rfl, hc⟩ := hr.form
  go_enter Try.func38, Try.ntmps38
  go_wp2_with fail
  refine (l01Next_any q _ _ h (by omega)).mono ?_
  rintro e w1 ⟨r, rfl, hr0, hr1, hs1, hc1⟩
  obtain ⟨k, rfl⟩ : ∃ k : Nat, r = (k : Int) := ⟨r.toNat, by omega⟩
  have hk : k < L.length := by omega
  have hki : (k : Int) < (L.length : Int) := by omega
  have hz := hc1.size
  obtain ⟨x, b, off, HS, rfl, -, hbw, hcell⟩ := RdF.get (hr.chg hc1 (by omega) hd) (Below.refl w1.heap.size w1) (by omega) hk
  have x1 : w1.cell? ⟨b, off + k, none⟩ = some (.int .i64 x) := by simpa [encInt] using hcell 0 _ rfl
  clear hcell
  go_wp2_with fail
  go_ret
  exact ⟨x, rfl, List.mem_of_getElem? HS.out, hs1, hc1⟩
set_option maxRecDepth 100000 in
set_option maxHeartbeats 2000000 in
theorem l01From_any (v : Value) (bs : List Int) (lo hi : Nat) (w : World) (h : RdF encByte 1 w lo hi v bs) (hh : hi ≤ w.heap.size) (hm : bs.length ≤ 4096) (hb : ∀ x ∈ bs, 0 ≤ x ∧ x ≤ 255) :
    Calls Try.prog 31 #[v] w fun e w' => ∃ q : Nat, e = .returned (.pointer (some ⟨q, 0, none⟩)) ∧ w.heap.size ≤ q ∧ Src w' q ∧ Below w.heap.size w w' := by
  obtain ⟨A, c, rfl, hc⟩ := h.form
  have HB := Lib.hid hb; clear hb
  go_enter Try.func31, Try.ntmps31
  go_wp2_with fail
  go_loopw [4] (fun i wr => ∃ k s : Nat, k ≤ bs.length ∧ i = .int .i64 k ∧ s < 2147483647 ∧ Blk wr w.heap.size 70 #[.slice A bs.length c, .int .i64 0, .int .i64 s] ∧ Below w.heap.size w wr) (fun i _ => bs.length - (intOf i).toNat)
  case atStart => exact ⟨0, 61043, Nat.zero_le _, rfl, by omega, Blk.newAt rfl, (Below.refl _ _).alloc (Nat.le_refl _) _⟩
  case round =>
    obtain ⟨k, s, hk, rfl, hs, kB, hbel⟩ := hrel
    have z0 := hbel.size
    by_cases hlt : k < bs.length
    · have hki : (k : Int) < (bs.length : Int) := by omega
      obtain ⟨x, b, off, HS, rfl, -, hbw, hcell⟩ := RdF.get h hbel hh hlt
      have x1 : wr.cell? ⟨b, off + k, none⟩ = some (.int .u8 x) := by simpa [encByte] using hcell 0 _ rfl
      have hx := HB.out x (List.mem_of_getElem? HS.out)
      obtain ⟨c0, c1, c2⟩ := kB.c3
      have f2 := kB.frozen 2
      clear hcell
      by_cases hk64 : k < 64
      · have hk64i : (k : Int) < 64 := by omega
        go_wp2_with fail
        obtain ⟨s1, h61, es⟩ : ∃ s1 : Nat, s1 < 2147483647 ∧ ((s : Int) * 83 + x) % 2147483647 = (s1 : Int) := ⟨((s * 83 + x.toNat) % 2147483647), by omega, by omega⟩
        go_still_tail 15, (by kernel_rfl)
        change wpList _ _ _ _ _ wr.drew
        go_wp2_with fail
        try rw [es]
        go_roundw
        case rel => exact ⟨k + 1, s1, by omega, by go_num, h61, by rw [← es]; exact (Blk.drew kB).set1 2 _, (Below.drew hbel).setCell (p := ⟨w.heap.size, 2, none⟩) (Nat.le_refl _) _⟩
        case measure => simp [intOf]; omega
      · have hk64i : ¬ (k : Int) < 64 := by omega
        go_wp2_with fail
        go_ret
        exact ⟨_, rfl, Nat.le_refl _, ⟨lo, hi, _, c, bs, 0, s, h.below hbel hh, hh, hm, HB.out, Nat.zero_le _, hs, kB⟩, hbel⟩
    · go_wp2_with fail
      go_ret
      exact ⟨_, rfl, Nat.le_refl _, ⟨lo, hi, _, c, bs, 0, s, h.below hbel hh, hh, hm, HB.out, Nat.zero_le _, hs, kB⟩, hbel⟩
end Go.Proofs.Ytfafcicbfgdmcaa
