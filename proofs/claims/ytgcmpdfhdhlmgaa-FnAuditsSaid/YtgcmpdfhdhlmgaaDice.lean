/- The dice of the laws: what they tell. -/
import Derived.Test.YtgcmpdfhdhlmgaaLike
import Derived.Laws.BitsAllLaws
namespace Go.Proofs.Ytgcmpdfhdhlmgaa
open Go.RowKit
set_option linter.unusedVariables false

/-- The dice at block g over a code in older blocks. -/
def Dice (w : World) (g : Nat) (bs : List Int) (hh : Int) : Prop := ∃ (lo hi : Nat) (A : Option Addr) (c : Nat), RdF encByte 1 w lo hi (.slice A bs.length c) bs ∧ hi ≤ g ∧ Blk w g 86 #[.slice A bs.length c, .int .i64 0, .int .u64 hh]
def rollN (h x : Int) : Int := IntKind.u64.wrap (IntKind.u64.wrap (IntKind.u64.wrap (h * 1099511628211) + x) + 3)
def rollH (bs : List Int) : Nat → Int
  | 0 => 13470219 + (bs.length : Int)
  | k + 1 => rollN (rollH bs k) ((bs[k]?).getD 0)
set_option maxRecDepth 100000 in
set_option maxHeartbeats 2000000 in
theorem roll_any (v : Value) (bs : List Int) (lo hi : Nat) (w : World) (h : RdF encByte 1 w lo hi v bs) (hh : hi ≤ w.heap.size) (hm : bs.length ≤ 4096) (hb : ∀ x ∈ bs, 0 ≤ x ∧ x ≤ 255) :
    Calls Try.prog 47 #[v, .int .u64 1701] w fun e w' => ∃ g : Nat, e = .returned (.pointer (some ⟨g, 0, none⟩)) ∧ w.heap.size ≤ g ∧ Dice w' g bs (rollH bs bs.length) ∧ Below w.heap.size w w' := by
  obtain ⟨A, c, rfl, hc⟩ := h.form
  have HB := Lib.hid hb; clear hb
  go_enter Try.func47, Try.ntmps47
  go_wp2_with fail
  go_loopw [6] (fun i wr => ∃ (k : Nat) (hx : Int), k ≤ bs.length ∧ i = .int .i64 k ∧ hx = rollH bs k ∧ Blk wr w.heap.size 86 #[.slice A bs.length c, .int .i64 0, .int .u64 hx] ∧ Below w.heap.size w wr) (fun i _ => bs.length - (intOf i).toNat)
  case atStart => exact ⟨0, _, Nat.zero_le _, rfl, rfl, Blk.newAt rfl, (Below.refl _ _).alloc (Nat.le_refl _) _⟩
  case round =>
    obtain ⟨k, hx, hk, rfl, hroll, kB, hbel⟩ := hrel
    have HR := Lib.hid hroll; clear hroll
    have z0 := hbel.size
    by_cases hlt : k < bs.length
    · have hki : (k : Int) < (bs.length : Int) := by omega
      obtain ⟨x, b, off, HS, rfl, -, hbw, hcell⟩ := RdF.get h hbel hh hlt
      have x1 : wr.cell? ⟨b, off + k, none⟩ = some (.int .u8 x) := by simpa [encByte] using hcell 0 _ rfl
      have hx' := HB.out x (List.mem_of_getElem? HS.out)
      obtain ⟨c0, c1, c2⟩ := kB.c3
      have f2 := kB.frozen 2
      clear hcell
      go_wp2_with fail
      go_still_tail 15, (by kernel_rfl)
      change wpList _ _ _ _ _ wr.drew
      go_wp2_with fail
      go_roundw
      case rel => exact ⟨k + 1, rollN hx x, by omega, by go_num, by rw [rollH, HS.out, ← HR.out]; rfl, (Blk.drew kB).set1 2 _, (Below.drew hbel).setCell (p := ⟨w.heap.size, 2, none⟩) (Nat.le_refl _) _⟩
      case measure => simp [intOf]; omega
    · obtain rfl : k = bs.length := by omega
      have hr := HR.out
      go_wp2_with fail
      go_ret
      exact ⟨_, rfl, Nat.le_refl _, hr ▸ ⟨lo, hi, _, c, h.below hbel hh, hh, kB⟩, hbel⟩
def rollV (bs : List Int) : Int := IntKind.u64.wrap (IntKind.u64.wrap (rollH bs bs.length * 6364136223846793005) + 1442695040888963407)
def rollB (bs : List Int) : Int := wrap64 (bits BinOp.and IntKind.u64 (rollV bs / 8589934592) 16777215)
theorem wrapU_bd (n : Int) : 0 ≤ IntKind.u64.wrap n ∧ IntKind.u64.wrap n < 18446744073709551616 := by
  simp [IntKind.wrap, IntKind.signed, IntKind.bits]
  omega
theorem rollB_bd (bs : List Int) : 0 ≤ rollB bs ∧ rollB bs ≤ 16777215 := by
  have h := wrapU_bd (IntKind.u64.wrap (rollH bs bs.length * 6364136223846793005) + 1442695040888963407)
  have h2 := u64_and (rollV bs / 8589934592) 16777215 (by unfold rollV; omega) (by unfold rollV; omega) (by omega) (by omega)
  have h3 : (rollV bs / 8589934592).toNat &&& (16777215 : Int).toNat ≤ (16777215 : Int).toNat := Nat.and_le_right
  unfold rollB
  rw [h2, IntWalk.wrap64_in _ (by omega)]
  omega
def diceV (bs : List Int) (n : Int) : Int := (rollB bs + (bs[0]?).getD 0) % n
set_option maxRecDepth 100000 in
set_option maxHeartbeats 2000000 in
theorem below_any (g : Nat) (bs : List Int) (n : Int) (w : World) (h : Dice w g bs (rollH bs bs.length)) (hm : bs.length ≤ 4096) (hb : ∀ x ∈ bs, 0 ≤ x ∧ x ≤ 255) (h0 : 1 ≤ n) (h1 : n ≤ 1000) :
    Calls Try.prog 48 #[.pointer (some ⟨g, 0, none⟩), .int .i64 n] w fun e w' => e = .returned (.int .i64 (diceV bs n)) ∧ Chg g (g + 1) w w' := by
  obtain ⟨lo, hi, A, c, hr, hg, kB⟩ := h
  have hl := kB.lt
  have HB := Lib.hid hb; clear hb
  obtain ⟨c0, c1, c2⟩ := kB.c3
  have f0 := kB.frozen 0
  have f1 := kB.frozen 1
  have f2 := kB.frozen 2
  obtain ⟨b0, b1⟩ := rollB_bd bs
  go_enter Try.func48, Try.ntmps48
  go_wp2_with fail
  have e1 : IntKind.u64.wrap (IntKind.u64.wrap (rollH bs bs.length * 6364136223846793005) + 1442695040888963407) = rollV bs := rfl
  rw [e1]
  have e2 : wrap64 (bits BinOp.and IntKind.u64 (rollV bs / 8589934592) 16777215) = rollB bs := rfl
  rw [e2]
  have k7 : Blk (w.setCell ⟨g, 2, none⟩ (.int .u64 (rollV bs))) g 86 #[.slice A bs.length c, .int .i64 0, .int .u64 (rollV bs)] := kB.set1 2 _
  have kc : Chg g (g + 1) w (w.setCell ⟨g, 2, none⟩ (.int .u64 (rollV bs))) := (Chg.refl _ _ _).setCell (p := ⟨g, 2, none⟩) (Nat.le_refl _) (Nat.lt_succ_self _) _
  have kR := hr.chg kc (by omega) (.inl hg)
  clear c0 c1 c2 f0 f1 f2 kB hr e1 e2
  generalize w.setCell ⟨g, 2, none⟩ (.int .u64 (rollV bs)) = W1 at *
  obtain ⟨c0, c1, c2⟩ := k7.c3
  have f1 := k7.frozen 1
  by_cases hz : 0 < bs.length
  · have hzi : (0 : Int) < (bs.length : Int) := by omega
    obtain ⟨x, b, off, HS, rfl, -, hbw, hcell⟩ := RdF.get kR (Below.refl W1.heap.size W1) (by have := kc.size; omega) hz
    have x1 : W1.cell? ⟨b, off, none⟩ = some (.int .u8 x) := by simpa [encByte] using hcell 0 _ rfl
    have hx := HB.out x (List.mem_of_getElem? HS.out)
    have HV := Lib.hid (show diceV bs n = (rollB bs + x) % n by rw [diceV, HS.out]; rfl)
    clear hcell
    generalize rollB bs = B at *
    go_quiet (fail)
    go_wp2_with fail
    go_quiet (fail)
    go_wp2_with fail
    go_ret
    exact ⟨ret_int (by rw [HV.out]), by first | exact ((kc.drewN _).setCell (p := ⟨g, 1, none⟩) (Nat.le_refl _) (Nat.lt_succ_self _) _) | exact (((kc.drewN _).drewN _).setCell (p := ⟨g, 1, none⟩) (Nat.le_refl _) (Nat.lt_succ_self _) _) | exact ((kc.drewN _).setCell (p := ⟨g, 1, none⟩) (Nat.le_refl _) (Nat.lt_succ_self _) _).drewN _⟩
  · have hzi : ¬ (0 : Int) < (bs.length : Int) := by omega
    have HV := Lib.hid (show diceV bs n = rollB bs % n by
      have : bs = [] := List.eq_nil_of_length_eq_zero (by omega)
      rw [diceV, this]; simp)
    generalize rollB bs = B at *
    go_quiet (fail)
    go_wp2_with fail
    go_ret
    exact ⟨ret_int (by rw [HV.out]), kc.drewN _⟩
theorem diceV_bd (bs : List Int) {n : Int} (h : 1 ≤ n) : 0 ≤ diceV bs n ∧ diceV bs n < n := ⟨Int.emod_nonneg _ (by omega), Int.emod_lt_of_pos _ (by omega)⟩
end Go.Proofs.Ytgcmpdfhdhlmgaa
