/- Walks: people whom two hearings need; whether two hearings clash. Written by a program (gen_shared.py). -/
import Derived.Test.YtdcfenkkgnnbbaaSharedW
import Derived.Test.YtdcfenkkgnnbbaaFitW
namespace Go.Proofs.Ytdcfenkkgnnbbaa
open Go.RowKit
set_option linter.unusedVariables false

def clashB (a : Hearing) (s : Slot) (b : Hearing) (t : Slot) : Bool := decide (s.day = t.day) && (decide (s.frm < t.frm + b.len) && (decide (t.frm < s.frm + a.len) && (decide (s.room = t.room) || decide (0 < (sharedL a b).length))))
def doClash (a : Hearing) (s : Slot) (b : Hearing) (t : Slot) : Bool × Int := if a.ok && s.ok && b.ok && t.ok then (clashB a s b t, 0) else (false, 1)
def sharedPeople (a b : Hearing) : List ByteArray × Int := if a.ok && b.ok then (sortW (sharedL a b), 0) else ([], 1)
theorem sharedPeople_len {a b : Hearing} (h : a.small) : (sharedPeople a b).1.length ≤ 1048576 := by
  have := h.len0
  have h2 := sharedL_len a b
  unfold sharedPeople
  split
  · simp only [sortW_len]; omega
  · simp

set_option maxRecDepth 100000 in
set_option maxHeartbeats 4000000 in
theorem l19Shared_any (a : Hearing) (pa : Value) (lo hi : Nat) (b : Hearing) (pb : Value) (lo2 hi2 : Nat) (w : World) (ha : RdF encStr 1 w lo hi pa a.people) (hh : hi ≤ w.heap.size) (hsa : a.small) (hb : RdF encStr 1 w lo2 hi2 pb b.people) (hh2 : hi2 ≤ w.heap.size) (hsb : b.small) (hN : a.people.Nodup) :
    Calls Try.prog 82 #[.agg #[.string a.code, .int .i64 a.len, pa, .int .i64 a.last], .agg #[.string b.code, .int .i64 b.len, pb, .int .i64 b.last]] w fun e w' => RetV (fun v' w' => RdW encStr 1 9 w' w.heap.size w'.heap.size v' (sortW (sharedL a b))) w e w' := by
  have hla := hsa.len0
  have hlb := hsb.len0
  obtain ⟨AA, CA, rfl, hCA⟩ := ha.form
  obtain ⟨AB, CB, rfl, hCB⟩ := hb.form
  have hbk : Below w.heap.size w ((w.alloc (.cells #[.string a.code, .int .i64 a.len, .slice AA a.people.length CA, .int .i64 a.last] 30)).alloc (.cells #[.string b.code, .int .i64 b.len, .slice AB b.people.length CB, .int .i64 b.last] 30)) := (((Below.refl _ _).alloc (by first | exact Nat.le_refl _ | (simp; omega) | (simp; done)) _).alloc (by first | exact Nat.le_refl _ | (simp; omega) | (simp; done)) _)
  have hzk : ((w.alloc (.cells #[.string a.code, .int .i64 a.len, .slice AA a.people.length CA, .int .i64 a.last] 30)).alloc (.cells #[.string b.code, .int .i64 b.len, .slice AB b.people.length CB, .int .i64 b.last] 30)).heap.size = w.heap.size + 2 := by simp
  have kA : Blk ((w.alloc (.cells #[.string a.code, .int .i64 a.len, .slice AA a.people.length CA, .int .i64 a.last] 30)).alloc (.cells #[.string b.code, .int .i64 b.len, .slice AB b.people.length CB, .int .i64 b.last] 30)) (w.heap.size) 30 #[.string a.code, .int .i64 a.len, .slice AA a.people.length CA, .int .i64 a.last] := (Blk.newAt (w := w) (n := w.heap.size) (t := 30) (cs := #[.string a.code, .int .i64 a.len, .slice AA a.people.length CA, .int .i64 a.last]) (by simp)).alloc _
  have kB : Blk ((w.alloc (.cells #[.string a.code, .int .i64 a.len, .slice AA a.people.length CA, .int .i64 a.last] 30)).alloc (.cells #[.string b.code, .int .i64 b.len, .slice AB b.people.length CB, .int .i64 b.last] 30)) (w.heap.size + 1) 30 #[.string b.code, .int .i64 b.len, .slice AB b.people.length CB, .int .i64 b.last] := Blk.newAt (w := (w.alloc (.cells #[.string a.code, .int .i64 a.len, .slice AA a.people.length CA, .int .i64 a.last] 30))) (n := w.heap.size + 1) (t := 30) (cs := #[.string b.code, .int .i64 b.len, .slice AB b.people.length CB, .int .i64 b.last]) (by simp)
  replace ha := ha.below hbk (by omega)
  replace hb := hb.below hbk (by omega)
  go_enter Try.func82, Try.ntmps82
  go_wp2
  generalize ((w.alloc (.cells #[.string a.code, .int .i64 a.len, .slice AA a.people.length CA, .int .i64 a.last] 30)).alloc (.cells #[.string b.code, .int .i64 b.len, .slice AB b.people.length CB, .int .i64 b.last] 30)) = W0 at *
  go_loopw [5, 6] (fun v i wr => ∃ k : Nat, k ≤ a.people.length ∧ i = .int .i64 k ∧ RdW encStr 1 9 wr W0.heap.size wr.heap.size v (insAll [] ((a.people.take k).filter fun p => hasW b.people p)) ∧ NonNil v ∧ Below W0.heap.size W0 wr) (fun _ i _ => a.people.length - (intOf i).toNat)
  case atStart => exact ⟨0, Nat.zero_le _, rfl, ⟨_, _, rfl, Nat.le_refl _, fun h => absurd h (by simp [insAll])⟩, ⟨_, _, _, rfl⟩, by (repeat (first | with_reducible assumption | with_reducible exact Below.refl _ _ | with_reducible refine Below.setCell ?_ ?_ _ | with_reducible refine Below.alloc ?_ ?_ _ | with_reducible refine Below.drew ?_ | with_reducible refine below_drewN ?_ _ | with_reducible refine Below.step (by with_reducible assumption) ?_ ?_ | omega | (simp <;> omega) | (simp; done)))⟩
  case round =>
    obtain ⟨k, hk, rfl, hout, hnn, hbl⟩ := hrel
    have z0 := hbl.size
    replace kA := kA.below hbl (by omega)
    replace kB := kB.below hbl (by omega)
    obtain ⟨q0, q1, q2, q3⟩ := kA.c4
    obtain ⟨r0, r1, r2, r3⟩ := kB.c4
    have hlen : ((a.people.take k).filter fun p => hasW b.people p).length ≤ k := Nat.le_trans (List.length_filter_le _ _) (by simp; omega)
    have hlen2 := insAll_len ((a.people.take k).filter fun p => hasW b.people p) []
    rw [List.length_nil, Nat.zero_add] at hlen2
    by_cases hlt : k < a.people.length
    · obtain ⟨s, bb, off, HS, rfl, hbw, c0⟩ := RdF.str ha hbl (by omega) hlt
      have hb2 := hb.below hbl (by omega)
      have hki : (k : Int) < (a.people.length : Int) := by omega
      go_wp2_with fail
      cases hf : hasW b.people s with
      | true =>
        have HN := Lib.hid (filter_yes (p := fun p => hasW b.people p) HS.out hf)
        go_region_held3 (fun w' => w'.cell? ⟨w.heap.size, 2, none⟩ = some (.slice (some ⟨bb, off, none⟩) a.people.length CA) ∧ w'.cell? ⟨w.heap.size + 1, 2, none⟩ = some (.slice AB b.people.length CB) ∧ w'.cell? ⟨bb, off + k, none⟩ = some (.string s)) (go_keep)
          (first | (go_at_call 104; refine (l13Word_any _ b.people lo2 hi2 s _ (hb2.below (B := wr.heap.size) (Below.refl _ wr).drew (by omega)) (by show _ ≤ wr.heap.size; omega) hlb).mono ?_; rintro e w' ⟨rfl, rfl⟩; rw [hf]))
        go_wp2_with fail
        refine (l13Insert_any _ _ W0.heap.size wr.heap.size s _ (hout.below (B := wr.heap.size) (by (repeat (first | with_reducible assumption | with_reducible exact Below.refl _ _ | with_reducible refine Below.setCell ?_ ?_ _ | with_reducible refine Below.alloc ?_ ?_ _ | with_reducible refine Below.drew ?_ | with_reducible refine below_drewN ?_ _ | with_reducible refine Below.step (by with_reducible assumption) ?_ ?_ | omega | (simp <;> omega) | (simp; done)))) (Nat.le_refl _)) hnn (by (first | omega | (simp; omega) | (simp; done))) (by (first | omega | (simp; omega) | (simp; done))) (by omega)).mono ?_
        rintro e w3 ⟨v3, rfl, ⟨hout3, hnn3⟩, hk3⟩
        have z3 := hk3.size
        go_wp2_with fail
        go_roundw
        case rel => exact ⟨k + 1, by omega, by go_num, (by rw [HN.out, insAll_snoc]; exact hout3), hnn3, Below.step hk3 (by (first | omega | (simp; omega) | (simp; done))) (by (repeat (first | with_reducible assumption | with_reducible exact Below.refl _ _ | with_reducible refine Below.setCell ?_ ?_ _ | with_reducible refine Below.alloc ?_ ?_ _ | with_reducible refine Below.drew ?_ | with_reducible refine below_drewN ?_ _ | with_reducible refine Below.step (by with_reducible assumption) ?_ ?_ | omega | (simp <;> omega) | (simp; done))))⟩
        case measure => simp [intOf]; omega
      | false =>
        have HN := Lib.hid (filter_no (p := fun p => hasW b.people p) HS.out hf)
        go_region_held3 (fun w' => w'.cell? ⟨w.heap.size, 2, none⟩ = some (.slice (some ⟨bb, off, none⟩) a.people.length CA) ∧ w'.cell? ⟨w.heap.size + 1, 2, none⟩ = some (.slice AB b.people.length CB) ∧ w'.cell? ⟨bb, off + k, none⟩ = some (.string s)) (go_keep)
          (first | (go_at_call 104; refine (l13Word_any _ b.people lo2 hi2 s _ (hb2.below (B := wr.heap.size) (Below.refl _ wr).drew (by omega)) (by show _ ≤ wr.heap.size; omega) hlb).mono ?_; rintro e w' ⟨rfl, rfl⟩; rw [hf]))
        go_wp2_with fail
        go_roundw
        case rel => exact ⟨k + 1, by omega, by go_num, (by rw [HN.out]; exact (hout.below (B := wr.heap.size) (by (repeat (first | with_reducible assumption | with_reducible exact Below.refl _ _ | with_reducible refine Below.setCell ?_ ?_ _ | with_reducible refine Below.alloc ?_ ?_ _ | with_reducible refine Below.drew ?_ | with_reducible refine below_drewN ?_ _ | with_reducible refine Below.step (by with_reducible assumption) ?_ ?_ | omega | (simp <;> omega) | (simp; done)))) (Nat.le_refl _)).wide (Nat.le_refl _) (by (first | omega | (simp; omega) | (simp; done)))), hnn, by (repeat (first | with_reducible assumption | with_reducible exact Below.refl _ _ | with_reducible refine Below.setCell ?_ ?_ _ | with_reducible refine Below.alloc ?_ ?_ _ | with_reducible refine Below.drew ?_ | with_reducible refine below_drewN ?_ _ | with_reducible refine Below.step (by with_reducible assumption) ?_ ?_ | omega | (simp <;> omega) | (simp; done)))⟩
        case measure => simp [intOf]; omega
    · have e : k = a.people.length := by omega
      subst e
      rw [List.take_length] at hout
      have hout2 : RdW encStr 1 9 wr W0.heap.size wr.heap.size u5 (sortW (sharedL a b)) := by
        rw [← sharedL_ins hN]; exact hout
      clear hout hlen hlen2
      go_wp2_with fail
      go_ret
      exact ⟨_, rfl, hout2.wide (by omega) (Nat.le_refl _), hbk.trans (hbl.mono (by omega))⟩
set_option maxRecDepth 100000 in
set_option maxHeartbeats 4000000 in
theorem clash_any (a : Hearing) (pa : Value) (lo hi : Nat) (s : Slot) (b : Hearing) (pb : Value) (lo2 hi2 : Nat) (t : Slot) (w : World) (ha : RdF encStr 1 w lo hi pa a.people) (hh : hi ≤ w.heap.size) (hsa : a.small) (hb : RdF encStr 1 w lo2 hi2 pb b.people) (hh2 : hi2 ≤ w.heap.size) (hsb : b.small) (ha1 : 1 ≤ a.len) (ha2 : a.len ≤ 36) (hb1 : 1 ≤ b.len) (hb2 : b.len ≤ 36) (hs1 : 0 ≤ s.frm) (hs2 : s.frm ≤ 35) (ht1 : 0 ≤ t.frm) (ht2 : t.frm ≤ 35) :
    Calls Try.prog 81 #[.agg #[.string a.code, .int .i64 a.len, pa, .int .i64 a.last], .agg #[.int .i64 s.room, .int .i64 s.day, .int .i64 s.frm], .agg #[.string b.code, .int .i64 b.len, pb, .int .i64 b.last], .agg #[.int .i64 t.room, .int .i64 t.day, .int .i64 t.frm]] w fun e w' => e = .returned (.bool (clashB a s b t)) ∧ Below w.heap.size w w' := by
  have hla := hsa.len0
  have hlb := hsb.len0
  obtain ⟨AA, CA, rfl, hCA⟩ := ha.form
  obtain ⟨AB, CB, rfl, hCB⟩ := hb.form

  by_cases hd : s.day = t.day
  · by_cases h1 : s.frm < t.frm + b.len
    · by_cases h2 : t.frm < s.frm + a.len
      · have hmm : ¬ (min (s.frm + a.len) (t.frm + b.len) ≤ max s.frm t.frm) := by omega
        by_cases hr : s.room = t.room
        · have HF := Lib.hid (show clashB a s b t = true by unfold clashB; rw [decide_eq_true hd, decide_eq_true h1, decide_eq_true h2, decide_eq_true hr]; rfl)
          have hbk : Below w.heap.size w ((((w.alloc (.cells #[.string a.code, .int .i64 a.len, .slice AA a.people.length CA, .int .i64 a.last] 30)).alloc (.cells #[.int .i64 s.room, .int .i64 s.day, .int .i64 s.frm] 32)).alloc (.cells #[.string b.code, .int .i64 b.len, .slice AB b.people.length CB, .int .i64 b.last] 30)).alloc (.cells #[.int .i64 t.room, .int .i64 t.day, .int .i64 t.frm] 32)) := (((((Below.refl _ _).alloc (by first | exact Nat.le_refl _ | (simp; omega) | (simp; done)) _).alloc (by first | exact Nat.le_refl _ | (simp; omega) | (simp; done)) _).alloc (by first | exact Nat.le_refl _ | (simp; omega) | (simp; done)) _).alloc (by first | exact Nat.le_refl _ | (simp; omega) | (simp; done)) _)
          have hzk : ((((w.alloc (.cells #[.string a.code, .int .i64 a.len, .slice AA a.people.length CA, .int .i64 a.last] 30)).alloc (.cells #[.int .i64 s.room, .int .i64 s.day, .int .i64 s.frm] 32)).alloc (.cells #[.string b.code, .int .i64 b.len, .slice AB b.people.length CB, .int .i64 b.last] 30)).alloc (.cells #[.int .i64 t.room, .int .i64 t.day, .int .i64 t.frm] 32)).heap.size = w.heap.size + 4 := by simp
          have kA : Blk ((((w.alloc (.cells #[.string a.code, .int .i64 a.len, .slice AA a.people.length CA, .int .i64 a.last] 30)).alloc (.cells #[.int .i64 s.room, .int .i64 s.day, .int .i64 s.frm] 32)).alloc (.cells #[.string b.code, .int .i64 b.len, .slice AB b.people.length CB, .int .i64 b.last] 30)).alloc (.cells #[.int .i64 t.room, .int .i64 t.day, .int .i64 t.frm] 32)) (w.heap.size) 30 #[.string a.code, .int .i64 a.len, .slice AA a.people.length CA, .int .i64 a.last] := (((Blk.newAt (w := w) (n := w.heap.size) (t := 30) (cs := #[.string a.code, .int .i64 a.len, .slice AA a.people.length CA, .int .i64 a.last]) (by simp)).alloc _).alloc _).alloc _
          have kS : Blk ((((w.alloc (.cells #[.string a.code, .int .i64 a.len, .slice AA a.people.length CA, .int .i64 a.last] 30)).alloc (.cells #[.int .i64 s.room, .int .i64 s.day, .int .i64 s.frm] 32)).alloc (.cells #[.string b.code, .int .i64 b.len, .slice AB b.people.length CB, .int .i64 b.last] 30)).alloc (.cells #[.int .i64 t.room, .int .i64 t.day, .int .i64 t.frm] 32)) (w.heap.size + 1) 32 #[.int .i64 s.room, .int .i64 s.day, .int .i64 s.frm] := ((Blk.newAt (w := (w.alloc (.cells #[.string a.code, .int .i64 a.len, .slice AA a.people.length CA, .int .i64 a.last] 30))) (n := w.heap.size + 1) (t := 32) (cs := #[.int .i64 s.room, .int .i64 s.day, .int .i64 s.frm]) (by simp)).alloc _).alloc _
          have kB : Blk ((((w.alloc (.cells #[.string a.code, .int .i64 a.len, .slice AA a.people.length CA, .int .i64 a.last] 30)).alloc (.cells #[.int .i64 s.room, .int .i64 s.day, .int .i64 s.frm] 32)).alloc (.cells #[.string b.code, .int .i64 b.len, .slice AB b.people.length CB, .int .i64 b.last] 30)).alloc (.cells #[.int .i64 t.room, .int .i64 t.day, .int .i64 t.frm] 32)) (w.heap.size + 2) 30 #[.string b.code, .int .i64 b.len, .slice AB b.people.length CB, .int .i64 b.last] := (Blk.newAt (w := ((w.alloc (.cells #[.string a.code, .int .i64 a.len, .slice AA a.people.length CA, .int .i64 a.last] 30)).alloc (.cells #[.int .i64 s.room, .int .i64 s.day, .int .i64 s.frm] 32))) (n := w.heap.size + 2) (t := 30) (cs := #[.string b.code, .int .i64 b.len, .slice AB b.people.length CB, .int .i64 b.last]) (by simp)).alloc _
          have kT : Blk ((((w.alloc (.cells #[.string a.code, .int .i64 a.len, .slice AA a.people.length CA, .int .i64 a.last] 30)).alloc (.cells #[.int .i64 s.room, .int .i64 s.day, .int .i64 s.frm] 32)).alloc (.cells #[.string b.code, .int .i64 b.len, .slice AB b.people.length CB, .int .i64 b.last] 30)).alloc (.cells #[.int .i64 t.room, .int .i64 t.day, .int .i64 t.frm] 32)) (w.heap.size + 3) 32 #[.int .i64 t.room, .int .i64 t.day, .int .i64 t.frm] := Blk.newAt (w := (((w.alloc (.cells #[.string a.code, .int .i64 a.len, .slice AA a.people.length CA, .int .i64 a.last] 30)).alloc (.cells #[.int .i64 s.room, .int .i64 s.day, .int .i64 s.frm] 32)).alloc (.cells #[.string b.code, .int .i64 b.len, .slice AB b.people.length CB, .int .i64 b.last] 30))) (n := w.heap.size + 3) (t := 32) (cs := #[.int .i64 t.room, .int .i64 t.day, .int .i64 t.frm]) (by simp)
          replace ha := ha.below hbk (by omega)
          replace hb := hb.below hbk (by omega)
          go_enter Try.func81, Try.ntmps81
          skip
          go_wp2_with fail
          go_ret
          exact ⟨ret_bool HF.out.symm, by (repeat (first | with_reducible assumption | with_reducible exact Below.refl _ _ | with_reducible refine Below.setCell ?_ ?_ _ | with_reducible refine Below.alloc ?_ ?_ _ | with_reducible refine Below.drew ?_ | with_reducible refine below_drewN ?_ _ | with_reducible refine Below.step (by with_reducible assumption) ?_ ?_ | omega | (simp <;> omega) | (simp; done)))⟩
        · have HF := Lib.hid (show clashB a s b t = decide (0 < (sharedL a b).length) by unfold clashB; rw [decide_eq_true hd, decide_eq_true h1, decide_eq_true h2, decide_eq_false hr]; rfl)
          rw [hd]
          have hbk : Below w.heap.size w ((((w.alloc (.cells #[.string a.code, .int .i64 a.len, .slice AA a.people.length CA, .int .i64 a.last] 30)).alloc (.cells #[.int .i64 s.room, .int .i64 t.day, .int .i64 s.frm] 32)).alloc (.cells #[.string b.code, .int .i64 b.len, .slice AB b.people.length CB, .int .i64 b.last] 30)).alloc (.cells #[.int .i64 t.room, .int .i64 t.day, .int .i64 t.frm] 32)) := (((((Below.refl _ _).alloc (by first | exact Nat.le_refl _ | (simp; omega) | (simp; done)) _).alloc (by first | exact Nat.le_refl _ | (simp; omega) | (simp; done)) _).alloc (by first | exact Nat.le_refl _ | (simp; omega) | (simp; done)) _).alloc (by first | exact Nat.le_refl _ | (simp; omega) | (simp; done)) _)
          have hzk : ((((w.alloc (.cells #[.string a.code, .int .i64 a.len, .slice AA a.people.length CA, .int .i64 a.last] 30)).alloc (.cells #[.int .i64 s.room, .int .i64 t.day, .int .i64 s.frm] 32)).alloc (.cells #[.string b.code, .int .i64 b.len, .slice AB b.people.length CB, .int .i64 b.last] 30)).alloc (.cells #[.int .i64 t.room, .int .i64 t.day, .int .i64 t.frm] 32)).heap.size = w.heap.size + 4 := by simp
          have kA : Blk ((((w.alloc (.cells #[.string a.code, .int .i64 a.len, .slice AA a.people.length CA, .int .i64 a.last] 30)).alloc (.cells #[.int .i64 s.room, .int .i64 t.day, .int .i64 s.frm] 32)).alloc (.cells #[.string b.code, .int .i64 b.len, .slice AB b.people.length CB, .int .i64 b.last] 30)).alloc (.cells #[.int .i64 t.room, .int .i64 t.day, .int .i64 t.frm] 32)) (w.heap.size) 30 #[.string a.code, .int .i64 a.len, .slice AA a.people.length CA, .int .i64 a.last] := (((Blk.newAt (w := w) (n := w.heap.size) (t := 30) (cs := #[.string a.code, .int .i64 a.len, .slice AA a.people.length CA, .int .i64 a.last]) (by simp)).alloc _).alloc _).alloc _
          have kS : Blk ((((w.alloc (.cells #[.string a.code, .int .i64 a.len, .slice AA a.people.length CA, .int .i64 a.last] 30)).alloc (.cells #[.int .i64 s.room, .int .i64 t.day, .int .i64 s.frm] 32)).alloc (.cells #[.string b.code, .int .i64 b.len, .slice AB b.people.length CB, .int .i64 b.last] 30)).alloc (.cells #[.int .i64 t.room, .int .i64 t.day, .int .i64 t.frm] 32)) (w.heap.size + 1) 32 #[.int .i64 s.room, .int .i64 t.day, .int .i64 s.frm] := ((Blk.newAt (w := (w.alloc (.cells #[.string a.code, .int .i64 a.len, .slice AA a.people.length CA, .int .i64 a.last] 30))) (n := w.heap.size + 1) (t := 32) (cs := #[.int .i64 s.room, .int .i64 t.day, .int .i64 s.frm]) (by simp)).alloc _).alloc _
          have kB : Blk ((((w.alloc (.cells #[.string a.code, .int .i64 a.len, .slice AA a.people.length CA, .int .i64 a.last] 30)).alloc (.cells #[.int .i64 s.room, .int .i64 t.day, .int .i64 s.frm] 32)).alloc (.cells #[.string b.code, .int .i64 b.len, .slice AB b.people.length CB, .int .i64 b.last] 30)).alloc (.cells #[.int .i64 t.room, .int .i64 t.day, .int .i64 t.frm] 32)) (w.heap.size + 2) 30 #[.string b.code, .int .i64 b.len, .slice AB b.people.length CB, .int .i64 b.last] := (Blk.newAt (w := ((w.alloc (.cells #[.string a.code, .int .i64 a.len, .slice AA a.people.length CA, .int .i64 a.last] 30)).alloc (.cells #[.int .i64 s.room, .int .i64 t.day, .int .i64 s.frm] 32))) (n := w.heap.size + 2) (t := 30) (cs := #[.string b.code, .int .i64 b.len, .slice AB b.people.length CB, .int .i64 b.last]) (by simp)).alloc _
          have kT : Blk ((((w.alloc (.cells #[.string a.code, .int .i64 a.len, .slice AA a.people.length CA, .int .i64 a.last] 30)).alloc (.cells #[.int .i64 s.room, .int .i64 t.day, .int .i64 s.frm] 32)).alloc (.cells #[.string b.code, .int .i64 b.len, .slice AB b.people.length CB, .int .i64 b.last] 30)).alloc (.cells #[.int .i64 t.room, .int .i64 t.day, .int .i64 t.frm] 32)) (w.heap.size + 3) 32 #[.int .i64 t.room, .int .i64 t.day, .int .i64 t.frm] := Blk.newAt (w := (((w.alloc (.cells #[.string a.code, .int .i64 a.len, .slice AA a.people.length CA, .int .i64 a.last] 30)).alloc (.cells #[.int .i64 s.room, .int .i64 t.day, .int .i64 s.frm] 32)).alloc (.cells #[.string b.code, .int .i64 b.len, .slice AB b.people.length CB, .int .i64 b.last] 30))) (n := w.heap.size + 3) (t := 32) (cs := #[.int .i64 t.room, .int .i64 t.day, .int .i64 t.frm]) (by simp)
          replace ha := ha.below hbk (by omega)
          replace hb := hb.below hbk (by omega)
          go_enter Try.func81, Try.ntmps81
          go_wp2_with fail
          generalize ((((w.alloc (.cells #[.string a.code, .int .i64 a.len, .slice AA a.people.length CA, .int .i64 a.last] 30)).alloc (.cells #[.int .i64 s.room, .int .i64 t.day, .int .i64 s.frm] 32)).alloc (.cells #[.string b.code, .int .i64 b.len, .slice AB b.people.length CB, .int .i64 b.last] 30)).alloc (.cells #[.int .i64 t.room, .int .i64 t.day, .int .i64 t.frm] 32)) = W0 at *

          refine (shared_any a (.slice AA a.people.length CA) lo hi b (.slice AB b.people.length CB) lo2 hi2 _ ha (by omega) hsa hb (by omega) hsb).mono ?_
          rintro e w1 ⟨v1, rfl, hr1, b1⟩
          have z1 := b1.size
          obtain ⟨A1, C1, rfl, hC1⟩ := RdF.form (RdW.rd hr1)
          clear hr1
          have hsl := sortW_len (sharedL a b)
          by_cases hn : (sharedL a b).length = 0
          · have hz : (sortW (sharedL a b)).length = 0 := by omega
            rw [show decide (0 < (sharedL a b).length) = false from decide_eq_false (by omega)] at HF
            rw [hz]
            go_wp2_with fail
            go_ret
            exact ⟨ret_bool (by rw [HF.out]; exact beq_eq_false_iff_ne.2 hr), by (repeat (first | with_reducible assumption | with_reducible exact Below.refl _ _ | with_reducible refine Below.setCell ?_ ?_ _ | with_reducible refine Below.alloc ?_ ?_ _ | with_reducible refine Below.drew ?_ | with_reducible refine below_drewN ?_ _ | with_reducible refine Below.step (by with_reducible assumption) ?_ ?_ | omega | (simp <;> omega) | (simp; done)))⟩
          · have hz : (0 : Int) < ((sortW (sharedL a b)).length : Int) := by omega
            have hpos : 0 < (sharedL a b).length := by omega
            rw [show decide (0 < (sharedL a b).length) = true from decide_eq_true hpos] at HF
            generalize (sortW (sharedL a b)).length = n at *
            go_wp2_with fail
            go_ret
            exact ⟨ret_bool (by rw [HF.out] <;> simp [hpos]), by (repeat (first | with_reducible assumption | with_reducible exact Below.refl _ _ | with_reducible refine Below.setCell ?_ ?_ _ | with_reducible refine Below.alloc ?_ ?_ _ | with_reducible refine Below.drew ?_ | with_reducible refine below_drewN ?_ _ | with_reducible refine Below.step (by with_reducible assumption) ?_ ?_ | omega | (simp <;> omega) | (simp; done)))⟩
      · have HF := Lib.hid (show clashB a s b t = false by unfold clashB; rw [decide_eq_false h2]; simp)
        have hmm : (min (s.frm + a.len) (t.frm + b.len) ≤ max s.frm t.frm) := by omega
        have hbk : Below w.heap.size w ((((w.alloc (.cells #[.string a.code, .int .i64 a.len, .slice AA a.people.length CA, .int .i64 a.last] 30)).alloc (.cells #[.int .i64 s.room, .int .i64 s.day, .int .i64 s.frm] 32)).alloc (.cells #[.string b.code, .int .i64 b.len, .slice AB b.people.length CB, .int .i64 b.last] 30)).alloc (.cells #[.int .i64 t.room, .int .i64 t.day, .int .i64 t.frm] 32)) := (((((Below.refl _ _).alloc (by first | exact Nat.le_refl _ | (simp; omega) | (simp; done)) _).alloc (by first | exact Nat.le_refl _ | (simp; omega) | (simp; done)) _).alloc (by first | exact Nat.le_refl _ | (simp; omega) | (simp; done)) _).alloc (by first | exact Nat.le_refl _ | (simp; omega) | (simp; done)) _)
        have hzk : ((((w.alloc (.cells #[.string a.code, .int .i64 a.len, .slice AA a.people.length CA, .int .i64 a.last] 30)).alloc (.cells #[.int .i64 s.room, .int .i64 s.day, .int .i64 s.frm] 32)).alloc (.cells #[.string b.code, .int .i64 b.len, .slice AB b.people.length CB, .int .i64 b.last] 30)).alloc (.cells #[.int .i64 t.room, .int .i64 t.day, .int .i64 t.frm] 32)).heap.size = w.heap.size + 4 := by simp
        have kA : Blk ((((w.alloc (.cells #[.string a.code, .int .i64 a.len, .slice AA a.people.length CA, .int .i64 a.last] 30)).alloc (.cells #[.int .i64 s.room, .int .i64 s.day, .int .i64 s.frm] 32)).alloc (.cells #[.string b.code, .int .i64 b.len, .slice AB b.people.length CB, .int .i64 b.last] 30)).alloc (.cells #[.int .i64 t.room, .int .i64 t.day, .int .i64 t.frm] 32)) (w.heap.size) 30 #[.string a.code, .int .i64 a.len, .slice AA a.people.length CA, .int .i64 a.last] := (((Blk.newAt (w := w) (n := w.heap.size) (t := 30) (cs := #[.string a.code, .int .i64 a.len, .slice AA a.people.length CA, .int .i64 a.last]) (by simp)).alloc _).alloc _).alloc _
        have kS : Blk ((((w.alloc (.cells #[.string a.code, .int .i64 a.len, .slice AA a.people.length CA, .int .i64 a.last] 30)).alloc (.cells #[.int .i64 s.room, .int .i64 s.day, .int .i64 s.frm] 32)).alloc (.cells #[.string b.code, .int .i64 b.len, .slice AB b.people.length CB, .int .i64 b.last] 30)).alloc (.cells #[.int .i64 t.room, .int .i64 t.day, .int .i64 t.frm] 32)) (w.heap.size + 1) 32 #[.int .i64 s.room, .int .i64 s.day, .int .i64 s.frm] := ((Blk.newAt (w := (w.alloc (.cells #[.string a.code, .int .i64 a.len, .slice AA a.people.length CA, .int .i64 a.last] 30))) (n := w.heap.size + 1) (t := 32) (cs := #[.int .i64 s.room, .int .i64 s.day, .int .i64 s.frm]) (by simp)).alloc _).alloc _
        have kB : Blk ((((w.alloc (.cells #[.string a.code, .int .i64 a.len, .slice AA a.people.length CA, .int .i64 a.last] 30)).alloc (.cells #[.int .i64 s.room, .int .i64 s.day, .int .i64 s.frm] 32)).alloc (.cells #[.string b.code, .int .i64 b.len, .slice AB b.people.length CB, .int .i64 b.last] 30)).alloc (.cells #[.int .i64 t.room, .int .i64 t.day, .int .i64 t.frm] 32)) (w.heap.size + 2) 30 #[.string b.code, .int .i64 b.len, .slice AB b.people.length CB, .int .i64 b.last] := (Blk.newAt (w := ((w.alloc (.cells #[.string a.code, .int .i64 a.len, .slice AA a.people.length CA, .int .i64 a.last] 30)).alloc (.cells #[.int .i64 s.room, .int .i64 s.day, .int .i64 s.frm] 32))) (n := w.heap.size + 2) (t := 30) (cs := #[.string b.code, .int .i64 b.len, .slice AB b.people.length CB, .int .i64 b.last]) (by simp)).alloc _
        have kT : Blk ((((w.alloc (.cells #[.string a.code, .int .i64 a.len, .slice AA a.people.length CA, .int .i64 a.last] 30)).alloc (.cells #[.int .i64 s.room, .int .i64 s.day, .int .i64 s.frm] 32)).alloc (.cells #[.string b.code, .int .i64 b.len, .slice AB b.people.length CB, .int .i64 b.last] 30)).alloc (.cells #[.int .i64 t.room, .int .i64 t.day, .int .i64 t.frm] 32)) (w.heap.size + 3) 32 #[.int .i64 t.room, .int .i64 t.day, .int .i64 t.frm] := Blk.newAt (w := (((w.alloc (.cells #[.string a.code, .int .i64 a.len, .slice AA a.people.length CA, .int .i64 a.last] 30)).alloc (.cells #[.int .i64 s.room, .int .i64 s.day, .int .i64 s.frm] 32)).alloc (.cells #[.string b.code, .int .i64 b.len, .slice AB b.people.length CB, .int .i64 b.last] 30))) (n := w.heap.size + 3) (t := 32) (cs := #[.int .i64 t.room, .int .i64 t.day, .int .i64 t.frm]) (by simp)
        replace ha := ha.below hbk (by omega)
        replace hb := hb.below hbk (by omega)
        go_enter Try.func81, Try.ntmps81
        skip
        go_wp2_with fail
        go_ret
        exact ⟨ret_bool HF.out.symm, by (repeat (first | with_reducible assumption | with_reducible exact Below.refl _ _ | with_reducible refine Below.setCell ?_ ?_ _ | with_reducible refine Below.alloc ?_ ?_ _ | with_reducible refine Below.drew ?_ | with_reducible refine below_drewN ?_ _ | with_reducible refine Below.step (by with_reducible assumption) ?_ ?_ | omega | (simp <;> omega) | (simp; done)))⟩
    · have HF := Lib.hid (show clashB a s b t = false by unfold clashB; rw [decide_eq_false h1]; simp)
      have hmm : (min (s.frm + a.len) (t.frm + b.len) ≤ max s.frm t.frm) := by omega
      have hbk : Below w.heap.size w ((((w.alloc (.cells #[.string a.code, .int .i64 a.len, .slice AA a.people.length CA, .int .i64 a.last] 30)).alloc (.cells #[.int .i64 s.room, .int .i64 s.day, .int .i64 s.frm] 32)).alloc (.cells #[.string b.code, .int .i64 b.len, .slice AB b.people.length CB, .int .i64 b.last] 30)).alloc (.cells #[.int .i64 t.room, .int .i64 t.day, .int .i64 t.frm] 32)) := (((((Below.refl _ _).alloc (by first | exact Nat.le_refl _ | (simp; omega) | (simp; done)) _).alloc (by first | exact Nat.le_refl _ | (simp; omega) | (simp; done)) _).alloc (by first | exact Nat.le_refl _ | (simp; omega) | (simp; done)) _).alloc (by first | exact Nat.le_refl _ | (simp; omega) | (simp; done)) _)
      have hzk : ((((w.alloc (.cells #[.string a.code, .int .i64 a.len, .slice AA a.people.length CA, .int .i64 a.last] 30)).alloc (.cells #[.int .i64 s.room, .int .i64 s.day, .int .i64 s.frm] 32)).alloc (.cells #[.string b.code, .int .i64 b.len, .slice AB b.people.length CB, .int .i64 b.last] 30)).alloc (.cells #[.int .i64 t.room, .int .i64 t.day, .int .i64 t.frm] 32)).heap.size = w.heap.size + 4 := by simp
      have kA : Blk ((((w.alloc (.cells #[.string a.code, .int .i64 a.len, .slice AA a.people.length CA, .int .i64 a.last] 30)).alloc (.cells #[.int .i64 s.room, .int .i64 s.day, .int .i64 s.frm] 32)).alloc (.cells #[.string b.code, .int .i64 b.len, .slice AB b.people.length CB, .int .i64 b.last] 30)).alloc (.cells #[.int .i64 t.room, .int .i64 t.day, .int .i64 t.frm] 32)) (w.heap.size) 30 #[.string a.code, .int .i64 a.len, .slice AA a.people.length CA, .int .i64 a.last] := (((Blk.newAt (w := w) (n := w.heap.size) (t := 30) (cs := #[.string a.code, .int .i64 a.len, .slice AA a.people.length CA, .int .i64 a.last]) (by simp)).alloc _).alloc _).alloc _
      have kS : Blk ((((w.alloc (.cells #[.string a.code, .int .i64 a.len, .slice AA a.people.length CA, .int .i64 a.last] 30)).alloc (.cells #[.int .i64 s.room, .int .i64 s.day, .int .i64 s.frm] 32)).alloc (.cells #[.string b.code, .int .i64 b.len, .slice AB b.people.length CB, .int .i64 b.last] 30)).alloc (.cells #[.int .i64 t.room, .int .i64 t.day, .int .i64 t.frm] 32)) (w.heap.size + 1) 32 #[.int .i64 s.room, .int .i64 s.day, .int .i64 s.frm] := ((Blk.newAt (w := (w.alloc (.cells #[.string a.code, .int .i64 a.len, .slice AA a.people.length CA, .int .i64 a.last] 30))) (n := w.heap.size + 1) (t := 32) (cs := #[.int .i64 s.room, .int .i64 s.day, .int .i64 s.frm]) (by simp)).alloc _).alloc _
      have kB : Blk ((((w.alloc (.cells #[.string a.code, .int .i64 a.len, .slice AA a.people.length CA, .int .i64 a.last] 30)).alloc (.cells #[.int .i64 s.room, .int .i64 s.day, .int .i64 s.frm] 32)).alloc (.cells #[.string b.code, .int .i64 b.len, .slice AB b.people.length CB, .int .i64 b.last] 30)).alloc (.cells #[.int .i64 t.room, .int .i64 t.day, .int .i64 t.frm] 32)) (w.heap.size + 2) 30 #[.string b.code, .int .i64 b.len, .slice AB b.people.length CB, .int .i64 b.last] := (Blk.newAt (w := ((w.alloc (.cells #[.string a.code, .int .i64 a.len, .slice AA a.people.length CA, .int .i64 a.last] 30)).alloc (.cells #[.int .i64 s.room, .int .i64 s.day, .int .i64 s.frm] 32))) (n := w.heap.size + 2) (t := 30) (cs := #[.string b.code, .int .i64 b.len, .slice AB b.people.length CB, .int .i64 b.last]) (by simp)).alloc _
      have kT : Blk ((((w.alloc (.cells #[.string a.code, .int .i64 a.len, .slice AA a.people.length CA, .int .i64 a.last] 30)).alloc (.cells #[.int .i64 s.room, .int .i64 s.day, .int .i64 s.frm] 32)).alloc (.cells #[.string b.code, .int .i64 b.len, .slice AB b.people.length CB, .int .i64 b.last] 30)).alloc (.cells #[.int .i64 t.room, .int .i64 t.day, .int .i64 t.frm] 32)) (w.heap.size + 3) 32 #[.int .i64 t.room, .int .i64 t.day, .int .i64 t.frm] := Blk.newAt (w := (((w.alloc (.cells #[.string a.code, .int .i64 a.len, .slice AA a.people.length CA, .int .i64 a.last] 30)).alloc (.cells #[.int .i64 s.room, .int .i64 s.day, .int .i64 s.frm] 32)).alloc (.cells #[.string b.code, .int .i64 b.len, .slice AB b.people.length CB, .int .i64 b.last] 30))) (n := w.heap.size + 3) (t := 32) (cs := #[.int .i64 t.room, .int .i64 t.day, .int .i64 t.frm]) (by simp)
      replace ha := ha.below hbk (by omega)
      replace hb := hb.below hbk (by omega)
      go_enter Try.func81, Try.ntmps81
      skip
      go_wp2_with fail
      go_ret
      exact ⟨ret_bool HF.out.symm, by (repeat (first | with_reducible assumption | with_reducible exact Below.refl _ _ | with_reducible refine Below.setCell ?_ ?_ _ | with_reducible refine Below.alloc ?_ ?_ _ | with_reducible refine Below.drew ?_ | with_reducible refine below_drewN ?_ _ | with_reducible refine Below.step (by with_reducible assumption) ?_ ?_ | omega | (simp <;> omega) | (simp; done)))⟩
  · have HF := Lib.hid (show clashB a s b t = false by unfold clashB; rw [decide_eq_false hd]; simp)
    have hbk : Below w.heap.size w ((((w.alloc (.cells #[.string a.code, .int .i64 a.len, .slice AA a.people.length CA, .int .i64 a.last] 30)).alloc (.cells #[.int .i64 s.room, .int .i64 s.day, .int .i64 s.frm] 32)).alloc (.cells #[.string b.code, .int .i64 b.len, .slice AB b.people.length CB, .int .i64 b.last] 30)).alloc (.cells #[.int .i64 t.room, .int .i64 t.day, .int .i64 t.frm] 32)) := (((((Below.refl _ _).alloc (by first | exact Nat.le_refl _ | (simp; omega) | (simp; done)) _).alloc (by first | exact Nat.le_refl _ | (simp; omega) | (simp; done)) _).alloc (by first | exact Nat.le_refl _ | (simp; omega) | (simp; done)) _).alloc (by first | exact Nat.le_refl _ | (simp; omega) | (simp; done)) _)
    have hzk : ((((w.alloc (.cells #[.string a.code, .int .i64 a.len, .slice AA a.people.length CA, .int .i64 a.last] 30)).alloc (.cells #[.int .i64 s.room, .int .i64 s.day, .int .i64 s.frm] 32)).alloc (.cells #[.string b.code, .int .i64 b.len, .slice AB b.people.length CB, .int .i64 b.last] 30)).alloc (.cells #[.int .i64 t.room, .int .i64 t.day, .int .i64 t.frm] 32)).heap.size = w.heap.size + 4 := by simp
    have kA : Blk ((((w.alloc (.cells #[.string a.code, .int .i64 a.len, .slice AA a.people.length CA, .int .i64 a.last] 30)).alloc (.cells #[.int .i64 s.room, .int .i64 s.day, .int .i64 s.frm] 32)).alloc (.cells #[.string b.code, .int .i64 b.len, .slice AB b.people.length CB, .int .i64 b.last] 30)).alloc (.cells #[.int .i64 t.room, .int .i64 t.day, .int .i64 t.frm] 32)) (w.heap.size) 30 #[.string a.code, .int .i64 a.len, .slice AA a.people.length CA, .int .i64 a.last] := (((Blk.newAt (w := w) (n := w.heap.size) (t := 30) (cs := #[.string a.code, .int .i64 a.len, .slice AA a.people.length CA, .int .i64 a.last]) (by simp)).alloc _).alloc _).alloc _
    have kS : Blk ((((w.alloc (.cells #[.string a.code, .int .i64 a.len, .slice AA a.people.length CA, .int .i64 a.last] 30)).alloc (.cells #[.int .i64 s.room, .int .i64 s.day, .int .i64 s.frm] 32)).alloc (.cells #[.string b.code, .int .i64 b.len, .slice AB b.people.length CB, .int .i64 b.last] 30)).alloc (.cells #[.int .i64 t.room, .int .i64 t.day, .int .i64 t.frm] 32)) (w.heap.size + 1) 32 #[.int .i64 s.room, .int .i64 s.day, .int .i64 s.frm] := ((Blk.newAt (w := (w.alloc (.cells #[.string a.code, .int .i64 a.len, .slice AA a.people.length CA, .int .i64 a.last] 30))) (n := w.heap.size + 1) (t := 32) (cs := #[.int .i64 s.room, .int .i64 s.day, .int .i64 s.frm]) (by simp)).alloc _).alloc _
    have kB : Blk ((((w.alloc (.cells #[.string a.code, .int .i64 a.len, .slice AA a.people.length CA, .int .i64 a.last] 30)).alloc (.cells #[.int .i64 s.room, .int .i64 s.day, .int .i64 s.frm] 32)).alloc (.cells #[.string b.code, .int .i64 b.len, .slice AB b.people.length CB, .int .i64 b.last] 30)).alloc (.cells #[.int .i64 t.room, .int .i64 t.day, .int .i64 t.frm] 32)) (w.heap.size + 2) 30 #[.string b.code, .int .i64 b.len, .slice AB b.people.length CB, .int .i64 b.last] := (Blk.newAt (w := ((w.alloc (.cells #[.string a.code, .int .i64 a.len, .slice AA a.people.length CA, .int .i64 a.last] 30)).alloc (.cells #[.int .i64 s.room, .int .i64 s.day, .int .i64 s.frm] 32))) (n := w.heap.size + 2) (t := 30) (cs := #[.string b.code, .int .i64 b.len, .slice AB b.people.length CB, .int .i64 b.last]) (by simp)).alloc _
    have kT : Blk ((((w.alloc (.cells #[.string a.code, .int .i64 a.len, .slice AA a.people.length CA, .int .i64 a.last] 30)).alloc (.cells #[.int .i64 s.room, .int .i64 s.day, .int .i64 s.frm] 32)).alloc (.cells #[.string b.code, .int .i64 b.len, .slice AB b.people.length CB, .int .i64 b.last] 30)).alloc (.cells #[.int .i64 t.room, .int .i64 t.day, .int .i64 t.frm] 32)) (w.heap.size + 3) 32 #[.int .i64 t.room, .int .i64 t.day, .int .i64 t.frm] := Blk.newAt (w := (((w.alloc (.cells #[.string a.code, .int .i64 a.len, .slice AA a.people.length CA, .int .i64 a.last] 30)).alloc (.cells #[.int .i64 s.room, .int .i64 s.day, .int .i64 s.frm] 32)).alloc (.cells #[.string b.code, .int .i64 b.len, .slice AB b.people.length CB, .int .i64 b.last] 30))) (n := w.heap.size + 3) (t := 32) (cs := #[.int .i64 t.room, .int .i64 t.day, .int .i64 t.frm]) (by simp)
    replace ha := ha.below hbk (by omega)
    replace hb := hb.below hbk (by omega)
    go_enter Try.func81, Try.ntmps81
    skip
    go_wp2_with fail
    go_ret
    exact ⟨ret_bool HF.out.symm, by (repeat (first | with_reducible assumption | with_reducible exact Below.refl _ _ | with_reducible refine Below.setCell ?_ ?_ _ | with_reducible refine Below.alloc ?_ ?_ _ | with_reducible refine Below.drew ?_ | with_reducible refine below_drewN ?_ _ | with_reducible refine Below.step (by with_reducible assumption) ?_ ?_ | omega | (simp <;> omega) | (simp; done)))⟩
set_option maxRecDepth 100000 in
set_option maxHeartbeats 4000000 in
theorem l19Clash_any (a : Hearing) (pa : Value) (lo hi : Nat) (s : Slot) (b : Hearing) (pb : Value) (lo2 hi2 : Nat) (t : Slot) (w : World) (ha : RdF encStr 1 w lo hi pa a.people) (hh : hi ≤ w.heap.size) (hsa : a.small) (hb : RdF encStr 1 w lo2 hi2 pb b.people) (hh2 : hi2 ≤ w.heap.size) (hsb : b.small) (ha1 : 1 ≤ a.len) (ha2 : a.len ≤ 36) (hb1 : 1 ≤ b.len) (hb2 : b.len ≤ 36) (hs1 : 0 ≤ s.frm) (hs2 : s.frm ≤ 35) (ht1 : 0 ≤ t.frm) (ht2 : t.frm ≤ 35) (hN : a.people.Nodup) :
    Calls Try.prog 80 #[.agg #[.string a.code, .int .i64 a.len, pa, .int .i64 a.last], .agg #[.int .i64 s.room, .int .i64 s.day, .int .i64 s.frm], .agg #[.string b.code, .int .i64 b.len, pb, .int .i64 b.last], .agg #[.int .i64 t.room, .int .i64 t.day, .int .i64 t.frm]] w fun e w' => e = .returned (.bool (clashB a s b t)) ∧ Below w.heap.size w w' := by
  have hla := hsa.len0
  have hlb := hsb.len0
  obtain ⟨AA, CA, rfl, hCA⟩ := ha.form
  obtain ⟨AB, CB, rfl, hCB⟩ := hb.form

  by_cases hd : s.day = t.day
  · by_cases h1 : s.frm < t.frm + b.len
    · by_cases h2 : t.frm < s.frm + a.len
      · skip
        by_cases hr : s.room = t.room
        · have HF := Lib.hid (show clashB a s b t = true by unfold clashB; rw [decide_eq_true hd, decide_eq_true h1, decide_eq_true h2, decide_eq_true hr]; rfl)
          have hbk : Below w.heap.size w ((((w.alloc (.cells #[.string a.code, .int .i64 a.len, .slice AA a.people.length CA, .int .i64 a.last] 30)).alloc (.cells #[.int .i64 s.room, .int .i64 s.day, .int .i64 s.frm] 32)).alloc (.cells #[.string b.code, .int .i64 b.len, .slice AB b.people.length CB, .int .i64 b.last] 30)).alloc (.cells #[.int .i64 t.room, .int .i64 t.day, .int .i64 t.frm] 32)) := (((((Below.refl _ _).alloc (by first | exact Nat.le_refl _ | (simp; omega) | (simp; done)) _).alloc (by first | exact Nat.le_refl _ | (simp; omega) | (simp; done)) _).alloc (by first | exact Nat.le_refl _ | (simp; omega) | (simp; done)) _).alloc (by first | exact Nat.le_refl _ | (simp; omega) | (simp; done)) _)
          have hzk : ((((w.alloc (.cells #[.string a.code, .int .i64 a.len, .slice AA a.people.length CA, .int .i64 a.last] 30)).alloc (.cells #[.int .i64 s.room, .int .i64 s.day, .int .i64 s.frm] 32)).alloc (.cells #[.string b.code, .int .i64 b.len, .slice AB b.people.length CB, .int .i64 b.last] 30)).alloc (.cells #[.int .i64 t.room, .int .i64 t.day, .int .i64 t.frm] 32)).heap.size = w.heap.size + 4 := by simp
          have kA : Blk ((((w.alloc (.cells #[.string a.code, .int .i64 a.len, .slice AA a.people.length CA, .int .i64 a.last] 30)).alloc (.cells #[.int .i64 s.room, .int .i64 s.day, .int .i64 s.frm] 32)).alloc (.cells #[.string b.code, .int .i64 b.len, .slice AB b.people.length CB, .int .i64 b.last] 30)).alloc (.cells #[.int .i64 t.room, .int .i64 t.day, .int .i64 t.frm] 32)) (w.heap.size) 30 #[.string a.code, .int .i64 a.len, .slice AA a.people.length CA, .int .i64 a.last] := (((Blk.newAt (w := w) (n := w.heap.size) (t := 30) (cs := #[.string a.code, .int .i64 a.len, .slice AA a.people.length CA, .int .i64 a.last]) (by simp)).alloc _).alloc _).alloc _
          have kS : Blk ((((w.alloc (.cells #[.string a.code, .int .i64 a.len, .slice AA a.people.length CA, .int .i64 a.last] 30)).alloc (.cells #[.int .i64 s.room, .int .i64 s.day, .int .i64 s.frm] 32)).alloc (.cells #[.string b.code, .int .i64 b.len, .slice AB b.people.length CB, .int .i64 b.last] 30)).alloc (.cells #[.int .i64 t.room, .int .i64 t.day, .int .i64 t.frm] 32)) (w.heap.size + 1) 32 #[.int .i64 s.room, .int .i64 s.day, .int .i64 s.frm] := ((Blk.newAt (w := (w.alloc (.cells #[.string a.code, .int .i64 a.len, .slice AA a.people.length CA, .int .i64 a.last] 30))) (n := w.heap.size + 1) (t := 32) (cs := #[.int .i64 s.room, .int .i64 s.day, .int .i64 s.frm]) (by simp)).alloc _).alloc _
          have kB : Blk ((((w.alloc (.cells #[.string a.code, .int .i64 a.len, .slice AA a.people.length CA, .int .i64 a.last] 30)).alloc (.cells #[.int .i64 s.room, .int .i64 s.day, .int .i64 s.frm] 32)).alloc (.cells #[.string b.code, .int .i64 b.len, .slice AB b.people.length CB, .int .i64 b.last] 30)).alloc (.cells #[.int .i64 t.room, .int .i64 t.day, .int .i64 t.frm] 32)) (w.heap.size + 2) 30 #[.string b.code, .int .i64 b.len, .slice AB b.people.length CB, .int .i64 b.last] := (Blk.newAt (w := ((w.alloc (.cells #[.string a.code, .int .i64 a.len, .slice AA a.people.length CA, .int .i64 a.last] 30)).alloc (.cells #[.int .i64 s.room, .int .i64 s.day, .int .i64 s.frm] 32))) (n := w.heap.size + 2) (t := 30) (cs := #[.string b.code, .int .i64 b.len, .slice AB b.people.length CB, .int .i64 b.last]) (by simp)).alloc _
          have kT : Blk ((((w.alloc (.cells #[.string a.code, .int .i64 a.len, .slice AA a.people.length CA, .int .i64 a.last] 30)).alloc (.cells #[.int .i64 s.room, .int .i64 s.day, .int .i64 s.frm] 32)).alloc (.cells #[.string b.code, .int .i64 b.len, .slice AB b.people.length CB, .int .i64 b.last] 30)).alloc (.cells #[.int .i64 t.room, .int .i64 t.day, .int .i64 t.frm] 32)) (w.heap.size + 3) 32 #[.int .i64 t.room, .int .i64 t.day, .int .i64 t.frm] := Blk.newAt (w := (((w.alloc (.cells #[.string a.code, .int .i64 a.len, .slice AA a.people.length CA, .int .i64 a.last] 30)).alloc (.cells #[.int .i64 s.room, .int .i64 s.day, .int .i64 s.frm] 32)).alloc (.cells #[.string b.code, .int .i64 b.len, .slice AB b.people.length CB, .int .i64 b.last] 30))) (n := w.heap.size + 3) (t := 32) (cs := #[.int .i64 t.room, .int .i64 t.day, .int .i64 t.frm]) (by simp)
          replace ha := ha.below hbk (by omega)
          replace hb := hb.below hbk (by omega)
          go_enter Try.func80, Try.ntmps80
          skip
          go_wp2_with fail
          go_ret
          exact ⟨ret_bool HF.out.symm, by (repeat (first | with_reducible assumption | with_reducible exact Below.refl _ _ | with_reducible refine Below.setCell ?_ ?_ _ | with_reducible refine Below.alloc ?_ ?_ _ | with_reducible refine Below.drew ?_ | with_reducible refine below_drewN ?_ _ | with_reducible refine Below.step (by with_reducible assumption) ?_ ?_ | omega | (simp <;> omega) | (simp; done)))⟩
        · have HF := Lib.hid (show clashB a s b t = decide (0 < (sharedL a b).length) by unfold clashB; rw [decide_eq_true hd, decide_eq_true h1, decide_eq_true h2, decide_eq_false hr]; rfl)
          rw [hd]
          have hbk : Below w.heap.size w ((((w.alloc (.cells #[.string a.code, .int .i64 a.len, .slice AA a.people.length CA, .int .i64 a.last] 30)).alloc (.cells #[.int .i64 s.room, .int .i64 t.day, .int .i64 s.frm] 32)).alloc (.cells #[.string b.code, .int .i64 b.len, .slice AB b.people.length CB, .int .i64 b.last] 30)).alloc (.cells #[.int .i64 t.room, .int .i64 t.day, .int .i64 t.frm] 32)) := (((((Below.refl _ _).alloc (by first | exact Nat.le_refl _ | (simp; omega) | (simp; done)) _).alloc (by first | exact Nat.le_refl _ | (simp; omega) | (simp; done)) _).alloc (by first | exact Nat.le_refl _ | (simp; omega) | (simp; done)) _).alloc (by first | exact Nat.le_refl _ | (simp; omega) | (simp; done)) _)
          have hzk : ((((w.alloc (.cells #[.string a.code, .int .i64 a.len, .slice AA a.people.length CA, .int .i64 a.last] 30)).alloc (.cells #[.int .i64 s.room, .int .i64 t.day, .int .i64 s.frm] 32)).alloc (.cells #[.string b.code, .int .i64 b.len, .slice AB b.people.length CB, .int .i64 b.last] 30)).alloc (.cells #[.int .i64 t.room, .int .i64 t.day, .int .i64 t.frm] 32)).heap.size = w.heap.size + 4 := by simp
          have kA : Blk ((((w.alloc (.cells #[.string a.code, .int .i64 a.len, .slice AA a.people.length CA, .int .i64 a.last] 30)).alloc (.cells #[.int .i64 s.room, .int .i64 t.day, .int .i64 s.frm] 32)).alloc (.cells #[.string b.code, .int .i64 b.len, .slice AB b.people.length CB, .int .i64 b.last] 30)).alloc (.cells #[.int .i64 t.room, .int .i64 t.day, .int .i64 t.frm] 32)) (w.heap.size) 30 #[.string a.code, .int .i64 a.len, .slice AA a.people.length CA, .int .i64 a.last] := (((Blk.newAt (w := w) (n := w.heap.size) (t := 30) (cs := #[.string a.code, .int .i64 a.len, .slice AA a.people.length CA, .int .i64 a.last]) (by simp)).alloc _).alloc _).alloc _
          have kS : Blk ((((w.alloc (.cells #[.string a.code, .int .i64 a.len, .slice AA a.people.length CA, .int .i64 a.last] 30)).alloc (.cells #[.int .i64 s.room, .int .i64 t.day, .int .i64 s.frm] 32)).alloc (.cells #[.string b.code, .int .i64 b.len, .slice AB b.people.length CB, .int .i64 b.last] 30)).alloc (.cells #[.int .i64 t.room, .int .i64 t.day, .int .i64 t.frm] 32)) (w.heap.size + 1) 32 #[.int .i64 s.room, .int .i64 t.day, .int .i64 s.frm] := ((Blk.newAt (w := (w.alloc (.cells #[.string a.code, .int .i64 a.len, .slice AA a.people.length CA, .int .i64 a.last] 30))) (n := w.heap.size + 1) (t := 32) (cs := #[.int .i64 s.room, .int .i64 t.day, .int .i64 s.frm]) (by simp)).alloc _).alloc _
          have kB : Blk ((((w.alloc (.cells #[.string a.code, .int .i64 a.len, .slice AA a.people.length CA, .int .i64 a.last] 30)).alloc (.cells #[.int .i64 s.room, .int .i64 t.day, .int .i64 s.frm] 32)).alloc (.cells #[.string b.code, .int .i64 b.len, .slice AB b.people.length CB, .int .i64 b.last] 30)).alloc (.cells #[.int .i64 t.room, .int .i64 t.day, .int .i64 t.frm] 32)) (w.heap.size + 2) 30 #[.string b.code, .int .i64 b.len, .slice AB b.people.length CB, .int .i64 b.last] := (Blk.newAt (w := ((w.alloc (.cells #[.string a.code, .int .i64 a.len, .slice AA a.people.length CA, .int .i64 a.last] 30)).alloc (.cells #[.int .i64 s.room, .int .i64 t.day, .int .i64 s.frm] 32))) (n := w.heap.size + 2) (t := 30) (cs := #[.string b.code, .int .i64 b.len, .slice AB b.people.length CB, .int .i64 b.last]) (by simp)).alloc _
          have kT : Blk ((((w.alloc (.cells #[.string a.code, .int .i64 a.len, .slice AA a.people.length CA, .int .i64 a.last] 30)).alloc (.cells #[.int .i64 s.room, .int .i64 t.day, .int .i64 s.frm] 32)).alloc (.cells #[.string b.code, .int .i64 b.len, .slice AB b.people.length CB, .int .i64 b.last] 30)).alloc (.cells #[.int .i64 t.room, .int .i64 t.day, .int .i64 t.frm] 32)) (w.heap.size + 3) 32 #[.int .i64 t.room, .int .i64 t.day, .int .i64 t.frm] := Blk.newAt (w := (((w.alloc (.cells #[.string a.code, .int .i64 a.len, .slice AA a.people.length CA, .int .i64 a.last] 30)).alloc (.cells #[.int .i64 s.room, .int .i64 t.day, .int .i64 s.frm] 32)).alloc (.cells #[.string b.code, .int .i64 b.len, .slice AB b.people.length CB, .int .i64 b.last] 30))) (n := w.heap.size + 3) (t := 32) (cs := #[.int .i64 t.room, .int .i64 t.day, .int .i64 t.frm]) (by simp)
          replace ha := ha.below hbk (by omega)
          replace hb := hb.below hbk (by omega)
          go_enter Try.func80, Try.ntmps80
          go_wp2_with fail
          generalize ((((w.alloc (.cells #[.string a.code, .int .i64 a.len, .slice AA a.people.length CA, .int .i64 a.last] 30)).alloc (.cells #[.int .i64 s.room, .int .i64 t.day, .int .i64 s.frm] 32)).alloc (.cells #[.string b.code, .int .i64 b.len, .slice AB b.people.length CB, .int .i64 b.last] 30)).alloc (.cells #[.int .i64 t.room, .int .i64 t.day, .int .i64 t.frm] 32)) = W0 at *

          refine (l19Shared_any a (.slice AA a.people.length CA) lo hi b (.slice AB b.people.length CB) lo2 hi2 _ ha (by omega) hsa hb (by omega) hsb hN).mono ?_
          rintro e w1 ⟨v1, rfl, hr1, b1⟩
          have z1 := b1.size
          obtain ⟨A1, C1, rfl, hC1⟩ := RdF.form (RdW.rd hr1)
          clear hr1
          have hsl := sortW_len (sharedL a b)
          by_cases hn : (sharedL a b).length = 0
          · have hz : (sortW (sharedL a b)).length = 0 := by omega
            rw [show decide (0 < (sharedL a b).length) = false from decide_eq_false (by omega)] at HF
            rw [hz]
            go_wp2_with fail
            go_ret
            exact ⟨ret_bool (by rw [HF.out]; exact beq_eq_false_iff_ne.2 hr), by (repeat (first | with_reducible assumption | with_reducible exact Below.refl _ _ | with_reducible refine Below.setCell ?_ ?_ _ | with_reducible refine Below.alloc ?_ ?_ _ | with_reducible refine Below.drew ?_ | with_reducible refine below_drewN ?_ _ | with_reducible refine Below.step (by with_reducible assumption) ?_ ?_ | omega | (simp <;> omega) | (simp; done)))⟩
          · have hz : (0 : Int) < ((sortW (sharedL a b)).length : Int) := by omega
            have hpos : 0 < (sharedL a b).length := by omega
            rw [show decide (0 < (sharedL a b).length) = true from decide_eq_true hpos] at HF
            generalize (sortW (sharedL a b)).length = n at *
            go_wp2_with fail
            go_ret
            exact ⟨ret_bool (by rw [HF.out] <;> simp [hpos]), by (repeat (first | with_reducible assumption | with_reducible exact Below.refl _ _ | with_reducible refine Below.setCell ?_ ?_ _ | with_reducible refine Below.alloc ?_ ?_ _ | with_reducible refine Below.drew ?_ | with_reducible refine below_drewN ?_ _ | with_reducible refine Below.step (by with_reducible assumption) ?_ ?_ | omega | (simp <;> omega) | (simp; done)))⟩
      · have HF := Lib.hid (show clashB a s b t = false by unfold clashB; rw [decide_eq_false h2]; simp)
        have hbk : Below w.heap.size w ((((w.alloc (.cells #[.string a.code, .int .i64 a.len, .slice AA a.people.length CA, .int .i64 a.last] 30)).alloc (.cells #[.int .i64 s.room, .int .i64 s.day, .int .i64 s.frm] 32)).alloc (.cells #[.string b.code, .int .i64 b.len, .slice AB b.people.length CB, .int .i64 b.last] 30)).alloc (.cells #[.int .i64 t.room, .int .i64 t.day, .int .i64 t.frm] 32)) := (((((Below.refl _ _).alloc (by first | exact Nat.le_refl _ | (simp; omega) | (simp; done)) _).alloc (by first | exact Nat.le_refl _ | (simp; omega) | (simp; done)) _).alloc (by first | exact Nat.le_refl _ | (simp; omega) | (simp; done)) _).alloc (by first | exact Nat.le_refl _ | (simp; omega) | (simp; done)) _)
        have hzk : ((((w.alloc (.cells #[.string a.code, .int .i64 a.len, .slice AA a.people.length CA, .int .i64 a.last] 30)).alloc (.cells #[.int .i64 s.room, .int .i64 s.day, .int .i64 s.frm] 32)).alloc (.cells #[.string b.code, .int .i64 b.len, .slice AB b.people.length CB, .int .i64 b.last] 30)).alloc (.cells #[.int .i64 t.room, .int .i64 t.day, .int .i64 t.frm] 32)).heap.size = w.heap.size + 4 := by simp
        have kA : Blk ((((w.alloc (.cells #[.string a.code, .int .i64 a.len, .slice AA a.people.length CA, .int .i64 a.last] 30)).alloc (.cells #[.int .i64 s.room, .int .i64 s.day, .int .i64 s.frm] 32)).alloc (.cells #[.string b.code, .int .i64 b.len, .slice AB b.people.length CB, .int .i64 b.last] 30)).alloc (.cells #[.int .i64 t.room, .int .i64 t.day, .int .i64 t.frm] 32)) (w.heap.size) 30 #[.string a.code, .int .i64 a.len, .slice AA a.people.length CA, .int .i64 a.last] := (((Blk.newAt (w := w) (n := w.heap.size) (t := 30) (cs := #[.string a.code, .int .i64 a.len, .slice AA a.people.length CA, .int .i64 a.last]) (by simp)).alloc _).alloc _).alloc _
        have kS : Blk ((((w.alloc (.cells #[.string a.code, .int .i64 a.len, .slice AA a.people.length CA, .int .i64 a.last] 30)).alloc (.cells #[.int .i64 s.room, .int .i64 s.day, .int .i64 s.frm] 32)).alloc (.cells #[.string b.code, .int .i64 b.len, .slice AB b.people.length CB, .int .i64 b.last] 30)).alloc (.cells #[.int .i64 t.room, .int .i64 t.day, .int .i64 t.frm] 32)) (w.heap.size + 1) 32 #[.int .i64 s.room, .int .i64 s.day, .int .i64 s.frm] := ((Blk.newAt (w := (w.alloc (.cells #[.string a.code, .int .i64 a.len, .slice AA a.people.length CA, .int .i64 a.last] 30))) (n := w.heap.size + 1) (t := 32) (cs := #[.int .i64 s.room, .int .i64 s.day, .int .i64 s.frm]) (by simp)).alloc _).alloc _
        have kB : Blk ((((w.alloc (.cells #[.string a.code, .int .i64 a.len, .slice AA a.people.length CA, .int .i64 a.last] 30)).alloc (.cells #[.int .i64 s.room, .int .i64 s.day, .int .i64 s.frm] 32)).alloc (.cells #[.string b.code, .int .i64 b.len, .slice AB b.people.length CB, .int .i64 b.last] 30)).alloc (.cells #[.int .i64 t.room, .int .i64 t.day, .int .i64 t.frm] 32)) (w.heap.size + 2) 30 #[.string b.code, .int .i64 b.len, .slice AB b.people.length CB, .int .i64 b.last] := (Blk.newAt (w := ((w.alloc (.cells #[.string a.code, .int .i64 a.len, .slice AA a.people.length CA, .int .i64 a.last] 30)).alloc (.cells #[.int .i64 s.room, .int .i64 s.day, .int .i64 s.frm] 32))) (n := w.heap.size + 2) (t := 30) (cs := #[.string b.code, .int .i64 b.len, .slice AB b.people.length CB, .int .i64 b.last]) (by simp)).alloc _
        have kT : Blk ((((w.alloc (.cells #[.string a.code, .int .i64 a.len, .slice AA a.people.length CA, .int .i64 a.last] 30)).alloc (.cells #[.int .i64 s.room, .int .i64 s.day, .int .i64 s.frm] 32)).alloc (.cells #[.string b.code, .int .i64 b.len, .slice AB b.people.length CB, .int .i64 b.last] 30)).alloc (.cells #[.int .i64 t.room, .int .i64 t.day, .int .i64 t.frm] 32)) (w.heap.size + 3) 32 #[.int .i64 t.room, .int .i64 t.day, .int .i64 t.frm] := Blk.newAt (w := (((w.alloc (.cells #[.string a.code, .int .i64 a.len, .slice AA a.people.length CA, .int .i64 a.last] 30)).alloc (.cells #[.int .i64 s.room, .int .i64 s.day, .int .i64 s.frm] 32)).alloc (.cells #[.string b.code, .int .i64 b.len, .slice AB b.people.length CB, .int .i64 b.last] 30))) (n := w.heap.size + 3) (t := 32) (cs := #[.int .i64 t.room, .int .i64 t.day, .int .i64 t.frm]) (by simp)
        replace ha := ha.below hbk (by omega)
        replace hb := hb.below hbk (by omega)
        go_enter Try.func80, Try.ntmps80
        skip
        go_wp2_with fail
        go_ret
        exact ⟨ret_bool HF.out.symm, by (repeat (first | with_reducible assumption | with_reducible exact Below.refl _ _ | with_reducible refine Below.setCell ?_ ?_ _ | with_reducible refine Below.alloc ?_ ?_ _ | with_reducible refine Below.drew ?_ | with_reducible refine below_drewN ?_ _ | with_reducible refine Below.step (by with_reducible assumption) ?_ ?_ | omega | (simp <;> omega) | (simp; done)))⟩
    · have HF := Lib.hid (show clashB a s b t = false by unfold clashB; rw [decide_eq_false h1]; simp)
      have hbk : Below w.heap.size w ((((w.alloc (.cells #[.string a.code, .int .i64 a.len, .slice AA a.people.length CA, .int .i64 a.last] 30)).alloc (.cells #[.int .i64 s.room, .int .i64 s.day, .int .i64 s.frm] 32)).alloc (.cells #[.string b.code, .int .i64 b.len, .slice AB b.people.length CB, .int .i64 b.last] 30)).alloc (.cells #[.int .i64 t.room, .int .i64 t.day, .int .i64 t.frm] 32)) := (((((Below.refl _ _).alloc (by first | exact Nat.le_refl _ | (simp; omega) | (simp; done)) _).alloc (by first | exact Nat.le_refl _ | (simp; omega) | (simp; done)) _).alloc (by first | exact Nat.le_refl _ | (simp; omega) | (simp; done)) _).alloc (by first | exact Nat.le_refl _ | (simp; omega) | (simp; done)) _)
      have hzk : ((((w.alloc (.cells #[.string a.code, .int .i64 a.len, .slice AA a.people.length CA, .int .i64 a.last] 30)).alloc (.cells #[.int .i64 s.room, .int .i64 s.day, .int .i64 s.frm] 32)).alloc (.cells #[.string b.code, .int .i64 b.len, .slice AB b.people.length CB, .int .i64 b.last] 30)).alloc (.cells #[.int .i64 t.room, .int .i64 t.day, .int .i64 t.frm] 32)).heap.size = w.heap.size + 4 := by simp
      have kA : Blk ((((w.alloc (.cells #[.string a.code, .int .i64 a.len, .slice AA a.people.length CA, .int .i64 a.last] 30)).alloc (.cells #[.int .i64 s.room, .int .i64 s.day, .int .i64 s.frm] 32)).alloc (.cells #[.string b.code, .int .i64 b.len, .slice AB b.people.length CB, .int .i64 b.last] 30)).alloc (.cells #[.int .i64 t.room, .int .i64 t.day, .int .i64 t.frm] 32)) (w.heap.size) 30 #[.string a.code, .int .i64 a.len, .slice AA a.people.length CA, .int .i64 a.last] := (((Blk.newAt (w := w) (n := w.heap.size) (t := 30) (cs := #[.string a.code, .int .i64 a.len, .slice AA a.people.length CA, .int .i64 a.last]) (by simp)).alloc _).alloc _).alloc _
      have kS : Blk ((((w.alloc (.cells #[.string a.code, .int .i64 a.len, .slice AA a.people.length CA, .int .i64 a.last] 30)).alloc (.cells #[.int .i64 s.room, .int .i64 s.day, .int .i64 s.frm] 32)).alloc (.cells #[.string b.code, .int .i64 b.len, .slice AB b.people.length CB, .int .i64 b.last] 30)).alloc (.cells #[.int .i64 t.room, .int .i64 t.day, .int .i64 t.frm] 32)) (w.heap.size + 1) 32 #[.int .i64 s.room, .int .i64 s.day, .int .i64 s.frm] := ((Blk.newAt (w := (w.alloc (.cells #[.string a.code, .int .i64 a.len, .slice AA a.people.length CA, .int .i64 a.last] 30))) (n := w.heap.size + 1) (t := 32) (cs := #[.int .i64 s.room, .int .i64 s.day, .int .i64 s.frm]) (by simp)).alloc _).alloc _
      have kB : Blk ((((w.alloc (.cells #[.string a.code, .int .i64 a.len, .slice AA a.people.length CA, .int .i64 a.last] 30)).alloc (.cells #[.int .i64 s.room, .int .i64 s.day, .int .i64 s.frm] 32)).alloc (.cells #[.string b.code, .int .i64 b.len, .slice AB b.people.length CB, .int .i64 b.last] 30)).alloc (.cells #[.int .i64 t.room, .int .i64 t.day, .int .i64 t.frm] 32)) (w.heap.size + 2) 30 #[.string b.code, .int .i64 b.len, .slice AB b.people.length CB, .int .i64 b.last] := (Blk.newAt (w := ((w.alloc (.cells #[.string a.code, .int .i64 a.len, .slice AA a.people.length CA, .int .i64 a.last] 30)).alloc (.cells #[.int .i64 s.room, .int .i64 s.day, .int .i64 s.frm] 32))) (n := w.heap.size + 2) (t := 30) (cs := #[.string b.code, .int .i64 b.len, .slice AB b.people.length CB, .int .i64 b.last]) (by simp)).alloc _
      have kT : Blk ((((w.alloc (.cells #[.string a.code, .int .i64 a.len, .slice AA a.people.length CA, .int .i64 a.last] 30)).alloc (.cells #[.int .i64 s.room, .int .i64 s.day, .int .i64 s.frm] 32)).alloc (.cells #[.string b.code, .int .i64 b.len, .slice AB b.people.length CB, .int .i64 b.last] 30)).alloc (.cells #[.int .i64 t.room, .int .i64 t.day, .int .i64 t.frm] 32)) (w.heap.size + 3) 32 #[.int .i64 t.room, .int .i64 t.day, .int .i64 t.frm] := Blk.newAt (w := (((w.alloc (.cells #[.string a.code, .int .i64 a.len, .slice AA a.people.length CA, .int .i64 a.last] 30)).alloc (.cells #[.int .i64 s.room, .int .i64 s.day, .int .i64 s.frm] 32)).alloc (.cells #[.string b.code, .int .i64 b.len, .slice AB b.people.length CB, .int .i64 b.last] 30))) (n := w.heap.size + 3) (t := 32) (cs := #[.int .i64 t.room, .int .i64 t.day, .int .i64 t.frm]) (by simp)
      replace ha := ha.below hbk (by omega)
      replace hb := hb.below hbk (by omega)
      go_enter Try.func80, Try.ntmps80
      skip
      go_wp2_with fail
      go_ret
      exact ⟨ret_bool HF.out.symm, by (repeat (first | with_reducible assumption | with_reducible exact Below.refl _ _ | with_reducible refine Below.setCell ?_ ?_ _ | with_reducible refine Below.alloc ?_ ?_ _ | with_reducible refine Below.drew ?_ | with_reducible refine below_drewN ?_ _ | with_reducible refine Below.step (by with_reducible assumption) ?_ ?_ | omega | (simp <;> omega) | (simp; done)))⟩
  · have HF := Lib.hid (show clashB a s b t = false by unfold clashB; rw [decide_eq_false hd]; simp)
    have hbk : Below w.heap.size w ((((w.alloc (.cells #[.string a.code, .int .i64 a.len, .slice AA a.people.length CA, .int .i64 a.last] 30)).alloc (.cells #[.int .i64 s.room, .int .i64 s.day, .int .i64 s.frm] 32)).alloc (.cells #[.string b.code, .int .i64 b.len, .slice AB b.people.length CB, .int .i64 b.last] 30)).alloc (.cells #[.int .i64 t.room, .int .i64 t.day, .int .i64 t.frm] 32)) := (((((Below.refl _ _).alloc (by first | exact Nat.le_refl _ | (simp; omega) | (simp; done)) _).alloc (by first | exact Nat.le_refl _ | (simp; omega) | (simp; done)) _).alloc (by first | exact Nat.le_refl _ | (simp; omega) | (simp; done)) _).alloc (by first | exact Nat.le_refl _ | (simp; omega) | (simp; done)) _)
    have hzk : ((((w.alloc (.cells #[.string a.code, .int .i64 a.len, .slice AA a.people.length CA, .int .i64 a.last] 30)).alloc (.cells #[.int .i64 s.room, .int .i64 s.day, .int .i64 s.frm] 32)).alloc (.cells #[.string b.code, .int .i64 b.len, .slice AB b.people.length CB, .int .i64 b.last] 30)).alloc (.cells #[.int .i64 t.room, .int .i64 t.day, .int .i64 t.frm] 32)).heap.size = w.heap.size + 4 := by simp
    have kA : Blk ((((w.alloc (.cells #[.string a.code, .int .i64 a.len, .slice AA a.people.length CA, .int .i64 a.last] 30)).alloc (.cells #[.int .i64 s.room, .int .i64 s.day, .int .i64 s.frm] 32)).alloc (.cells #[.string b.code, .int .i64 b.len, .slice AB b.people.length CB, .int .i64 b.last] 30)).alloc (.cells #[.int .i64 t.room, .int .i64 t.day, .int .i64 t.frm] 32)) (w.heap.size) 30 #[.string a.code, .int .i64 a.len, .slice AA a.people.length CA, .int .i64 a.last] := (((Blk.newAt (w := w) (n := w.heap.size) (t := 30) (cs := #[.string a.code, .int .i64 a.len, .slice AA a.people.length CA, .int .i64 a.last]) (by simp)).alloc _).alloc _).alloc _
    have kS : Blk ((((w.alloc (.cells #[.string a.code, .int .i64 a.len, .slice AA a.people.length CA, .int .i64 a.last] 30)).alloc (.cells #[.int .i64 s.room, .int .i64 s.day, .int .i64 s.frm] 32)).alloc (.cells #[.string b.code, .int .i64 b.len, .slice AB b.people.length CB, .int .i64 b.last] 30)).alloc (.cells #[.int .i64 t.room, .int .i64 t.day, .int .i64 t.frm] 32)) (w.heap.size + 1) 32 #[.int .i64 s.room, .int .i64 s.day, .int .i64 s.frm] := ((Blk.newAt (w := (w.alloc (.cells #[.string a.code, .int .i64 a.len, .slice AA a.people.length CA, .int .i64 a.last] 30))) (n := w.heap.size + 1) (t := 32) (cs := #[.int .i64 s.room, .int .i64 s.day, .int .i64 s.frm]) (by simp)).alloc _).alloc _
    have kB : Blk ((((w.alloc (.cells #[.string a.code, .int .i64 a.len, .slice AA a.people.length CA, .int .i64 a.last] 30)).alloc (.cells #[.int .i64 s.room, .int .i64 s.day, .int .i64 s.frm] 32)).alloc (.cells #[.string b.code, .int .i64 b.len, .slice AB b.people.length CB, .int .i64 b.last] 30)).alloc (.cells #[.int .i64 t.room, .int .i64 t.day, .int .i64 t.frm] 32)) (w.heap.size + 2) 30 #[.string b.code, .int .i64 b.len, .slice AB b.people.length CB, .int .i64 b.last] := (Blk.newAt (w := ((w.alloc (.cells #[.string a.code, .int .i64 a.len, .slice AA a.people.length CA, .int .i64 a.last] 30)).alloc (.cells #[.int .i64 s.room, .int .i64 s.day, .int .i64 s.frm] 32))) (n := w.heap.size + 2) (t := 30) (cs := #[.string b.code, .int .i64 b.len, .slice AB b.people.length CB, .int .i64 b.last]) (by simp)).alloc _
    have kT : Blk ((((w.alloc (.cells #[.string a.code, .int .i64 a.len, .slice AA a.people.length CA, .int .i64 a.last] 30)).alloc (.cells #[.int .i64 s.room, .int .i64 s.day, .int .i64 s.frm] 32)).alloc (.cells #[.string b.code, .int .i64 b.len, .slice AB b.people.length CB, .int .i64 b.last] 30)).alloc (.cells #[.int .i64 t.room, .int .i64 t.day, .int .i64 t.frm] 32)) (w.heap.size + 3) 32 #[.int .i64 t.room, .int .i64 t.day, .int .i64 t.frm] := Blk.newAt (w := (((w.alloc (.cells #[.string a.code, .int .i64 a.len, .slice AA a.people.length CA, .int .i64 a.last] 30)).alloc (.cells #[.int .i64 s.room, .int .i64 s.day, .int .i64 s.frm] 32)).alloc (.cells #[.string b.code, .int .i64 b.len, .slice AB b.people.length CB, .int .i64 b.last] 30))) (n := w.heap.size + 3) (t := 32) (cs := #[.int .i64 t.room, .int .i64 t.day, .int .i64 t.frm]) (by simp)
    replace ha := ha.below hbk (by omega)
    replace hb := hb.below hbk (by omega)
    go_enter Try.func80, Try.ntmps80
    skip
    go_wp2_with fail
    go_ret
    exact ⟨ret_bool HF.out.symm, by (repeat (first | with_reducible assumption | with_reducible exact Below.refl _ _ | with_reducible refine Below.setCell ?_ ?_ _ | with_reducible refine Below.alloc ?_ ?_ _ | with_reducible refine Below.drew ?_ | with_reducible refine below_drewN ?_ _ | with_reducible refine Below.step (by with_reducible assumption) ?_ ?_ | omega | (simp <;> omega) | (simp; done)))⟩
set_option maxRecDepth 100000 in
set_option maxHeartbeats 4000000 in
theorem sharedPeople_any (a : Hearing) (pa : Value) (lo hi : Nat) (b : Hearing) (pb : Value) (lo2 hi2 : Nat) (w : World) (ha : RdF encStr 1 w lo hi pa a.people) (hh : hi ≤ w.heap.size) (hsa : a.small) (hb : RdF encStr 1 w lo2 hi2 pb b.people) (hh2 : hi2 ≤ w.heap.size) (hsb : b.small) :
    Calls Try.prog 27 #[.agg #[.string a.code, .int .i64 a.len, pa, .int .i64 a.last], .agg #[.string b.code, .int .i64 b.len, pb, .int .i64 b.last]] w fun e w' => RetVC (fun v' w' => RdW encStr 1 9 w' w.heap.size w'.heap.size v' (sharedPeople a b).1) (sharedPeople a b).2 w e w' := by
  have hla := hsa.len0
  have hlb := hsb.len0
  obtain ⟨AA, CA, rfl, hCA⟩ := ha.form
  obtain ⟨AB, CB, rfl, hCB⟩ := hb.form
  have hbk : Below w.heap.size w ((w.alloc (.cells #[.string a.code, .int .i64 a.len, .slice AA a.people.length CA, .int .i64 a.last] 30)).alloc (.cells #[.string b.code, .int .i64 b.len, .slice AB b.people.length CB, .int .i64 b.last] 30)) := (((Below.refl _ _).alloc (by first | exact Nat.le_refl _ | (simp; omega) | (simp; done)) _).alloc (by first | exact Nat.le_refl _ | (simp; omega) | (simp; done)) _)
  have hzk : ((w.alloc (.cells #[.string a.code, .int .i64 a.len, .slice AA a.people.length CA, .int .i64 a.last] 30)).alloc (.cells #[.string b.code, .int .i64 b.len, .slice AB b.people.length CB, .int .i64 b.last] 30)).heap.size = w.heap.size + 2 := by simp
  have kA : Blk ((w.alloc (.cells #[.string a.code, .int .i64 a.len, .slice AA a.people.length CA, .int .i64 a.last] 30)).alloc (.cells #[.string b.code, .int .i64 b.len, .slice AB b.people.length CB, .int .i64 b.last] 30)) (w.heap.size) 30 #[.string a.code, .int .i64 a.len, .slice AA a.people.length CA, .int .i64 a.last] := (Blk.newAt (w := w) (n := w.heap.size) (t := 30) (cs := #[.string a.code, .int .i64 a.len, .slice AA a.people.length CA, .int .i64 a.last]) (by simp)).alloc _
  have kB : Blk ((w.alloc (.cells #[.string a.code, .int .i64 a.len, .slice AA a.people.length CA, .int .i64 a.last] 30)).alloc (.cells #[.string b.code, .int .i64 b.len, .slice AB b.people.length CB, .int .i64 b.last] 30)) (w.heap.size + 1) 30 #[.string b.code, .int .i64 b.len, .slice AB b.people.length CB, .int .i64 b.last] := Blk.newAt (w := (w.alloc (.cells #[.string a.code, .int .i64 a.len, .slice AA a.people.length CA, .int .i64 a.last] 30))) (n := w.heap.size + 1) (t := 30) (cs := #[.string b.code, .int .i64 b.len, .slice AB b.people.length CB, .int .i64 b.last]) (by simp)
  replace ha := ha.below hbk (by omega)
  replace hb := hb.below hbk (by omega)
  go_enter Try.func27, Try.ntmps27
  go_wp2_with fail
  generalize ((w.alloc (.cells #[.string a.code, .int .i64 a.len, .slice AA a.people.length CA, .int .i64 a.last] 30)).alloc (.cells #[.string b.code, .int .i64 b.len, .slice AB b.people.length CB, .int .i64 b.last] 30)) = W0 at *
  obtain ⟨q1kA_0, q1kA_1, q1kA_2, q1kA_3⟩ := kA.c4
  obtain ⟨q1kB_0, q1kB_1, q1kB_2, q1kB_3⟩ := kB.c4
  try go_wp2_with fail
  refine (isHearing_any a (.slice AA a.people.length CA) lo hi _ ha (by omega) hsa).mono ?_
  rintro e w1 ⟨rfl, b1⟩
  clear q1kA_0 q1kA_1 q1kA_2 q1kA_3 q1kB_0 q1kB_1 q1kB_2 q1kB_3
  have zb1 := b1.size
  replace ha := ha.below b1 (by omega)
  replace hb := hb.below b1 (by omega)
  replace kA := kA.below b1 (by omega)
  replace kB := kB.below b1 (by omega)
  replace hbk := Below.step b1 (by omega) hbk
  clear b1
  obtain ⟨q2kA_0, q2kA_1, q2kA_2, q2kA_3⟩ := kA.c4
  obtain ⟨q2kB_0, q2kB_1, q2kB_2, q2kB_3⟩ := kB.c4
  cases hc1 : a.ok with
  | false =>
    have HF := Lib.hid (show sharedPeople a b = ([], 1) by unfold sharedPeople; simp [hc1])
    go_wp2_with fail
    go_ret2
    rw [HF.out]
    exact ⟨_, rfl, ⟨none, 0, rfl, Nat.le_refl _, fun h => absurd h (by simp)⟩, by (repeat (first | with_reducible assumption | with_reducible exact Below.refl _ _ | with_reducible refine Below.setCell ?_ ?_ _ | with_reducible refine Below.alloc ?_ ?_ _ | with_reducible refine Below.drew ?_ | with_reducible refine below_drewN ?_ _ | with_reducible refine Below.step (by with_reducible assumption) ?_ ?_ | omega | (simp <;> omega) | (simp; done)))⟩
  | true =>
    go_wp2_with fail
    refine (isHearing_any b (.slice AB b.people.length CB) lo2 hi2 _ hb (by omega) hsb).mono ?_
    rintro e w2 ⟨rfl, b2⟩
    clear q2kA_0 q2kA_1 q2kA_2 q2kA_3 q2kB_0 q2kB_1 q2kB_2 q2kB_3
    have zb2 := b2.size
    replace ha := ha.below b2 (by omega)
    replace hb := hb.below b2 (by omega)
    replace kA := kA.below b2 (by omega)
    replace kB := kB.below b2 (by omega)
    replace hbk := Below.step b2 (by omega) hbk
    clear b2
    obtain ⟨q3kA_0, q3kA_1, q3kA_2, q3kA_3⟩ := kA.c4
    obtain ⟨q3kB_0, q3kB_1, q3kB_2, q3kB_3⟩ := kB.c4
    cases hc2 : b.ok with
    | false =>
      have HF := Lib.hid (show sharedPeople a b = ([], 1) by unfold sharedPeople; simp [hc2])
      go_wp2_with fail
      go_ret2
      rw [HF.out]
      exact ⟨_, rfl, ⟨none, 0, rfl, Nat.le_refl _, fun h => absurd h (by simp)⟩, by (repeat (first | with_reducible assumption | with_reducible exact Below.refl _ _ | with_reducible refine Below.setCell ?_ ?_ _ | with_reducible refine Below.alloc ?_ ?_ _ | with_reducible refine Below.drew ?_ | with_reducible refine below_drewN ?_ _ | with_reducible refine Below.step (by with_reducible assumption) ?_ ?_ | omega | (simp <;> omega) | (simp; done)))⟩
    | true =>
      have HF := Lib.hid (show sharedPeople a b = (sortW (sharedL a b), 0) by unfold sharedPeople; simp [hc1, hc2])
      have hN := ok_nodup hc1
      go_wp2_with fail
      refine (shared_any a (.slice AA a.people.length CA) lo hi b (.slice AB b.people.length CB) lo2 hi2 _ ha (by omega) hsa hb (by omega) hsb).mono ?_
      rintro e w3 ⟨v3, rfl, hr3, b3⟩
      have z3 := b3.size
      obtain ⟨A1, C1, rfl, hC1⟩ := RdF.form (RdW.rd hr3)
      go_wp2_with fail
      go_ret2
      rw [HF.out]
      exact ⟨_, rfl, hr3.wide (by omega) (Nat.le_refl _), by (repeat (first | with_reducible assumption | with_reducible exact Below.refl _ _ | with_reducible refine Below.setCell ?_ ?_ _ | with_reducible refine Below.alloc ?_ ?_ _ | with_reducible refine Below.drew ?_ | with_reducible refine below_drewN ?_ _ | with_reducible refine Below.step (by with_reducible assumption) ?_ ?_ | omega | (simp <;> omega) | (simp; done)))⟩
set_option maxRecDepth 100000 in
set_option maxHeartbeats 4000000 in
theorem sSharedPeople_any (a : Hearing) (pa : Value) (lo hi : Nat) (b : Hearing) (pb : Value) (lo2 hi2 : Nat) (w : World) (ha : RdF encStr 1 w lo hi pa a.people) (hh : hi ≤ w.heap.size) (hsa : a.small) (hb : RdF encStr 1 w lo2 hi2 pb b.people) (hh2 : hi2 ≤ w.heap.size) (hsb : b.small) :
    Calls Try.prog 26 #[.agg #[.string a.code, .int .i64 a.len, pa, .int .i64 a.last], .agg #[.string b.code, .int .i64 b.len, pb, .int .i64 b.last]] w fun e w' => RetVC (fun v' w' => RdW encStr 1 9 w' w.heap.size w'.heap.size v' (sharedPeople a b).1) (sharedPeople a b).2 w e w' := by
  have hla := hsa.len0
  have hlb := hsb.len0
  obtain ⟨AA, CA, rfl, hCA⟩ := ha.form
  obtain ⟨AB, CB, rfl, hCB⟩ := hb.form
  have hbk : Below w.heap.size w ((w.alloc (.cells #[.string a.code, .int .i64 a.len, .slice AA a.people.length CA, .int .i64 a.last] 30)).alloc (.cells #[.string b.code, .int .i64 b.len, .slice AB b.people.length CB, .int .i64 b.last] 30)) := (((Below.refl _ _).alloc (by first | exact Nat.le_refl _ | (simp; omega) | (simp; done)) _).alloc (by first | exact Nat.le_refl _ | (simp; omega) | (simp; done)) _)
  have hzk : ((w.alloc (.cells #[.string a.code, .int .i64 a.len, .slice AA a.people.length CA, .int .i64 a.last] 30)).alloc (.cells #[.string b.code, .int .i64 b.len, .slice AB b.people.length CB, .int .i64 b.last] 30)).heap.size = w.heap.size + 2 := by simp
  have kA : Blk ((w.alloc (.cells #[.string a.code, .int .i64 a.len, .slice AA a.people.length CA, .int .i64 a.last] 30)).alloc (.cells #[.string b.code, .int .i64 b.len, .slice AB b.people.length CB, .int .i64 b.last] 30)) (w.heap.size) 30 #[.string a.code, .int .i64 a.len, .slice AA a.people.length CA, .int .i64 a.last] := (Blk.newAt (w := w) (n := w.heap.size) (t := 30) (cs := #[.string a.code, .int .i64 a.len, .slice AA a.people.length CA, .int .i64 a.last]) (by simp)).alloc _
  have kB : Blk ((w.alloc (.cells #[.string a.code, .int .i64 a.len, .slice AA a.people.length CA, .int .i64 a.last] 30)).alloc (.cells #[.string b.code, .int .i64 b.len, .slice AB b.people.length CB, .int .i64 b.last] 30)) (w.heap.size + 1) 30 #[.string b.code, .int .i64 b.len, .slice AB b.people.length CB, .int .i64 b.last] := Blk.newAt (w := (w.alloc (.cells #[.string a.code, .int .i64 a.len, .slice AA a.people.length CA, .int .i64 a.last] 30))) (n := w.heap.size + 1) (t := 30) (cs := #[.string b.code, .int .i64 b.len, .slice AB b.people.length CB, .int .i64 b.last]) (by simp)
  replace ha := ha.below hbk (by omega)
  replace hb := hb.below hbk (by omega)
  go_enter Try.func26, Try.ntmps26
  go_wp2_with fail
  generalize ((w.alloc (.cells #[.string a.code, .int .i64 a.len, .slice AA a.people.length CA, .int .i64 a.last] 30)).alloc (.cells #[.string b.code, .int .i64 b.len, .slice AB b.people.length CB, .int .i64 b.last] 30)) = W0 at *
  obtain ⟨q1kA_0, q1kA_1, q1kA_2, q1kA_3⟩ := kA.c4
  obtain ⟨q1kB_0, q1kB_1, q1kB_2, q1kB_3⟩ := kB.c4
  try go_wp2_with fail
  refine (l19Is_any a (.slice AA a.people.length CA) lo hi _ ha (by omega) hsa).mono ?_
  rintro e w1 ⟨rfl, b1⟩
  clear q1kA_0 q1kA_1 q1kA_2 q1kA_3 q1kB_0 q1kB_1 q1kB_2 q1kB_3
  have zb1 := b1.size
  replace ha := ha.below b1 (by omega)
  replace hb := hb.below b1 (by omega)
  replace kA := kA.below b1 (by omega)
  replace kB := kB.below b1 (by omega)
  replace hbk := Below.step b1 (by omega) hbk
  clear b1
  obtain ⟨q2kA_0, q2kA_1, q2kA_2, q2kA_3⟩ := kA.c4
  obtain ⟨q2kB_0, q2kB_1, q2kB_2, q2kB_3⟩ := kB.c4
  cases hc1 : a.ok with
  | false =>
    have HF := Lib.hid (show sharedPeople a b = ([], 1) by unfold sharedPeople; simp [hc1])
    go_wp2_with fail
    go_ret2
    rw [HF.out]
    exact ⟨_, rfl, ⟨none, 0, rfl, Nat.le_refl _, fun h => absurd h (by simp)⟩, by (repeat (first | with_reducible assumption | with_reducible exact Below.refl _ _ | with_reducible refine Below.setCell ?_ ?_ _ | with_reducible refine Below.alloc ?_ ?_ _ | with_reducible refine Below.drew ?_ | with_reducible refine below_drewN ?_ _ | with_reducible refine Below.step (by with_reducible assumption) ?_ ?_ | omega | (simp <;> omega) | (simp; done)))⟩
  | true =>
    go_wp2_with fail
    refine (l19Is_any b (.slice AB b.people.length CB) lo2 hi2 _ hb (by omega) hsb).mono ?_
    rintro e w2 ⟨rfl, b2⟩
    clear q2kA_0 q2kA_1 q2kA_2 q2kA_3 q2kB_0 q2kB_1 q2kB_2 q2kB_3
    have zb2 := b2.size
    replace ha := ha.below b2 (by omega)
    replace hb := hb.below b2 (by omega)
    replace kA := kA.below b2 (by omega)
    replace kB := kB.below b2 (by omega)
    replace hbk := Below.step b2 (by omega) hbk
    clear b2
    obtain ⟨q3kA_0, q3kA_1, q3kA_2, q3kA_3⟩ := kA.c4
    obtain ⟨q3kB_0, q3kB_1, q3kB_2, q3kB_3⟩ := kB.c4
    cases hc2 : b.ok with
    | false =>
      have HF := Lib.hid (show sharedPeople a b = ([], 1) by unfold sharedPeople; simp [hc2])
      go_wp2_with fail
      go_ret2
      rw [HF.out]
      exact ⟨_, rfl, ⟨none, 0, rfl, Nat.le_refl _, fun h => absurd h (by simp)⟩, by (repeat (first | with_reducible assumption | with_reducible exact Below.refl _ _ | with_reducible refine Below.setCell ?_ ?_ _ | with_reducible refine Below.alloc ?_ ?_ _ | with_reducible refine Below.drew ?_ | with_reducible refine below_drewN ?_ _ | with_reducible refine Below.step (by with_reducible assumption) ?_ ?_ | omega | (simp <;> omega) | (simp; done)))⟩
    | true =>
      have HF := Lib.hid (show sharedPeople a b = (sortW (sharedL a b), 0) by unfold sharedPeople; simp [hc1, hc2])
      have hN := ok_nodup hc1
      go_wp2_with fail
      refine (l19Shared_any a (.slice AA a.people.length CA) lo hi b (.slice AB b.people.length CB) lo2 hi2 _ ha (by omega) hsa hb (by omega) hsb hN).mono ?_
      rintro e w3 ⟨v3, rfl, hr3, b3⟩
      have z3 := b3.size
      obtain ⟨A1, C1, rfl, hC1⟩ := RdF.form (RdW.rd hr3)
      go_wp2_with fail
      go_ret2
      rw [HF.out]
      exact ⟨_, rfl, hr3.wide (by omega) (Nat.le_refl _), by (repeat (first | with_reducible assumption | with_reducible exact Below.refl _ _ | with_reducible refine Below.setCell ?_ ?_ _ | with_reducible refine Below.alloc ?_ ?_ _ | with_reducible refine Below.drew ?_ | with_reducible refine below_drewN ?_ _ | with_reducible refine Below.step (by with_reducible assumption) ?_ ?_ | omega | (simp <;> omega) | (simp; done)))⟩
set_option maxRecDepth 100000 in
set_option maxHeartbeats 4000000 in
theorem doClash_any (a : Hearing) (pa : Value) (lo hi : Nat) (s : Slot) (b : Hearing) (pb : Value) (lo2 hi2 : Nat) (t : Slot) (w : World) (ha : RdF encStr 1 w lo hi pa a.people) (hh : hi ≤ w.heap.size) (hsa : a.small) (hb : RdF encStr 1 w lo2 hi2 pb b.people) (hh2 : hi2 ≤ w.heap.size) (hsb : b.small) :
    Calls Try.prog 25 #[.agg #[.string a.code, .int .i64 a.len, pa, .int .i64 a.last], .agg #[.int .i64 s.room, .int .i64 s.day, .int .i64 s.frm], .agg #[.string b.code, .int .i64 b.len, pb, .int .i64 b.last], .agg #[.int .i64 t.room, .int .i64 t.day, .int .i64 t.frm]] w fun e w' => e = .returned (.tuple #[.bool (doClash a s b t).1, .int .i64 (doClash a s b t).2]) ∧ Below w.heap.size w w' := by
  have hla := hsa.len0
  have hlb := hsb.len0
  obtain ⟨AA, CA, rfl, hCA⟩ := ha.form
  obtain ⟨AB, CB, rfl, hCB⟩ := hb.form
  have hbk : Below w.heap.size w ((((w.alloc (.cells #[.string a.code, .int .i64 a.len, .slice AA a.people.length CA, .int .i64 a.last] 30)).alloc (.cells #[.int .i64 s.room, .int .i64 s.day, .int .i64 s.frm] 32)).alloc (.cells #[.string b.code, .int .i64 b.len, .slice AB b.people.length CB, .int .i64 b.last] 30)).alloc (.cells #[.int .i64 t.room, .int .i64 t.day, .int .i64 t.frm] 32)) := (((((Below.refl _ _).alloc (by first | exact Nat.le_refl _ | (simp; omega) | (simp; done)) _).alloc (by first | exact Nat.le_refl _ | (simp; omega) | (simp; done)) _).alloc (by first | exact Nat.le_refl _ | (simp; omega) | (simp; done)) _).alloc (by first | exact Nat.le_refl _ | (simp; omega) | (simp; done)) _)
  have hzk : ((((w.alloc (.cells #[.string a.code, .int .i64 a.len, .slice AA a.people.length CA, .int .i64 a.last] 30)).alloc (.cells #[.int .i64 s.room, .int .i64 s.day, .int .i64 s.frm] 32)).alloc (.cells #[.string b.code, .int .i64 b.len, .slice AB b.people.length CB, .int .i64 b.last] 30)).alloc (.cells #[.int .i64 t.room, .int .i64 t.day, .int .i64 t.frm] 32)).heap.size = w.heap.size + 4 := by simp
  have kA : Blk ((((w.alloc (.cells #[.string a.code, .int .i64 a.len, .slice AA a.people.length CA, .int .i64 a.last] 30)).alloc (.cells #[.int .i64 s.room, .int .i64 s.day, .int .i64 s.frm] 32)).alloc (.cells #[.string b.code, .int .i64 b.len, .slice AB b.people.length CB, .int .i64 b.last] 30)).alloc (.cells #[.int .i64 t.room, .int .i64 t.day, .int .i64 t.frm] 32)) (w.heap.size) 30 #[.string a.code, .int .i64 a.len, .slice AA a.people.length CA, .int .i64 a.last] := (((Blk.newAt (w := w) (n := w.heap.size) (t := 30) (cs := #[.string a.code, .int .i64 a.len, .slice AA a.people.length CA, .int .i64 a.last]) (by simp)).alloc _).alloc _).alloc _
  have kS : Blk ((((w.alloc (.cells #[.string a.code, .int .i64 a.len, .slice AA a.people.length CA, .int .i64 a.last] 30)).alloc (.cells #[.int .i64 s.room, .int .i64 s.day, .int .i64 s.frm] 32)).alloc (.cells #[.string b.code, .int .i64 b.len, .slice AB b.people.length CB, .int .i64 b.last] 30)).alloc (.cells #[.int .i64 t.room, .int .i64 t.day, .int .i64 t.frm] 32)) (w.heap.size + 1) 32 #[.int .i64 s.room, .int .i64 s.day, .int .i64 s.frm] := ((Blk.newAt (w := (w.alloc (.cells #[.string a.code, .int .i64 a.len, .slice AA a.people.length CA, .int .i64 a.last] 30))) (n := w.heap.size + 1) (t := 32) (cs := #[.int .i64 s.room, .int .i64 s.day, .int .i64 s.frm]) (by simp)).alloc _).alloc _
  have kB : Blk ((((w.alloc (.cells #[.string a.code, .int .i64 a.len, .slice AA a.people.length CA, .int .i64 a.last] 30)).alloc (.cells #[.int .i64 s.room, .int .i64 s.day, .int .i64 s.frm] 32)).alloc (.cells #[.string b.code, .int .i64 b.len, .slice AB b.people.length CB, .int .i64 b.last] 30)).alloc (.cells #[.int .i64 t.room, .int .i64 t.day, .int .i64 t.frm] 32)) (w.heap.size + 2) 30 #[.string b.code, .int .i64 b.len, .slice AB b.people.length CB, .int .i64 b.last] := (Blk.newAt (w := ((w.alloc (.cells #[.string a.code, .int .i64 a.len, .slice AA a.people.length CA, .int .i64 a.last] 30)).alloc (.cells #[.int .i64 s.room, .int .i64 s.day, .int .i64 s.frm] 32))) (n := w.heap.size + 2) (t := 30) (cs := #[.string b.code, .int .i64 b.len, .slice AB b.people.length CB, .int .i64 b.last]) (by simp)).alloc _
  have kT : Blk ((((w.alloc (.cells #[.string a.code, .int .i64 a.len, .slice AA a.people.length CA, .int .i64 a.last] 30)).alloc (.cells #[.int .i64 s.room, .int .i64 s.day, .int .i64 s.frm] 32)).alloc (.cells #[.string b.code, .int .i64 b.len, .slice AB b.people.length CB, .int .i64 b.last] 30)).alloc (.cells #[.int .i64 t.room, .int .i64 t.day, .int .i64 t.frm] 32)) (w.heap.size + 3) 32 #[.int .i64 t.room, .int .i64 t.day, .int .i64 t.frm] := Blk.newAt (w := (((w.alloc (.cells #[.string a.code, .int .i64 a.len, .slice AA a.people.length CA, .int .i64 a.last] 30)).alloc (.cells #[.int .i64 s.room, .int .i64 s.day, .int .i64 s.frm] 32)).alloc (.cells #[.string b.code, .int .i64 b.len, .slice AB b.people.length CB, .int .i64 b.last] 30))) (n := w.heap.size + 3) (t := 32) (cs := #[.int .i64 t.room, .int .i64 t.day, .int .i64 t.frm]) (by simp)
  replace ha := ha.below hbk (by omega)
  replace hb := hb.below hbk (by omega)
  go_enter Try.func25, Try.ntmps25
  go_wp2_with fail
  generalize ((((w.alloc (.cells #[.string a.code, .int .i64 a.len, .slice AA a.people.length CA, .int .i64 a.last] 30)).alloc (.cells #[.int .i64 s.room, .int .i64 s.day, .int .i64 s.frm] 32)).alloc (.cells #[.string b.code, .int .i64 b.len, .slice AB b.people.length CB, .int .i64 b.last] 30)).alloc (.cells #[.int .i64 t.room, .int .i64 t.day, .int .i64 t.frm] 32)) = W0 at *
  obtain ⟨q1kA_0, q1kA_1, q1kA_2, q1kA_3⟩ := kA.c4
  obtain ⟨q1kS_0, q1kS_1, q1kS_2⟩ := kS.c3
  obtain ⟨q1kB_0, q1kB_1, q1kB_2, q1kB_3⟩ := kB.c4
  obtain ⟨q1kT_0, q1kT_1, q1kT_2⟩ := kT.c3
  try go_wp2_with fail
  refine (isHearing_any a (.slice AA a.people.length CA) lo hi _ ha (by omega) hsa).mono ?_
  rintro e w1 ⟨rfl, b1⟩
  clear q1kA_0 q1kA_1 q1kA_2 q1kA_3 q1kS_0 q1kS_1 q1kS_2 q1kB_0 q1kB_1 q1kB_2 q1kB_3 q1kT_0 q1kT_1 q1kT_2
  have zb1 := b1.size
  replace ha := ha.below b1 (by omega)
  replace hb := hb.below b1 (by omega)
  replace kA := kA.below b1 (by omega)
  replace kS := kS.below b1 (by omega)
  replace kB := kB.below b1 (by omega)
  replace kT := kT.below b1 (by omega)
  replace hbk := Below.step b1 (by omega) hbk
  clear b1
  obtain ⟨q2kA_0, q2kA_1, q2kA_2, q2kA_3⟩ := kA.c4
  obtain ⟨q2kS_0, q2kS_1, q2kS_2⟩ := kS.c3
  obtain ⟨q2kB_0, q2kB_1, q2kB_2, q2kB_3⟩ := kB.c4
  obtain ⟨q2kT_0, q2kT_1, q2kT_2⟩ := kT.c3
  cases hc1 : a.ok with
  | false =>
    have HF := Lib.hid (show doClash a s b t = (false, 1) by unfold doClash; simp [hc1])
    go_wp2_with fail
    go_ret2
    exact ⟨ret_bc HF.out.symm, by (repeat (first | with_reducible assumption | with_reducible exact Below.refl _ _ | with_reducible refine Below.setCell ?_ ?_ _ | with_reducible refine Below.alloc ?_ ?_ _ | with_reducible refine Below.drew ?_ | with_reducible refine below_drewN ?_ _ | with_reducible refine Below.step (by with_reducible assumption) ?_ ?_ | omega | (simp <;> omega) | (simp; done)))⟩
  | true =>
    go_wp2_with fail
    refine (isSlot_any s _).mono ?_
    rintro e w2 ⟨rfl, b2⟩
    clear q2kA_0 q2kA_1 q2kA_2 q2kA_3 q2kS_0 q2kS_1 q2kS_2 q2kB_0 q2kB_1 q2kB_2 q2kB_3 q2kT_0 q2kT_1 q2kT_2
    have zb2 := b2.size
    replace ha := ha.below b2 (by omega)
    replace hb := hb.below b2 (by omega)
    replace kA := kA.below b2 (by omega)
    replace kS := kS.below b2 (by omega)
    replace kB := kB.below b2 (by omega)
    replace kT := kT.below b2 (by omega)
    replace hbk := Below.step b2 (by omega) hbk
    clear b2
    obtain ⟨q3kA_0, q3kA_1, q3kA_2, q3kA_3⟩ := kA.c4
    obtain ⟨q3kS_0, q3kS_1, q3kS_2⟩ := kS.c3
    obtain ⟨q3kB_0, q3kB_1, q3kB_2, q3kB_3⟩ := kB.c4
    obtain ⟨q3kT_0, q3kT_1, q3kT_2⟩ := kT.c3
    cases hc2 : s.ok with
    | false =>
      have HF := Lib.hid (show doClash a s b t = (false, 1) by unfold doClash; simp [hc2])
      go_wp2_with fail
      go_ret2
      exact ⟨ret_bc HF.out.symm, by (repeat (first | with_reducible assumption | with_reducible exact Below.refl _ _ | with_reducible refine Below.setCell ?_ ?_ _ | with_reducible refine Below.alloc ?_ ?_ _ | with_reducible refine Below.drew ?_ | with_reducible refine below_drewN ?_ _ | with_reducible refine Below.step (by with_reducible assumption) ?_ ?_ | omega | (simp <;> omega) | (simp; done)))⟩
    | true =>
      go_wp2_with fail
      refine (isHearing_any b (.slice AB b.people.length CB) lo2 hi2 _ hb (by omega) hsb).mono ?_
      rintro e w3 ⟨rfl, b3⟩
      clear q3kA_0 q3kA_1 q3kA_2 q3kA_3 q3kS_0 q3kS_1 q3kS_2 q3kB_0 q3kB_1 q3kB_2 q3kB_3 q3kT_0 q3kT_1 q3kT_2
      have zb3 := b3.size
      replace ha := ha.below b3 (by omega)
      replace hb := hb.below b3 (by omega)
      replace kA := kA.below b3 (by omega)
      replace kS := kS.below b3 (by omega)
      replace kB := kB.below b3 (by omega)
      replace kT := kT.below b3 (by omega)
      replace hbk := Below.step b3 (by omega) hbk
      clear b3
      obtain ⟨q4kA_0, q4kA_1, q4kA_2, q4kA_3⟩ := kA.c4
      obtain ⟨q4kS_0, q4kS_1, q4kS_2⟩ := kS.c3
      obtain ⟨q4kB_0, q4kB_1, q4kB_2, q4kB_3⟩ := kB.c4
      obtain ⟨q4kT_0, q4kT_1, q4kT_2⟩ := kT.c3
      cases hc3 : b.ok with
      | false =>
        have HF := Lib.hid (show doClash a s b t = (false, 1) by unfold doClash; simp [hc3])
        go_wp2_with fail
        go_ret2
        exact ⟨ret_bc HF.out.symm, by (repeat (first | with_reducible assumption | with_reducible exact Below.refl _ _ | with_reducible refine Below.setCell ?_ ?_ _ | with_reducible refine Below.alloc ?_ ?_ _ | with_reducible refine Below.drew ?_ | with_reducible refine below_drewN ?_ _ | with_reducible refine Below.step (by with_reducible assumption) ?_ ?_ | omega | (simp <;> omega) | (simp; done)))⟩
      | true =>
        go_wp2_with fail
        refine (isSlot_any t _).mono ?_
        rintro e w4 ⟨rfl, b4⟩
        clear q4kA_0 q4kA_1 q4kA_2 q4kA_3 q4kS_0 q4kS_1 q4kS_2 q4kB_0 q4kB_1 q4kB_2 q4kB_3 q4kT_0 q4kT_1 q4kT_2
        have zb4 := b4.size
        replace ha := ha.below b4 (by omega)
        replace hb := hb.below b4 (by omega)
        replace kA := kA.below b4 (by omega)
        replace kS := kS.below b4 (by omega)
        replace kB := kB.below b4 (by omega)
        replace kT := kT.below b4 (by omega)
        replace hbk := Below.step b4 (by omega) hbk
        clear b4
        obtain ⟨q5kA_0, q5kA_1, q5kA_2, q5kA_3⟩ := kA.c4
        obtain ⟨q5kS_0, q5kS_1, q5kS_2⟩ := kS.c3
        obtain ⟨q5kB_0, q5kB_1, q5kB_2, q5kB_3⟩ := kB.c4
        obtain ⟨q5kT_0, q5kT_1, q5kT_2⟩ := kT.c3
        cases hc4 : t.ok with
        | false =>
          have HF := Lib.hid (show doClash a s b t = (false, 1) by unfold doClash; simp [hc4])
          go_wp2_with fail
          go_ret2
          exact ⟨ret_bc HF.out.symm, by (repeat (first | with_reducible assumption | with_reducible exact Below.refl _ _ | with_reducible refine Below.setCell ?_ ?_ _ | with_reducible refine Below.alloc ?_ ?_ _ | with_reducible refine Below.drew ?_ | with_reducible refine below_drewN ?_ _ | with_reducible refine Below.step (by with_reducible assumption) ?_ ?_ | omega | (simp <;> omega) | (simp; done)))⟩
        | true =>
          have HF := Lib.hid (show doClash a s b t = (clashB a s b t, 0) by unfold doClash; simp [hc1, hc2, hc3, hc4])
          have hoa := a.ok_bounds hc1
          have hob := b.ok_bounds hc3
          have hos := s.ok_bounds hc2
          have hot := t.ok_bounds hc4
          have hN := ok_nodup hc1
          go_wp2_with fail
          refine (clash_any a (.slice AA a.people.length CA) lo hi s b (.slice AB b.people.length CB) lo2 hi2 t _ ha (by omega) hsa hb (by omega) hsb (by omega) (by omega) (by omega) (by omega) (by omega) (by omega) (by omega) (by omega)).mono ?_
          rintro e w5 ⟨rfl, b5⟩
          go_wp2_with fail
          go_ret2
          exact ⟨ret_bc HF.out.symm, by (repeat (first | with_reducible assumption | with_reducible exact Below.refl _ _ | with_reducible refine Below.setCell ?_ ?_ _ | with_reducible refine Below.alloc ?_ ?_ _ | with_reducible refine Below.drew ?_ | with_reducible refine below_drewN ?_ _ | with_reducible refine Below.step (by with_reducible assumption) ?_ ?_ | omega | (simp <;> omega) | (simp; done)))⟩
set_option maxRecDepth 100000 in
set_option maxHeartbeats 4000000 in
theorem sDoClash_any (a : Hearing) (pa : Value) (lo hi : Nat) (s : Slot) (b : Hearing) (pb : Value) (lo2 hi2 : Nat) (t : Slot) (w : World) (ha : RdF encStr 1 w lo hi pa a.people) (hh : hi ≤ w.heap.size) (hsa : a.small) (hb : RdF encStr 1 w lo2 hi2 pb b.people) (hh2 : hi2 ≤ w.heap.size) (hsb : b.small) :
    Calls Try.prog 24 #[.agg #[.string a.code, .int .i64 a.len, pa, .int .i64 a.last], .agg #[.int .i64 s.room, .int .i64 s.day, .int .i64 s.frm], .agg #[.string b.code, .int .i64 b.len, pb, .int .i64 b.last], .agg #[.int .i64 t.room, .int .i64 t.day, .int .i64 t.frm]] w fun e w' => e = .returned (.tuple #[.bool (doClash a s b t).1, .int .i64 (doClash a s b t).2]) ∧ Below w.heap.size w w' := by
  have hla := hsa.len0
  have hlb := hsb.len0
  obtain ⟨AA, CA, rfl, hCA⟩ := ha.form
  obtain ⟨AB, CB, rfl, hCB⟩ := hb.form
  have hbk : Below w.heap.size w ((((w.alloc (.cells #[.string a.code, .int .i64 a.len, .slice AA a.people.length CA, .int .i64 a.last] 30)).alloc (.cells #[.int .i64 s.room, .int .i64 s.day, .int .i64 s.frm] 32)).alloc (.cells #[.string b.code, .int .i64 b.len, .slice AB b.people.length CB, .int .i64 b.last] 30)).alloc (.cells #[.int .i64 t.room, .int .i64 t.day, .int .i64 t.frm] 32)) := (((((Below.refl _ _).alloc (by first | exact Nat.le_refl _ | (simp; omega) | (simp; done)) _).alloc (by first | exact Nat.le_refl _ | (simp; omega) | (simp; done)) _).alloc (by first | exact Nat.le_refl _ | (simp; omega) | (simp; done)) _).alloc (by first | exact Nat.le_refl _ | (simp; omega) | (simp; done)) _)
  have hzk : ((((w.alloc (.cells #[.string a.code, .int .i64 a.len, .slice AA a.people.length CA, .int .i64 a.last] 30)).alloc (.cells #[.int .i64 s.room, .int .i64 s.day, .int .i64 s.frm] 32)).alloc (.cells #[.string b.code, .int .i64 b.len, .slice AB b.people.length CB, .int .i64 b.last] 30)).alloc (.cells #[.int .i64 t.room, .int .i64 t.day, .int .i64 t.frm] 32)).heap.size = w.heap.size + 4 := by simp
  have kA : Blk ((((w.alloc (.cells #[.string a.code, .int .i64 a.len, .slice AA a.people.length CA, .int .i64 a.last] 30)).alloc (.cells #[.int .i64 s.room, .int .i64 s.day, .int .i64 s.frm] 32)).alloc (.cells #[.string b.code, .int .i64 b.len, .slice AB b.people.length CB, .int .i64 b.last] 30)).alloc (.cells #[.int .i64 t.room, .int .i64 t.day, .int .i64 t.frm] 32)) (w.heap.size) 30 #[.string a.code, .int .i64 a.len, .slice AA a.people.length CA, .int .i64 a.last] := (((Blk.newAt (w := w) (n := w.heap.size) (t := 30) (cs := #[.string a.code, .int .i64 a.len, .slice AA a.people.length CA, .int .i64 a.last]) (by simp)).alloc _).alloc _).alloc _
  have kS : Blk ((((w.alloc (.cells #[.string a.code, .int .i64 a.len, .slice AA a.people.length CA, .int .i64 a.last] 30)).alloc (.cells #[.int .i64 s.room, .int .i64 s.day, .int .i64 s.frm] 32)).alloc (.cells #[.string b.code, .int .i64 b.len, .slice AB b.people.length CB, .int .i64 b.last] 30)).alloc (.cells #[.int .i64 t.room, .int .i64 t.day, .int .i64 t.frm] 32)) (w.heap.size + 1) 32 #[.int .i64 s.room, .int .i64 s.day, .int .i64 s.frm] := ((Blk.newAt (w := (w.alloc (.cells #[.string a.code, .int .i64 a.len, .slice AA a.people.length CA, .int .i64 a.last] 30))) (n := w.heap.size + 1) (t := 32) (cs := #[.int .i64 s.room, .int .i64 s.day, .int .i64 s.frm]) (by simp)).alloc _).alloc _
  have kB : Blk ((((w.alloc (.cells #[.string a.code, .int .i64 a.len, .slice AA a.people.length CA, .int .i64 a.last] 30)).alloc (.cells #[.int .i64 s.room, .int .i64 s.day, .int .i64 s.frm] 32)).alloc (.cells #[.string b.code, .int .i64 b.len, .slice AB b.people.length CB, .int .i64 b.last] 30)).alloc (.cells #[.int .i64 t.room, .int .i64 t.day, .int .i64 t.frm] 32)) (w.heap.size + 2) 30 #[.string b.code, .int .i64 b.len, .slice AB b.people.length CB, .int .i64 b.last] := (Blk.newAt (w := ((w.alloc (.cells #[.string a.code, .int .i64 a.len, .slice AA a.people.length CA, .int .i64 a.last] 30)).alloc (.cells #[.int .i64 s.room, .int .i64 s.day, .int .i64 s.frm] 32))) (n := w.heap.size + 2) (t := 30) (cs := #[.string b.code, .int .i64 b.len, .slice AB b.people.length CB, .int .i64 b.last]) (by simp)).alloc _
  have kT : Blk ((((w.alloc (.cells #[.string a.code, .int .i64 a.len, .slice AA a.people.length CA, .int .i64 a.last] 30)).alloc (.cells #[.int .i64 s.room, .int .i64 s.day, .int .i64 s.frm] 32)).alloc (.cells #[.string b.code, .int .i64 b.len, .slice AB b.people.length CB, .int .i64 b.last] 30)).alloc (.cells #[.int .i64 t.room, .int .i64 t.day, .int .i64 t.frm] 32)) (w.heap.size + 3) 32 #[.int .i64 t.room, .int .i64 t.day, .int .i64 t.frm] := Blk.newAt (w := (((w.alloc (.cells #[.string a.code, .int .i64 a.len, .slice AA a.people.length CA, .int .i64 a.last] 30)).alloc (.cells #[.int .i64 s.room, .int .i64 s.day, .int .i64 s.frm] 32)).alloc (.cells #[.string b.code, .int .i64 b.len, .slice AB b.people.length CB, .int .i64 b.last] 30))) (n := w.heap.size + 3) (t := 32) (cs := #[.int .i64 t.room, .int .i64 t.day, .int .i64 t.frm]) (by simp)
  replace ha := ha.below hbk (by omega)
  replace hb := hb.below hbk (by omega)
  go_enter Try.func24, Try.ntmps24
  go_wp2_with fail
  generalize ((((w.alloc (.cells #[.string a.code, .int .i64 a.len, .slice AA a.people.length CA, .int .i64 a.last] 30)).alloc (.cells #[.int .i64 s.room, .int .i64 s.day, .int .i64 s.frm] 32)).alloc (.cells #[.string b.code, .int .i64 b.len, .slice AB b.people.length CB, .int .i64 b.last] 30)).alloc (.cells #[.int .i64 t.room, .int .i64 t.day, .int .i64 t.frm] 32)) = W0 at *
  obtain ⟨q1kA_0, q1kA_1, q1kA_2, q1kA_3⟩ := kA.c4
  obtain ⟨q1kS_0, q1kS_1, q1kS_2⟩ := kS.c3
  obtain ⟨q1kB_0, q1kB_1, q1kB_2, q1kB_3⟩ := kB.c4
  obtain ⟨q1kT_0, q1kT_1, q1kT_2⟩ := kT.c3
  try go_wp2_with fail
  refine (l19Is_any a (.slice AA a.people.length CA) lo hi _ ha (by omega) hsa).mono ?_
  rintro e w1 ⟨rfl, b1⟩
  clear q1kA_0 q1kA_1 q1kA_2 q1kA_3 q1kS_0 q1kS_1 q1kS_2 q1kB_0 q1kB_1 q1kB_2 q1kB_3 q1kT_0 q1kT_1 q1kT_2
  have zb1 := b1.size
  replace ha := ha.below b1 (by omega)
  replace hb := hb.below b1 (by omega)
  replace kA := kA.below b1 (by omega)
  replace kS := kS.below b1 (by omega)
  replace kB := kB.below b1 (by omega)
  replace kT := kT.below b1 (by omega)
  replace hbk := Below.step b1 (by omega) hbk
  clear b1
  obtain ⟨q2kA_0, q2kA_1, q2kA_2, q2kA_3⟩ := kA.c4
  obtain ⟨q2kS_0, q2kS_1, q2kS_2⟩ := kS.c3
  obtain ⟨q2kB_0, q2kB_1, q2kB_2, q2kB_3⟩ := kB.c4
  obtain ⟨q2kT_0, q2kT_1, q2kT_2⟩ := kT.c3
  cases hc1 : a.ok with
  | false =>
    have HF := Lib.hid (show doClash a s b t = (false, 1) by unfold doClash; simp [hc1])
    go_wp2_with fail
    go_ret2
    exact ⟨ret_bc HF.out.symm, by (repeat (first | with_reducible assumption | with_reducible exact Below.refl _ _ | with_reducible refine Below.setCell ?_ ?_ _ | with_reducible refine Below.alloc ?_ ?_ _ | with_reducible refine Below.drew ?_ | with_reducible refine below_drewN ?_ _ | with_reducible refine Below.step (by with_reducible assumption) ?_ ?_ | omega | (simp <;> omega) | (simp; done)))⟩
  | true =>
    go_wp2_with fail
    refine (l19Is_any b (.slice AB b.people.length CB) lo2 hi2 _ hb (by omega) hsb).mono ?_
    rintro e w2 ⟨rfl, b2⟩
    clear q2kA_0 q2kA_1 q2kA_2 q2kA_3 q2kS_0 q2kS_1 q2kS_2 q2kB_0 q2kB_1 q2kB_2 q2kB_3 q2kT_0 q2kT_1 q2kT_2
    have zb2 := b2.size
    replace ha := ha.below b2 (by omega)
    replace hb := hb.below b2 (by omega)
    replace kA := kA.below b2 (by omega)
    replace kS := kS.below b2 (by omega)
    replace kB := kB.below b2 (by omega)
    replace kT := kT.below b2 (by omega)
    replace hbk := Below.step b2 (by omega) hbk
    clear b2
    obtain ⟨q3kA_0, q3kA_1, q3kA_2, q3kA_3⟩ := kA.c4
    obtain ⟨q3kS_0, q3kS_1, q3kS_2⟩ := kS.c3
    obtain ⟨q3kB_0, q3kB_1, q3kB_2, q3kB_3⟩ := kB.c4
    obtain ⟨q3kT_0, q3kT_1, q3kT_2⟩ := kT.c3
    cases hc2 : b.ok with
    | false =>
      have HF := Lib.hid (show doClash a s b t = (false, 1) by unfold doClash; simp [hc2])
      go_wp2_with fail
      go_ret2
      exact ⟨ret_bc HF.out.symm, by (repeat (first | with_reducible assumption | with_reducible exact Below.refl _ _ | with_reducible refine Below.setCell ?_ ?_ _ | with_reducible refine Below.alloc ?_ ?_ _ | with_reducible refine Below.drew ?_ | with_reducible refine below_drewN ?_ _ | with_reducible refine Below.step (by with_reducible assumption) ?_ ?_ | omega | (simp <;> omega) | (simp; done)))⟩
    | true =>
      go_wp2_with fail
      refine (l19Slot_any s _).mono ?_
      rintro e w3 ⟨rfl, b3⟩
      clear q3kA_0 q3kA_1 q3kA_2 q3kA_3 q3kS_0 q3kS_1 q3kS_2 q3kB_0 q3kB_1 q3kB_2 q3kB_3 q3kT_0 q3kT_1 q3kT_2
      have zb3 := b3.size
      replace ha := ha.below b3 (by omega)
      replace hb := hb.below b3 (by omega)
      replace kA := kA.below b3 (by omega)
      replace kS := kS.below b3 (by omega)
      replace kB := kB.below b3 (by omega)
      replace kT := kT.below b3 (by omega)
      replace hbk := Below.step b3 (by omega) hbk
      clear b3
      obtain ⟨q4kA_0, q4kA_1, q4kA_2, q4kA_3⟩ := kA.c4
      obtain ⟨q4kS_0, q4kS_1, q4kS_2⟩ := kS.c3
      obtain ⟨q4kB_0, q4kB_1, q4kB_2, q4kB_3⟩ := kB.c4
      obtain ⟨q4kT_0, q4kT_1, q4kT_2⟩ := kT.c3
      cases hc3 : s.ok with
      | false =>
        have HF := Lib.hid (show doClash a s b t = (false, 1) by unfold doClash; simp [hc3])
        go_wp2_with fail
        go_ret2
        exact ⟨ret_bc HF.out.symm, by (repeat (first | with_reducible assumption | with_reducible exact Below.refl _ _ | with_reducible refine Below.setCell ?_ ?_ _ | with_reducible refine Below.alloc ?_ ?_ _ | with_reducible refine Below.drew ?_ | with_reducible refine below_drewN ?_ _ | with_reducible refine Below.step (by with_reducible assumption) ?_ ?_ | omega | (simp <;> omega) | (simp; done)))⟩
      | true =>
        go_wp2_with fail
        refine (l19Slot_any t _).mono ?_
        rintro e w4 ⟨rfl, b4⟩
        clear q4kA_0 q4kA_1 q4kA_2 q4kA_3 q4kS_0 q4kS_1 q4kS_2 q4kB_0 q4kB_1 q4kB_2 q4kB_3 q4kT_0 q4kT_1 q4kT_2
        have zb4 := b4.size
        replace ha := ha.below b4 (by omega)
        replace hb := hb.below b4 (by omega)
        replace kA := kA.below b4 (by omega)
        replace kS := kS.below b4 (by omega)
        replace kB := kB.below b4 (by omega)
        replace kT := kT.below b4 (by omega)
        replace hbk := Below.step b4 (by omega) hbk
        clear b4
        obtain ⟨q5kA_0, q5kA_1, q5kA_2, q5kA_3⟩ := kA.c4
        obtain ⟨q5kS_0, q5kS_1, q5kS_2⟩ := kS.c3
        obtain ⟨q5kB_0, q5kB_1, q5kB_2, q5kB_3⟩ := kB.c4
        obtain ⟨q5kT_0, q5kT_1, q5kT_2⟩ := kT.c3
        cases hc4 : t.ok with
        | false =>
          have HF := Lib.hid (show doClash a s b t = (false, 1) by unfold doClash; simp [hc4])
          go_wp2_with fail
          go_ret2
          exact ⟨ret_bc HF.out.symm, by (repeat (first | with_reducible assumption | with_reducible exact Below.refl _ _ | with_reducible refine Below.setCell ?_ ?_ _ | with_reducible refine Below.alloc ?_ ?_ _ | with_reducible refine Below.drew ?_ | with_reducible refine below_drewN ?_ _ | with_reducible refine Below.step (by with_reducible assumption) ?_ ?_ | omega | (simp <;> omega) | (simp; done)))⟩
        | true =>
          have HF := Lib.hid (show doClash a s b t = (clashB a s b t, 0) by unfold doClash; simp [hc1, hc2, hc3, hc4])
          have hoa := a.ok_bounds hc1
          have hob := b.ok_bounds hc2
          have hos := s.ok_bounds hc3
          have hot := t.ok_bounds hc4
          have hN := ok_nodup hc1
          go_wp2_with fail
          refine (l19Clash_any a (.slice AA a.people.length CA) lo hi s b (.slice AB b.people.length CB) lo2 hi2 t _ ha (by omega) hsa hb (by omega) hsb (by omega) (by omega) (by omega) (by omega) (by omega) (by omega) (by omega) (by omega) hN).mono ?_
          rintro e w5 ⟨rfl, b5⟩
          go_wp2_with fail
          go_ret2
          exact ⟨ret_bc HF.out.symm, by (repeat (first | with_reducible assumption | with_reducible exact Below.refl _ _ | with_reducible refine Below.setCell ?_ ?_ _ | with_reducible refine Below.alloc ?_ ?_ _ | with_reducible refine Below.drew ?_ | with_reducible refine below_drewN ?_ _ | with_reducible refine Below.step (by with_reducible assumption) ?_ ?_ | omega | (simp <;> omega) | (simp; done)))⟩
end Go.Proofs.Ytdcfenkkgnnbbaa
