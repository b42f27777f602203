/- Clashing is symmetric, and a plan has no clashes and keeps no room twice: returns true for all arguments. No conditions. -/
import Derived.Test.YtdcfenkkgnnbbaaHearP
import Derived.Test.YtdcfenkkgnnbbaaDrawHx
import Derived.Test.YtdcfenkkgnnbbaaLikeT
import Derived.Test.YtdcfenkkgnnbbaaLikeB
import Derived.Test.YtdcfenkkgnnbbaaOpenB
import Derived.Test.YtdcfenkkgnnbbaaPlanX
import Derived.Test.YtdcfenkkgnnbbaaFitW
namespace Go.Proofs.Ytdcfenkkgnnbbaa.hearingsL
open Go.ChangeShapes Go.WideShapes Go.ChangeAt Go.RowKit
open Go.ChangeMaps (open_string shut_string)
set_option linter.unusedVariables false

theorem own : ownKnob Try.prog.godebug = none := by kernel_rfl
theorem laidOut : laidOutB Try.prog = true := by kernel_rfl

theorem isPlan_cases (xs : List Hearing) (ps : List Slot) : ((isPlan xs ps).1 = true ∧ (isPlan xs ps).2 = 0 ∧ (bookPlan xs ps).2 = 0 ∧ (clashesOf xs ps).1.length = 0) ∨ ((isPlan xs ps).1 = false ∧ ¬ (bookPlan xs ps).2 = 0) := by
  cases hp : (isPlan xs ps).1 with
  | true =>
    left
    have h2 : (isPlan xs ps).2 = 0 := by
      unfold isPlan at hp ⊢
      split at hp
      · rename_i h1; rw [if_pos h1]
      · simp at hp
    have h3 := isPlan_book h2
    rw [hp] at h3
    exact ⟨rfl, h2, of_decide_eq_true h3.symm, isPlan_none hp⟩
  | false =>
    right
    refine ⟨rfl, fun h => ?_⟩
    have : (isPlan xs ps).2 = 0 := by
      unfold bookPlan at h
      unfold isPlan
      split at h
      · rename_i h1; rw [if_pos h1]
      · simp at h
    have h3 := isPlan_book this
    rw [hp, decide_eq_true h] at h3
    cases h3
theorem bookPlan_small {xs : List Hearing} {ps : List Slot} (hs : ∀ x ∈ xs, Hearing.small x) : ∀ b ∈ (bookPlan xs ps).1, Booking.small b := by
  intro b hb
  unfold bookPlan at hb
  split at hb
  · split at hb
    · unfold bookL at hb
      obtain ⟨i, hi⟩ := List.getElem?_of_mem hb
      rw [List.getElem?_zipWith] at hi
      cases hx : xs[i]? with
      | none => rw [hx] at hi; cases hps : ps[i]? <;> simp [hps] at hi
      | some a =>
        cases hps : ps[i]? with
        | none => rw [hx, hps] at hi; simp at hi
        | some t =>
          rw [hx, hps] at hi
          simp at hi
          subst hi
          have := (hs a (List.mem_of_getElem? hx)).1
          show (bookOf a t).use.size ≤ 1048576
          simp [bookOf]; omega
    · simp at hb
  · simp at hb

set_option maxRecDepth 100000 in
set_option maxHeartbeats 40000000 in
theorem walk (v0 : Value) (code : List Int) (w : World) (hx0 : RdF encByte 1 w 0 w.heap.size v0 code) (hl0 : code.length ≤ maxLen) (hq0 : ∀ x ∈ code, 0 ≤ x ∧ x ≤ 255) :
    Calls Try.prog 10 #[v0] w fun e w' => e = .returned (.bool true) ∧ Below w.heap.size w w' := by
  try unfold maxLen at *
  obtain ⟨A0, C0, rfl, hc0⟩ := hx0.form
  by_cases hbig : (4096 : Int) < (code.length : Int)
  · go_enter Try.func10, Try.ntmps10
    go_wp2_with fail
    refine (big_any A0 C0 code.length _).mono ?_
    rintro e w1 ⟨rfl, b1⟩
    rw [decide_eq_true hbig]
    go_wp2_with fail
    go_ret
    exact ⟨rfl, b1⟩
  go_enter Try.func10, Try.ntmps10
  have BB : Below w.heap.size w w := Below.refl _ _
  go_wp2_with fail
  refine (big_any A0 C0 code.length _).mono ?_
  rintro e w1 ⟨rfl, b1⟩
  have zb1 := b1.size
  replace hx0 := hx0.below b1 (by omega)
  replace BB := Below.step b1 (by omega) BB
  clear b1
  rw [decide_eq_false (show ¬ (4096 : Int) < (code.length : Int) by omega)]
  go_wp2_with fail
  refine (drawDoClash_any _ code _ _ _ hx0 (by omega) (by omega) hq0).mono ?_
  rintro e w2 ⟨a, b, pa, pb, s, t, rfl, hya, ha, hyb, hb, b2⟩
  have zb2 := b2.size
  replace hx0 := hx0.below b2 (by omega)
  replace BB := Below.step b2 (by omega) BB
  clear b2
  have hsa : a.small := Hearing.small_of hya (by omega)
  clear hya
  have hsb : b.small := Hearing.small_of hyb (by omega)
  clear hyb
  obtain ⟨Aa, Ca, rfl, hcca⟩ := ha.form
  have hla := hsa.len0
  obtain ⟨Ab, Cb, rfl, hccb⟩ := hb.form
  have hlb := hsb.len0
  go_wp2_with fail
  have bp0 : Below w2.heap.size w2 (w2.alloc (.cells #[.string a.code, .int .i64 a.len, .slice Aa a.people.length Ca, .int .i64 a.last] 30)) := (Below.refl _ _).alloc (Nat.le_refl _) _
  have zzp0 : (w2.alloc (.cells #[.string a.code, .int .i64 a.len, .slice Aa a.people.length Ca, .int .i64 a.last] 30)).heap.size = w2.heap.size + 1 := by simp
  have ka : Blk (w2.alloc (.cells #[.string a.code, .int .i64 a.len, .slice Aa a.people.length Ca, .int .i64 a.last] 30)) (w2.heap.size) 30 #[.string a.code, .int .i64 a.len, .slice Aa a.people.length Ca, .int .i64 a.last] := Blk.newAt rfl
  have zbp0 := bp0.size
  replace hx0 := hx0.below bp0 (by omega)
  replace ha := ha.below bp0 (by omega)
  replace hb := hb.below bp0 (by omega)
  replace BB := Below.step bp0 (by omega) BB
  clear bp0
  generalize (w2.alloc (.cells #[.string a.code, .int .i64 a.len, .slice Aa a.people.length Ca, .int .i64 a.last] 30)) = wp0 at *
  have bp1 : Below wp0.heap.size wp0 (wp0.alloc (.cells #[.int .i64 s.room, .int .i64 s.day, .int .i64 s.frm] 32)) := (Below.refl _ _).alloc (Nat.le_refl _) _
  have zzp1 : (wp0.alloc (.cells #[.int .i64 s.room, .int .i64 s.day, .int .i64 s.frm] 32)).heap.size = wp0.heap.size + 1 := by simp
  have ks : Blk (wp0.alloc (.cells #[.int .i64 s.room, .int .i64 s.day, .int .i64 s.frm] 32)) (w2.heap.size + 1) 32 #[.int .i64 s.room, .int .i64 s.day, .int .i64 s.frm] := Blk.newAt (by omega)
  have zbp1 := bp1.size
  replace hx0 := hx0.below bp1 (by omega)
  replace ha := ha.below bp1 (by omega)
  replace hb := hb.below bp1 (by omega)
  replace ka := ka.below bp1 (by omega)
  replace BB := Below.step bp1 (by omega) BB
  clear bp1
  generalize (wp0.alloc (.cells #[.int .i64 s.room, .int .i64 s.day, .int .i64 s.frm] 32)) = wp1 at *
  have bp2 : Below wp1.heap.size wp1 (wp1.alloc (.cells #[.string b.code, .int .i64 b.len, .slice Ab b.people.length Cb, .int .i64 b.last] 30)) := (Below.refl _ _).alloc (Nat.le_refl _) _
  have zzp2 : (wp1.alloc (.cells #[.string b.code, .int .i64 b.len, .slice Ab b.people.length Cb, .int .i64 b.last] 30)).heap.size = wp1.heap.size + 1 := by simp
  have kb : Blk (wp1.alloc (.cells #[.string b.code, .int .i64 b.len, .slice Ab b.people.length Cb, .int .i64 b.last] 30)) (w2.heap.size + 2) 30 #[.string b.code, .int .i64 b.len, .slice Ab b.people.length Cb, .int .i64 b.last] := Blk.newAt (by omega)
  have zbp2 := bp2.size
  replace hx0 := hx0.below bp2 (by omega)
  replace ha := ha.below bp2 (by omega)
  replace hb := hb.below bp2 (by omega)
  replace ka := ka.below bp2 (by omega)
  replace ks := ks.below bp2 (by omega)
  replace BB := Below.step bp2 (by omega) BB
  clear bp2
  generalize (wp1.alloc (.cells #[.string b.code, .int .i64 b.len, .slice Ab b.people.length Cb, .int .i64 b.last] 30)) = wp2 at *
  have bp3 : Below wp2.heap.size wp2 (wp2.alloc (.cells #[.int .i64 t.room, .int .i64 t.day, .int .i64 t.frm] 32)) := (Below.refl _ _).alloc (Nat.le_refl _) _
  have zzp3 : (wp2.alloc (.cells #[.int .i64 t.room, .int .i64 t.day, .int .i64 t.frm] 32)).heap.size = wp2.heap.size + 1 := by simp
  have kt : Blk (wp2.alloc (.cells #[.int .i64 t.room, .int .i64 t.day, .int .i64 t.frm] 32)) (w2.heap.size + 3) 32 #[.int .i64 t.room, .int .i64 t.day, .int .i64 t.frm] := Blk.newAt (by omega)
  have zbp3 := bp3.size
  replace hx0 := hx0.below bp3 (by omega)
  replace ha := ha.below bp3 (by omega)
  replace hb := hb.below bp3 (by omega)
  replace ka := ka.below bp3 (by omega)
  replace ks := ks.below bp3 (by omega)
  replace kb := kb.below bp3 (by omega)
  replace BB := Below.step bp3 (by omega) BB
  clear bp3
  generalize (wp2.alloc (.cells #[.int .i64 t.room, .int .i64 t.day, .int .i64 t.frm] 32)) = wp3 at *
  obtain ⟨q0, q1, q2, q3⟩ := ka.c4
  obtain ⟨p0, p1, p2, p3⟩ := kb.c4
  obtain ⟨s0, s1, s2⟩ := ks.c3
  obtain ⟨t0, t1, t2⟩ := kt.c3
  go_wp2_with fail
  clear q0 q1 q2 q3 p0 p1 p2 p3 s0 s1 s2 t0 t1 t2
  refine (doClash_any a _ _ _ s b _ _ _ t _ ha (by omega) hsa hb (by omega) hsb).mono ?_
  rintro e w3 ⟨rfl, b3⟩
  have zb3 := b3.size
  replace hx0 := hx0.below b3 (by omega)
  replace ha := ha.below b3 (by omega)
  replace hb := hb.below b3 (by omega)
  replace ka := ka.below b3 (by omega)
  replace ks := ks.below b3 (by omega)
  replace kb := kb.below b3 (by omega)
  replace kt := kt.below b3 (by omega)
  replace BB := Below.step b3 (by omega) BB
  clear b3
  obtain ⟨q0, q1, q2, q3⟩ := ka.c4
  obtain ⟨p0, p1, p2, p3⟩ := kb.c4
  obtain ⟨s0, s1, s2⟩ := ks.c3
  obtain ⟨t0, t1, t2⟩ := kt.c3
  go_wp2_with fail
  clear q0 q1 q2 q3 p0 p1 p2 p3 s0 s1 s2 t0 t1 t2
  refine (sDoClash_any a _ _ _ s b _ _ _ t _ ha (by omega) hsa hb (by omega) hsb).mono ?_
  rintro e w4 ⟨rfl, b4⟩
  have zb4 := b4.size
  replace hx0 := hx0.below b4 (by omega)
  replace ha := ha.below b4 (by omega)
  replace hb := hb.below b4 (by omega)
  replace ka := ka.below b4 (by omega)
  replace ks := ks.below b4 (by omega)
  replace kb := kb.below b4 (by omega)
  replace kt := kt.below b4 (by omega)
  replace BB := Below.step b4 (by omega) BB
  clear b4
  go_wp2_with fail
  refine (drawBookPlan_any _ code _ _ _ hx0 (by omega) (by omega) hq0).mono ?_
  rintro e w5 ⟨v1, xs, v2, ps, rfl, hx6, hxb, hp9, h1, h2, b5⟩
  have zb5 := b5.size
  replace hx0 := hx0.below b5 (by omega)
  replace ha := ha.below b5 (by omega)
  replace hb := hb.below b5 (by omega)
  replace ka := ka.below b5 (by omega)
  replace ks := ks.below b5 (by omega)
  replace kb := kb.below b5 (by omega)
  replace kt := kt.below b5 (by omega)
  replace BB := Below.step b5 (by omega) BB
  clear b5
  have hs1 : ∀ x ∈ xs, Hearing.small x := fun x hx => Hearing.small_of (hxb x hx) (by omega)
  clear hxb
  go_wp2_with fail
  refine (bookPlan_any _ xs _ _ _ ps _ _ _ h1 (by omega) (by omega) hs1 h2 (by omega) (by omega)).mono ?_
  rintro e w6 ⟨yk0, rfl, hk0, b6⟩
  have zb6 := b6.size
  replace hx0 := hx0.below b6 (by omega)
  replace ha := ha.below b6 (by omega)
  replace hb := hb.below b6 (by omega)
  replace ka := ka.below b6 (by omega)
  replace ks := ks.below b6 (by omega)
  replace kb := kb.below b6 (by omega)
  replace kt := kt.below b6 (by omega)
  replace h1 := h1.below b6 (by omega)
  replace h2 := h2.below b6 (by omega)
  replace BB := Below.step b6 (by omega) BB
  clear b6
  go_wp2_with fail
  refine (sBookPlan_any _ xs _ _ _ ps _ _ _ h1 (by omega) (by omega) hs1 h2 (by omega) (by omega)).mono ?_
  rintro e w7 ⟨yk1, rfl, hk1, b7⟩
  have zb7 := b7.size
  replace hx0 := hx0.below b7 (by omega)
  replace ha := ha.below b7 (by omega)
  replace hb := hb.below b7 (by omega)
  replace ka := ka.below b7 (by omega)
  replace ks := ks.below b7 (by omega)
  replace kb := kb.below b7 (by omega)
  replace kt := kt.below b7 (by omega)
  replace h1 := h1.below b7 (by omega)
  replace h2 := h2.below b7 (by omega)
  replace hk0 := hk0.below b7 (by omega)
  replace BB := Below.step b7 (by omega) BB
  clear b7
  go_wp2_with fail
  refine (impIsPlan_any _ xs _ _ _ ps _ _ _ h1 (by omega) (by omega) hs1 h2 (by omega) (by omega)).mono ?_
  rintro e w8 ⟨rfl, b8⟩
  have zb8 := b8.size
  replace hx0 := hx0.below b8 (by omega)
  replace ha := ha.below b8 (by omega)
  replace hb := hb.below b8 (by omega)
  replace ka := ka.below b8 (by omega)
  replace ks := ks.below b8 (by omega)
  replace kb := kb.below b8 (by omega)
  replace kt := kt.below b8 (by omega)
  replace h1 := h1.below b8 (by omega)
  replace h2 := h2.below b8 (by omega)
  replace hk0 := hk0.below b8 (by omega)
  replace hk1 := hk1.below b8 (by omega)
  replace BB := Below.step b8 (by omega) BB
  clear b8
  go_wp2_with fail
  refine (sIsPlan_any _ xs _ _ _ ps _ _ _ h1 (by omega) (by omega) hs1 h2 (by omega) (by omega)).mono ?_
  rintro e w9 ⟨rfl, b9⟩
  have zb9 := b9.size
  replace hx0 := hx0.below b9 (by omega)
  replace ha := ha.below b9 (by omega)
  replace hb := hb.below b9 (by omega)
  replace ka := ka.below b9 (by omega)
  replace ks := ks.below b9 (by omega)
  replace kb := kb.below b9 (by omega)
  replace kt := kt.below b9 (by omega)
  replace h1 := h1.below b9 (by omega)
  replace h2 := h2.below b9 (by omega)
  replace hk0 := hk0.below b9 (by omega)
  replace hk1 := hk1.below b9 (by omega)
  replace BB := Below.step b9 (by omega) BB
  clear b9
  go_wp2_with fail
  refine (clashesOf_any _ xs _ _ _ ps _ _ _ h1 (by omega) (by omega) hs1 h2 (by omega) (by omega)).mono ?_
  rintro e w10 ⟨yl0, rfl, hl0, b10⟩
  have zb10 := b10.size
  replace hx0 := hx0.below b10 (by omega)
  replace ha := ha.below b10 (by omega)
  replace hb := hb.below b10 (by omega)
  replace ka := ka.below b10 (by omega)
  replace ks := ks.below b10 (by omega)
  replace kb := kb.below b10 (by omega)
  replace kt := kt.below b10 (by omega)
  replace h1 := h1.below b10 (by omega)
  replace h2 := h2.below b10 (by omega)
  replace hk0 := hk0.below b10 (by omega)
  replace hk1 := hk1.below b10 (by omega)
  replace BB := Below.step b10 (by omega) BB
  clear b10
  go_wp2_with fail
  refine (sClashesOf_any _ xs _ _ _ ps _ _ _ h1 (by omega) (by omega) hs1 h2 (by omega) (by omega)).mono ?_
  rintro e w11 ⟨yl1, rfl, hl1, b11⟩
  have zb11 := b11.size
  replace hx0 := hx0.below b11 (by omega)
  replace ha := ha.below b11 (by omega)
  replace hb := hb.below b11 (by omega)
  replace ka := ka.below b11 (by omega)
  replace ks := ks.below b11 (by omega)
  replace kb := kb.below b11 (by omega)
  replace kt := kt.below b11 (by omega)
  replace h1 := h1.below b11 (by omega)
  replace h2 := h2.below b11 (by omega)
  replace hk0 := hk0.below b11 (by omega)
  replace hk1 := hk1.below b11 (by omega)
  replace hl0 := hl0.below b11 (by omega)
  replace BB := Below.step b11 (by omega) BB
  clear b11
  have hkl : (bookPlan xs ps).1.length ≤ 1048576 := bookPlan_len (by omega)
  obtain ⟨hll, hlt⟩ := clashesOf_small (xs := xs) (ps := ps)
  obtain ⟨Al, Cl, rfl, hcl⟩ := hl0.rd.form
  go_wp2_with fail
  refine (drawSharedPeople_any _ code _ _ _ hx0 (by omega) (by omega) hq0).mono ?_
  rintro e w12 ⟨x, y, px, py, rfl, hyx, hx, hyy, hy, b12⟩
  have zb12 := b12.size
  replace hx0 := hx0.below b12 (by omega)
  replace ha := ha.below b12 (by omega)
  replace hb := hb.below b12 (by omega)
  replace ka := ka.below b12 (by omega)
  replace ks := ks.below b12 (by omega)
  replace kb := kb.below b12 (by omega)
  replace kt := kt.below b12 (by omega)
  replace h1 := h1.below b12 (by omega)
  replace h2 := h2.below b12 (by omega)
  replace hk0 := hk0.below b12 (by omega)
  replace hk1 := hk1.below b12 (by omega)
  replace hl0 := hl0.below b12 (by omega)
  replace hl1 := hl1.below b12 (by omega)
  replace BB := Below.step b12 (by omega) BB
  clear b12
  have hsx : x.small := Hearing.small_of hyx (by omega)
  clear hyx
  have hsy : y.small := Hearing.small_of hyy (by omega)
  clear hyy
  obtain ⟨Ax, Cx, rfl, hccx⟩ := hx.form
  have hlx := hsx.len0
  obtain ⟨Ay, Cy, rfl, hccy⟩ := hy.form
  have hly := hsy.len0
  go_wp2_with fail
  have bq0 : Below w12.heap.size w12 (w12.alloc (.cells #[.string x.code, .int .i64 x.len, .slice Ax x.people.length Cx, .int .i64 x.last] 30)) := (Below.refl _ _).alloc (Nat.le_refl _) _
  have zzq0 : (w12.alloc (.cells #[.string x.code, .int .i64 x.len, .slice Ax x.people.length Cx, .int .i64 x.last] 30)).heap.size = w12.heap.size + 1 := by simp
  have kx : Blk (w12.alloc (.cells #[.string x.code, .int .i64 x.len, .slice Ax x.people.length Cx, .int .i64 x.last] 30)) (w12.heap.size) 30 #[.string x.code, .int .i64 x.len, .slice Ax x.people.length Cx, .int .i64 x.last] := Blk.newAt rfl
  have zbq0 := bq0.size
  replace hx0 := hx0.below bq0 (by omega)
  replace ha := ha.below bq0 (by omega)
  replace hb := hb.below bq0 (by omega)
  replace ka := ka.below bq0 (by omega)
  replace ks := ks.below bq0 (by omega)
  replace kb := kb.below bq0 (by omega)
  replace kt := kt.below bq0 (by omega)
  replace h1 := h1.below bq0 (by omega)
  replace h2 := h2.below bq0 (by omega)
  replace hk0 := hk0.below bq0 (by omega)
  replace hk1 := hk1.below bq0 (by omega)
  replace hl0 := hl0.below bq0 (by omega)
  replace hl1 := hl1.below bq0 (by omega)
  replace hx := hx.below bq0 (by omega)
  replace hy := hy.below bq0 (by omega)
  replace BB := Below.step bq0 (by omega) BB
  clear bq0
  generalize (w12.alloc (.cells #[.string x.code, .int .i64 x.len, .slice Ax x.people.length Cx, .int .i64 x.last] 30)) = wq0 at *
  have bq1 : Below wq0.heap.size wq0 (wq0.alloc (.cells #[.string y.code, .int .i64 y.len, .slice Ay y.people.length Cy, .int .i64 y.last] 30)) := (Below.refl _ _).alloc (Nat.le_refl _) _
  have zzq1 : (wq0.alloc (.cells #[.string y.code, .int .i64 y.len, .slice Ay y.people.length Cy, .int .i64 y.last] 30)).heap.size = wq0.heap.size + 1 := by simp
  have ky : Blk (wq0.alloc (.cells #[.string y.code, .int .i64 y.len, .slice Ay y.people.length Cy, .int .i64 y.last] 30)) (w12.heap.size + 1) 30 #[.string y.code, .int .i64 y.len, .slice Ay y.people.length Cy, .int .i64 y.last] := Blk.newAt (by omega)
  have zbq1 := bq1.size
  replace hx0 := hx0.below bq1 (by omega)
  replace ha := ha.below bq1 (by omega)
  replace hb := hb.below bq1 (by omega)
  replace ka := ka.below bq1 (by omega)
  replace ks := ks.below bq1 (by omega)
  replace kb := kb.below bq1 (by omega)
  replace kt := kt.below bq1 (by omega)
  replace h1 := h1.below bq1 (by omega)
  replace h2 := h2.below bq1 (by omega)
  replace hk0 := hk0.below bq1 (by omega)
  replace hk1 := hk1.below bq1 (by omega)
  replace hl0 := hl0.below bq1 (by omega)
  replace hl1 := hl1.below bq1 (by omega)
  replace hx := hx.below bq1 (by omega)
  replace hy := hy.below bq1 (by omega)
  replace kx := kx.below bq1 (by omega)
  replace BB := Below.step bq1 (by omega) BB
  clear bq1
  generalize (wq0.alloc (.cells #[.string y.code, .int .i64 y.len, .slice Ay y.people.length Cy, .int .i64 y.last] 30)) = wq1 at *
  obtain ⟨q0, q1, q2, q3⟩ := kx.c4
  obtain ⟨p0, p1, p2, p3⟩ := ky.c4
  go_wp2_with fail
  clear q0 q1 q2 q3 p0 p1 p2 p3
  refine (sharedPeople_any x _ _ _ y _ _ _ _ hx (by omega) hsx hy (by omega) hsy).mono ?_
  rintro e w13 ⟨ym0, rfl, hm0, b13⟩
  have zb13 := b13.size
  replace hx0 := hx0.below b13 (by omega)
  replace ha := ha.below b13 (by omega)
  replace hb := hb.below b13 (by omega)
  replace ka := ka.below b13 (by omega)
  replace ks := ks.below b13 (by omega)
  replace kb := kb.below b13 (by omega)
  replace kt := kt.below b13 (by omega)
  replace h1 := h1.below b13 (by omega)
  replace h2 := h2.below b13 (by omega)
  replace hk0 := hk0.below b13 (by omega)
  replace hk1 := hk1.below b13 (by omega)
  replace hl0 := hl0.below b13 (by omega)
  replace hl1 := hl1.below b13 (by omega)
  replace hx := hx.below b13 (by omega)
  replace hy := hy.below b13 (by omega)
  replace kx := kx.below b13 (by omega)
  replace ky := ky.below b13 (by omega)
  replace BB := Below.step b13 (by omega) BB
  clear b13
  obtain ⟨q0, q1, q2, q3⟩ := kx.c4
  obtain ⟨p0, p1, p2, p3⟩ := ky.c4
  go_wp2_with fail
  clear q0 q1 q2 q3 p0 p1 p2 p3
  refine (sSharedPeople_any x _ _ _ y _ _ _ _ hx (by omega) hsx hy (by omega) hsy).mono ?_
  rintro e w14 ⟨ym1, rfl, hm1, b14⟩
  have zb14 := b14.size
  replace hx0 := hx0.below b14 (by omega)
  replace ha := ha.below b14 (by omega)
  replace hb := hb.below b14 (by omega)
  replace ka := ka.below b14 (by omega)
  replace ks := ks.below b14 (by omega)
  replace kb := kb.below b14 (by omega)
  replace kt := kt.below b14 (by omega)
  replace h1 := h1.below b14 (by omega)
  replace h2 := h2.below b14 (by omega)
  replace hk0 := hk0.below b14 (by omega)
  replace hk1 := hk1.below b14 (by omega)
  replace hl0 := hl0.below b14 (by omega)
  replace hl1 := hl1.below b14 (by omega)
  replace hx := hx.below b14 (by omega)
  replace hy := hy.below b14 (by omega)
  replace kx := kx.below b14 (by omega)
  replace ky := ky.below b14 (by omega)
  replace hm0 := hm0.below b14 (by omega)
  replace BB := Below.step b14 (by omega) BB
  clear b14
  have hml : (sharedPeople x y).1.length ≤ 1048576 := sharedPeople_len hsx
  obtain ⟨Am, Cm, rfl, hcm⟩ := hm0.rd.form
  go_wp2_with fail
  refine (drawDoesFit_any _ code _ _ _ hx0 (by omega) (by omega) hq0).mono ?_
  rintro e w15 ⟨h, ph, u, rfl, hyh, hh, b15⟩
  have zb15 := b15.size
  replace hx0 := hx0.below b15 (by omega)
  replace ha := ha.below b15 (by omega)
  replace hb := hb.below b15 (by omega)
  replace ka := ka.below b15 (by omega)
  replace ks := ks.below b15 (by omega)
  replace kb := kb.below b15 (by omega)
  replace kt := kt.below b15 (by omega)
  replace h1 := h1.below b15 (by omega)
  replace h2 := h2.below b15 (by omega)
  replace hk0 := hk0.below b15 (by omega)
  replace hk1 := hk1.below b15 (by omega)
  replace hl0 := hl0.below b15 (by omega)
  replace hl1 := hl1.below b15 (by omega)
  replace hx := hx.below b15 (by omega)
  replace hy := hy.below b15 (by omega)
  replace kx := kx.below b15 (by omega)
  replace ky := ky.below b15 (by omega)
  replace hm0 := hm0.below b15 (by omega)
  replace hm1 := hm1.below b15 (by omega)
  replace BB := Below.step b15 (by omega) BB
  clear b15
  have hsh : h.small := Hearing.small_of hyh (by omega)
  clear hyh
  obtain ⟨Ah, Ch, rfl, hcch⟩ := hh.form
  have hlh := hsh.len0
  clear hx0
  go_wp2_with fail
  have br0 : Below w15.heap.size w15 (w15.alloc (.cells #[.string h.code, .int .i64 h.len, .slice Ah h.people.length Ch, .int .i64 h.last] 30)) := (Below.refl _ _).alloc (Nat.le_refl _) _
  have zzr0 : (w15.alloc (.cells #[.string h.code, .int .i64 h.len, .slice Ah h.people.length Ch, .int .i64 h.last] 30)).heap.size = w15.heap.size + 1 := by simp
  have kh : Blk (w15.alloc (.cells #[.string h.code, .int .i64 h.len, .slice Ah h.people.length Ch, .int .i64 h.last] 30)) (w15.heap.size) 30 #[.string h.code, .int .i64 h.len, .slice Ah h.people.length Ch, .int .i64 h.last] := Blk.newAt rfl
  have zbr0 := br0.size
  replace ha := ha.below br0 (by omega)
  replace hb := hb.below br0 (by omega)
  replace ka := ka.below br0 (by omega)
  replace ks := ks.below br0 (by omega)
  replace kb := kb.below br0 (by omega)
  replace kt := kt.below br0 (by omega)
  replace h1 := h1.below br0 (by omega)
  replace h2 := h2.below br0 (by omega)
  replace hk0 := hk0.below br0 (by omega)
  replace hk1 := hk1.below br0 (by omega)
  replace hl0 := hl0.below br0 (by omega)
  replace hl1 := hl1.below br0 (by omega)
  replace hx := hx.below br0 (by omega)
  replace hy := hy.below br0 (by omega)
  replace kx := kx.below br0 (by omega)
  replace ky := ky.below br0 (by omega)
  replace hm0 := hm0.below br0 (by omega)
  replace hm1 := hm1.below br0 (by omega)
  replace hh := hh.below br0 (by omega)
  replace BB := Below.step br0 (by omega) BB
  clear br0
  generalize (w15.alloc (.cells #[.string h.code, .int .i64 h.len, .slice Ah h.people.length Ch, .int .i64 h.last] 30)) = wr0 at *
  have br1 : Below wr0.heap.size wr0 (wr0.alloc (.cells #[.int .i64 u.room, .int .i64 u.day, .int .i64 u.frm] 32)) := (Below.refl _ _).alloc (Nat.le_refl _) _
  have zzr1 : (wr0.alloc (.cells #[.int .i64 u.room, .int .i64 u.day, .int .i64 u.frm] 32)).heap.size = wr0.heap.size + 1 := by simp
  have ku : Blk (wr0.alloc (.cells #[.int .i64 u.room, .int .i64 u.day, .int .i64 u.frm] 32)) (w15.heap.size + 1) 32 #[.int .i64 u.room, .int .i64 u.day, .int .i64 u.frm] := Blk.newAt (by omega)
  have zbr1 := br1.size
  replace ha := ha.below br1 (by omega)
  replace hb := hb.below br1 (by omega)
  replace ka := ka.below br1 (by omega)
  replace ks := ks.below br1 (by omega)
  replace kb := kb.below br1 (by omega)
  replace kt := kt.below br1 (by omega)
  replace h1 := h1.below br1 (by omega)
  replace h2 := h2.below br1 (by omega)
  replace hk0 := hk0.below br1 (by omega)
  replace hk1 := hk1.below br1 (by omega)
  replace hl0 := hl0.below br1 (by omega)
  replace hl1 := hl1.below br1 (by omega)
  replace hx := hx.below br1 (by omega)
  replace hy := hy.below br1 (by omega)
  replace kx := kx.below br1 (by omega)
  replace ky := ky.below br1 (by omega)
  replace hm0 := hm0.below br1 (by omega)
  replace hm1 := hm1.below br1 (by omega)
  replace hh := hh.below br1 (by omega)
  replace kh := kh.below br1 (by omega)
  replace BB := Below.step br1 (by omega) BB
  clear br1
  generalize (wr0.alloc (.cells #[.int .i64 u.room, .int .i64 u.day, .int .i64 u.frm] 32)) = wr1 at *
  obtain ⟨q0, q1, q2, q3⟩ := kh.c4
  obtain ⟨p0, p1, p2⟩ := ku.c3
  go_wp2_with fail
  clear q0 q1 q2 q3 p0 p1 p2
  refine (doesFit_any h _ _ _ u _ hh (by omega) hsh).mono ?_
  rintro e w16 ⟨rfl, b16⟩
  have zb16 := b16.size
  replace ha := ha.below b16 (by omega)
  replace hb := hb.below b16 (by omega)
  replace ka := ka.below b16 (by omega)
  replace ks := ks.below b16 (by omega)
  replace kb := kb.below b16 (by omega)
  replace kt := kt.below b16 (by omega)
  replace h1 := h1.below b16 (by omega)
  replace h2 := h2.below b16 (by omega)
  replace hk0 := hk0.below b16 (by omega)
  replace hk1 := hk1.below b16 (by omega)
  replace hl0 := hl0.below b16 (by omega)
  replace hl1 := hl1.below b16 (by omega)
  replace hx := hx.below b16 (by omega)
  replace hy := hy.below b16 (by omega)
  replace kx := kx.below b16 (by omega)
  replace ky := ky.below b16 (by omega)
  replace hm0 := hm0.below b16 (by omega)
  replace hm1 := hm1.below b16 (by omega)
  replace hh := hh.below b16 (by omega)
  replace kh := kh.below b16 (by omega)
  replace ku := ku.below b16 (by omega)
  replace BB := Below.step b16 (by omega) BB
  clear b16
  obtain ⟨q0, q1, q2, q3⟩ := kh.c4
  obtain ⟨p0, p1, p2⟩ := ku.c3
  go_wp2_with fail
  clear q0 q1 q2 q3 p0 p1 p2
  refine (sDoesFit_any h _ _ _ u _ hh (by omega) hsh).mono ?_
  rintro e w17 ⟨rfl, b17⟩
  have zb17 := b17.size
  replace ha := ha.below b17 (by omega)
  replace hb := hb.below b17 (by omega)
  replace ka := ka.below b17 (by omega)
  replace ks := ks.below b17 (by omega)
  replace kb := kb.below b17 (by omega)
  replace kt := kt.below b17 (by omega)
  replace h1 := h1.below b17 (by omega)
  replace h2 := h2.below b17 (by omega)
  replace hk0 := hk0.below b17 (by omega)
  replace hk1 := hk1.below b17 (by omega)
  replace hl0 := hl0.below b17 (by omega)
  replace hl1 := hl1.below b17 (by omega)
  replace hx := hx.below b17 (by omega)
  replace hy := hy.below b17 (by omega)
  replace kx := kx.below b17 (by omega)
  replace ky := ky.below b17 (by omega)
  replace hm0 := hm0.below b17 (by omega)
  replace hm1 := hm1.below b17 (by omega)
  replace hh := hh.below b17 (by omega)
  replace kh := kh.below b17 (by omega)
  replace ku := ku.below b17 (by omega)
  replace BB := Below.step b17 (by omega) BB
  clear b17
  clear kh ku hh
  generalize doesFit h u = df at *
  have HP := Lib.hid (isPlan_cases xs ps)
  generalize isPlan xs ps = ip at *
  go_wp2_with fail
  refine (likeBookings_any _ _ (bookPlan xs ps).1 _ _ _ _ _ hk0.rd (by omega) hk1.rd (by omega) hkl).mono ?_
  rintro e w18 ⟨rfl, b18⟩
  have zb18 := b18.size
  replace ha := ha.below b18 (by omega)
  replace hb := hb.below b18 (by omega)
  replace ka := ka.below b18 (by omega)
  replace ks := ks.below b18 (by omega)
  replace kb := kb.below b18 (by omega)
  replace kt := kt.below b18 (by omega)
  replace h1 := h1.below b18 (by omega)
  replace h2 := h2.below b18 (by omega)
  replace hk0 := hk0.below b18 (by omega)
  replace hk1 := hk1.below b18 (by omega)
  replace hl0 := hl0.below b18 (by omega)
  replace hl1 := hl1.below b18 (by omega)
  replace hx := hx.below b18 (by omega)
  replace hy := hy.below b18 (by omega)
  replace kx := kx.below b18 (by omega)
  replace ky := ky.below b18 (by omega)
  replace hm0 := hm0.below b18 (by omega)
  replace hm1 := hm1.below b18 (by omega)
  replace BB := Below.step b18 (by omega) BB
  clear b18
  go_wp2_with fail
  refine (likeTables_any _ _ (clashesOf xs ps).1 _ _ _ _ _ hl0.rd (by omega) hl1.rd (by omega) hll (by omega)).mono ?_
  rintro e w19 ⟨rfl, b19⟩
  have zb19 := b19.size
  replace ha := ha.below b19 (by omega)
  replace hb := hb.below b19 (by omega)
  replace ka := ka.below b19 (by omega)
  replace ks := ks.below b19 (by omega)
  replace kb := kb.below b19 (by omega)
  replace kt := kt.below b19 (by omega)
  replace h1 := h1.below b19 (by omega)
  replace h2 := h2.below b19 (by omega)
  replace hk0 := hk0.below b19 (by omega)
  replace hk1 := hk1.below b19 (by omega)
  replace hl0 := hl0.below b19 (by omega)
  replace hl1 := hl1.below b19 (by omega)
  replace hx := hx.below b19 (by omega)
  replace hy := hy.below b19 (by omega)
  replace kx := kx.below b19 (by omega)
  replace ky := ky.below b19 (by omega)
  replace hm0 := hm0.below b19 (by omega)
  replace hm1 := hm1.below b19 (by omega)
  replace BB := Below.step b19 (by omega) BB
  clear b19
  go_wp2_with fail
  refine (likeTexts_any _ _ (sharedPeople x y).1 _ _ _ _ _ hm0.rd (by omega) hm1.rd (by omega) hml).mono ?_
  rintro e w20 ⟨rfl, b20⟩
  have zb20 := b20.size
  replace ha := ha.below b20 (by omega)
  replace hb := hb.below b20 (by omega)
  replace ka := ka.below b20 (by omega)
  replace ks := ks.below b20 (by omega)
  replace kb := kb.below b20 (by omega)
  replace kt := kt.below b20 (by omega)
  replace h1 := h1.below b20 (by omega)
  replace h2 := h2.below b20 (by omega)
  replace hk0 := hk0.below b20 (by omega)
  replace hk1 := hk1.below b20 (by omega)
  replace hl0 := hl0.below b20 (by omega)
  replace hl1 := hl1.below b20 (by omega)
  replace hx := hx.below b20 (by omega)
  replace hy := hy.below b20 (by omega)
  replace kx := kx.below b20 (by omega)
  replace ky := ky.below b20 (by omega)
  replace hm0 := hm0.below b20 (by omega)
  replace hm1 := hm1.below b20 (by omega)
  replace BB := Below.step b20 (by omega) BB
  clear b20
  clear hk1 hl1 hm1
  go_wp2_with fail
  refine (areHearings_any _ xs _ _ _ h1 (by omega) (by omega) hs1).mono ?_
  rintro e w21 ⟨rfl, b21⟩
  have zb21 := b21.size
  replace ha := ha.below b21 (by omega)
  replace hb := hb.below b21 (by omega)
  replace ka := ka.below b21 (by omega)
  replace ks := ks.below b21 (by omega)
  replace kb := kb.below b21 (by omega)
  replace kt := kt.below b21 (by omega)
  replace h1 := h1.below b21 (by omega)
  replace h2 := h2.below b21 (by omega)
  replace hk0 := hk0.below b21 (by omega)
  replace hl0 := hl0.below b21 (by omega)
  replace hx := hx.below b21 (by omega)
  replace hy := hy.below b21 (by omega)
  replace kx := kx.below b21 (by omega)
  replace ky := ky.below b21 (by omega)
  replace hm0 := hm0.below b21 (by omega)
  replace BB := Below.step b21 (by omega) BB
  clear b21
  go_wp2_with fail
  refine (sAreHearings_any _ xs _ _ _ h1 (by omega) (by omega) hs1).mono ?_
  rintro e w22 ⟨rfl, b22⟩
  have zb22 := b22.size
  replace ha := ha.below b22 (by omega)
  replace hb := hb.below b22 (by omega)
  replace ka := ka.below b22 (by omega)
  replace ks := ks.below b22 (by omega)
  replace kb := kb.below b22 (by omega)
  replace kt := kt.below b22 (by omega)
  replace h1 := h1.below b22 (by omega)
  replace h2 := h2.below b22 (by omega)
  replace hk0 := hk0.below b22 (by omega)
  replace hl0 := hl0.below b22 (by omega)
  replace hx := hx.below b22 (by omega)
  replace hy := hy.below b22 (by omega)
  replace kx := kx.below b22 (by omega)
  replace ky := ky.below b22 (by omega)
  replace hm0 := hm0.below b22 (by omega)
  replace BB := Below.step b22 (by omega) BB
  clear b22
  generalize hearingsOk xs = ho at *
  go_wp2_with fail
  refine (areSlots_any _ ps _ _ _ h2 (by omega) (by omega)).mono ?_
  rintro e w23 ⟨rfl, b23⟩
  have zb23 := b23.size
  replace ha := ha.below b23 (by omega)
  replace hb := hb.below b23 (by omega)
  replace ka := ka.below b23 (by omega)
  replace ks := ks.below b23 (by omega)
  replace kb := kb.below b23 (by omega)
  replace kt := kt.below b23 (by omega)
  replace h1 := h1.below b23 (by omega)
  replace h2 := h2.below b23 (by omega)
  replace hk0 := hk0.below b23 (by omega)
  replace hl0 := hl0.below b23 (by omega)
  replace hx := hx.below b23 (by omega)
  replace hy := hy.below b23 (by omega)
  replace kx := kx.below b23 (by omega)
  replace ky := ky.below b23 (by omega)
  replace hm0 := hm0.below b23 (by omega)
  replace BB := Below.step b23 (by omega) BB
  clear b23
  go_wp2_with fail
  refine (sAreSlots_any _ ps _ _ _ h2 (by omega) (by omega)).mono ?_
  rintro e w24 ⟨rfl, b24⟩
  have zb24 := b24.size
  replace ha := ha.below b24 (by omega)
  replace hb := hb.below b24 (by omega)
  replace ka := ka.below b24 (by omega)
  replace ks := ks.below b24 (by omega)
  replace kb := kb.below b24 (by omega)
  replace kt := kt.below b24 (by omega)
  replace h1 := h1.below b24 (by omega)
  replace h2 := h2.below b24 (by omega)
  replace hk0 := hk0.below b24 (by omega)
  replace hl0 := hl0.below b24 (by omega)
  replace hx := hx.below b24 (by omega)
  replace hy := hy.below b24 (by omega)
  replace kx := kx.below b24 (by omega)
  replace ky := ky.below b24 (by omega)
  replace hm0 := hm0.below b24 (by omega)
  replace BB := Below.step b24 (by omega) BB
  clear b24
  generalize slotsOk ps = so at *
  clear h1 h2 hl0
  rcases HP.out with ⟨hp1, hp2, hp3, hp4⟩ | ⟨hp1, hp3⟩
  · have hL1 : ¬ (0 : Int) < (((clashesOf xs ps).1.length : Nat) : Int) := by omega
    have hL2 := decide_eq_false hL1
    have hok := bookPlan_ok hp3
    have hsk : ∀ x ∈ (bookPlan xs ps).1, Booking.small x := fun x hx => bookPlan_small hs1 x hx
    rw [hp1, hp2, hp3]
    clear HP
    go_wp2_with fail
    refine (areBookings_any _ (bookPlan xs ps).1 _ _ _ hk0.rd (by omega) hkl hsk).mono ?_
    rintro e w25 ⟨rfl, b25⟩
    have zb25 := b25.size
    replace ha := ha.below b25 (by omega)
    replace hb := hb.below b25 (by omega)
    replace ka := ka.below b25 (by omega)
    replace ks := ks.below b25 (by omega)
    replace kb := kb.below b25 (by omega)
    replace kt := kt.below b25 (by omega)
    replace hk0 := hk0.below b25 (by omega)
    replace hx := hx.below b25 (by omega)
    replace hy := hy.below b25 (by omega)
    replace kx := kx.below b25 (by omega)
    replace ky := ky.below b25 (by omega)
    replace hm0 := hm0.below b25 (by omega)
    replace BB := Below.step b25 (by omega) BB
    clear b25
    rw [hok]
    clear hk0
    go_wp2_with fail
    go_loopw [37] (fun i wr => ∃ k : Nat, k ≤ (sharedPeople x y).1.length ∧ i = .int .i64 k ∧ Below w25.heap.size w25 wr) (fun i _ => (sharedPeople x y).1.length - (intOf i).toNat)
    case atStart => exact ⟨0, Nat.zero_le _, rfl, Below.refl _ _⟩
    case round =>
      obtain ⟨k, hk, rfl, hbel⟩ := hrel
      have z9 := hbel.size
      by_cases hlt : k < (sharedPeople x y).1.length
      · have hki : (k : Int) < ((sharedPeople x y).1.length : Int) := by omega
        obtain ⟨z, b0, off0, HS, rfl, -, hbw, hcell⟩ := RdF.get hm0.rd hbel (by omega) hlt
        have j2 : wr.cell? ⟨b0, off0 + k, none⟩ = some (.string z) := by simpa [encStr] using hcell 0 _ rfl
        obtain ⟨hz1, hz2⟩ := shared_mem (List.mem_of_getElem? HS.out)
        have kx' := kx.below hbel (by omega)
        have ky' := ky.below hbel (by omega)
        have j0 := kx'.cell 2
        have j1 := ky'.cell 2
        clear hcell
        simp only [List.getElem?_toArray, List.getElem?_cons_succ, List.getElem?_cons_zero] at j0 j1
        go_wp2_with fail
        go_region_held3 (fun w' => w'.cell? ⟨w12.heap.size, 2, none⟩ = some (.slice Ax x.people.length Cx) ∧ w'.cell? ⟨w12.heap.size + 1, 2, none⟩ = some (.slice Ay y.people.length Cy) ∧ w'.cell? ⟨b0, off0 + k, none⟩ = some (.string z)) (go_keep)
          (first
            | (go_at_call 60; have gq := zq1; clear gq; refine (hasText_yes _ y.people _ _ z _ ((hy.below hbel (by omega)).below bq1 (by omega)) (by omega) hly hz2).mono ?_; rintro e wq2 ⟨rfl, bq2⟩; have zq2 := bq2.size; have bq3 : Below wr.heap.size wr wq2 := Below.step bq2 (by omega) bq1; have kq2_0 := (bq3.cell (p := ⟨w12.heap.size, 2, none⟩) (by show w12.heap.size < _; omega)).trans j0; have kq2_1 := (bq3.cell (p := ⟨w12.heap.size + 1, 2, none⟩) (by show w12.heap.size + 1 < _; omega)).trans j1; have kq2_2 := (bq3.cell (p := ⟨b0, off0 + k, none⟩) (by show b0 < _; omega)).trans j2)
            | (go_at_call 60; refine (hasText_yes _ x.people _ _ z _ ((hx.below hbel (by omega)).below (B := wr.heap.size) (Below.refl _ wr).drew (by omega)) (by show _ ≤ wr.heap.size; omega) hlx hz1).mono ?_; rintro e wq1 ⟨rfl, bq1⟩; replace bq1 : Below wr.heap.size wr wq1 := Below.undrew bq1; have zq1 := bq1.size; have kq1_0 := (bq1.cell (p := ⟨w12.heap.size, 2, none⟩) (by show w12.heap.size < _; omega)).trans j0; have kq1_1 := (bq1.cell (p := ⟨w12.heap.size + 1, 2, none⟩) (by show w12.heap.size + 1 < _; omega)).trans j1; have kq1_2 := (bq1.cell (p := ⟨b0, off0 + k, none⟩) (by show b0 < _; omega)).trans j2))
        clear kq1_0 kq1_1 kq1_2 kq2_0 kq2_1 kq2_2
        have hbq := Below.step bq3 z9 hbel
        go_wp2_with fail
        go_roundw
        case rel => exact ⟨k + 1, by omega, by go_num, hbq⟩
        case measure => simp [intOf]; omega
      · have BB2 := Below.step hbel (by omega) BB
        have z10 := hbel.size
        replace ha := ha.below hbel (by omega)
        replace hb := hb.below hbel (by omega)
        replace ka := ka.below hbel (by omega)
        replace ks := ks.below hbel (by omega)
        replace kb := kb.below hbel (by omega)
        replace kt := kt.below hbel (by omega)
        replace hx := hx.below hbel (by omega)
        replace hy := hy.below hbel (by omega)
        replace kx := kx.below hbel (by omega)
        replace ky := ky.below hbel (by omega)
        replace hm0 := hm0.below hbel (by omega)
        replace BB := BB2
        clear BB2 hbel
        by_cases hz0 : ¬ (doClash a s b t).2 = 0
        · generalize (doClash a s b t).2 = bd at *
          have hz' : (bd != 0) = true := by simpa using hz0
          go_wp2_with fail
          go_ret
          exact ⟨rfl, by (repeat (first | with_reducible assumption | with_reducible exact Below.refl _ _ | with_reducible refine Below.setCell ?_ ?_ _ | with_reducible refine Below.alloc ?_ ?_ _ | with_reducible refine Below.drew ?_ | with_reducible refine below_drewN ?_ _ | with_reducible refine Below.step (by with_reducible assumption) ?_ ?_ | omega | (simp <;> omega) | (simp; done)))⟩
        · have hz1 : (doClash a s b t).2 = 0 := by simpa using hz0
          rw [hz1]
          obtain ⟨q0, q1, q2, q3⟩ := ka.c4
          obtain ⟨p0, p1, p2, p3⟩ := kb.c4
          obtain ⟨s0, s1, s2⟩ := ks.c3
          obtain ⟨t0, t1, t2⟩ := kt.c3
          go_wp2_with fail
          clear q0 q1 q2 q3 p0 p1 p2 p3 s0 s1 s2 t0 t1 t2
          refine (doClash_any b _ _ _ t a _ _ _ s _ hb (by omega) hsb ha (by omega) hsa).mono ?_
          rintro e w76 ⟨rfl, b76⟩
          have zb76 := b76.size
          replace ha := ha.below b76 (by omega)
          replace hb := hb.below b76 (by omega)
          replace ka := ka.below b76 (by omega)
          replace ks := ks.below b76 (by omega)
          replace kb := kb.below b76 (by omega)
          replace kt := kt.below b76 (by omega)
          replace hx := hx.below b76 (by omega)
          replace hy := hy.below b76 (by omega)
          replace kx := kx.below b76 (by omega)
          replace ky := ky.below b76 (by omega)
          replace hm0 := hm0.below b76 (by omega)
          replace BB := Below.step b76 (by omega) BB
          clear b76
          rw [clash_back, hz1]
          generalize (doClash a s b t).1 = c at *
          go_wp2_with fail
          go_ret
          exact ⟨by first | rfl | exact ret_bool (by simp), by (repeat (first | with_reducible assumption | with_reducible exact Below.refl _ _ | with_reducible refine Below.setCell ?_ ?_ _ | with_reducible refine Below.alloc ?_ ?_ _ | with_reducible refine Below.drew ?_ | with_reducible refine below_drewN ?_ _ | with_reducible refine Below.step (by with_reducible assumption) ?_ ?_ | omega | (simp <;> omega) | (simp; done)))⟩
  · rw [hp1]
    have hp3' : ((bookPlan xs ps).2 == 0) = false := by simpa using hp3
    generalize (bookPlan xs ps).2 = one at *
    obtain ⟨ip1, ip2⟩ := ip
    clear HP
    simp only at hp1 ⊢
    subst hp1
    clear hk0
    by_cases h30 : ip2 = 0
    · subst h30
      go_wp2_with fail
      go_loopw [37] (fun i wr => ∃ k : Nat, k ≤ (sharedPeople x y).1.length ∧ i = .int .i64 k ∧ Below w24.heap.size w24 wr) (fun i _ => (sharedPeople x y).1.length - (intOf i).toNat)
      case atStart => exact ⟨0, Nat.zero_le _, rfl, Below.refl _ _⟩
      case round =>
        obtain ⟨k, hk, rfl, hbel⟩ := hrel
        have z9 := hbel.size
        by_cases hlt : k < (sharedPeople x y).1.length
        · have hki : (k : Int) < ((sharedPeople x y).1.length : Int) := by omega
          obtain ⟨z, b0, off0, HS, rfl, -, hbw, hcell⟩ := RdF.get hm0.rd hbel (by omega) hlt
          have j2 : wr.cell? ⟨b0, off0 + k, none⟩ = some (.string z) := by simpa [encStr] using hcell 0 _ rfl
          obtain ⟨hz1, hz2⟩ := shared_mem (List.mem_of_getElem? HS.out)
          have kx' := kx.below hbel (by omega)
          have ky' := ky.below hbel (by omega)
          have j0 := kx'.cell 2
          have j1 := ky'.cell 2
          clear hcell
          simp only [List.getElem?_toArray, List.getElem?_cons_succ, List.getElem?_cons_zero] at j0 j1
          go_wp2_with fail
          go_region_held3 (fun w' => w'.cell? ⟨w12.heap.size, 2, none⟩ = some (.slice Ax x.people.length Cx) ∧ w'.cell? ⟨w12.heap.size + 1, 2, none⟩ = some (.slice Ay y.people.length Cy) ∧ w'.cell? ⟨b0, off0 + k, none⟩ = some (.string z)) (go_keep)
            (first
              | (go_at_call 60; have gq := zq1; clear gq; refine (hasText_yes _ y.people _ _ z _ ((hy.below hbel (by omega)).below bq1 (by omega)) (by omega) hly hz2).mono ?_; rintro e wq2 ⟨rfl, bq2⟩; have zq2 := bq2.size; have bq3 : Below wr.heap.size wr wq2 := Below.step bq2 (by omega) bq1; have kq2_0 := (bq3.cell (p := ⟨w12.heap.size, 2, none⟩) (by show w12.heap.size < _; omega)).trans j0; have kq2_1 := (bq3.cell (p := ⟨w12.heap.size + 1, 2, none⟩) (by show w12.heap.size + 1 < _; omega)).trans j1; have kq2_2 := (bq3.cell (p := ⟨b0, off0 + k, none⟩) (by show b0 < _; omega)).trans j2)
              | (go_at_call 60; refine (hasText_yes _ x.people _ _ z _ ((hx.below hbel (by omega)).below (B := wr.heap.size) (Below.refl _ wr).drew (by omega)) (by show _ ≤ wr.heap.size; omega) hlx hz1).mono ?_; rintro e wq1 ⟨rfl, bq1⟩; replace bq1 : Below wr.heap.size wr wq1 := Below.undrew bq1; have zq1 := bq1.size; have kq1_0 := (bq1.cell (p := ⟨w12.heap.size, 2, none⟩) (by show w12.heap.size < _; omega)).trans j0; have kq1_1 := (bq1.cell (p := ⟨w12.heap.size + 1, 2, none⟩) (by show w12.heap.size + 1 < _; omega)).trans j1; have kq1_2 := (bq1.cell (p := ⟨b0, off0 + k, none⟩) (by show b0 < _; omega)).trans j2))
          clear kq1_0 kq1_1 kq1_2 kq2_0 kq2_1 kq2_2
          have hbq := Below.step bq3 z9 hbel
          go_wp2_with fail
          go_roundw
          case rel => exact ⟨k + 1, by omega, by go_num, hbq⟩
          case measure => simp [intOf]; omega
        · have BB2 := Below.step hbel (by omega) BB
          have z10 := hbel.size
          replace ha := ha.below hbel (by omega)
          replace hb := hb.below hbel (by omega)
          replace ka := ka.below hbel (by omega)
          replace ks := ks.below hbel (by omega)
          replace kb := kb.below hbel (by omega)
          replace kt := kt.below hbel (by omega)
          replace hx := hx.below hbel (by omega)
          replace hy := hy.below hbel (by omega)
          replace kx := kx.below hbel (by omega)
          replace ky := ky.below hbel (by omega)
          replace hm0 := hm0.below hbel (by omega)
          replace BB := BB2
          clear BB2 hbel
          by_cases hz0 : ¬ (doClash a s b t).2 = 0
          · generalize (doClash a s b t).2 = bd at *
            have hz' : (bd != 0) = true := by simpa using hz0
            go_wp2_with fail
            go_ret
            exact ⟨rfl, by (repeat (first | with_reducible assumption | with_reducible exact Below.refl _ _ | with_reducible refine Below.setCell ?_ ?_ _ | with_reducible refine Below.alloc ?_ ?_ _ | with_reducible refine Below.drew ?_ | with_reducible refine below_drewN ?_ _ | with_reducible refine Below.step (by with_reducible assumption) ?_ ?_ | omega | (simp <;> omega) | (simp; done)))⟩
          · have hz1 : (doClash a s b t).2 = 0 := by simpa using hz0
            rw [hz1]
            obtain ⟨q0, q1, q2, q3⟩ := ka.c4
            obtain ⟨p0, p1, p2, p3⟩ := kb.c4
            obtain ⟨s0, s1, s2⟩ := ks.c3
            obtain ⟨t0, t1, t2⟩ := kt.c3
            go_wp2_with fail
            clear q0 q1 q2 q3 p0 p1 p2 p3 s0 s1 s2 t0 t1 t2
            refine (doClash_any b _ _ _ t a _ _ _ s _ hb (by omega) hsb ha (by omega) hsa).mono ?_
            rintro e w75 ⟨rfl, b75⟩
            have zb75 := b75.size
            replace ha := ha.below b75 (by omega)
            replace hb := hb.below b75 (by omega)
            replace ka := ka.below b75 (by omega)
            replace ks := ks.below b75 (by omega)
            replace kb := kb.below b75 (by omega)
            replace kt := kt.below b75 (by omega)
            replace hx := hx.below b75 (by omega)
            replace hy := hy.below b75 (by omega)
            replace kx := kx.below b75 (by omega)
            replace ky := ky.below b75 (by omega)
            replace hm0 := hm0.below b75 (by omega)
            replace BB := Below.step b75 (by omega) BB
            clear b75
            rw [clash_back, hz1]
            generalize (doClash a s b t).1 = c at *
            go_wp2_with fail
            go_ret
            exact ⟨by first | rfl | exact ret_bool (by simp), by (repeat (first | with_reducible assumption | with_reducible exact Below.refl _ _ | with_reducible refine Below.setCell ?_ ?_ _ | with_reducible refine Below.alloc ?_ ?_ _ | with_reducible refine Below.drew ?_ | with_reducible refine below_drewN ?_ _ | with_reducible refine Below.step (by with_reducible assumption) ?_ ?_ | omega | (simp <;> omega) | (simp; done)))⟩
    · have h31 : (ip2 == 0) = false := by simpa using h30
      go_wp2_with fail
      go_loopw [37] (fun i wr => ∃ k : Nat, k ≤ (sharedPeople x y).1.length ∧ i = .int .i64 k ∧ Below w24.heap.size w24 wr) (fun i _ => (sharedPeople x y).1.length - (intOf i).toNat)
      case atStart => exact ⟨0, Nat.zero_le _, rfl, Below.refl _ _⟩
      case round =>
        obtain ⟨k, hk, rfl, hbel⟩ := hrel
        have z9 := hbel.size
        by_cases hlt : k < (sharedPeople x y).1.length
        · have hki : (k : Int) < ((sharedPeople x y).1.length : Int) := by omega
          obtain ⟨z, b0, off0, HS, rfl, -, hbw, hcell⟩ := RdF.get hm0.rd hbel (by omega) hlt
          have j2 : wr.cell? ⟨b0, off0 + k, none⟩ = some (.string z) := by simpa [encStr] using hcell 0 _ rfl
          obtain ⟨hz1, hz2⟩ := shared_mem (List.mem_of_getElem? HS.out)
          have kx' := kx.below hbel (by omega)
          have ky' := ky.below hbel (by omega)
          have j0 := kx'.cell 2
          have j1 := ky'.cell 2
          clear hcell
          simp only [List.getElem?_toArray, List.getElem?_cons_succ, List.getElem?_cons_zero] at j0 j1
          go_wp2_with fail
          go_region_held3 (fun w' => w'.cell? ⟨w12.heap.size, 2, none⟩ = some (.slice Ax x.people.length Cx) ∧ w'.cell? ⟨w12.heap.size + 1, 2, none⟩ = some (.slice Ay y.people.length Cy) ∧ w'.cell? ⟨b0, off0 + k, none⟩ = some (.string z)) (go_keep)
            (first
              | (go_at_call 60; have gq := zq1; clear gq; refine (hasText_yes _ y.people _ _ z _ ((hy.below hbel (by omega)).below bq1 (by omega)) (by omega) hly hz2).mono ?_; rintro e wq2 ⟨rfl, bq2⟩; have zq2 := bq2.size; have bq3 : Below wr.heap.size wr wq2 := Below.step bq2 (by omega) bq1; have kq2_0 := (bq3.cell (p := ⟨w12.heap.size, 2, none⟩) (by show w12.heap.size < _; omega)).trans j0; have kq2_1 := (bq3.cell (p := ⟨w12.heap.size + 1, 2, none⟩) (by show w12.heap.size + 1 < _; omega)).trans j1; have kq2_2 := (bq3.cell (p := ⟨b0, off0 + k, none⟩) (by show b0 < _; omega)).trans j2)
              | (go_at_call 60; refine (hasText_yes _ x.people _ _ z _ ((hx.below hbel (by omega)).below (B := wr.heap.size) (Below.refl _ wr).drew (by omega)) (by show _ ≤ wr.heap.size; omega) hlx hz1).mono ?_; rintro e wq1 ⟨rfl, bq1⟩; replace bq1 : Below wr.heap.size wr wq1 := Below.undrew bq1; have zq1 := bq1.size; have kq1_0 := (bq1.cell (p := ⟨w12.heap.size, 2, none⟩) (by show w12.heap.size < _; omega)).trans j0; have kq1_1 := (bq1.cell (p := ⟨w12.heap.size + 1, 2, none⟩) (by show w12.heap.size + 1 < _; omega)).trans j1; have kq1_2 := (bq1.cell (p := ⟨b0, off0 + k, none⟩) (by show b0 < _; omega)).trans j2))
          clear kq1_0 kq1_1 kq1_2 kq2_0 kq2_1 kq2_2
          have hbq := Below.step bq3 z9 hbel
          go_wp2_with fail
          go_roundw
          case rel => exact ⟨k + 1, by omega, by go_num, hbq⟩
          case measure => simp [intOf]; omega
        · have BB2 := Below.step hbel (by omega) BB
          have z10 := hbel.size
          replace ha := ha.below hbel (by omega)
          replace hb := hb.below hbel (by omega)
          replace ka := ka.below hbel (by omega)
          replace ks := ks.below hbel (by omega)
          replace kb := kb.below hbel (by omega)
          replace kt := kt.below hbel (by omega)
          replace hx := hx.below hbel (by omega)
          replace hy := hy.below hbel (by omega)
          replace kx := kx.below hbel (by omega)
          replace ky := ky.below hbel (by omega)
          replace hm0 := hm0.below hbel (by omega)
          replace BB := BB2
          clear BB2 hbel
          by_cases hz0 : ¬ (doClash a s b t).2 = 0
          · generalize (doClash a s b t).2 = bd at *
            have hz' : (bd != 0) = true := by simpa using hz0
            go_wp2_with fail
            go_ret
            exact ⟨rfl, by (repeat (first | with_reducible assumption | with_reducible exact Below.refl _ _ | with_reducible refine Below.setCell ?_ ?_ _ | with_reducible refine Below.alloc ?_ ?_ _ | with_reducible refine Below.drew ?_ | with_reducible refine below_drewN ?_ _ | with_reducible refine Below.step (by with_reducible assumption) ?_ ?_ | omega | (simp <;> omega) | (simp; done)))⟩
          · have hz1 : (doClash a s b t).2 = 0 := by simpa using hz0
            rw [hz1]
            obtain ⟨q0, q1, q2, q3⟩ := ka.c4
            obtain ⟨p0, p1, p2, p3⟩ := kb.c4
            obtain ⟨s0, s1, s2⟩ := ks.c3
            obtain ⟨t0, t1, t2⟩ := kt.c3
            go_wp2_with fail
            clear q0 q1 q2 q3 p0 p1 p2 p3 s0 s1 s2 t0 t1 t2
            refine (doClash_any b _ _ _ t a _ _ _ s _ hb (by omega) hsb ha (by omega) hsa).mono ?_
            rintro e w75 ⟨rfl, b75⟩
            have zb75 := b75.size
            replace ha := ha.below b75 (by omega)
            replace hb := hb.below b75 (by omega)
            replace ka := ka.below b75 (by omega)
            replace ks := ks.below b75 (by omega)
            replace kb := kb.below b75 (by omega)
            replace kt := kt.below b75 (by omega)
            replace hx := hx.below b75 (by omega)
            replace hy := hy.below b75 (by omega)
            replace kx := kx.below b75 (by omega)
            replace ky := ky.below b75 (by omega)
            replace hm0 := hm0.below b75 (by omega)
            replace BB := Below.step b75 (by omega) BB
            clear b75
            rw [clash_back, hz1]
            generalize (doClash a s b t).1 = c at *
            go_wp2_with fail
            go_ret
            exact ⟨by first | rfl | exact ret_bool (by simp), by (repeat (first | with_reducible assumption | with_reducible exact Below.refl _ _ | with_reducible refine Below.setCell ?_ ?_ _ | with_reducible refine Below.alloc ?_ ?_ _ | with_reducible refine Below.drew ?_ | with_reducible refine below_drewN ?_ _ | with_reducible refine Below.step (by with_reducible assumption) ?_ ?_ | omega | (simp <;> omega) | (simp; done)))⟩

set_option maxRecDepth 100000 in
theorem lifted (os : Os) (started : os.Started) (H : Type) (enc : TypeId × Value → H) :
    ReturnsInHanded {} Try.checked os 10 .any (Rows.fnHearingsSpec.pre6 enc Try.prog Try.f10 Rows.fnHearingsRow.domain false) (Rows.fnHearingsSpec.post enc Try.prog Try.f10 false true false false) := by
  refine returnsInHanded_of_change (C := Try.checked) own started (by kernel_rfl) Try.func10
    (ChangeSpec.witness6 (enc := enc) (C := Try.checked) false ⟨#[], #[.slice none 0 0], []⟩ 8 (by kernel_rfl) (by kernel_rfl) (by kernel_rfl) (by kernel_rfl)) ?_
  intro W base args ds gs before hval0 hW hcnd _
  have hval : ∀ (j : Nat) t v, Try.f10.params[j]? = some t → args[j]? = some v → Value.okWide Try.prog W .any base t v := hval0
  have hW' := hW
  obtain ⟨p, q, hA0, hV, rfl, hfz, hnd⟩ := hW
  have hA : DataW.TrodAll enc Try.prog W 0 (fun _ => true) true Try.f10.params.toList args.toList ds p := hA0
  rw [Try.params10] at hA hval
  obtain ⟨v0, vs0, d0, ds0, p0, q0, hargs, rfl, rfl, h0, r0⟩ := trodAll_cons hA
  obtain ⟨rfl, rfl, rfl⟩ := trodAll_nil r0
  obtain rfl : args = #[v0] := by cases args; simp_all
  obtain ⟨rfl, rfl⟩ := trodVars_none hV
  have k0 := h0
  have lt0 : ∀ x ∈ p0, x.block < W.heap.size := by obtain ⟨m, hm⟩ := k0; exact DataW.trod_lt m _ _ _ hm
  obtain ⟨code, hx0, hl0, hq0⟩ := open_bytes Try.underlying70 Try.underlying5 (by kernel_rfl) (hval 0 70 v0 rfl rfl) h0
  clear hA0 hval0
  refine (walk v0 code W hx0 hl0 hq0).mono fun e W' ⟨he, bel⟩ => ?_
  subst he
  exact ⟨_, rfl, _, _, _, [], _, [], hW', trodAll_mk1 (shut_bool Try.underlying4 _), (trodAll_cons_mk (Below.trod laidOut (by kernel_rfl) (of_decide_eq_true (by kernel_rfl)) k0 bel lt0) trodAll_mk0), rfl, bel.frame _, fun h => by cases h⟩

theorem over : Rows.fnHearingsRow.holds Try.pinned (OpenSpec.ofChange Rows.fnHearingsSpec) :=
  OpenClaim.holds_of_wide 10 Try.f10 rfl rfl rfl rfl rfl rfl rfl ⟨rfl, rfl, rfl, rfl, rfl⟩ rfl rfl rfl rfl rfl (by kernel_rfl) Try.func10 (by kernel_rfl)
    (of_decide_eq_true (by kernel_rfl)) (by unfold Func.isWrapper; first | (rw [if_pos (by decide +kernel)]; kernel_rfl) | (rw [if_neg (by decide +kernel)]; exact ⟨rfl, rfl⟩))
    (fun os started H enc _ => lifted os started H enc)

theorem proved : Rows.FnHearingsSaid := over
#print axioms proved
end Go.Proofs.Ytdcfenkkgnnbbaa.hearingsL
