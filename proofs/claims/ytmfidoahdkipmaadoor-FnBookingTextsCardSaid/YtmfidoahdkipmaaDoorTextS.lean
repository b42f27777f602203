/- Booking texts: the library's contracts in plain words; a booking's text and its reading, on both sides. -/
import Derived.Test.YtmfidoahdkipmaaDoorTextV
import Derived.Test.YtmfidoahdkipmaaDoorShelf
import Derived.Test.YtmfidoahdkipmaaDoorSrcL
import Derived.StillTailTactics
namespace Go.Proofs.YtmfidoahdkipmaaDoor
open Go.RowKit
set_option linter.unusedVariables false

theorem var_below {P : Program} {w w' : World} {n : String} {cs : Array Value} (h : w.var? P n = some cs) (hb : Below w.heap.size w w') : w'.var? P n = some cs := by
  unfold World.var? at h ⊢
  cases hg : P.globalNamed n with
  | none => rw [hg] at h; cases h
  | some g =>
    rw [hg] at h
    simp only [Option.bind_some] at h ⊢
    by_cases hlt : g < w.heap.size
    · rw [hb.block g hlt]; exact h
    · rw [Array.getElem?_eq_none (by omega)] at h; cases h
/-- The library's table of tens is as its text lays it. -/
def Tens (w : World) : Prop := Lib.TabIs Tryd.prog w "internal/strconv.uint64pow10" .u64 Lib.pow10Tab
theorem Tens.below {w w' : World} (h : Tens w) (hb : Below w.heap.size w w') : Tens w' := var_below (show w.var? Tryd.prog _ = some _ from h) hb
theorem Tens.drew {w : World} (h : Tens w) : Tens w.drew := h
theorem Tens.alloc {w : World} (h : Tens w) (o : Obj) : Tens (w.alloc o) := h.below ((Below.refl _ _).alloc (Nat.le_refl _) o)
/-- ... and the library's two errors are there, and a word of its own. -/
def Tabs (w : World) : Prop := Tens w ∧ (∃ tp p, w.var? Tryd.prog "strconv.ErrSyntax" = some #[.iface tp p]) ∧ (∃ tp p, w.var? Tryd.prog "strconv.ErrRange" = some #[.iface tp p]) ∧ ∃ m, w.cell? ⟨0, 0, none⟩ = some (.int .i64 m)
theorem cell_below {w w' : World} {p : Addr} {v : Value} (h : w.cell? p = some v) (hb : Below w.heap.size w w') : w'.cell? p = some v := by
  by_cases hlt : p.block < w.heap.size
  · exact (hb.cell hlt).trans h
  · exfalso
    simp only [World.cell?] at h
    rw [Array.getElem?_eq_none (by omega)] at h
    cases h
theorem Tabs.below {w w' : World} (h : Tabs w) (hb : Below w.heap.size w w') : Tabs w' := by
  obtain ⟨h1, ⟨t1, p1, h2⟩, ⟨t2, p2, h3⟩, m, h4⟩ := h
  exact ⟨h1.below hb, ⟨t1, p1, var_below h2 hb⟩, ⟨t2, p2, var_below h3 hb⟩, m, cell_below h4 hb⟩
theorem Tabs.alloc {w : World} (h : Tabs w) (o : Obj) : Tabs (w.alloc o) := h.below ((Below.refl _ _).alloc (Nat.le_refl _) o)
theorem below_bytes (w : World) (e : TypeId) (t : ByteArray) : Below w.heap.size w (Lib.bytesWorld w e t) := Lib.bytesWorld_below w e t
theorem Below.undrewAt {w w' : World} (b : Below w.drew.heap.size w.drew w') : Below w.heap.size w w' := Below.undrew b
theorem below_grow (w : World) (k : Nat) (os : Array Obj) : Below w.heap.size w (Sort.grow (w.drewN k) os) := by
  refine ⟨rfl, rfl, rfl, by simp [Sort.grow], fun i hi => ?_⟩
  show (w.heap ++ os)[i]? = _
  rw [Array.getElem?_append_left hi]
theorem formatInt_any (n : Int) (w : World) (hT : Tens w) (h0 : -9223372036854775808 ≤ n) (h1 : n ≤ 9223372036854775807) :
    Calls Tryd.prog 42 #[.int .i64 n, .int .i64 10] w fun e w' => e = .returned (.string (numB n)) ∧ Below w.heap.size w w' := by
  refine (Tryd.strconv_FormatInt_10 n h0 h1 w hT).mono ?_
  rintro e w' ⟨rfl, k, os, rfl⟩
  exact ⟨rfl, below_grow w k os⟩
set_option maxHeartbeats 400000 in
theorem decimal_any (n : Int) (w : World) (hT : Tens w) (h0 : -9223372036854775808 ≤ n) (h1 : n ≤ 9223372036854775807) :
    Calls Tryd.prog 20 #[.int .i64 n] w fun e w' => e = .returned (.string (numB n)) ∧ Below w.heap.size w w' := by
  go_enter Tryd.func20, Tryd.ntmps20
  go_wp2_with fail
  refine (formatInt_any n _ hT h0 h1).mono ?_
  rintro e w1 ⟨rfl, b1⟩
  go_wp2_with fail
  go_ret
  exact ⟨rfl, b1⟩
theorem join5_any (g : Nat) (a0 a1 a2 a3 a4 : ByteArray) (w : World) (h : Blk w g 9 #[.string a0, .string a1, .string a2, .string a3, .string a4]) (h0 : a0.size ≤ 1048576) (h1 : a1.size ≤ 1048576) (h2 : a2.size ≤ 1048576) (h3 : a3.size ≤ 1048576) (h4 : a4.size ≤ 1048576) :
    Calls Tryd.prog 19 #[.slice (some ⟨g, 0, none⟩) 5 5, .string ⟨#[47]⟩] w fun e w' => e = .returned (.string ⟨(Lib.join [a0.data.toList, a1.data.toList, a2.data.toList, a3.data.toList, a4.data.toList] [47]).toArray⟩) ∧ Below w.heap.size w w' := by
  refine Tryd.strings_Join g 0 5 [a0, a1, a2, a3, a4] ⟨#[47]⟩ w ?_ h.lt (by simp) (by simp) ?_
  · intro j x hj
    have hj5 : j < 5 := by
      have := (List.getElem?_eq_some_iff.1 hj).1
      simpa using this
    rcases (by omega : j = 0 ∨ j = 1 ∨ j = 2 ∨ j = 3 ∨ j = 4) with rfl | rfl | rfl | rfl | rfl <;> (simp at hj; subst hj; first | exact h.cell 0 | exact h.cell 1 | exact h.cell 2 | exact h.cell 3 | exact h.cell 4)
  · simp only [List.map_cons, List.map_nil]
    rw [Lib.join_length]
    have l0 := size_data a0
    have l1 := size_data a1
    have l2 := size_data a2
    have l3 := size_data a3
    have l4 := size_data a4
    simp only [Lib.lens, List.map_cons, List.map_nil, List.sum_cons, List.sum_nil, List.length_cons, List.length_nil]
    omega

set_option maxRecDepth 100000 in
set_option maxHeartbeats 8000000 in
theorem l18Text_any (b : Booking) (w : World) (hb : ∀ x ∈ [b.room, b.day, b.frm, b.to_], -1000000000000000 ≤ x ∧ x ≤ 1000000000000000) (hu : b.use.size ≤ 1048576) :
    Calls Tryd.prog 17 #[.agg #[.int .i64 b.room, .int .i64 b.day, .int .i64 b.frm, .int .i64 b.to_, .string b.use]] w fun e w' => e = .returned (.string (bookStr b)) ∧ Below w.heap.size w w' := by
  have HS := Lib.hid (bookStr_eq b)
  have hj := joinB_size hb
  have hj1 : (ByteArray.mk #[47]).size = 1 := rfl
  simp only [List.length_cons, List.length_nil] at hj
  have hj2 : ¬ 9223372036854775807 < (joinB [b.room, b.day, b.frm, b.to_]).size + 1 := by omega
  have hj3 : ¬ 9223372036854775807 < (joinB [b.room, b.day, b.frm, b.to_]).size + 1 + b.use.size := by omega
  have kX := Blk.newAt (w := w) (n := w.heap.size) (t := 27) (cs := #[.int .i64 b.room, .int .i64 b.day, .int .i64 b.frm, .int .i64 b.to_, .string b.use]) rfl
  have hbkX : Below w.heap.size w (w.alloc (.cells #[.int .i64 b.room, .int .i64 b.day, .int .i64 b.frm, .int .i64 b.to_, .string b.use] 27)) := (Below.refl _ _).alloc (Nat.le_refl _) _
  have hzkX : (w.alloc (.cells #[.int .i64 b.room, .int .i64 b.day, .int .i64 b.frm, .int .i64 b.to_, .string b.use] 27)).heap.size = w.heap.size + 1 := by simp
  have hR := rdInts (w := (w.alloc (.cells #[.int .i64 b.room, .int .i64 b.day, .int .i64 b.frm, .int .i64 b.to_, .string b.use] 27))) (n := w.heap.size + 1) [b.room, b.day, b.frm, b.to_] (cs := #[.int .i64 b.room, .int .i64 b.day, .int .i64 b.frm, .int .i64 b.to_]) rfl (by simp)
  go_enter Tryd.func17, Tryd.ntmps17
  go_wp2_with fail
  generalize (w.alloc (.cells #[.int .i64 b.room, .int .i64 b.day, .int .i64 b.frm, .int .i64 b.to_, .string b.use] 27)) = W0 at *
  have zl := kX.lt
  clear hzkX hR
  obtain ⟨q0, q1, q2, q3, q4⟩ := kX.c5
  go_region_held3 (fun w' => w'.cell? ⟨w.heap.size, 0, none⟩ = some (.int .i64 b.room) ∧ w'.cell? ⟨w.heap.size, 1, none⟩ = some (.int .i64 b.day) ∧ w'.cell? ⟨w.heap.size, 2, none⟩ = some (.int .i64 b.frm) ∧ w'.cell? ⟨w.heap.size, 3, none⟩ = some (.int .i64 b.to_) ∧ w'.cell? ⟨w.heap.size, 4, none⟩ = some (.string b.use)) (go_keep)
    (first
      | (go_at_call 34; refine (l01Join_any _ [b.room, b.day, b.frm, b.to_] _ _ _ (by first | exact (rdInts (w := W0) (n := W0.heap.size) [b.room, b.day, b.frm, b.to_] (cs := #[.int .i64 b.room, .int .i64 b.day, .int .i64 b.frm, .int .i64 b.to_]) rfl rfl) | exact RdF.below (rdInts (w := W0) (n := W0.heap.size) [b.room, b.day, b.frm, b.to_] (cs := #[.int .i64 b.room, .int .i64 b.day, .int .i64 b.frm, .int .i64 b.to_]) rfl rfl) (Below.refl (W0.heap.size + 1) _).drew (Nat.le_refl _) | exact (rdInts (w := W0.drew) (n := W0.heap.size) [b.room, b.day, b.frm, b.to_] (cs := #[.int .i64 b.room, .int .i64 b.day, .int .i64 b.frm, .int .i64 b.to_]) rfl rfl)) (by simp) (by simp) hb).mono ?_; rintro e w1 ⟨rfl, b1⟩; have bW : Below W0.heap.size W0 w1 := (by (repeat (first | with_reducible assumption | with_reducible exact Below.refl _ _ | with_reducible refine Below.setCell ?_ ?_ _ | with_reducible refine Below.alloc ?_ ?_ _ | with_reducible refine Below.drew ?_ | with_reducible refine below_drewN ?_ _ | with_reducible refine Below.step (by with_reducible assumption) ?_ ?_ | omega | (simp <;> omega) | (simp; done)))); replace kX := kX.below bW (by omega); obtain ⟨r0, r1, r2, r3, r4⟩ := kX.c5; have BB := Below.step bW (by omega) hbkX))
  all_goals (
    try go_wp2_with fail
    go_ret
    exact ⟨by rw [HS.out] <;> rfl, by (repeat (first | with_reducible assumption | with_reducible exact Below.refl _ _ | with_reducible refine Below.setCell ?_ ?_ _ | with_reducible refine Below.alloc ?_ ?_ _ | with_reducible refine Below.drew ?_ | with_reducible refine below_drewN ?_ _ | with_reducible refine Below.step (by with_reducible assumption) ?_ ?_ | omega | (simp <;> omega) | (simp; done)))⟩)
set_option maxRecDepth 100000 in
set_option maxHeartbeats 8000000 in
theorem sBookingText_any (b : Booking) (w : World) (hu : b.use.size ≤ 1048576) :
    Calls Tryd.prog 7 #[.agg #[.int .i64 b.room, .int .i64 b.day, .int .i64 b.frm, .int .i64 b.to_, .string b.use]] w fun e w' => e = .returned (.tuple #[.string (bookText b).1, .int .i64 (bookText b).2]) ∧ Below w.heap.size w w' := by
  have kX := Blk.newAt (w := w) (n := w.heap.size) (t := 27) (cs := #[.int .i64 b.room, .int .i64 b.day, .int .i64 b.frm, .int .i64 b.to_, .string b.use]) rfl
  have hbkX : Below w.heap.size w (w.alloc (.cells #[.int .i64 b.room, .int .i64 b.day, .int .i64 b.frm, .int .i64 b.to_, .string b.use] 27)) := (Below.refl _ _).alloc (Nat.le_refl _) _
  have hzkX : (w.alloc (.cells #[.int .i64 b.room, .int .i64 b.day, .int .i64 b.frm, .int .i64 b.to_, .string b.use] 27)).heap.size = w.heap.size + 1 := by simp
  go_enter Tryd.func7, Tryd.ntmps7
  go_wp2_with fail
  generalize (w.alloc (.cells #[.int .i64 b.room, .int .i64 b.day, .int .i64 b.frm, .int .i64 b.to_, .string b.use] 27)) = W0 at *
  have zl := kX.lt
  refine (l18Is_any b _ (by omega)).mono ?_
  rintro e w1 ⟨rfl, b1⟩
  have z1 := b1.size
  replace kX := kX.below b1 (by omega)
  have BB : Below w.heap.size w w1 := Below.step b1 (by omega) hbkX
  clear b1 hbkX
  obtain ⟨q0, q1, q2, q3, q4⟩ := kX.c5
  cases hok : b.ok with
  | false =>
    have HT := Lib.hid (show bookText b = (ByteArray.empty, 1) by rw [bookText, hok]; rfl)
    go_wp2_with fail
    go_ret2
    exact ⟨by rw [HT.out] <;> rfl, BB⟩
  | true =>
    have HT := Lib.hid (show bookText b = (bookStr b, 0) by rw [bookText, hok]; rfl)
    obtain ⟨hr, hd, hf, ht⟩ := Booking.ok_in (show (Booking.mk b.room b.day b.frm b.to_ b.use).ok = true from hok)
    clear hok
    have hbd : ∀ x ∈ [b.room, b.day, b.frm, b.to_], -1000000000000000 ≤ x ∧ x ≤ 1000000000000000 := by
      intro x hx
      simp at hx
      rcases hx with rfl | rfl | rfl | rfl <;> omega
    go_wp2_with fail
    refine (l18Text_any b _ hbd (by omega)).mono ?_
    rintro e w2 ⟨rfl, b2⟩
    go_wp2_with fail
    go_ret2
    exact ⟨by rw [HT.out] <;> rfl, Below.step b2 (by omega) BB⟩
set_option maxRecDepth 100000 in
set_option maxHeartbeats 8000000 in
theorem bookingText_any (b : Booking) (w : World) (hT : Tens w) (hu : b.use.size ≤ 1048576) :
    Calls Tryd.prog 9 #[.agg #[.int .i64 b.room, .int .i64 b.day, .int .i64 b.frm, .int .i64 b.to_, .string b.use]] w fun e w' => e = .returned (.tuple #[.string (bookText b).1, .int .i64 (bookText b).2]) ∧ Below w.heap.size w w' := by
  have kX := Blk.newAt (w := w) (n := w.heap.size) (t := 27) (cs := #[.int .i64 b.room, .int .i64 b.day, .int .i64 b.frm, .int .i64 b.to_, .string b.use]) rfl
  have hbkX : Below w.heap.size w (w.alloc (.cells #[.int .i64 b.room, .int .i64 b.day, .int .i64 b.frm, .int .i64 b.to_, .string b.use] 27)) := (Below.refl _ _).alloc (Nat.le_refl _) _
  have hzkX : (w.alloc (.cells #[.int .i64 b.room, .int .i64 b.day, .int .i64 b.frm, .int .i64 b.to_, .string b.use] 27)).heap.size = w.heap.size + 1 := by simp
  go_enter Tryd.func9, Tryd.ntmps9
  go_wp2_with fail
  generalize (w.alloc (.cells #[.int .i64 b.room, .int .i64 b.day, .int .i64 b.frm, .int .i64 b.to_, .string b.use] 27)) = W0 at *
  have zl := kX.lt
  refine (isBooking_any b _ (by omega)).mono ?_
  rintro e w1 ⟨rfl, b1⟩
  have z1 := b1.size
  replace kX := kX.below b1 (by omega)
  have BB : Below w.heap.size w w1 := Below.step b1 (by omega) hbkX
  clear b1 hbkX
  obtain ⟨q0, q1, q2, q3, q4⟩ := kX.c5
  cases hok : b.ok with
  | false =>
    have HT := Lib.hid (show bookText b = (ByteArray.empty, 1) by rw [bookText, hok]; rfl)
    go_wp2_with fail
    go_ret2
    exact ⟨by rw [HT.out] <;> rfl, BB⟩
  | true =>
    have HT := Lib.hid (show bookText b = (bookStr b, 0) by rw [bookText, hok]; rfl)
    obtain ⟨hr, hd, hf, ht⟩ := Booking.ok_in (show (Booking.mk b.room b.day b.frm b.to_ b.use).ok = true from hok)
    clear hok
    replace hT : Tens w1 := hT.below (BB.mono (Nat.le_refl _))
    have n0 := numB_size (n := b.room) (by omega) (by omega)
    have n1 := numB_size (n := b.day) (by omega) (by omega)
    have n2 := numB_size (n := b.frm) (by omega) (by omega)
    have n3 := numB_size (n := b.to_) (by omega) (by omega)
    have HB := Lib.hid (show (⟨(Lib.join [(numB b.room).data.toList, (numB b.day).data.toList, (numB b.frm).data.toList, (numB b.to_).data.toList, b.use.data.toList] [47]).toArray⟩ : ByteArray) = bookStr b by
      rw [numB_data, numB_data, numB_data, numB_data]; rfl)
    go_wp2_with fail
    go_region_held3 (fun w' => w'.cell? ⟨w.heap.size, 0, none⟩ = some (.int .i64 b.room) ∧ w'.cell? ⟨w.heap.size, 1, none⟩ = some (.int .i64 b.day) ∧ w'.cell? ⟨w.heap.size, 2, none⟩ = some (.int .i64 b.frm) ∧ w'.cell? ⟨w.heap.size, 3, none⟩ = some (.int .i64 b.to_) ∧ w'.cell? ⟨w.heap.size, 4, none⟩ = some (.string b.use)) (go_keep)
      (first
        | (go_at_call 20; refine (decimal_any _ _ (by first | exact hT | exact hT.drew) (by omega) (by omega)).mono ?_; rintro e w2 ⟨rfl, b2⟩; (first | replace b2 := Below.undrewAt b2 | skip); have zb2 := b2.size; replace hT := hT.below b2; replace kX := kX.below b2 (by omega); replace BB := Below.step b2 (by omega) BB; clear b2; obtain ⟨q0, q1, q2, q3, q4⟩ := kX.c5)
        | (go_at_call 19; refine (join5_any _ (numB b.room) (numB b.day) (numB b.frm) (numB b.to_) b.use _ (by first | exact Blk.newAt rfl | exact Blk.drew (Blk.newAt rfl)) (by omega) (by omega) (by omega) (by omega) (by omega)).mono ?_; rintro e w3 ⟨rfl, b3⟩; have bW : Below w2.heap.size w2 w3 := (by (repeat (first | with_reducible assumption | with_reducible exact Below.refl _ _ | with_reducible refine Below.setCell ?_ ?_ _ | with_reducible refine Below.alloc ?_ ?_ _ | with_reducible refine Below.drew ?_ | with_reducible refine below_drewN ?_ _ | with_reducible refine Below.step (by with_reducible assumption) ?_ ?_ | omega | (simp <;> omega) | (simp; done)))); replace kX := kX.below bW (by omega); replace BB := Below.step bW (by omega) BB; clear bW b3; obtain ⟨q0, q1, q2, q3, q4⟩ := kX.c5))
    all_goals (
      try go_wp2_with fail
      go_ret2
      exact ⟨by rw [HT.out, ← HB.out] <;> rfl, by (repeat (first | with_reducible assumption | with_reducible exact Below.refl _ _ | with_reducible refine Below.setCell ?_ ?_ _ | with_reducible refine Below.alloc ?_ ?_ _ | with_reducible refine Below.drew ?_ | with_reducible refine below_drewN ?_ _ | with_reducible refine Below.step (by with_reducible assumption) ?_ ?_ | omega | (simp <;> omega) | (simp; done)))⟩)
end Go.Proofs.YtmfidoahdkipmaaDoor
