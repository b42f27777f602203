/- No room is kept twice, and a free time can be booked: returns true for all arguments. No conditions. -/
import Derived.Test.YthodceeioinnoaaRoomP
import Derived.Test.YthodceeioinnoaaDrawBx
import Derived.Test.YthodceeioinnoaaLikeB
import Derived.Test.YthodceeioinnoaaOpenB
namespace Go.Proofs.Ythodceeioinnoaa.rooms
open Go.ChangeShapes Go.WideShapes Go.ChangeAt Go.RowKit
open Go.ChangeMaps (open_string shut_string)
set_option linter.unusedVariables false

theorem own : ownKnob Try.prog.godebug = none := by kernel_rfl
theorem laidOut : laidOutB Try.prog = true := by kernel_rfl


set_option maxRecDepth 100000 in
set_option maxHeartbeats 40000000 in
theorem walk (v0 : Value) (code : List Int) (w : World) (hx0 : RdF encByte 1 w 0 w.heap.size v0 code) (hl0 : code.length ≤ maxLen) (hq0 : ∀ x ∈ code, 0 ≤ x ∧ x ≤ 255) :
    Calls Try.prog 11 #[v0] w fun e w' => e = .returned (.bool true) ∧ Below w.heap.size w w' := by
  try unfold maxLen at *
  obtain ⟨A0, C0, rfl, hc0⟩ := hx0.form
  by_cases hbig : (4096 : Int) < (code.length : Int)
  · go_enter Try.func11, Try.ntmps11
    go_wp2_with fail
    refine (big_any A0 C0 code.length _).mono ?_
    rintro e w1 ⟨rfl, b1⟩
    rw [decide_eq_true hbig]
    go_wp2_with fail
    go_ret
    exact ⟨rfl, b1⟩
  go_enter Try.func11, Try.ntmps11
  have BB : Below w.heap.size w w := Below.refl _ _
  go_wp2_with fail
  refine (big_any A0 C0 code.length _).mono ?_
  rintro e w1 ⟨rfl, b1⟩
  have zb1 := b1.size
  replace hx0 := hx0.below b1 (by omega)
  replace BB := Below.step b1 (by omega) BB
  clear b1
  rw [decide_eq_false (show ¬ (4096 : Int) < (code.length : Int) by omega)]
  go_wp2_with fail
  refine (drawFirstFree_any _ code _ _ _ hx0 (by omega) (by omega) hq0).mono ?_
  rintro e w2 ⟨v1, xs, room, day, len, rfl, hx1, hM1, hr1, hd1, hl1, h1, b2⟩
  have zb2 := b2.size
  replace hx0 := hx0.below b2 (by omega)
  replace BB := Below.step b2 (by omega) BB
  clear b2
  have hs1 : ∀ x ∈ xs, Booking.small x := fun x hx => by have := hM1 x hx; unfold Booking.small; omega
  clear hM1
  obtain ⟨A1, c1, rfl, hc1⟩ := h1.form
  go_wp2_with fail
  refine (firstFree_any _ xs _ _ room day len _ h1 (by omega) (by omega) hs1).mono ?_
  rintro e w3 ⟨rfl, b3⟩
  have zb3 := b3.size
  replace hx0 := hx0.below b3 (by omega)
  replace h1 := h1.below b3 (by omega)
  replace BB := Below.step b3 (by omega) BB
  clear b3
  go_wp2_with fail
  refine (sFirstFree_any _ xs _ _ room day len _ h1 (by omega) (by omega) hs1).mono ?_
  rintro e w4 ⟨rfl, b4⟩
  have zb4 := b4.size
  replace hx0 := hx0.below b4 (by omega)
  replace h1 := h1.below b4 (by omega)
  replace BB := Below.step b4 (by omega) BB
  clear b4
  go_wp2_with fail
  refine (drawAddBooking_any _ code _ _ _ hx0 (by omega) (by omega) hq0).mono ?_
  rintro e w5 ⟨v2, ys, b, rfl, hx2, hM2, hbu, h2, b5⟩
  have zb5 := b5.size
  replace hx0 := hx0.below b5 (by omega)
  replace h1 := h1.below b5 (by omega)
  replace BB := Below.step b5 (by omega) BB
  clear b5
  have hs2 : ∀ x ∈ ys, Booking.small x := fun x hx => by have := hM2 x hx; unfold Booking.small; omega
  clear hM2
  have hbs : Booking.small b := by unfold Booking.small; omega
  obtain ⟨A2, c2, rfl, hc2⟩ := h2.form
  go_wp2_with fail
  have bX : Below w5.heap.size w5 (w5.alloc (.cells #[.int .i64 b.room, .int .i64 b.day, .int .i64 b.frm, .int .i64 b.to_, .string b.use] 41)) := (Below.refl _ _).alloc (Nat.le_refl _) _
  have zX : (w5.alloc (.cells #[.int .i64 b.room, .int .i64 b.day, .int .i64 b.frm, .int .i64 b.to_, .string b.use] 41)).heap.size = w5.heap.size + 1 := by simp
  have kB : Blk (w5.alloc (.cells #[.int .i64 b.room, .int .i64 b.day, .int .i64 b.frm, .int .i64 b.to_, .string b.use] 41)) w5.heap.size 41 #[.int .i64 b.room, .int .i64 b.day, .int .i64 b.frm, .int .i64 b.to_, .string b.use] := Blk.newAt rfl
  have zbX := bX.size
  replace hx0 := hx0.below bX (by omega)
  replace h1 := h1.below bX (by omega)
  replace h2 := h2.below bX (by omega)
  replace BB := Below.step bX (by omega) BB
  clear bX
  generalize (w5.alloc (.cells #[.int .i64 b.room, .int .i64 b.day, .int .i64 b.frm, .int .i64 b.to_, .string b.use] 41)) = wX at *
  obtain ⟨q0, q1, q2, q3, q4⟩ := kB.five
  go_wp2_with fail
  clear q0 q1 q2 q3 q4
  refine (addBooking_any _ ys _ _ b _ h2 (by omega) (by omega) hs2 hbs).mono ?_
  rintro e w6 ⟨ya6, rfl, ha6, b6⟩
  have zb6 := b6.size
  replace hx0 := hx0.below b6 (by omega)
  replace h1 := h1.below b6 (by omega)
  replace h2 := h2.below b6 (by omega)
  replace kB := kB.below b6 (by omega)
  replace BB := Below.step b6 (by omega) BB
  clear b6
  obtain ⟨q0, q1, q2, q3, q4⟩ := kB.five
  go_wp2_with fail
  clear q0 q1 q2 q3 q4
  refine (sAddBooking_any _ ys _ _ b _ h2 (by omega) (by omega) hs2 hbs).mono ?_
  rintro e w7 ⟨ya7, rfl, ha7, b7⟩
  have zb7 := b7.size
  replace hx0 := hx0.below b7 (by omega)
  replace h1 := h1.below b7 (by omega)
  replace h2 := h2.below b7 (by omega)
  replace kB := kB.below b7 (by omega)
  replace ha6 := ha6.below b7 (by omega)
  replace BB := Below.step b7 (by omega) BB
  clear b7
  clear kB
  have hal := addBooking_len ys b
  obtain ⟨Aa, ca, rfl, hca⟩ := ha6.rd.form
  go_wp2_with fail
  refine (drawRoomsFree_any _ code _ _ _ hx0 (by omega) (by omega) hq0).mono ?_
  rintro e w8 ⟨v3, zs, d, from_, to_, rfl, hx3, hM3, hd3, hf3, ht3, h3, b8⟩
  have zb8 := b8.size
  replace hx0 := hx0.below b8 (by omega)
  replace h1 := h1.below b8 (by omega)
  replace h2 := h2.below b8 (by omega)
  replace ha6 := ha6.below b8 (by omega)
  replace ha7 := ha7.below b8 (by omega)
  replace BB := Below.step b8 (by omega) BB
  clear b8
  have hs3 : ∀ x ∈ zs, Booking.small x := fun x hx => by have := hM3 x hx; unfold Booking.small; omega
  clear hM3
  go_wp2_with fail
  refine (roomsFree_any _ zs _ _ d from_ to_ _ h3 (by omega) (by omega) hs3).mono ?_
  rintro e w9 ⟨yr9, rfl, hr9, b9⟩
  have zb9 := b9.size
  replace hx0 := hx0.below b9 (by omega)
  replace h1 := h1.below b9 (by omega)
  replace h2 := h2.below b9 (by omega)
  replace ha6 := ha6.below b9 (by omega)
  replace ha7 := ha7.below b9 (by omega)
  replace h3 := h3.below b9 (by omega)
  replace BB := Below.step b9 (by omega) BB
  clear b9
  go_wp2_with fail
  refine (sRoomsFree_any _ zs _ _ d from_ to_ _ h3 (by omega) (by omega) hs3).mono ?_
  rintro e w10 ⟨yr10, rfl, hr10, b10⟩
  have zb10 := b10.size
  replace hx0 := hx0.below b10 (by omega)
  replace h1 := h1.below b10 (by omega)
  replace h2 := h2.below b10 (by omega)
  replace ha6 := ha6.below b10 (by omega)
  replace ha7 := ha7.below b10 (by omega)
  replace h3 := h3.below b10 (by omega)
  replace hr9 := hr9.below b10 (by omega)
  replace BB := Below.step b10 (by omega) BB
  clear b10
  clear h3
  have hrl := roomsFree_len zs d from_ to_
  go_wp2_with fail
  refine (drawBookingsFor_any _ code _ _ _ hx0 (by omega) (by omega) hq0).mono ?_
  rintro e w11 ⟨v4, us, use, rfl, hx4, hM4, hu4, h4, b11⟩
  have zb11 := b11.size
  replace hx0 := hx0.below b11 (by omega)
  replace h1 := h1.below b11 (by omega)
  replace h2 := h2.below b11 (by omega)
  replace ha6 := ha6.below b11 (by omega)
  replace ha7 := ha7.below b11 (by omega)
  replace hr9 := hr9.below b11 (by omega)
  replace hr10 := hr10.below b11 (by omega)
  replace BB := Below.step b11 (by omega) BB
  clear b11
  have hs4 : ∀ x ∈ us, Booking.small x := fun x hx => by have := hM4 x hx; unfold Booking.small; omega
  clear hM4
  obtain ⟨A4, c4, rfl, hc4⟩ := h4.form
  clear hx0
  go_wp2_with fail
  refine (bookingsFor_any _ us _ _ use _ h4 (by omega) (by omega) hs4 (by omega)).mono ?_
  rintro e w12 ⟨yu12, rfl, hu12, b12⟩
  have zb12 := b12.size
  replace h1 := h1.below b12 (by omega)
  replace h2 := h2.below b12 (by omega)
  replace ha6 := ha6.below b12 (by omega)
  replace ha7 := ha7.below b12 (by omega)
  replace hr9 := hr9.below b12 (by omega)
  replace hr10 := hr10.below b12 (by omega)
  replace h4 := h4.below b12 (by omega)
  replace BB := Below.step b12 (by omega) BB
  clear b12
  go_wp2_with fail
  refine (sBookingsFor_any _ us _ _ use _ h4 (by omega) (by omega) hs4 (by omega)).mono ?_
  rintro e w13 ⟨yu13, rfl, hu13, b13⟩
  have zb13 := b13.size
  replace h1 := h1.below b13 (by omega)
  replace h2 := h2.below b13 (by omega)
  replace ha6 := ha6.below b13 (by omega)
  replace ha7 := ha7.below b13 (by omega)
  replace hr9 := hr9.below b13 (by omega)
  replace hr10 := hr10.below b13 (by omega)
  replace h4 := h4.below b13 (by omega)
  replace hu12 := hu12.below b13 (by omega)
  replace BB := Below.step b13 (by omega) BB
  clear b13
  have hul : (bookingsFor us use).1.length ≤ 1048576 := bookingsFor_len (by omega)
  obtain ⟨Au, cu, rfl, hcu⟩ := hu12.rd.form
  go_wp2_with fail
  refine (likeBookings_any _ _ (addBooking ys b).1 _ _ _ _ _ ha6.rd (by omega) ha7.rd (by omega) hal).mono ?_
  rintro e w14 ⟨rfl, b14⟩
  have zb14 := b14.size
  replace h1 := h1.below b14 (by omega)
  replace h2 := h2.below b14 (by omega)
  replace ha6 := ha6.below b14 (by omega)
  replace ha7 := ha7.below b14 (by omega)
  replace hr9 := hr9.below b14 (by omega)
  replace hr10 := hr10.below b14 (by omega)
  replace h4 := h4.below b14 (by omega)
  replace hu12 := hu12.below b14 (by omega)
  replace hu13 := hu13.below b14 (by omega)
  replace BB := Below.step b14 (by omega) BB
  clear b14
  go_wp2_with fail
  refine (likeInts_any _ _ (roomsFree zs d from_ to_).1 _ _ _ _ _ hr9.rd (by omega) hr10.rd (by omega) hrl).mono ?_
  rintro e w15 ⟨rfl, b15⟩
  have zb15 := b15.size
  replace h1 := h1.below b15 (by omega)
  replace h2 := h2.below b15 (by omega)
  replace ha6 := ha6.below b15 (by omega)
  replace ha7 := ha7.below b15 (by omega)
  replace hr9 := hr9.below b15 (by omega)
  replace hr10 := hr10.below b15 (by omega)
  replace h4 := h4.below b15 (by omega)
  replace hu12 := hu12.below b15 (by omega)
  replace hu13 := hu13.below b15 (by omega)
  replace BB := Below.step b15 (by omega) BB
  clear b15
  go_wp2_with fail
  refine (likeInts_any _ _ (bookingsFor us use).1 _ _ _ _ _ hu12.rd (by omega) hu13.rd (by omega) hul).mono ?_
  rintro e w16 ⟨rfl, b16⟩
  have zb16 := b16.size
  replace h1 := h1.below b16 (by omega)
  replace h2 := h2.below b16 (by omega)
  replace ha6 := ha6.below b16 (by omega)
  replace ha7 := ha7.below b16 (by omega)
  replace hr9 := hr9.below b16 (by omega)
  replace hr10 := hr10.below b16 (by omega)
  replace h4 := h4.below b16 (by omega)
  replace hu12 := hu12.below b16 (by omega)
  replace hu13 := hu13.below b16 (by omega)
  replace BB := Below.step b16 (by omega) BB
  clear b16
  clear hr9 hr10 ha7 hu13
  go_wp2_with fail
  refine (areBookings_any _ xs _ _ _ h1 (by omega) (by omega) hs1).mono ?_
  rintro e w17 ⟨rfl, b17⟩
  have zb17 := b17.size
  replace h1 := h1.below b17 (by omega)
  replace h2 := h2.below b17 (by omega)
  replace ha6 := ha6.below b17 (by omega)
  replace h4 := h4.below b17 (by omega)
  replace hu12 := hu12.below b17 (by omega)
  replace BB := Below.step b17 (by omega) BB
  clear b17
  go_wp2_with fail
  refine (sAreBookings_any _ xs _ _ _ h1 (by omega) (by omega) hs1).mono ?_
  rintro e w18 ⟨rfl, b18⟩
  have zb18 := b18.size
  replace h1 := h1.below b18 (by omega)
  replace h2 := h2.below b18 (by omega)
  replace ha6 := ha6.below b18 (by omega)
  replace h4 := h4.below b18 (by omega)
  replace hu12 := hu12.below b18 (by omega)
  replace BB := Below.step b18 (by omega) BB
  clear b18
  generalize hbo : bookingsOk xs = bo at *
  clear hbo
  by_cases h10 : (addBooking ys b).2 = 0
  · obtain ⟨ho1, ho2⟩ := addBooking_yes h10
    have hon : ((((addBooking ys b).1.length : Nat) : Int) != (ys.length : Int) + 1) = false := by simp; omega
    clear ho2
    rw [h10]
    have hsa : ∀ x ∈ (addBooking ys b).1, Booking.small x := fun x hx => by
      rcases addBooking_mem hx with h | h
      · exact hs2 x h
      · rw [h]; exact hbs
    go_wp2_with fail
    refine (areBookings_any _ (addBooking ys b).1 _ _ _ ha6.rd (by omega) hal hsa).mono ?_
    rintro e w19 ⟨rfl, b19⟩
    have zb19 := b19.size
    replace h1 := h1.below b19 (by omega)
    replace h2 := h2.below b19 (by omega)
    replace ha6 := ha6.below b19 (by omega)
    replace h4 := h4.below b19 (by omega)
    replace hu12 := hu12.below b19 (by omega)
    replace BB := Below.step b19 (by omega) BB
    clear b19
    rw [ho1]
    clear ha6
    go_wp2_with fail
    go_loopw [31] (fun i wr => ∃ k : Nat, k ≤ (bookingsFor us use).1.length ∧ i = .int .i64 k ∧ Below w19.heap.size w19 wr) (fun i _ => (bookingsFor us use).1.length - (intOf i).toNat)
    case atStart => exact ⟨0, Nat.zero_le _, rfl, Below.refl _ _⟩
    case round =>
      obtain ⟨k, hk, rfl, hbel⟩ := hrel
      have z9 := hbel.size
      by_cases hlt : k < (bookingsFor us use).1.length
      · have hki : (k : Int) < ((bookingsFor us use).1.length : Int) := by omega
        obtain ⟨x, b5, off, HS, rfl, -, hbw, hcell⟩ := RdF.get hu12.rd hbel (by omega) hlt
        have x1 : wr.cell? ⟨b5, off + k, none⟩ = some (.int .i64 x) := by simpa [encInt] using hcell 0 _ rfl
        obtain ⟨i, y, rfl, hi, hy⟩ := mem_bookingsFor (List.mem_of_getElem? HS.out)
        have hil : i < us.length := (List.getElem?_eq_some_iff.1 hi).1
        have hii : (i : Int) < (us.length : Int) := by omega
        obtain ⟨y', b6, off6, HS6, rfl, -, hbw6, hcell6⟩ := RdF.get h4 hbel (by omega) hil
        obtain rfl : y' = y := by have := HS6.out; rw [hi] at this; injection this with this; exact this.symm
        have x2 := hcell6 4 _ rfl
        have hy2 : y'.use.toList = use.toList := by simpa [useIs] using hy
        clear hcell hcell6 hy hi
        go_wp2_with fail
        go_roundw
        case rel => exact ⟨k + 1, by omega, by go_num, by (repeat (first | with_reducible assumption | with_reducible exact Below.refl _ _ | with_reducible refine Below.setCell ?_ ?_ _ | with_reducible refine Below.alloc ?_ ?_ _ | with_reducible refine Below.drew ?_ | with_reducible refine below_drewN ?_ _ | with_reducible refine Below.step (by with_reducible assumption) ?_ ?_ | omega | (simp <;> omega) | (simp; done)))⟩
        case measure => simp [intOf]; omega
      · have BB2 := Below.step hbel (by omega) BB
        have z10 := hbel.size
        replace h1 := h1.below hbel (by omega)
        replace h2 := h2.below hbel (by omega)
        replace h4 := h4.below hbel (by omega)
        replace hu12 := hu12.below hbel (by omega)
        replace BB := BB2
        clear BB2 hbel
        by_cases hz0 : ¬ (firstFree xs room day len).2 = 0
        · generalize (firstFree xs room day len).2 = bd at *
          have hz' : (bd != 0) = true := by simpa using hz0
          go_wp2_with fail
          go_ret
          exact ⟨rfl, by (repeat (first | with_reducible assumption | with_reducible exact Below.refl _ _ | with_reducible refine Below.setCell ?_ ?_ _ | with_reducible refine Below.alloc ?_ ?_ _ | with_reducible refine Below.drew ?_ | with_reducible refine below_drewN ?_ _ | with_reducible refine Below.step (by with_reducible assumption) ?_ ?_ | omega | (simp <;> omega) | (simp; done)))⟩
        · have hz1 : (firstFree xs room day len).2 = 0 := by simpa using hz0
          obtain ⟨g1, g2, g3, g4, g5, g6⟩ := firstFree_yes (u := ⟨#[97]⟩) hz1 (by decide)
          rw [hz1]
          generalize (firstFree xs room day len).1 = f at *
          go_wp2_with fail
          refine (addBooking_any _ xs _ _ ⟨room, day, f, f + len, ⟨#[97]⟩⟩ _ h1 (by omega) (by omega) hs1 (by show (⟨#[97]⟩ : ByteArray).size ≤ 1048576; decide)).mono ?_
          rintro e w70 ⟨yn, rfl, hn, b70⟩
          have zb70 := b70.size
          replace h1 := h1.below b70 (by omega)
          replace h2 := h2.below b70 (by omega)
          replace h4 := h4.below b70 (by omega)
          replace hu12 := hu12.below b70 (by omega)
          replace BB := Below.step b70 (by omega) BB
          clear b70
          obtain ⟨An, cn, rfl, hcn⟩ := hn.rd.form
          go_wp2_with fail
          refine (roomsFree_any _ xs _ _ day f (f + len) _ h1 (by omega) (by omega) hs1).mono ?_
          rintro e w71 ⟨yf, rfl, hf, b71⟩
          have zb71 := b71.size
          replace h1 := h1.below b71 (by omega)
          replace h2 := h2.below b71 (by omega)
          replace h4 := h4.below b71 (by omega)
          replace hu12 := hu12.below b71 (by omega)
          replace hn := hn.below b71 (by omega)
          replace BB := Below.step b71 (by omega) BB
          clear b71
          have hfl := roomsFree_len xs day f (f + len)
          rw [g5]
          rcases g4 with g4 | ⟨g4, g4'⟩
          · rw [g4]
            go_wp2_with fail
            refine (hasIntL_any _ (roomsFree xs day f (f + len)).1 _ _ room _ hf.rd (by omega) hfl).mono ?_
            rintro e w72 ⟨rfl, b72⟩
            have zb72 := b72.size
            replace h1 := h1.below b72 (by omega)
            replace h2 := h2.below b72 (by omega)
            replace h4 := h4.below b72 (by omega)
            replace hu12 := hu12.below b72 (by omega)
            replace hn := hn.below b72 (by omega)
            replace hf := hf.below b72 (by omega)
            replace BB := Below.step b72 (by omega) BB
            clear b72
            rw [g6]
            go_wp2_with fail
            go_ret
            exact ⟨by first | rfl | exact ret_bool (by simp_all), by (repeat (first | with_reducible assumption | with_reducible exact Below.refl _ _ | with_reducible refine Below.setCell ?_ ?_ _ | with_reducible refine Below.alloc ?_ ?_ _ | with_reducible refine Below.drew ?_ | with_reducible refine below_drewN ?_ _ | with_reducible refine Below.step (by with_reducible assumption) ?_ ?_ | omega | (simp <;> omega) | (simp; done)))⟩
          · have g4n : ((((addBooking xs ⟨room, day, f, f + len, ⟨#[97]⟩⟩).1.length : Nat) : Int) == (xs.length : Int) + 1) = true := by simp; omega
            rw [g4]
            clear g4'
            go_wp2_with fail
            refine (hasIntL_any _ (roomsFree xs day f (f + len)).1 _ _ room _ hf.rd (by omega) hfl).mono ?_
            rintro e w72 ⟨rfl, b72⟩
            have zb72 := b72.size
            replace h1 := h1.below b72 (by omega)
            replace h2 := h2.below b72 (by omega)
            replace h4 := h4.below b72 (by omega)
            replace hu12 := hu12.below b72 (by omega)
            replace hn := hn.below b72 (by omega)
            replace hf := hf.below b72 (by omega)
            replace BB := Below.step b72 (by omega) BB
            clear b72
            rw [g6]
            go_wp2_with fail
            go_ret
            exact ⟨by first | rfl | exact ret_bool (by simp_all), by (repeat (first | with_reducible assumption | with_reducible exact Below.refl _ _ | with_reducible refine Below.setCell ?_ ?_ _ | with_reducible refine Below.alloc ?_ ?_ _ | with_reducible refine Below.drew ?_ | with_reducible refine below_drewN ?_ _ | with_reducible refine Below.step (by with_reducible assumption) ?_ ?_ | omega | (simp <;> omega) | (simp; done)))⟩
  · have h10' : ((addBooking ys b).2 == 0) = false := by simpa using h10
    generalize (addBooking ys b).2 = one at *
    clear ha6
    go_wp2_with fail
    go_loopw [31] (fun i wr => ∃ k : Nat, k ≤ (bookingsFor us use).1.length ∧ i = .int .i64 k ∧ Below w18.heap.size w18 wr) (fun i _ => (bookingsFor us use).1.length - (intOf i).toNat)
    case atStart => exact ⟨0, Nat.zero_le _, rfl, Below.refl _ _⟩
    case round =>
      obtain ⟨k, hk, rfl, hbel⟩ := hrel
      have z9 := hbel.size
      by_cases hlt : k < (bookingsFor us use).1.length
      · have hki : (k : Int) < ((bookingsFor us use).1.length : Int) := by omega
        obtain ⟨x, b5, off, HS, rfl, -, hbw, hcell⟩ := RdF.get hu12.rd hbel (by omega) hlt
        have x1 : wr.cell? ⟨b5, off + k, none⟩ = some (.int .i64 x) := by simpa [encInt] using hcell 0 _ rfl
        obtain ⟨i, y, rfl, hi, hy⟩ := mem_bookingsFor (List.mem_of_getElem? HS.out)
        have hil : i < us.length := (List.getElem?_eq_some_iff.1 hi).1
        have hii : (i : Int) < (us.length : Int) := by omega
        obtain ⟨y', b6, off6, HS6, rfl, -, hbw6, hcell6⟩ := RdF.get h4 hbel (by omega) hil
        obtain rfl : y' = y := by have := HS6.out; rw [hi] at this; injection this with this; exact this.symm
        have x2 := hcell6 4 _ rfl
        have hy2 : y'.use.toList = use.toList := by simpa [useIs] using hy
        clear hcell hcell6 hy hi
        go_wp2_with fail
        go_roundw
        case rel => exact ⟨k + 1, by omega, by go_num, by (repeat (first | with_reducible assumption | with_reducible exact Below.refl _ _ | with_reducible refine Below.setCell ?_ ?_ _ | with_reducible refine Below.alloc ?_ ?_ _ | with_reducible refine Below.drew ?_ | with_reducible refine below_drewN ?_ _ | with_reducible refine Below.step (by with_reducible assumption) ?_ ?_ | omega | (simp <;> omega) | (simp; done)))⟩
        case measure => simp [intOf]; omega
      · have BB2 := Below.step hbel (by omega) BB
        have z10 := hbel.size
        replace h1 := h1.below hbel (by omega)
        replace h2 := h2.below hbel (by omega)
        replace h4 := h4.below hbel (by omega)
        replace hu12 := hu12.below hbel (by omega)
        replace BB := BB2
        clear BB2 hbel
        by_cases hz0 : ¬ (firstFree xs room day len).2 = 0
        · generalize (firstFree xs room day len).2 = bd at *
          have hz' : (bd != 0) = true := by simpa using hz0
          go_wp2_with fail
          go_ret
          exact ⟨rfl, by (repeat (first | with_reducible assumption | with_reducible exact Below.refl _ _ | with_reducible refine Below.setCell ?_ ?_ _ | with_reducible refine Below.alloc ?_ ?_ _ | with_reducible refine Below.drew ?_ | with_reducible refine below_drewN ?_ _ | with_reducible refine Below.step (by with_reducible assumption) ?_ ?_ | omega | (simp <;> omega) | (simp; done)))⟩
        · have hz1 : (firstFree xs room day len).2 = 0 := by simpa using hz0
          obtain ⟨g1, g2, g3, g4, g5, g6⟩ := firstFree_yes (u := ⟨#[97]⟩) hz1 (by decide)
          rw [hz1]
          generalize (firstFree xs room day len).1 = f at *
          go_wp2_with fail
          refine (addBooking_any _ xs _ _ ⟨room, day, f, f + len, ⟨#[97]⟩⟩ _ h1 (by omega) (by omega) hs1 (by show (⟨#[97]⟩ : ByteArray).size ≤ 1048576; decide)).mono ?_
          rintro e w69 ⟨yn, rfl, hn, b69⟩
          have zb69 := b69.size
          replace h1 := h1.below b69 (by omega)
          replace h2 := h2.below b69 (by omega)
          replace h4 := h4.below b69 (by omega)
          replace hu12 := hu12.below b69 (by omega)
          replace BB := Below.step b69 (by omega) BB
          clear b69
          obtain ⟨An, cn, rfl, hcn⟩ := hn.rd.form
          go_wp2_with fail
          refine (roomsFree_any _ xs _ _ day f (f + len) _ h1 (by omega) (by omega) hs1).mono ?_
          rintro e w70 ⟨yf, rfl, hf, b70⟩
          have zb70 := b70.size
          replace h1 := h1.below b70 (by omega)
          replace h2 := h2.below b70 (by omega)
          replace h4 := h4.below b70 (by omega)
          replace hu12 := hu12.below b70 (by omega)
          replace hn := hn.below b70 (by omega)
          replace BB := Below.step b70 (by omega) BB
          clear b70
          have hfl := roomsFree_len xs day f (f + len)
          rw [g5]
          rcases g4 with g4 | ⟨g4, g4'⟩
          · rw [g4]
            go_wp2_with fail
            refine (hasIntL_any _ (roomsFree xs day f (f + len)).1 _ _ room _ hf.rd (by omega) hfl).mono ?_
            rintro e w71 ⟨rfl, b71⟩
            have zb71 := b71.size
            replace h1 := h1.below b71 (by omega)
            replace h2 := h2.below b71 (by omega)
            replace h4 := h4.below b71 (by omega)
            replace hu12 := hu12.below b71 (by omega)
            replace hn := hn.below b71 (by omega)
            replace hf := hf.below b71 (by omega)
            replace BB := Below.step b71 (by omega) BB
            clear b71
            rw [g6]
            go_wp2_with fail
            go_ret
            exact ⟨by first | rfl | exact ret_bool (by simp_all), by (repeat (first | with_reducible assumption | with_reducible exact Below.refl _ _ | with_reducible refine Below.setCell ?_ ?_ _ | with_reducible refine Below.alloc ?_ ?_ _ | with_reducible refine Below.drew ?_ | with_reducible refine below_drewN ?_ _ | with_reducible refine Below.step (by with_reducible assumption) ?_ ?_ | omega | (simp <;> omega) | (simp; done)))⟩
          · have g4n : ((((addBooking xs ⟨room, day, f, f + len, ⟨#[97]⟩⟩).1.length : Nat) : Int) == (xs.length : Int) + 1) = true := by simp; omega
            rw [g4]
            clear g4'
            go_wp2_with fail
            refine (hasIntL_any _ (roomsFree xs day f (f + len)).1 _ _ room _ hf.rd (by omega) hfl).mono ?_
            rintro e w71 ⟨rfl, b71⟩
            have zb71 := b71.size
            replace h1 := h1.below b71 (by omega)
            replace h2 := h2.below b71 (by omega)
            replace h4 := h4.below b71 (by omega)
            replace hu12 := hu12.below b71 (by omega)
            replace hn := hn.below b71 (by omega)
            replace hf := hf.below b71 (by omega)
            replace BB := Below.step b71 (by omega) BB
            clear b71
            rw [g6]
            go_wp2_with fail
            go_ret
            exact ⟨by first | rfl | exact ret_bool (by simp_all), by (repeat (first | with_reducible assumption | with_reducible exact Below.refl _ _ | with_reducible refine Below.setCell ?_ ?_ _ | with_reducible refine Below.alloc ?_ ?_ _ | with_reducible refine Below.drew ?_ | with_reducible refine below_drewN ?_ _ | with_reducible refine Below.step (by with_reducible assumption) ?_ ?_ | omega | (simp <;> omega) | (simp; done)))⟩

set_option maxRecDepth 100000 in
theorem lifted (os : Os) (started : os.Started) (H : Type) (enc : TypeId × Value → H) :
    ReturnsInHanded {} Try.checked os 11 .any (Rows.fnRoomsSpec.pre6 enc Try.prog Try.f11 Rows.fnRoomsRow.domain false) (Rows.fnRoomsSpec.post enc Try.prog Try.f11 false true false false) := by
  refine returnsInHanded_of_change (C := Try.checked) own started (by kernel_rfl) Try.func11
    (ChangeSpec.witness6 (enc := enc) (C := Try.checked) false ⟨#[], #[.slice none 0 0], []⟩ 8 (by kernel_rfl) (by kernel_rfl) (by kernel_rfl) (by kernel_rfl)) ?_
  intro W base args ds gs before hval0 hW hcnd _
  have hval : ∀ (j : Nat) t v, Try.f11.params[j]? = some t → args[j]? = some v → Value.okWide Try.prog W .any base t v := hval0
  have hW' := hW
  obtain ⟨p, q, hA0, hV, rfl, hfz, hnd⟩ := hW
  have hA : DataW.TrodAll enc Try.prog W 0 (fun _ => true) true Try.f11.params.toList args.toList ds p := hA0
  rw [Try.params11] at hA hval
  obtain ⟨v0, vs0, d0, ds0, p0, q0, hargs, rfl, rfl, h0, r0⟩ := trodAll_cons hA
  obtain ⟨rfl, rfl, rfl⟩ := trodAll_nil r0
  obtain rfl : args = #[v0] := by cases args; simp_all
  obtain ⟨rfl, rfl⟩ := trodVars_none hV
  have k0 := h0
  have lt0 : ∀ x ∈ p0, x.block < W.heap.size := by obtain ⟨m, hm⟩ := k0; exact DataW.trod_lt m _ _ _ hm
  obtain ⟨code, hx0, hl0, hq0⟩ := open_bytes Try.underlying52 Try.underlying5 (by kernel_rfl) (hval 0 52 v0 rfl rfl) h0
  clear hA0 hval0
  refine (walk v0 code W hx0 hl0 hq0).mono fun e W' ⟨he, bel⟩ => ?_
  subst he
  exact ⟨_, rfl, _, _, _, [], _, [], hW', trodAll_mk1 (shut_bool Try.underlying4 _), (trodAll_cons_mk (Below.trod laidOut (by kernel_rfl) (of_decide_eq_true (by kernel_rfl)) k0 bel lt0) trodAll_mk0), rfl, bel.frame _, fun h => by cases h⟩

theorem over : Rows.fnRoomsRow.holds Try.pinned (OpenSpec.ofChange Rows.fnRoomsSpec) :=
  OpenClaim.holds_of_wide 11 Try.f11 rfl rfl rfl rfl rfl rfl rfl ⟨rfl, rfl, rfl, rfl, rfl⟩ rfl rfl rfl rfl rfl (by kernel_rfl) Try.func11 (by kernel_rfl)
    (of_decide_eq_true (by kernel_rfl)) (by unfold Func.isWrapper; first | (rw [if_pos (by decide +kernel)]; kernel_rfl) | (rw [if_neg (by decide +kernel)]; exact ⟨rfl, rfl⟩))
    (fun os started H enc _ => lifted os started H enc)

theorem proved : Rows.FnRoomsSaid := over
#print axioms proved
end Go.Proofs.Ythodceeioinnoaa.rooms
