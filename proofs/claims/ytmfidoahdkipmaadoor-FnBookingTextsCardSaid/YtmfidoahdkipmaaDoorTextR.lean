/- Reading a booking's text, on both sides. -/
import Derived.Test.YtmfidoahdkipmaaDoorTextS
namespace Go.Proofs.YtmfidoahdkipmaaDoor
open Go.RowKit
set_option linter.unusedVariables false

theorem five_of {L : List ByteArray} (h : L.length = 5) : ∃ a b c d u, L = [a, b, c, d, u] := by
  match L, h with
  | [a, b, c, d, u], _ => exact ⟨a, b, c, d, u, rfl⟩
theorem readWith_len {f : ByteArray → Option Int} {s : ByteArray} (h : ¬ (piecesB s).length = 5) : readWith f s = (noBook, 6) := by
  unfold readWith
  split
  · next e => rw [e] at h; exact absurd rfl h
  · rfl
theorem readWith_bad {f : ByteArray → Option Int} {s a b c d u : ByteArray} (hp : piecesB s = [a, b, c, d, u]) (h : numsOf f [a, b, c, d] = none) : readWith f s = (noBook, 6) := by
  unfold readWith
  rw [hp]
  simp only [numsOf] at h
  simp only [bookOf]
  cases ha : f a <;> cases hb : f b <;> cases hc : f c <;> cases hd : f d <;> first | rfl | (rw [ha, hb, hc, hd] at h; simp at h)
theorem readWith_good {f : ByteArray → Option Int} {s a b c d u : ByteArray} {ns : List Int} (hp : piecesB s = [a, b, c, d, u]) (h : numsOf f [a, b, c, d] = some ns) : ∃ n0 n1 n2 n3, ns = [n0, n1, n2, n3] ∧ readWith f s = if (Booking.mk n0 n1 n2 n3 u).ok = true then (⟨n0, n1, n2, n3, u⟩, 0) else (noBook, 6) := by
  unfold readWith
  rw [hp]
  simp only [numsOf] at h
  simp only [bookOf]
  cases ha : f a with
  | none => rw [ha] at h; cases h
  | some n0 =>
    cases hb : f b with
    | none => rw [ha, hb] at h; cases h
    | some n1 =>
      cases hc : f c with
      | none => rw [ha, hb, hc] at h; cases h
      | some n2 =>
        cases hd : f d with
        | none => rw [ha, hb, hc, hd] at h; cases h
        | some n3 =>
          rw [ha, hb, hc, hd] at h
          injection h with h
          exact ⟨n0, n1, n2, n3, h.symm, rfl⟩
theorem RdF.first {α : Type} {enc : α → List Value} {sz : Nat} {w : World} {lo hi c n : Nat} {A : Option Addr} {xs : List α} (h : RdF enc sz w lo hi (.slice A n c) xs) (k : Nat) (hk : k ≤ xs.length) (h0 : 0 < xs.length) : RdF enc sz w lo hi (.slice A k c) (xs.take k) := by
  obtain ⟨A', c', e, hc, hA⟩ := h
  injection e with e1 e2 e3
  subst e1 e3
  obtain ⟨b, off, rfl, h4, h5, h6⟩ := hA h0
  exact RdF.take hk hc h4 h5 h6
theorem split_any (s : ByteArray) (w : World) (hT : Tabs w) (hs : s.size ≤ 1048576) :
    Calls Tryd.prog 23 #[.string s, .string ⟨#[47]⟩] w fun e w' => ∃ v : Value, e = .returned v ∧ OwnL encStr 1 9 w' w.heap.size v (piecesB s) ∧ Below w.heap.size w w' := by
  obtain ⟨-, -, -, m, hm⟩ := hT
  refine (Tryd.strings_Split s ⟨#[47]⟩ m w (by omega) hm (by decide)).mono ?_
  rintro e w' ⟨rfl, rfl⟩
  have hc := piecesB_count s
  have hl := piecesB_le s
  have hle : (piecesB s).length ≤ maxLen := by unfold maxLen; omega
  refine ⟨_, rfl, ?_, (Below.refl _ _).alloc (Nat.le_refl _) _⟩
  rw [splitB_pieces, hc]
  have hf : (piecesB s).flatMap encStr = (piecesB s).map Value.string := by
    induction piecesB s with
    | nil => rfl
    | cons x xs ih => rw [List.flatMap_cons, ih]; rfl
  refine ⟨by rw [hf]; simp, .inr ⟨w.heap.size, (piecesB s).length, ((piecesB s).map Value.string).toArray, rfl, Nat.le_refl _, Blk.new w 9 _, Nat.le_refl _, hle, by simp, ?_⟩⟩
  rw [hf, List.take_of_length_le (by simp)]
theorem readDec_ok {s : ByteArray} {n : Int} (h : Lib.parseIntB 64 s.data.toList = .ok n) (he : numB n = s) : readDec s = some n := by
  unfold readDec
  rw [h]
  simp only
  rw [if_pos (by rw [← he, numB_data])]
theorem readDec_bad {s : ByteArray} {n : Int} (h : Lib.parseIntB 64 s.data.toList = .ok n) (he : ¬ numB n = s) : readDec s = none := by
  unfold readDec
  rw [h]
  simp only
  rw [if_neg]
  intro e
  apply he
  unfold numB
  rw [e]
theorem readDec_syn {s : ByteArray} (h : Lib.parseIntB 64 s.data.toList = Lib.NumEnd.ofOption none) : readDec s = none := by unfold readDec; rw [h]; rfl
theorem readDec_rng {s : ByteArray} (h : Lib.parseIntB 64 s.data.toList = .range) : readDec s = none := by unfold readDec; rw [h]
set_option maxRecDepth 100000 in
set_option maxHeartbeats 2000000 in
theorem readDecimal_any (s : ByteArray) (w : World) (hT : Tabs w) (hs : s.size ≤ 1048576) :
    Calls Tryd.prog 45 #[.string s] w fun e w' => ∃ n : Int, e = .returned (.tuple #[.int .i64 n, .bool (readDec s).isSome]) ∧ (∀ m, readDec s = some m → n = m) ∧ Below w.heap.size w w' := by
  have hT0 := hT
  obtain ⟨hten, ⟨t1, p1, hv1⟩, ⟨t2, p2, hv2⟩, -⟩ := hT
  rcases h : Lib.parseIntB 64 s.data.toList with n | _ | _
  · have hbd := Lib.parseIntB_bounds h
    obtain ⟨hb0, hb1⟩ := hbd
    go_enter Tryd.func45, Tryd.ntmps45
    go_wp2_with fail
    refine (Tryd.strconv_ParseInt_10_at64_ok s (by omega) n h w).mono ?_
    rintro e w1 ⟨rfl, hw1⟩
    have b1 : Below w.heap.size w w1 := by
      rcases hw1 with rfl | ⟨t, rfl⟩
      · exact Below.refl _ _
      · exact below_bytes w _ t
    have hten1 := hten.below b1
    have z1 := b1.size
    by_cases he : numB n = s
    · have HR := Lib.hid (readDec_ok h he)
      have HE := Lib.hid he
      go_wp2_with fail
      refine (decimal_any n _ hten1 (by omega) (by omega)).mono ?_
      rintro e w2 ⟨rfl, b2⟩
      rw [HE.out]
      go_wp2_with fail
      go_ret2
      exact ⟨n, by rw [HR.out] <;> rfl, fun m hm => (by rw [HR.out] at hm; injection hm), Below.step b2 (by omega) b1⟩
    · have HR := Lib.hid (readDec_bad h he)
      have hne : ((numB n).toList == s.toList) = false := by
        rw [Bool.eq_false_iff]
        intro e
        exact he (toList_inj.1 (beq_iff_eq.1 e))
      go_wp2_with fail
      refine (decimal_any n _ hten1 (by omega) (by omega)).mono ?_
      rintro e w2 ⟨rfl, b2⟩
      go_wp2_with fail
      go_ret2
      exact ⟨0, by rw [HR.out] <;> rfl, fun m hm => (by rw [HR.out] at hm; cases hm), Below.step b2 (by omega) b1⟩
  · have HR := Lib.hid (readDec_syn h)
    go_enter Tryd.func45, Tryd.ntmps45
    go_wp2_with fail
    refine (Tryd.strconv_ParseInt_10_at64_syntax_var s (by omega) h t1 p1 w hv1).mono ?_
    rintro e w1 ⟨N, rfl, -, -, b1⟩
    go_wp2_with fail
    go_ret2
    exact ⟨0, by rw [HR.out] <;> rfl, fun m hm => (by rw [HR.out] at hm; cases hm), b1⟩
  · have HR := Lib.hid (readDec_rng h)
    go_enter Tryd.func45, Tryd.ntmps45
    go_wp2_with fail
    refine (Tryd.strconv_ParseInt_10_at64_range_var s (by omega) h t2 p2 w hv2).mono ?_
    rintro e w1 ⟨N, rfl, -, -, b1⟩
    go_wp2_with fail
    go_ret2
    exact ⟨0, by rw [HR.out] <;> rfl, fun m hm => (by rw [HR.out] at hm; cases hm), b1⟩
set_option maxRecDepth 100000 in
set_option maxHeartbeats 2000000 in
theorem readDecimals_any (v : Value) (xs : List ByteArray) (lo hi : Nat) (w : World) (hT : Tabs w) (h : RdF encStr 1 w lo hi v xs) (hh : hi ≤ w.heap.size) (hm : xs.length ≤ 1048576) (hb : ∀ x ∈ xs, x.size ≤ 1048576) :
    Calls Tryd.prog 24 #[v] w fun e w' => ∃ v' : Value, e = .returned (.tuple #[v', .bool (numsOf readDec xs).isSome]) ∧ OwnL encInt 1 2 w' w.heap.size v' ((numsOf readDec xs).getD []) ∧ Below w.heap.size w w' := by
  obtain ⟨A, c, rfl, hc⟩ := h.form
  have HB := Lib.hid hb; clear hb
  go_enter Tryd.func24, Tryd.ntmps24
  go_wp2_with fail
  go_loopw [4, 12] (fun o i wr => ∃ (k : Nat) (ns : List Int), k ≤ xs.length ∧ i = .int .i64 k ∧ ns.length = k ∧ Hid (numsOf readDec (xs.take k) = some ns) ∧ OwnL encInt 1 2 wr w.heap.size o ns ∧ Below w.heap.size w wr) (fun _ i _ => xs.length - (intOf i).toNat)
  case atStart => exact ⟨0, [], Nat.zero_le _, rfl, rfl, rfl, OwnL.emptyAt rfl (Nat.le_refl _), (Below.refl _ _).alloc (Nat.le_refl _) _⟩
  case round =>
    obtain ⟨k, ns, hk, rfl, hn, HN, ho, hbel⟩ := hrel
    have z0 := hbel.size
    by_cases hlt : k < xs.length
    · have hki : (k : Int) < (xs.length : Int) := by omega
      obtain ⟨x, b, off, HS, rfl, -, hbw, hcell⟩ := RdF.get h hbel hh hlt
      have x1 : wr.cell? ⟨b, off + k, none⟩ = some (.string x) := by simpa [encStr] using hcell 0 _ rfl
      clear hcell
      have hx := HB.out x (List.mem_of_getElem? HS.out)
      go_wp2_with fail
      refine (readDecimal_any x _ (hT.below hbel) hx).mono ?_
      rintro e w1 ⟨n, rfl, hrn, b1⟩
      have z1 := b1.size
      have ho1 := ho.below b1
      have hbel1 : Below w.heap.size w w1 := Below.step b1 (by omega) hbel
      cases hok : readDec x with
      | some m =>
        obtain rfl := hrn m hok
        have HT := Lib.hid (numsOf_take HN.out HS.out hok)
        rw [show (some n).isSome = true from rfl]
        go_wp2_with (at_builtin; refine wpList_push (enc := encInt) _ _ (by first | rfl | simp) rfl (.tmp 23) (.tmp 25) 44 rfl w.heap.size 2 _ (.int .i64 0) 1 8 Tryd.underlying44 (by kernel_rfl) rfl (by omega) _ ns _ _ rfl rfl (encInt_unit _) rfl rfl ho1 (by omega) (by omega) (by (first | omega | (simp; omega) | (simp; done))) ?_; intro v9 w9 hown9 hg9 hk9)
        go_roundw
        case rel => exact ⟨k + 1, _, by omega, by go_num, by simp; omega, HT.out, hown9, hk9 _ _ (Nat.le_refl _) hbel1⟩
        case measure => simp [intOf] <;> omega
      | none =>
        have HT := Lib.hid (numsOf_bad (f := readDec) (List.mem_of_getElem? HS.out) hok)
        rw [show (none : Option Int).isSome = false from rfl]
        go_wp2_with fail
        go_ret2
        exact ⟨.slice none 0 0, by rw [HT.out] <;> rfl, by rw [HT.out]; exact ⟨rfl, .inl ⟨rfl, rfl⟩⟩, hbel1⟩
    · have HT : Hid (numsOf readDec xs = some ns) := Lib.hid (by
        have e := HN.out
        rw [List.take_of_length_le (by omega)] at e
        exact e)
      go_wp2_with fail
      go_ret2
      exact ⟨_, by rw [HT.out] <;> rfl, by rw [HT.out]; exact ho, hbel⟩

set_option maxRecDepth 100000 in
set_option maxHeartbeats 8000000 in
theorem sReadBooking_anyW (s : ByteArray) (w : World) (hs : s.size ≤ 1048576) :
    Calls Tryd.prog 10 #[.string s] w fun e w' => e = .returned (.tuple #[.agg #[.int .i64 (readWith readSig s).1.room, .int .i64 (readWith readSig s).1.day, .int .i64 (readWith readSig s).1.frm, .int .i64 (readWith readSig s).1.to_, .string (readWith readSig s).1.use], .int .i64 (readWith readSig s).2]) ∧ Below w.heap.size w w' := by
  have b0 : Below w.heap.size w (w.alloc (.cells #[.int .i64 0, .int .i64 0, .int .i64 0, .int .i64 0, .string ⟨#[]⟩] 27)) := (Below.refl _ _).alloc (Nat.le_refl _) _
  have z0 : w.heap.size < (w.alloc (.cells #[.int .i64 0, .int .i64 0, .int .i64 0, .int .i64 0, .string ⟨#[]⟩] 27)).heap.size := by simp
  have kR : Blk (w.alloc (.cells #[.int .i64 0, .int .i64 0, .int .i64 0, .int .i64 0, .string ⟨#[]⟩] 27)) w.heap.size 27 #[.int .i64 0, .int .i64 0, .int .i64 0, .int .i64 0, .string ⟨#[]⟩] := Blk.newAt rfl
  go_enter Tryd.func10, Tryd.ntmps10
  go_wp2_with fail
  refine (l01Split_any s _ hs).mono ?_
  rintro e w1 ⟨v, rfl, ho, b1⟩
  have BB : Below w.heap.size w w1 := Below.step b1 (by omega) b0
  have z1 := b1.size
  replace kR := kR.below b1 (by omega)
  generalize (w.alloc (.cells #[.int .i64 0, .int .i64 0, .int .i64 0, .int .i64 0, .string ⟨#[]⟩] 27)) = W0 at *
  clear b1 b0
  obtain ⟨A, C, rfl, hC⟩ := (ho.rdw (fun _ => rfl)).rd.form
  by_cases h5 : (piecesB s).length = 5
  rotate_left
  · have HR := Lib.hid (readWith_len (f := readSig) h5)
    have h5i : (((piecesB s).length : Int) != 5) = true := by simp; omega
    clear h5
    obtain ⟨q0, q1, q2, q3, q4⟩ := kR.c5
    have f0 := kR.frozen 0
    have f1 := kR.frozen 1
    have f2 := kR.frozen 2
    have f3 := kR.frozen 3
    have f4 := kR.frozen 4
    go_wp2_with fail
    refine bodyPost_ret (v := .tuple #[.agg #[.int .i64 0, .int .i64 0, .int .i64 0, .int .i64 0, .string ⟨#[]⟩], .int .i64 6]) (by simp [results, Tryd.results10, go_sem, *]) rfl ?_
    exact ⟨by rw [HR.out] <;> rfl, by (repeat (first | with_reducible assumption | with_reducible exact Below.refl _ _ | with_reducible refine Below.setCell ?_ ?_ _ | with_reducible refine Below.alloc ?_ ?_ _ | with_reducible refine Below.drew ?_ | with_reducible refine below_drewN ?_ _ | with_reducible refine Below.step (by with_reducible assumption) ?_ ?_ | omega | (simp <;> omega) | (simp; done)))⟩
  obtain ⟨a, b, c, d, u, hp⟩ := five_of h5
  have hsz : ∀ x ∈ piecesB s, x.size ≤ 1048576 := fun x hx => Nat.le_trans (piecesB_len hx) hs
  have hx4 : ∀ x ∈ [a, b, c, d], x.size ≤ 1048576 := fun x hx => hsz x (by rw [hp]; simp only [List.mem_cons, List.not_mem_nil, or_false] at hx ⊢; rcases hx with h | h | h | h <;> simp [h])
  have hu : u.size ≤ 1048576 := hsz u (by rw [hp]; simp)
  have HP := Lib.hid hp
  rw [h5] at ho hC ⊢
  rw [hp] at ho
  clear h5 hp hsz
  have hr4 := RdF.first (ho.rdw (fun _ => rfl)).rd 4 (by simp) (by simp)
  obtain ⟨A', C', eA, -, hA⟩ := (ho.rdw (fun _ => rfl)).rd
  injection eA with e1 e2 e3
  subst e1 e3
  obtain ⟨g, off, rfl, hlo, hbw, hcell⟩ := hA (by simp)
  have y4 : w1.cell? ⟨g, off + 4, none⟩ = some (.string u) := by simpa [encStr] using hcell 4 u rfl 0 _ rfl
  clear hcell hA
  have hC4 : (4 : Int) ≤ (C : Int) := by omega
  change RdF encStr 1 w1 _ _ (.slice (some ⟨g, off, none⟩) 4 C) [a, b, c, d] at hr4
  go_wp2_with fail
  refine (l01Numbers_any _ [a, b, c, d] _ _ _ hr4 (by omega) (by simp) hx4).mono ?_
  rintro e w2 ⟨v2, rfl, ho2, b2⟩
  have z2 := b2.size
  replace y4 : w2.cell? ⟨g, off + 4, none⟩ = some (.string u) := (b2.cell (p := ⟨g, off + 4, none⟩) (by show g < _; omega)).trans y4
  replace kR := kR.below b2 (by omega)
  replace BB := Below.step b2 (by omega) BB
  clear b2 hr4 ho
  cases hn : numsOf readSig [a, b, c, d] with
  | none =>
    have HR := Lib.hid (readWith_bad HP.out hn)
    rw [show (none : Option (List Int)).isSome = false from rfl]
    obtain ⟨q0, q1, q2, q3, q4⟩ := kR.c5
    have f0 := kR.frozen 0
    have f1 := kR.frozen 1
    have f2 := kR.frozen 2
    have f3 := kR.frozen 3
    have f4 := kR.frozen 4
    go_wp2_with fail
    refine bodyPost_ret (v := .tuple #[.agg #[.int .i64 0, .int .i64 0, .int .i64 0, .int .i64 0, .string ⟨#[]⟩], .int .i64 6]) (by simp [results, Tryd.results10, go_sem, *]) rfl ?_
    exact ⟨by rw [HR.out] <;> rfl, by (repeat (first | with_reducible assumption | with_reducible exact Below.refl _ _ | with_reducible refine Below.setCell ?_ ?_ _ | with_reducible refine Below.alloc ?_ ?_ _ | with_reducible refine Below.drew ?_ | with_reducible refine below_drewN ?_ _ | with_reducible refine Below.step (by with_reducible assumption) ?_ ?_ | omega | (simp <;> omega) | (simp; done)))⟩
  | some ns =>
    obtain ⟨n0, n1, n2, n3, rfl, hR⟩ := readWith_good HP.out hn
    have HR := Lib.hid hR
    rw [hn] at ho2
    change OwnL encInt 1 2 w2 _ v2 [n0, n1, n2, n3] at ho2
    rw [show (some [n0, n1, n2, n3]).isSome = true from rfl]
    clear hR hn
    obtain ⟨A2, C2, rfl, hC2, hA2⟩ := (ho2.rdw (fun _ => rfl)).rd
    obtain ⟨g2, off2, rfl, hlo2, hbw2, hcell2⟩ := hA2 (by simp)
    have x0 : w2.cell? ⟨g2, off2, none⟩ = some (.int .i64 n0) := by simpa [encInt] using hcell2 0 n0 rfl 0 _ rfl
    have x1 : w2.cell? ⟨g2, off2 + 1, none⟩ = some (.int .i64 n1) := by simpa [encInt] using hcell2 1 n1 rfl 0 _ rfl
    have x2 : w2.cell? ⟨g2, off2 + 2, none⟩ = some (.int .i64 n2) := by simpa [encInt] using hcell2 2 n2 rfl 0 _ rfl
    have x3 : w2.cell? ⟨g2, off2 + 3, none⟩ = some (.int .i64 n3) := by simpa [encInt] using hcell2 3 n3 rfl 0 _ rfl
    clear hcell2 hA2 ho2
    go_wp2_with fail
    go_region_held3 (fun w' => w'.cell? ⟨g2, off2, none⟩ = some (.int .i64 n0) ∧ w'.cell? ⟨g2, off2 + 1, none⟩ = some (.int .i64 n1) ∧ w'.cell? ⟨g2, off2 + 2, none⟩ = some (.int .i64 n2) ∧ w'.cell? ⟨g2, off2 + 3, none⟩ = some (.int .i64 n3) ∧ w'.cell? ⟨g, off + 4, none⟩ = some (.string u)) (go_keep) (fail)
    try go_wp2_with fail
    all_goals (
      refine (l18Is_any ⟨n0, n1, n2, n3, u⟩ _ (by show u.size ≤ _; omega)).mono ?_
      rintro e w4 ⟨rfl, b4⟩
      have bX : Below w2.heap.size w2 w4 := by (repeat (first | with_reducible assumption | with_reducible exact Below.refl _ _ | with_reducible refine Below.setCell ?_ ?_ _ | with_reducible refine Below.alloc ?_ ?_ _ | with_reducible refine Below.drew ?_ | with_reducible refine below_drewN ?_ _ | with_reducible refine Below.step (by with_reducible assumption) ?_ ?_ | omega | (simp <;> omega) | (simp; done)))
      have kB := Blk.below (Blk.drew (Blk.newAt (n := w2.heap.size) (t := 27) (cs := #[.int .i64 n0, .int .i64 n1, .int .i64 n2, .int .i64 n3, .string u]) (by rfl))) b4 (by simp)
      have kn : w.heap.size ≠ w2.heap.size := by omega
      have kn' := kn.symm
      replace kR := kR.below bX (by omega)
      replace BB := Below.step bX (by omega) BB
      clear bX b4 y4 x0 x1 x2 x3
      obtain ⟨q0, q1, q2, q3, q4⟩ := kR.c5
      have f0 := kR.frozen 0
      have f1 := kR.frozen 1
      have f2 := kR.frozen 2
      have f3 := kR.frozen 3
      have f4 := kR.frozen 4
      obtain ⟨r0, r1, r2, r3, r4⟩ := kB.c5
      cases hok : (Booking.mk n0 n1 n2 n3 u).ok with
      | false =>
        have HR2 := Lib.hid (show readWith readSig s = (noBook, 6) by rw [HR.out, hok]; rfl)
        go_wp2_with fail
        refine bodyPost_ret (v := .tuple #[.agg #[.int .i64 0, .int .i64 0, .int .i64 0, .int .i64 0, .string ⟨#[]⟩], .int .i64 6]) (by simp [results, Tryd.results10, go_sem, *]) rfl ?_
        exact ⟨by rw [HR2.out] <;> rfl, by (repeat (first | with_reducible assumption | with_reducible exact Below.refl _ _ | with_reducible refine Below.setCell ?_ ?_ _ | with_reducible refine Below.alloc ?_ ?_ _ | with_reducible refine Below.drew ?_ | with_reducible refine below_drewN ?_ _ | with_reducible refine Below.step (by with_reducible assumption) ?_ ?_ | omega | (simp <;> omega) | (simp; done)))⟩
      | true =>
        have HR2 := Lib.hid (show readWith readSig s = (⟨n0, n1, n2, n3, u⟩, 0) by rw [HR.out, hok]; rfl)
        go_wp2_with fail
        refine bodyPost_ret (v := .tuple #[.agg #[.int .i64 n0, .int .i64 n1, .int .i64 n2, .int .i64 n3, .string u], .int .i64 0]) (by simp [results, Tryd.results10, go_sem, *]) rfl ?_
        exact ⟨by rw [HR2.out] <;> rfl, by (repeat (first | with_reducible assumption | with_reducible exact Below.refl _ _ | with_reducible refine Below.setCell ?_ ?_ _ | with_reducible refine Below.alloc ?_ ?_ _ | with_reducible refine Below.drew ?_ | with_reducible refine below_drewN ?_ _ | with_reducible refine Below.step (by with_reducible assumption) ?_ ?_ | omega | (simp <;> omega) | (simp; done)))⟩)
theorem sReadBooking_any (s : ByteArray) (w : World) (hs : s.size ≤ 1048576) :
    Calls Tryd.prog 10 #[.string s] w fun e w' => e = .returned (.tuple #[.agg #[.int .i64 (readBook s).1.room, .int .i64 (readBook s).1.day, .int .i64 (readBook s).1.frm, .int .i64 (readBook s).1.to_, .string (readBook s).1.use], .int .i64 (readBook s).2]) ∧ Below w.heap.size w w' := by
  rw [← read_same]
  exact sReadBooking_anyW s w hs
set_option maxRecDepth 100000 in
set_option maxHeartbeats 8000000 in
theorem readBooking_anyW (s : ByteArray) (w : World) (hT : Tabs w) (hs : s.size ≤ 1048576) :
    Calls Tryd.prog 11 #[.string s] w fun e w' => e = .returned (.tuple #[.agg #[.int .i64 (readWith readDec s).1.room, .int .i64 (readWith readDec s).1.day, .int .i64 (readWith readDec s).1.frm, .int .i64 (readWith readDec s).1.to_, .string (readWith readDec s).1.use], .int .i64 (readWith readDec s).2]) ∧ Below w.heap.size w w' := by
  have b0 : Below w.heap.size w (w.alloc (.cells #[.int .i64 0, .int .i64 0, .int .i64 0, .int .i64 0, .string ⟨#[]⟩] 27)) := (Below.refl _ _).alloc (Nat.le_refl _) _
  have z0 : w.heap.size < (w.alloc (.cells #[.int .i64 0, .int .i64 0, .int .i64 0, .int .i64 0, .string ⟨#[]⟩] 27)).heap.size := by simp
  have kR : Blk (w.alloc (.cells #[.int .i64 0, .int .i64 0, .int .i64 0, .int .i64 0, .string ⟨#[]⟩] 27)) w.heap.size 27 #[.int .i64 0, .int .i64 0, .int .i64 0, .int .i64 0, .string ⟨#[]⟩] := Blk.newAt rfl
  go_enter Tryd.func11, Tryd.ntmps11
  go_wp2_with fail
  refine (split_any s _ (hT.alloc _) hs).mono ?_
  rintro e w1 ⟨v, rfl, ho, b1⟩
  have BB : Below w.heap.size w w1 := Below.step b1 (by omega) b0
  have z1 := b1.size
  replace kR := kR.below b1 (by omega)
  generalize (w.alloc (.cells #[.int .i64 0, .int .i64 0, .int .i64 0, .int .i64 0, .string ⟨#[]⟩] 27)) = W0 at *
  clear b1 b0
  obtain ⟨A, C, rfl, hC⟩ := (ho.rdw (fun _ => rfl)).rd.form
  by_cases h5 : (piecesB s).length = 5
  rotate_left
  · have HR := Lib.hid (readWith_len (f := readDec) h5)
    have h5i : (((piecesB s).length : Int) != 5) = true := by simp; omega
    clear h5
    obtain ⟨q0, q1, q2, q3, q4⟩ := kR.c5
    have f0 := kR.frozen 0
    have f1 := kR.frozen 1
    have f2 := kR.frozen 2
    have f3 := kR.frozen 3
    have f4 := kR.frozen 4
    go_wp2_with fail
    refine bodyPost_ret (v := .tuple #[.agg #[.int .i64 0, .int .i64 0, .int .i64 0, .int .i64 0, .string ⟨#[]⟩], .int .i64 6]) (by simp [results, Tryd.results11, go_sem, *]) rfl ?_
    exact ⟨by rw [HR.out] <;> rfl, by (repeat (first | with_reducible assumption | with_reducible exact Below.refl _ _ | with_reducible refine Below.setCell ?_ ?_ _ | with_reducible refine Below.alloc ?_ ?_ _ | with_reducible refine Below.drew ?_ | with_reducible refine below_drewN ?_ _ | with_reducible refine Below.step (by with_reducible assumption) ?_ ?_ | omega | (simp <;> omega) | (simp; done)))⟩
  obtain ⟨a, b, c, d, u, hp⟩ := five_of h5
  have hsz : ∀ x ∈ piecesB s, x.size ≤ 1048576 := fun x hx => Nat.le_trans (piecesB_len hx) hs
  have hx4 : ∀ x ∈ [a, b, c, d], x.size ≤ 1048576 := fun x hx => hsz x (by rw [hp]; simp only [List.mem_cons, List.not_mem_nil, or_false] at hx ⊢; rcases hx with h | h | h | h <;> simp [h])
  have hu : u.size ≤ 1048576 := hsz u (by rw [hp]; simp)
  have HP := Lib.hid hp
  rw [h5] at ho hC ⊢
  rw [hp] at ho
  clear h5 hp hsz
  have hr4 := RdF.first (ho.rdw (fun _ => rfl)).rd 4 (by simp) (by simp)
  obtain ⟨A', C', eA, -, hA⟩ := (ho.rdw (fun _ => rfl)).rd
  injection eA with e1 e2 e3
  subst e1 e3
  obtain ⟨g, off, rfl, hlo, hbw, hcell⟩ := hA (by simp)
  have y4 : w1.cell? ⟨g, off + 4, none⟩ = some (.string u) := by simpa [encStr] using hcell 4 u rfl 0 _ rfl
  clear hcell hA
  have hC4 : (4 : Int) ≤ (C : Int) := by omega
  change RdF encStr 1 w1 _ _ (.slice (some ⟨g, off, none⟩) 4 C) [a, b, c, d] at hr4
  have hT1 := hT.below BB
  go_wp2_with fail
  refine (readDecimals_any _ [a, b, c, d] _ _ _ hT1 hr4 (by omega) (by simp) hx4).mono ?_
  rintro e w2 ⟨v2, rfl, ho2, b2⟩
  have z2 := b2.size
  replace y4 : w2.cell? ⟨g, off + 4, none⟩ = some (.string u) := (b2.cell (p := ⟨g, off + 4, none⟩) (by show g < _; omega)).trans y4
  replace kR := kR.below b2 (by omega)
  replace BB := Below.step b2 (by omega) BB
  clear b2 hr4 ho
  cases hn : numsOf readDec [a, b, c, d] with
  | none =>
    have HR := Lib.hid (readWith_bad HP.out hn)
    rw [show (none : Option (List Int)).isSome = false from rfl]
    obtain ⟨q0, q1, q2, q3, q4⟩ := kR.c5
    have f0 := kR.frozen 0
    have f1 := kR.frozen 1
    have f2 := kR.frozen 2
    have f3 := kR.frozen 3
    have f4 := kR.frozen 4
    go_wp2_with fail
    refine bodyPost_ret (v := .tuple #[.agg #[.int .i64 0, .int .i64 0, .int .i64 0, .int .i64 0, .string ⟨#[]⟩], .int .i64 6]) (by simp [results, Tryd.results11, go_sem, *]) rfl ?_
    exact ⟨by rw [HR.out] <;> rfl, by (repeat (first | with_reducible assumption | with_reducible exact Below.refl _ _ | with_reducible refine Below.setCell ?_ ?_ _ | with_reducible refine Below.alloc ?_ ?_ _ | with_reducible refine Below.drew ?_ | with_reducible refine below_drewN ?_ _ | with_reducible refine Below.step (by with_reducible assumption) ?_ ?_ | omega | (simp <;> omega) | (simp; done)))⟩
  | some ns =>
    obtain ⟨n0, n1, n2, n3, rfl, hR⟩ := readWith_good HP.out hn
    have HR := Lib.hid hR
    rw [hn] at ho2
    change OwnL encInt 1 2 w2 _ v2 [n0, n1, n2, n3] at ho2
    rw [show (some [n0, n1, n2, n3]).isSome = true from rfl]
    clear hR hn
    obtain ⟨A2, C2, rfl, hC2, hA2⟩ := (ho2.rdw (fun _ => rfl)).rd
    obtain ⟨g2, off2, rfl, hlo2, hbw2, hcell2⟩ := hA2 (by simp)
    have x0 : w2.cell? ⟨g2, off2, none⟩ = some (.int .i64 n0) := by simpa [encInt] using hcell2 0 n0 rfl 0 _ rfl
    have x1 : w2.cell? ⟨g2, off2 + 1, none⟩ = some (.int .i64 n1) := by simpa [encInt] using hcell2 1 n1 rfl 0 _ rfl
    have x2 : w2.cell? ⟨g2, off2 + 2, none⟩ = some (.int .i64 n2) := by simpa [encInt] using hcell2 2 n2 rfl 0 _ rfl
    have x3 : w2.cell? ⟨g2, off2 + 3, none⟩ = some (.int .i64 n3) := by simpa [encInt] using hcell2 3 n3 rfl 0 _ rfl
    clear hcell2 hA2 ho2
    go_wp2_with fail
    go_region_held3 (fun w' => w'.cell? ⟨g2, off2, none⟩ = some (.int .i64 n0) ∧ w'.cell? ⟨g2, off2 + 1, none⟩ = some (.int .i64 n1) ∧ w'.cell? ⟨g2, off2 + 2, none⟩ = some (.int .i64 n2) ∧ w'.cell? ⟨g2, off2 + 3, none⟩ = some (.int .i64 n3) ∧ w'.cell? ⟨g, off + 4, none⟩ = some (.string u)) (go_keep) (fail)
    try go_wp2_with fail
    all_goals (
      refine (isBooking_any ⟨n0, n1, n2, n3, u⟩ _ (by show u.size ≤ _; omega)).mono ?_
      rintro e w4 ⟨rfl, b4⟩
      have bX : Below w2.heap.size w2 w4 := by (repeat (first | with_reducible assumption | with_reducible exact Below.refl _ _ | with_reducible refine Below.setCell ?_ ?_ _ | with_reducible refine Below.alloc ?_ ?_ _ | with_reducible refine Below.drew ?_ | with_reducible refine below_drewN ?_ _ | with_reducible refine Below.step (by with_reducible assumption) ?_ ?_ | omega | (simp <;> omega) | (simp; done)))
      have kB := Blk.below (Blk.drew (Blk.newAt (n := w2.heap.size) (t := 27) (cs := #[.int .i64 n0, .int .i64 n1, .int .i64 n2, .int .i64 n3, .string u]) (by rfl))) b4 (by simp)
      have kn : w.heap.size ≠ w2.heap.size := by omega
      have kn' := kn.symm
      replace kR := kR.below bX (by omega)
      replace BB := Below.step bX (by omega) BB
      clear bX b4 y4 x0 x1 x2 x3
      obtain ⟨q0, q1, q2, q3, q4⟩ := kR.c5
      have f0 := kR.frozen 0
      have f1 := kR.frozen 1
      have f2 := kR.frozen 2
      have f3 := kR.frozen 3
      have f4 := kR.frozen 4
      obtain ⟨r0, r1, r2, r3, r4⟩ := kB.c5
      cases hok : (Booking.mk n0 n1 n2 n3 u).ok with
      | false =>
        have HR2 := Lib.hid (show readWith readDec s = (noBook, 6) by rw [HR.out, hok]; rfl)
        go_wp2_with fail
        refine bodyPost_ret (v := .tuple #[.agg #[.int .i64 0, .int .i64 0, .int .i64 0, .int .i64 0, .string ⟨#[]⟩], .int .i64 6]) (by simp [results, Tryd.results11, go_sem, *]) rfl ?_
        exact ⟨by rw [HR2.out] <;> rfl, by (repeat (first | with_reducible assumption | with_reducible exact Below.refl _ _ | with_reducible refine Below.setCell ?_ ?_ _ | with_reducible refine Below.alloc ?_ ?_ _ | with_reducible refine Below.drew ?_ | with_reducible refine below_drewN ?_ _ | with_reducible refine Below.step (by with_reducible assumption) ?_ ?_ | omega | (simp <;> omega) | (simp; done)))⟩
      | true =>
        have HR2 := Lib.hid (show readWith readDec s = (⟨n0, n1, n2, n3, u⟩, 0) by rw [HR.out, hok]; rfl)
        go_wp2_with fail
        refine bodyPost_ret (v := .tuple #[.agg #[.int .i64 n0, .int .i64 n1, .int .i64 n2, .int .i64 n3, .string u], .int .i64 0]) (by simp [results, Tryd.results11, go_sem, *]) rfl ?_
        exact ⟨by rw [HR2.out] <;> rfl, by (repeat (first | with_reducible assumption | with_reducible exact Below.refl _ _ | with_reducible refine Below.setCell ?_ ?_ _ | with_reducible refine Below.alloc ?_ ?_ _ | with_reducible refine Below.drew ?_ | with_reducible refine below_drewN ?_ _ | with_reducible refine Below.step (by with_reducible assumption) ?_ ?_ | omega | (simp <;> omega) | (simp; done)))⟩)
theorem readBooking_any (s : ByteArray) (w : World) (hT : Tabs w) (hs : s.size ≤ 1048576) :
    Calls Tryd.prog 11 #[.string s] w fun e w' => e = .returned (.tuple #[.agg #[.int .i64 (readBook s).1.room, .int .i64 (readBook s).1.day, .int .i64 (readBook s).1.frm, .int .i64 (readBook s).1.to_, .string (readBook s).1.use], .int .i64 (readBook s).2]) ∧ Below w.heap.size w w' := by
  exact readBooking_anyW s w hT hs
end Go.Proofs.YtmfidoahdkipmaaDoor
