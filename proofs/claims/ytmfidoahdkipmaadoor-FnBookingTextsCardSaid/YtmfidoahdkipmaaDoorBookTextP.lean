/- Texts of bookings, in plain Lean. No program stands here. -/
import Derived.Test.YtmfidoahdkipmaaDoorTextQ
import Derived.Test.YtmfidoahdkipmaaDoorBookingW
namespace Go.Proofs.YtmfidoahdkipmaaDoor
set_option linter.unusedVariables false

def bookStr (b : Booking) : ByteArray := ⟨(Lib.join [Lib.itoa b.room, Lib.itoa b.day, Lib.itoa b.frm, Lib.itoa b.to_, b.use.data.toList] [47]).toArray⟩
def bookText (b : Booking) : ByteArray × Int := if b.ok then (bookStr b, 0) else (ByteArray.empty, 1)
def noBook : Booking := ⟨0, 0, 0, 0, ByteArray.empty⟩
def bookOf (o0 o1 o2 o3 : Option Int) (u : ByteArray) : Booking × Int := match o0, o1, o2, o3 with
  | some n0, some n1, some n2, some n3 => if (Booking.mk n0 n1 n2 n3 u).ok then (⟨n0, n1, n2, n3, u⟩, 0) else (noBook, 6)
  | _, _, _, _ => (noBook, 6)
def readWith (f : ByteArray → Option Int) (s : ByteArray) : Booking × Int := match piecesB s with
  | [a, b, c, d, u] => bookOf (f a) (f b) (f c) (f d) u
  | _ => (noBook, 6)
def readBook (s : ByteArray) : Booking × Int := readWith readDec s
theorem Booking.ok_in {n0 n1 n2 n3 : Int} {u : ByteArray} (h : (Booking.mk n0 n1 n2 n3 u).ok = true) : (0 ≤ n0 ∧ n0 ≤ 20000) ∧ (0 ≤ n1 ∧ n1 ≤ 20000) ∧ (0 ≤ n2 ∧ n2 ≤ 20000) ∧ (0 ≤ n3 ∧ n3 ≤ 20000) := by
  simp [Booking.ok, timeOk, roomOk, dayOk, inR] at h
  omega
def near (o : Option Int) : Option Int := match o with
  | some n => if 0 ≤ n ∧ n ≤ 20000 then some n else none
  | none => none
theorem near_some {o : Option Int} {n : Int} (h : near o = some n) : o = some n ∧ 0 ≤ n ∧ n ≤ 20000 := by
  cases o with
  | none => cases h
  | some m =>
    simp only [near] at h
    split at h
    · next hm => injection h with h; subst h; exact ⟨rfl, hm⟩
    · cases h
theorem near_of {n : Int} (h : 0 ≤ n ∧ n ≤ 20000) : near (some n) = some n := by simp only [near]; rw [if_pos h]
theorem bookOf_near (o0 o1 o2 o3 : Option Int) (u : ByteArray) : bookOf o0 o1 o2 o3 u = bookOf (near o0) (near o1) (near o2) (near o3) u := by
  by_cases hx : ∃ n0 n1 n2 n3, o0 = some n0 ∧ o1 = some n1 ∧ o2 = some n2 ∧ o3 = some n3 ∧ (Booking.mk n0 n1 n2 n3 u).ok = true
  · obtain ⟨n0, n1, n2, n3, rfl, rfl, rfl, rfl, h⟩ := hx
    obtain ⟨a, b, c, d⟩ := Booking.ok_in h
    rw [near_of a, near_of b, near_of c, near_of d]
  · have key : ∀ p0 p1 p2 p3 : Option Int, (∀ n, p0 = some n → o0 = some n) → (∀ n, p1 = some n → o1 = some n) → (∀ n, p2 = some n → o2 = some n) → (∀ n, p3 = some n → o3 = some n) → bookOf p0 p1 p2 p3 u = (noBook, 6) := by
      intro p0 p1 p2 p3 h0 h1 h2 h3
      unfold bookOf
      split
      · next n0 n1 n2 n3 =>
        rw [if_neg]
        intro hk
        exact hx ⟨n0, n1, n2, n3, h0 _ rfl, h1 _ rfl, h2 _ rfl, h3 _ rfl, hk⟩
      · rfl
    rw [key o0 o1 o2 o3 (fun _ h => h) (fun _ h => h) (fun _ h => h) (fun _ h => h), key _ _ _ _ (fun _ h => (near_some h).1) (fun _ h => (near_some h).1) (fun _ h => (near_some h).1) (fun _ h => (near_some h).1)]
theorem near_same (x : ByteArray) : near (readDec x) = near (readSig x) := by
  cases h : near (readDec x) with
  | some n =>
    obtain ⟨h1, h2, h3⟩ := near_some h
    rw [readDec_sig h1 h2 h3, near_of ⟨h2, h3⟩]
  | none =>
    cases k : near (readSig x) with
    | none => rfl
    | some m =>
      obtain ⟨h1, h2, h3⟩ := near_some k
      rw [readSig_dec h1, near_of ⟨h2, h3⟩] at h
      cases h
/-- The reference reads the same. -/
theorem read_same (s : ByteArray) : readWith readSig s = readBook s := by
  unfold readBook readWith
  split
  · rw [bookOf_near, bookOf_near (readDec _), near_same, near_same, near_same, near_same]
  · rfl
theorem bookOf_yes {o0 o1 o2 o3 : Option Int} {u : ByteArray} (h : (bookOf o0 o1 o2 o3 u).2 = 0) : ∃ n0 n1 n2 n3, o0 = some n0 ∧ o1 = some n1 ∧ o2 = some n2 ∧ o3 = some n3 ∧ (Booking.mk n0 n1 n2 n3 u).ok = true ∧ bookOf o0 o1 o2 o3 u = (⟨n0, n1, n2, n3, u⟩, 0) := by
  unfold bookOf at h ⊢
  split at h
  · next n0 n1 n2 n3 =>
    split at h
    · next hk => exact ⟨n0, n1, n2, n3, rfl, rfl, rfl, rfl, hk, if_pos hk⟩
    · simp at h
  · simp at h
theorem wordOk_noSep {s : ByteArray} (h : wordOk s = true) : ∀ c ∈ s.data.toList, c ≠ 47 := by
  unfold wordOk at h
  rw [Bool.and_eq_true] at h
  intro c hc e
  have h1 := (List.all_eq_true.1 (show s.data.toList.all _ = true from h.1)) c hc
  rw [e] at h1
  exact absurd h1 (by decide)
theorem ok_use {b : Booking} (h : b.ok = true) : wordOk b.use = true := by
  simp [Booking.ok] at h; exact h.2.2.2
/-- What is read from a text has this text. -/
theorem read_text {s : ByteArray} (h : (readBook s).2 = 0) : (readBook s).1.ok = true ∧ bookText (readBook s).1 = (s, 0) := by
  unfold readBook readWith at h ⊢
  split at h
  · next a b c d u hp =>
    obtain ⟨n0, n1, n2, n3, h0, h1, h2, h3, hk, e⟩ := bookOf_yes h
    have hd := piecesB_data s
    rw [hp] at hd
    simp only [List.map_cons, List.map_nil] at hd
    simp only [e]
    refine ⟨hk, ?_⟩
    rw [bookText, if_pos hk, bookStr]
    simp only
    rw [readDec_text h0, readDec_text h1, readDec_text h2, readDec_text h3, hd, splitL_join, mk_data]
  · simp at h
/-- A booking is read from its text. -/
theorem text_read {b : Booking} (h : b.ok = true) : readBook (bookStr b) = (b, 0) := by
  obtain ⟨room, day, frm, to_, use⟩ := b
  have hin := Booking.ok_in h
  have hd : splitL (bookStr ⟨room, day, frm, to_, use⟩).data.toList = [Lib.itoa room, Lib.itoa day, Lib.itoa frm, Lib.itoa to_, use.data.toList] := by
    unfold bookStr
    simp only
    rw [Lib.join_cons]
    simp only [Lib.joinTail, List.map_cons, List.map_nil, List.flatten_cons, List.flatten_nil, List.append_nil, List.cons_append, List.nil_append]
    rw [splitL_cut itoa_noSep, splitL_cut itoa_noSep, splitL_cut itoa_noSep, splitL_cut itoa_noSep, splitL_one (wordOk_noSep (ok_use h))]
  unfold readBook readWith piecesB
  rw [hd]
  simp only [List.map_cons, List.map_nil]
  rw [readDec_itoa (by omega) (by omega), readDec_itoa (by omega) (by omega), readDec_itoa (by omega) (by omega), readDec_itoa (by omega) (by omega), mk_data]
  simp only [bookOf]
  rw [if_pos h]
theorem bookStr_eq (b : Booking) : bookStr b = joinB [b.room, b.day, b.frm, b.to_] ++ ⟨#[47]⟩ ++ b.use := by
  apply ByteArray.ext
  unfold bookStr joinB
  simp only [List.map_cons, List.map_nil]
  rw [Lib.join_cons, Lib.join_cons]
  simp [Lib.joinTail]
theorem bookStr_len {b : Booking} (h : b.ok = true) : (bookStr b).size ≤ 200 := by
  have hin := Booking.ok_in (show (Booking.mk b.room b.day b.frm b.to_ b.use).ok = true from h)
  have l0 := Lib.itoa_length_le b.room (by omega) (by omega)
  have l1 := Lib.itoa_length_le b.day (by omega) (by omega)
  have l2 := Lib.itoa_length_le b.frm (by omega) (by omega)
  have l3 := Lib.itoa_length_le b.to_ (by omega) (by omega)
  have l4 := (wordOk_size (ok_use h)).2
  have l5 : b.use.data.toList.length = b.use.size := size_data b.use
  have e : (bookStr b).size = (Lib.join [Lib.itoa b.room, Lib.itoa b.day, Lib.itoa b.frm, Lib.itoa b.to_, b.use.data.toList] [47]).length := by
    show (List.toArray _).size = _
    rw [List.size_toArray]
  rw [e, Lib.join_length]
  simp only [Lib.lens, List.map_cons, List.map_nil, List.sum_cons, List.sum_nil, List.length_cons, List.length_nil]
  omega
end Go.Proofs.YtmfidoahdkipmaaDoor
