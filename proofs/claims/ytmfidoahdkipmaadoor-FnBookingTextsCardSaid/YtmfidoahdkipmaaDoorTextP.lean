/- Texts and numbers, in plain Lean: splitting at a slash, numbers in decimal. No program stands here. -/
import Derived.Lib.ItoaNum
import Derived.Lib.Split
import Derived.Lib.SplitLaws
import Derived.Lib.IndexLaws
import Derived.Lib.Join
import Derived.Lib.ParseIntB
import Derived.Lib.ParseIntBTie
import Derived.Lib.ItoaLen
namespace Go.Proofs.YtmfidoahdkipmaaDoor
set_option linter.unusedVariables false

def splitL : List UInt8 → List (List UInt8)
  | [] => [[]]
  | c :: r => if c = 47 then [] :: splitL r else match splitL r with
    | [] => [[c]]
    | h :: t => (c :: h) :: t
def preP (p : List UInt8) : List (List UInt8) → List (List UInt8)
  | [] => [p]
  | h :: t => (p ++ h) :: t
theorem preP_nil {L : List (List UInt8)} (h : L ≠ []) : preP [] L = L := by
  cases L with
  | nil => exact absurd rfl h
  | cons a t => rfl
theorem preP_pre (p q : List UInt8) (L : List (List UInt8)) : preP p (preP q L) = preP (p ++ q) L := by
  cases L <;> simp [preP]
theorem splitL_ne (l : List UInt8) : splitL l ≠ [] := by
  cases l with
  | nil => simp [splitL]
  | cons c r =>
    unfold splitL
    split
    · simp
    · split <;> simp
theorem splitL_sep (r : List UInt8) : splitL (47 :: r) = [] :: splitL r := by rw [splitL, if_pos rfl]
theorem splitL_other {c : UInt8} (h : c ≠ 47) (r : List UInt8) : splitL (c :: r) = preP [c] (splitL r) := by
  rw [splitL, if_neg h]
  cases splitL r <;> rfl
theorem splitL_app : ∀ {a : List UInt8}, (∀ c ∈ a, c ≠ 47) → ∀ l, splitL (a ++ l) = preP a (splitL l)
  | [], _, l => by rw [List.nil_append, preP_nil (splitL_ne l)]
  | c :: a, h, l => by
    rw [List.cons_append, splitL_other (h c (by simp)), splitL_app (fun x hx => h x (by simp [hx])) l, preP_pre]
    rfl
theorem splitL_one {a : List UInt8} (h : ∀ c ∈ a, c ≠ 47) : splitL a = [a] := by
  have := splitL_app h []
  simpa [splitL, preP] using this
theorem splitL_cut {a : List UInt8} (h : ∀ c ∈ a, c ≠ 47) (r : List UInt8) : splitL (a ++ 47 :: r) = a :: splitL r := by
  rw [splitL_app h, splitL_sep]
  simp [preP]
theorem splitL_join : ∀ l : List UInt8, Lib.join (splitL l) [47] = l
  | [] => by simp [splitL, Lib.join_one]
  | c :: r => by
    have ih := splitL_join r
    have hn := splitL_ne r
    by_cases hc : c = 47
    · subst hc
      rw [splitL_sep]
      cases hs : splitL r with
      | nil => exact absurd hs hn
      | cons h t =>
        rw [hs, Lib.join_cons] at ih
        rw [Lib.join_cons]
        simp only [Lib.joinTail, List.map_cons, List.flatten_cons, List.nil_append, List.cons_append] at ih ⊢
        rw [ih]
    · rw [splitL_other hc]
      cases hs : splitL r with
      | nil => exact absurd hs hn
      | cons h t =>
        rw [hs, Lib.join_cons] at ih
        simp only [preP]
        rw [Lib.join_cons, List.append_assoc, ih]
        rfl
/-- A piece has no slash, the whole is as long as the pieces. -/
theorem splitL_noSep : ∀ (l : List UInt8), ∀ p ∈ splitL l, ∀ c ∈ p, c ≠ 47
  | [], p, hp, c, hc => by simp [splitL] at hp; subst hp; simp at hc
  | x :: r, p, hp, c, hc => by
    have ih := splitL_noSep r
    by_cases hx : x = 47
    · subst hx
      rw [splitL_sep] at hp
      rcases List.mem_cons.1 hp with rfl | hp
      · simp at hc
      · exact ih p hp c hc
    · rw [splitL_other hx] at hp
      cases hs : splitL r with
      | nil => exact absurd hs (splitL_ne r)
      | cons h t =>
        rw [hs] at hp ih
        simp only [preP, List.singleton_append] at hp
        rcases List.mem_cons.1 hp with rfl | hp
        · rcases List.mem_cons.1 hc with rfl | hc
          · exact hx
          · exact ih h (by simp) c hc
        · exact ih p (by simp [hp]) c hc
theorem splitL_len : ∀ l : List UInt8, ∀ p ∈ splitL l, p.length ≤ l.length
  | [], p, hp => by simp [splitL] at hp; subst hp; simp
  | x :: r, p, hp => by
    have ih := splitL_len r
    by_cases hx : x = 47
    · subst hx
      rw [splitL_sep] at hp
      rcases List.mem_cons.1 hp with rfl | hp
      · simp
      · have := ih p hp; simp; omega
    · rw [splitL_other hx] at hp
      cases hs : splitL r with
      | nil => exact absurd hs (splitL_ne r)
      | cons h t =>
        rw [hs] at hp ih
        simp only [preP, List.singleton_append] at hp
        rcases List.mem_cons.1 hp with rfl | hp
        · have := ih h (by simp); simp; omega
        · have := ih p (by simp [hp]); simp; omega
theorem splitL_count : ∀ l : List UInt8, (splitL l).length ≤ l.length + 1
  | [] => by simp [splitL]
  | x :: r => by
    have ih := splitL_count r
    by_cases hx : x = 47
    · subst hx; rw [splitL_sep]; simp; omega
    · rw [splitL_other hx]
      cases hs : splitL r with
      | nil => simp [preP]
      | cons h t => rw [hs] at ih; simp [preP] at ih ⊢; omega
/- The library's words. -/
theorem occAt_one (s : List UInt8) (c : UInt8) (i : Nat) : Lib.occAt s [c] i = decide (s[i]? = some c) := by
  unfold Lib.occAt
  have e : s[i]? = (s.drop i).head? := by rw [List.head?_drop]
  rw [e]
  cases s.drop i with
  | nil => simp [List.isPrefixOf]
  | cons x r =>
    rw [Bool.eq_iff_iff]
    simp [List.isPrefixOf]
    exact eq_comm
theorem cut_or (s : List UInt8) : (∀ c ∈ s, c ≠ 47) ∨ ∃ a r, s = a ++ 47 :: r ∧ ∀ c ∈ a, c ≠ 47 := by
  induction s with
  | nil => left; simp
  | cons x s ih =>
    by_cases hx : x = 47
    · right; exact ⟨[], s, by rw [hx]; rfl, by simp⟩
    · rcases ih with h | ⟨a, r, e, h⟩
      · left; intro c hc; rcases List.mem_cons.1 hc with rfl | hc
        · exact hx
        · exact h c hc
      · right; exact ⟨x :: a, r, by rw [e]; rfl, fun c hc => (List.mem_cons.1 hc).elim (fun h' => h' ▸ hx) (h c)⟩
theorem split_miss {s : List UInt8} (h : ∀ c ∈ s, c ≠ 47) : Lib.index s [47] = -1 := by
  apply Lib.index_none
  intro j hj
  rw [occAt_one]
  apply decide_eq_false
  intro e
  exact h _ (List.mem_of_getElem? e) rfl
theorem split_hit {a r : List UInt8} (h : ∀ c ∈ a, c ≠ 47) : Lib.index (a ++ 47 :: r) [47] = a.length := by
  apply Lib.index_first
  · simp
  · rw [occAt_one]; simp
  · intro j hj
    rw [occAt_one]
    apply decide_eq_false
    rw [List.getElem?_append_left hj]
    intro e
    exact h _ (List.mem_of_getElem? e) rfl
theorem split_same (n : Nat) : ∀ s : List UInt8, s.length ≤ n → Lib.splitK [47] 0 (Lib.count s [47]) s = splitL s := by
  induction n with
  | zero =>
    intro s hs
    have : s = [] := List.eq_nil_of_length_eq_zero (by omega)
    subst this
    rw [Lib.count_miss (split_miss (by simp))]
    rfl
  | succ n ih =>
    intro s hs
    rcases cut_or s with h | ⟨a, r, rfl, h⟩
    · rw [Lib.count_miss (split_miss h), splitL_one h]
      rfl
    · have hx := split_hit (r := r) h
      have hd : (a ++ 47 :: r).drop (a.length + [(47 : UInt8)].length) = r := by simp
      have ht : (a ++ 47 :: r).take (a.length + 0) = a := by simp
      have hc := Lib.count_hit (s := a ++ 47 :: r) (sub := [47]) (by simp) hx
      rw [hd] at hc
      have hm : ¬ ((Lib.index (a ++ 47 :: r) [47] == -1) = true) := by rw [hx]; intro e; have := beq_iff_eq.1 e; omega
      have ez : (Lib.index (a ++ 47 :: r) [47]).toNat = a.length := by rw [hx]; omega
      rw [hc, Nat.add_comm 1, Lib.splitK, if_neg hm, ez, ht, hd, splitL_cut h, ih r (by simp at hs; omega)]
def piecesB (s : ByteArray) : List ByteArray := (splitL s.data.toList).map fun l => ⟨l.toArray⟩
theorem mk_data (s : ByteArray) : (⟨s.data.toList.toArray⟩ : ByteArray) = s := by cases s; simp
theorem piecesB_data (s : ByteArray) : (piecesB s).map (fun p => p.data.toList) = splitL s.data.toList := by
  unfold piecesB
  rw [List.map_map]
  conv => rhs; rw [← List.map_id (splitL s.data.toList)]
  apply List.map_congr_left
  intro l _
  simp
theorem data_inj {L M : List ByteArray} (h : L.map (fun p => p.data.toList) = M.map (fun p => p.data.toList)) : L = M := by
  have : ∀ L : List ByteArray, (L.map (fun p => p.data.toList)).map (fun l => (⟨l.toArray⟩ : ByteArray)) = L := by
    intro L
    rw [List.map_map]
    conv => rhs; rw [← List.map_id L]
    apply List.map_congr_left
    intro p _
    exact mk_data p
  rw [← this L, ← this M, h]
theorem splitB_pieces (s : ByteArray) : Lib.splitB ⟨#[47]⟩ 0 (Lib.countB s ⟨#[47]⟩) s = piecesB s := by
  apply data_inj
  rw [piecesB_data]
  have := Lib.splitB_data ⟨#[47]⟩ 0 (Lib.countB s ⟨#[47]⟩) s
  rw [show (fun p : ByteArray => p.data.toList) = (·.data.toList) from rfl, this]
  exact split_same _ _ (Nat.le_refl _)
theorem piecesB_count (s : ByteArray) : Lib.countB s ⟨#[47]⟩ + 1 = (piecesB s).length := by
  rw [← splitB_pieces]
  exact (Lib.splitB_all ⟨#[47]⟩ (by decide) 0 _ s rfl).symm
theorem piecesB_len {s p : ByteArray} (h : p ∈ piecesB s) : p.size ≤ s.size := by
  unfold piecesB at h
  obtain ⟨l, hl, rfl⟩ := List.mem_map.1 h
  have := splitL_len _ l hl
  show l.toArray.size ≤ s.data.size
  rw [List.size_toArray, ← Array.length_toList]
  exact this
theorem piecesB_le (s : ByteArray) : (piecesB s).length ≤ s.size + 1 := by
  unfold piecesB
  have := splitL_count s.data.toList
  rw [List.length_map]
  show _ ≤ s.data.size + 1
  rw [← Array.length_toList]
  exact this
/- Numbers in decimal. -/
def valOf (l : List UInt8) : Nat := l.foldl (fun a c => 10 * a + (c.toNat - 48)) 0
def digOk (l : List UInt8) : Bool := l.all fun c => decide (48 ≤ c.toNat) && decide (c.toNat ≤ 57)
theorem digOk_app (l m : List UInt8) : digOk (l ++ m) = (digOk l && digOk m) := by simp [digOk]
theorem valOf_snoc (l : List UInt8) (c : UInt8) : valOf (l ++ [c]) = 10 * valOf l + (c.toNat - 48) := by simp [valOf]
theorem dig_nat {u : Nat} (h : u < 10) : (UInt8.ofNat (48 + u)).toNat = 48 + u := by
  simp [UInt8.toNat_ofNat']; omega
theorem dec_digits (u : Nat) : digOk (Lib.decDigits u) = true ∧ valOf (Lib.decDigits u) = u ∧ 1 ≤ (Lib.decDigits u).length := by
  induction u using Nat.strongRecOn with
  | _ u ih =>
    rw [Lib.decDigits]
    split
    · next h =>
      have e := dig_nat h
      refine ⟨?_, ?_, by simp⟩
      · simp only [digOk, List.all_cons, List.all_nil, e]; simp; omega
      · simp only [valOf, List.foldl_cons, List.foldl_nil, e]; omega
    · next h =>
      have e := dig_nat (u := u % 10) (by omega)
      obtain ⟨i1, i2, i3⟩ := ih (u / 10) (by omega)
      refine ⟨?_, ?_, by simp⟩
      · rw [digOk_app, i1]; simp only [digOk, List.all_cons, List.all_nil, e]; simp; omega
      · rw [valOf_snoc, i2, e]; omega
theorem dec_head (u : Nat) : ∃ c r, Lib.decDigits u = c :: r ∧ 48 ≤ c.toNat ∧ c.toNat ≤ 57 := by
  obtain ⟨h1, -, h3⟩ := dec_digits u
  cases hd : Lib.decDigits u with
  | nil => rw [hd] at h3; simp at h3
  | cons c r =>
    rw [hd] at h1
    simp [digOk] at h1
    exact ⟨c, r, rfl, h1.1⟩
theorem dec_noSep (u : Nat) : ∀ c ∈ Lib.decDigits u, c ≠ 47 := by
  intro c hc e
  have := List.all_eq_true.1 (dec_digits u).1 c hc
  subst e
  simp at this
theorem valOf_acc (l : List UInt8) (a : Nat) : l.foldl (fun a c => 10 * a + (c.toNat - 48)) a = a * 10 ^ l.length + valOf l := by
  unfold valOf
  induction l generalizing a with
  | nil => simp
  | cons c r ih =>
    rw [List.foldl_cons, ih, List.foldl_cons, ih (10 * 0 + (c.toNat - 48)), List.length_cons, Nat.pow_succ, Nat.add_mul, Nat.add_mul]
    have : 10 * a * 10 ^ r.length = a * (10 ^ r.length * 10) := by rw [Nat.mul_comm 10 a, Nat.mul_assoc, Nat.mul_comm 10]
    simp only [Nat.mul_zero, Nat.zero_mul, Nat.zero_add]
    omega
theorem valOf_lt : ∀ l : List UInt8, digOk l = true → valOf l < 10 ^ l.length := by
  intro l
  induction l with
  | nil => intro _; simp [valOf]
  | cons c r ih =>
    intro h
    simp only [digOk, List.all_cons, Bool.and_eq_true, decide_eq_true_eq] at h
    have := ih h.2
    have e := valOf_acc r (10 * 0 + (c.toNat - 48))
    have e2 : valOf (c :: r) = (10 * 0 + (c.toNat - 48)) * 10 ^ r.length + valOf r := e
    rw [e2, List.length_cons, Nat.pow_succ, Nat.mul_zero, Nat.zero_add]
    have h9 : c.toNat - 48 ≤ 9 := by omega
    have := Nat.mul_le_mul_right (10 ^ r.length) h9
    omega
theorem parse_digits : ∀ (l : List UInt8) (acc : Nat), digOk l = true → l.foldl (fun a c => 10 * a + (c.toNat - 48)) acc < 9223372036854775809 → Lib.parseUintM 18446744073709551615 acc l = .ok (l.foldl (fun a c => 10 * a + (c.toNat - 48)) acc)
  | [], acc, _, _ => rfl
  | c :: r, acc, h, hb => by
    simp only [digOk, List.all_cons, Bool.and_eq_true, decide_eq_true_eq] at h
    rw [List.foldl_cons] at hb ⊢
    have hge : 10 * acc + (c.toNat - 48) ≤ r.foldl (fun a c => 10 * a + (c.toNat - 48)) (10 * acc + (c.toNat - 48)) := by
      rw [valOf_acc]
      have := Nat.le_mul_of_pos_right (10 * acc + (c.toNat - 48)) (show 0 < 10 ^ r.length from Nat.pow_pos (by omega))
      omega
    have e : acc * 10 + (c.toNat - 48) = 10 * acc + (c.toNat - 48) := by omega
    rw [Lib.parseUintM, if_pos h.1, if_neg (by omega), if_neg (by omega), e]
    exact parse_digits r _ h.2 hb
theorem parse_dec {u : Nat} (h : u < 9223372036854775809) : Lib.parseUintB 64 (Lib.decDigits u) = .ok u := by
  obtain ⟨h1, h2, h3⟩ := dec_digits u
  have hn : Lib.decDigits u ≠ [] := by intro e; rw [e] at h3; simp at h3
  rw [Lib.parseUintB, if_neg hn]
  have := parse_digits (Lib.decDigits u) 0 h1 (by show valOf _ < _; rw [h2]; exact h)
  have e : (2 : Nat) ^ 64 - 1 = 18446744073709551615 := by decide
  rw [e, this]
  show Lib.NumEnd.ok (valOf _) = _
  rw [h2]
theorem parse_itoa {n : Int} (h0 : -9223372036854775808 ≤ n) (h1 : n ≤ 9223372036854775807) : Lib.parseIntB 64 (Lib.itoa n) = .ok n := by
  unfold Lib.itoa
  split
  · next h =>
    rw [Lib.parseIntB_minus, parse_dec (by omega), Lib.signedC, if_neg (by have e : (2 : Nat) ^ (64 - 1) = 9223372036854775808 := by decide
                                                                           rw [e]; omega)]
    congr 1; omega
  · next h =>
    obtain ⟨c, r, e, h2, h3⟩ := dec_head n.toNat
    have := parse_dec (u := n.toNat) (by omega)
    rw [e] at this ⊢
    rw [Lib.parseIntB_plain 64 c r (by omega) (by omega), this, Lib.signlessC, if_neg (by have e : (2 : Nat) ^ (64 - 1) = 9223372036854775808 := by decide
                                                                                          rw [e]; omega)]
    congr 1; omega
/-- A number as the program reads it. -/
def readDec (x : ByteArray) : Option Int := match Lib.parseIntB 64 x.data.toList with
  | .ok n => if Lib.itoa n = x.data.toList then some n else none
  | _ => none
def valueB (x : List UInt8) : Int × Bool :=
  if 1 ≤ x.length ∧ x.length ≤ 13 then (if digOk x then ((valOf x : Int), decide (Lib.decDigits (valOf x) = x)) else (0, false)) else (0, false)
def signedB (x : List UInt8) : Int × Bool := match x with
  | [] => valueB []
  | c :: r => if c = 45 then (-(valueB r).1, (valueB r).2 && decide (0 < (valueB r).1)) else valueB (c :: r)
/-- A number as the reference reads it. -/
def readSig (x : ByteArray) : Option Int := if (signedB x.data.toList).2 then some (signedB x.data.toList).1 else none
theorem valueB_yes {x : List UInt8} (h : (valueB x).2 = true) : ∃ u : Nat, (valueB x).1 = u ∧ Lib.decDigits u = x ∧ u < 10000000000000 := by
  unfold valueB at h ⊢
  split at h
  · next h1 =>
    split at h
    · next h2 =>
      rw [if_pos h1, if_pos h2]
      have := valOf_lt x h2
      have hp : 10 ^ x.length ≤ 10 ^ 13 := Nat.pow_le_pow_right (by omega) h1.2
      have e : (10 : Nat) ^ 13 = 10000000000000 := by decide
      exact ⟨valOf x, rfl, of_decide_eq_true h, by omega⟩
    · simp at h
  · simp at h
theorem readSig_dec {x : ByteArray} {n : Int} (h : readSig x = some n) : readDec x = some n := by
  unfold readSig at h
  split at h
  · next hs =>
    injection h with h
    have key : Lib.itoa n = x.data.toList ∧ -9223372036854775808 ≤ n ∧ n ≤ 9223372036854775807 := by
      generalize x.data.toList = l at *
      unfold signedB at h hs
      cases l with
      | nil =>
        simp only at h hs
        obtain ⟨u, h1, h2, h3⟩ := valueB_yes hs
        obtain ⟨-, -, h4⟩ := dec_digits u
        rw [h2] at h4
        simp at h4
      | cons c r =>
        simp only at h hs
        by_cases hc : c = 45
        · rw [if_pos hc] at h hs
          simp only [Bool.and_eq_true, decide_eq_true_eq] at h hs
          obtain ⟨u, h1, h2, h3⟩ := valueB_yes hs.1
          rw [h1] at h hs
          refine ⟨?_, by omega, by omega⟩
          have : n < 0 := by omega
          rw [Lib.itoa, if_pos this, show n.natAbs = u by omega, h2, hc]
        · rw [if_neg hc] at h hs
          obtain ⟨u, h1, h2, h3⟩ := valueB_yes hs
          rw [h1] at h
          refine ⟨?_, by omega, by omega⟩
          rw [Lib.itoa, if_neg (by omega), show n.toNat = u by omega, h2]
    rw [readDec, ← key.1, parse_itoa key.2.1 key.2.2]
    simp
  · cases h
theorem readDec_sig {x : ByteArray} {n : Int} (h : readDec x = some n) (h0 : 0 ≤ n) (h1 : n ≤ 20000) : readSig x = some n := by
  have hx : Lib.itoa n = x.data.toList := by
    unfold readDec at h
    split at h
    · split at h
      · next e => injection h with h; rw [← h]; exact e
      · cases h
    · cases h
  rw [Lib.itoa, if_neg (by omega)] at hx
  obtain ⟨c, r, e, h2, h3⟩ := dec_head n.toNat
  obtain ⟨d1, d2, d3⟩ := dec_digits n.toNat
  have hl : (Lib.decDigits n.toNat).length ≤ 13 := by
    rcases Nat.lt_or_ge 13 (Lib.decDigits n.toNat).length with hg | hg
    · exfalso
      rw [Lib.decDigits_length] at hg
      have h5 : Lib.nDigits n.toNat ≤ 5 := by
        rcases Nat.lt_or_ge n.toNat 10 with g | g
        · rw [Lib.nDigits_small g]; omega
        rcases Nat.lt_or_ge n.toNat 100 with g1 | g1
        · rw [Lib.nDigits_unique 1 n.toNat (by omega) (by omega)]; omega
        rcases Nat.lt_or_ge n.toNat 1000 with g2 | g2
        · rw [Lib.nDigits_unique 2 n.toNat (by omega) (by omega)]; omega
        rcases Nat.lt_or_ge n.toNat 10000 with g3 | g3
        · rw [Lib.nDigits_unique 3 n.toNat (by omega) (by omega)]; omega
        · rw [Lib.nDigits_unique 4 n.toNat (by omega) (by omega)]; omega
      omega
    · exact hg
  have hv : signedB x.data.toList = (n, true) := by
    rw [← hx, e]
    have hc : c ≠ 45 := by intro e; subst e; simp at h2
    simp only [signedB, if_neg hc]
    rw [← e, valueB, if_pos ⟨d3, hl⟩, if_pos d1, d2]
    simp
    omega
  rw [readSig, hv]
  rfl
theorem readDec_text {x : ByteArray} {n : Int} (h : readDec x = some n) : Lib.itoa n = x.data.toList := by
  unfold readDec at h
  split at h
  · split at h
    · next e => injection h with h; rw [← h]; exact e
    · cases h
  · cases h
theorem readDec_itoa {n : Int} (h0 : -9223372036854775808 ≤ n) (h1 : n ≤ 9223372036854775807) : readDec ⟨(Lib.itoa n).toArray⟩ = some n := by
  rw [readDec]
  simp only [parse_itoa h0 h1]
  simp
theorem itoa_noSep {n : Int} : ∀ c ∈ Lib.itoa n, c ≠ 47 := by
  intro c hc
  unfold Lib.itoa at hc
  split at hc
  · rcases List.mem_cons.1 hc with rfl | hc
    · decide
    · exact dec_noSep _ c hc
  · exact dec_noSep _ c hc
end Go.Proofs.YtmfidoahdkipmaaDoor
