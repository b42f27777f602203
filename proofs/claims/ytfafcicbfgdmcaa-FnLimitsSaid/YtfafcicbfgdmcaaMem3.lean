/- Appending a whole slice to a slice of the call's own. Nothing of the program stands here. -/
import Derived.Test.YtfafcicbfgdmcaaMem2
import Derived.Laws.MakeOwn
import Derived.Laws.OwnMore
import Derived.Maps.AppendAt
namespace Go.Proofs.Ytfafcicbfgdmcaa
open Go.RowKit
set_option linter.unusedVariables false

theorem appArg_none {P : Program} (w : World) (base : Nat) (t ty e : TypeId) (i : TypeInfo) (size : Nat) (ht : P.underlying t = some (.slice e)) (hi : P.info? e = some i)
    (v : Value) (n : Nat) (xs : List Value) (c : Nat) (hown : w.ownsRow base e size v n xs) :
    (Builtin.append_ #[t, t] ty #[v, .slice none 0 c]).run P w = .ok v w := by
  rcases hown.2 with ⟨rfl, rfl⟩ | ⟨g, cap, cur, rfl, _, _, hnc, _⟩
  · simp [Builtin.append_, run_underlying ht, sizeOf, typeInfo, hi, Builtin.lenOf, Builtin.firstCells]
  · simp [Builtin.append_, run_underlying ht, sizeOf, typeInfo, hi, Builtin.lenOf, Builtin.firstCells, hnc, storeCells]

/-- The cells of a list of elements lie one behind another. -/
theorem flat_cells {α : Type} {enc : α → List Value} {sz : Nat} (hsz : 0 < sz) (he : ∀ x, (enc x).length = sz) : ∀ (xs : List α) (j : Nat) (u : Value), (xs.flatMap enc)[j]? = some u → ∃ x, xs[j / sz]? = some x ∧ (enc x)[j % sz]? = some u := by
  intro xs
  induction xs with
  | nil => intro j u h; simp at h
  | cons x xs ih =>
    intro j u h
    rw [List.flatMap_cons] at h
    by_cases hj : j < sz
    · rw [List.getElem?_append_left (by rw [he]; exact hj)] at h
      exact ⟨x, by rw [Nat.div_eq_of_lt hj]; rfl, by rw [Nat.mod_eq_of_lt hj]; exact h⟩
    · rw [List.getElem?_append_right (by rw [he]; omega), he] at h
      obtain ⟨y, hy, hu⟩ := ih _ _ h
      have e1 : j = (j - sz) + sz := by omega
      refine ⟨y, ?_, ?_⟩
      · rw [e1, Nat.add_div_right _ hsz]
        simpa using hy
      · rw [e1, Nat.add_mod_right]
        exact hu

theorem flat_len {α : Type} {enc : α → List Value} {sz : Nat} (he : ∀ x, (enc x).length = sz) : ∀ xs : List α, (xs.flatMap enc).length = xs.length * sz
  | [] => by simp
  | x :: xs => by rw [List.flatMap_cons, List.length_append, he, flat_len he xs, List.length_cons, Nat.succ_mul]; omega
/-- 'append(v, x...)': the run's equation. -/
theorem run_app {P : Program} {α : Type} {enc : α → List Value} (w : World) (base : Nat) (t ty e : TypeId) (z : Value) (size bytes : Nat) (ht : P.underlying t = some (.slice e)) (hinfo : (P.info? e).map (fun i => (i.zero, i.size, i.bytes)) = some (some z, size, bytes))
    (hzs : z.cells.size = size) (hsz : 0 < size) (he : ∀ x, (enc x).length = size) (h1 : ∀ x, ∀ u ∈ enc x, u.oneCell' = true) (hb : bytes ≤ 128)
    (v x : Value) (ys xs : List α) (lo hi : Nat) (hown : OwnL enc size e w base v ys) (hx : RdF enc size w lo hi x xs) (hbase : base ≤ w.heap.size) (hlen : ys.length + xs.length ≤ 1099511627776) :
    ∃ v' w', (Builtin.append_ #[t, t] ty #[v, x]).run P w = .ok v' w' ∧ OwnL enc size e w' base v' (ys ++ xs) ∧ w.grownBy w' v.ownBlock ∧ (∀ B a0, B ≤ base → Below B a0 w → Below B a0 w') := by
  obtain ⟨i, hi', hz, hsi, hby⟩ := info_parts hinfo
  obtain ⟨A, c, rfl, hc, hA⟩ := hx
  by_cases hl : xs.length = 0
  · have hx0 : xs = [] := List.eq_nil_of_length_eq_zero hl
    subst hx0
    cases A with
    | none =>
      refine ⟨v, w, appArg_none w base t ty e i size ht hi' v _ _ c hown, by simpa using hown, ⟨rfl, rfl, rfl, Nat.le_refl _, fun _ _ _ => rfl⟩, fun B a0 _ h => h⟩
    | some a =>
      have hlen' : ys.length ≤ 1099511627776 := by simpa using hlen
      have : ys.length * bytes ≤ 1099511627776 * 128 := Nat.mul_le_mul hlen' hb
      obtain ⟨v', w', hr, h2, h3, _, _⟩ := run_append_own_at (P := P) w base t ty e i z size bytes ht hi' hz hsi hby hzs hsz v ys.length (ys.flatMap enc) hown a 0 c [] (by simp) (fun j u h => by simp at h) (by simp) (by unfold maxLen; omega) (by simpa using Nat.le_trans this (by omega)) hbase
      refine ⟨v', w', hr, by simpa [OwnL] using h2, h3, fun B a0 hB hbel => hbel.grown h3 (by omega) (fun k hk => by have := OwnL.block_ge hown k hk; omega)⟩
  · obtain ⟨b, off, rfl, -, -, hcell⟩ := hA (by omega)
    have hm : (ys.length + xs.length) * bytes ≤ 1099511627776 * 128 := Nat.mul_le_mul hlen hb
    obtain ⟨v', w', hr, h2, h3, _, _⟩ := run_append_own_at (P := P) w base t ty e i z size bytes ht hi' hz hsi hby hzs hsz v ys.length (ys.flatMap enc) hown ⟨b, off, none⟩ xs.length c (xs.flatMap enc)
      (flat_len he xs) (fun j u h => by
        obtain ⟨y, hy, hu⟩ := flat_cells hsz he xs j u h
        have h3 := hcell _ _ hy _ _ hu
        have e1 : (⟨b, off, none⟩ : Addr).add j = ⟨b, off + j, none⟩ := by unfold Addr.add; split <;> simp_all
        have e2 : off + j / size * size + j % size = off + j := by
          have := Nat.div_add_mod j size
          have h4 : j / size * size = size * (j / size) := Nat.mul_comm _ _
          omega
        rw [e2] at h3
        rw [e1]; exact h3) (fun u hu => by obtain ⟨y, _, hy⟩ := List.mem_flatMap.1 hu; exact h1 y u hy) (by unfold maxLen; omega) (by omega) hbase
    refine ⟨v', w', hr, ?_, h3, fun B a0 hB hbel => hbel.grown h3 (by omega) (fun k hk => by have := OwnL.block_ge hown k hk; omega)⟩
    unfold OwnL
    rw [List.flatMap_append, List.length_append]
    exact h2

section
variable {P : Program} {α : Type} {enc : α → List Value} {ops : Array Oper} {o : Oper} {a : Act} {Q : Exit → Act → World → Prop}
/-- At the operation. -/
theorem wp_app {K : Act → World → Prop} (w : World) (s x : Operand) (t : TypeId) (ho : o.op = .call { callee := .builtin .append, args := #[s, x], argTypes := #[t, t] })
    (base : Nat) (e : TypeId) (z : Value) (size bytes : Nat) (ht : P.underlying t = some (.slice e)) (hinfo : (P.info? e).map (fun i => (i.zero, i.size, i.bytes)) = some (some z, size, bytes))
    (hzs : z.cells.size = size) (hsz : 0 < size) (he : ∀ x, (enc x).length = size) (h1 : ∀ x, ∀ u ∈ enc x, u.oneCell' = true) (hb : bytes ≤ 128)
    (v xv : Value) (ys xs : List α) (lo hi : Nat) (hs : a.eval s = v) (hxe : a.eval x = xv) (hown : OwnL enc size e w base v ys) (hx : RdF enc size w lo hi xv xs) (hbase : base ≤ w.heap.size) (hlen : ys.length + xs.length ≤ 1099511627776)
    (h : ∀ v' w', OwnL enc size e w' base v' (ys ++ xs) → w.grownBy w' v.ownBlock → (∀ B a0, B ≤ base → Below B a0 w → Below B a0 w') → K (a.put o.dst v') w') : Oper.wp P o a w K Q := by
  obtain ⟨v', w', hr, h2, h3, h4⟩ := run_app (P := P) w base t o.type e z size bytes ht hinfo hzs hsz he h1 hb v xv ys xs lo hi hown hx hbase hlen
  unfold Oper.wp execOp
  simp only [ho, resolve, invoke, builtin, Sem.run_bind, Sem.run_pure, Result.andThen_ok, List.map_toArray, List.map_cons, List.map_nil, hs, hxe, hr]
  exact h v' w' h2 h3 h4
/-- At a plain region's list. -/
theorem wpList_app {rest : List Oper} (w : World) (hgd : o.guard = none) (s x : Operand) (t : TypeId) (ho : o.op = .call { callee := .builtin .append, args := #[s, x], argTypes := #[t, t] })
    (base : Nat) (e : TypeId) (z : Value) (size bytes : Nat) (ht : P.underlying t = some (.slice e)) (hinfo : (P.info? e).map (fun i => (i.zero, i.size, i.bytes)) = some (some z, size, bytes))
    (hzs : z.cells.size = size) (hsz : 0 < size) (he : ∀ x, (enc x).length = size) (h1 : ∀ x, ∀ u ∈ enc x, u.oneCell' = true) (hb : bytes ≤ 128)
    (v xv : Value) (ys xs : List α) (lo hi : Nat) (hs : a.eval s = v) (hxe : a.eval x = xv) (hown : OwnL enc size e w base v ys) (hx : RdF enc size w lo hi xv xs) (hbase : base ≤ w.heap.size) (hlen : ys.length + xs.length ≤ 1099511627776)
    (h : ∀ v' w', OwnL enc size e w' base v' (ys ++ xs) → w.grownBy w' v.ownBlock → (∀ B a0, B ≤ base → Below B a0 w → Below B a0 w') → wpList P ops Q rest (a.put o.dst v') w') : wpList P ops Q (o :: rest) a w :=
  wpList_plain hgd fun K hK => wp_app w s x t ho base e z size bytes ht hinfo hzs hsz he h1 hb v xv ys xs lo hi hs hxe hown hx hbase hlen fun v' w' h2 h3 h4 => hK _ _ (h v' w' h2 h3 h4)
/-- At a step of a region that draws. -/
theorem step_app {K : Act → World → Prop} {E : Prop} (w : World) (hgd : o.guard = none) (s x : Operand) (t : TypeId) (ho : o.op = .call { callee := .builtin .append, args := #[s, x], argTypes := #[t, t] })
    (base : Nat) (e : TypeId) (z : Value) (size bytes : Nat) (ht : P.underlying t = some (.slice e)) (hinfo : (P.info? e).map (fun i => (i.zero, i.size, i.bytes)) = some (some z, size, bytes))
    (hzs : z.cells.size = size) (hsz : 0 < size) (he : ∀ x, (enc x).length = size) (h1 : ∀ x, ∀ u ∈ enc x, u.oneCell' = true) (hb : bytes ≤ 128)
    (v xv : Value) (ys xs : List α) (lo hi : Nat) (hs : a.eval s = v) (hxe : a.eval x = xv) (hown : OwnL enc size e w base v ys) (hx : RdF enc size w lo hi xv xs) (hbase : base ≤ w.heap.size) (hlen : ys.length + xs.length ≤ 1099511627776)
    (h : ∀ v' w', OwnL enc size e w' base v' (ys ++ xs) → w.grownBy w' v.ownBlock → (∀ B a0, B ≤ base → Below B a0 w → Below B a0 w') → K (a.put o.dst v') w') :
    if Region.wanted o (yielded ops a.tmps) = true then Oper.wp P o a w K Q else E := by
  have hw : Region.wanted o (yielded ops a.tmps) = true := by simp [Region.wanted, hgd]
  rw [if_pos hw]
  exact wp_app w s x t ho base e z size bytes ht hinfo hzs hsz he h1 hb v xv ys xs lo hi hs hxe hown hx hbase hlen h
end

/-- One element in a block of its own. -/
theorem RdF.one {α : Type} {enc : α → List Value} {sz : Nat} {w : World} {b : Nat} {t : TypeId} {cs : Array Value} {x : α} (h : Blk w b t cs) (hc : cs.toList = enc x) {lo hi : Nat} (hl : lo ≤ b) (hh : b < hi) : RdF enc sz w lo hi (.slice (some ⟨b, 0, none⟩) 1 1) [x] := by
  refine ⟨_, 1, rfl, Nat.le_refl _, fun _ => ⟨b, 0, rfl, hl, hh, fun i y hy j u hu => ?_⟩⟩
  have hi : i = 0 := by
    have := (List.getElem?_eq_some_iff.1 hy).1
    simpa using this
  subst hi
  simp at hy
  subst hy
  rw [h.cell, ← Array.getElem?_toList, hc]
  simpa using hu
/-- 'make([]T, 0, n)': a slice of the call's own, empty. -/
theorem mkCap {P : Program} {α : Type} {enc : α → List Value} (t e : TypeId) (h1 : P.underlying t = some (.slice e)) (z : Value) (size bytes : Nat)
    (hinfo : (P.info? e).map (fun i => (i.zero, i.size, i.bytes)) = some (some z, size, bytes)) (hzs : z.cells.size = size) (n : Nat) (hb : bytes * n ≤ 281474976710656) (h63 : n ≤ maxLen) :
    ∃ arr : Array Value, (∀ W : World, (Instr.makeSlice t (.int .i64 0) (.int .i64 (n : Int))).run P W = .ok (.slice (some ⟨W.heap.size, 0, none⟩) 0 n) (W.alloc (.cells arr e))) ∧
      ∀ (W : World) (base : Nat), base ≤ W.heap.size → OwnL enc size e (W.alloc (.cells arr e)) base (.slice (some ⟨W.heap.size, 0, none⟩) 0 n) ([] : List α) := by
  obtain ⟨i, hi, hz, hs, hby⟩ := info_parts hinfo
  refine ⟨madeCells z.cells (n * i.size), fun W => ?_, fun W base hbase => ?_⟩
  · have hbb : (i.bytes : Int) * (n : Int) ≤ 281474976710656 := by
      rw [hby]
      have h : ((bytes * n : Nat) : Int) ≤ 281474976710656 := by omega
      rwa [Int.natCast_mul] at h
    have hr := run_make (P := P) W t e i z h1 hi hz .i64 .i64 0 n (by omega) (by omega) hbb (by unfold maxLen at h63; omega)
    simpa using hr
  · refine ⟨by simp, .inr ⟨W.heap.size, n, _, rfl, hbase, heap_alloc_new W _, Nat.zero_le _, h63, by rw [size_madeCells, hs], by simp⟩⟩
end Go.Proofs.Ytfafcicbfgdmcaa
