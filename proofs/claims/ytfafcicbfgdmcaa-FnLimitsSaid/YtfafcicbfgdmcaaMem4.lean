/- Words for memory: elements by index; slices of strings and Booleans; blocks whose shape stays. Nothing of the program stands here. -/
import Derived.Test.YtfafcicbfgdmcaaMem2
namespace Go.Proofs.Ytfafcicbfgdmcaa
open Go.RowKit
set_option linter.unusedVariables false

def encStr (s : ByteArray) : List Value := [.string s]
def encBool (b : Bool) : List Value := [.bool b]
def strEq (a b : ByteArray) : Bool := a.toList == b.toList
theorem strEq_iff (a b : ByteArray) : strEq a b = true ↔ a = b := by simp [strEq, toList_inj]
def boolEq (a b : Bool) : Bool := a == b
theorem boolEq_iff (a b : Bool) : boolEq a b = true ↔ a = b := by simp [boolEq]

/-- Element k of a slice that reads as a list: its cells, in a later world. -/
theorem RdF.get {α : Type} {enc : α → List Value} {sz : Nat} {w w' : World} {lo hi B : Nat} {A : Option Addr} {n c : Nat} {xs : List α} {k : Nat} (h : RdF enc sz w lo hi (.slice A n c) xs) (hb : Below B w w') (hB : hi ≤ B) (hk : k < xs.length) :
    ∃ (x : α) (b off : Nat), Hid (xs[k]? = some x) ∧ A = some ⟨b, off, none⟩ ∧ lo ≤ b ∧ b < hi ∧ ∀ j u, (enc x)[j]? = some u → w'.cell? ⟨b, off + k * sz + j, none⟩ = some u := by
  obtain ⟨A', c', hv, hc, hA⟩ := h
  injection hv with h1 h2 h3
  obtain ⟨b, off, hb1, h4, h5, hcell⟩ := hA (by omega)
  have hx : xs[k]? = some xs[k] := List.getElem?_eq_getElem hk
  exact ⟨xs[k], b, off, hx, h1.trans hb1, h4, h5, fun j u hu => (hb.cell (p := ⟨b, off + k * sz + j, none⟩) (by show b < _; omega)).trans (hcell k _ hx j u hu)⟩
theorem RdF.str {w w' : World} {lo hi B : Nat} {A : Option Addr} {n c : Nat} {xs : List ByteArray} {k : Nat} (h : RdF encStr 1 w lo hi (.slice A n c) xs) (hb : Below B w w') (hB : hi ≤ B) (hk : k < xs.length) :
    ∃ (x : ByteArray) (b off : Nat), Hid (xs[k]? = some x) ∧ A = some ⟨b, off, none⟩ ∧ b < hi ∧ w'.cell? ⟨b, off + k, none⟩ = some (.string x) := by
  obtain ⟨x, b, off, h1, h2, h3, h4, h5⟩ := h.get hb hB hk
  exact ⟨x, b, off, h1, h2, h4, by simpa using h5 0 _ rfl⟩
theorem RdF.int {w w' : World} {lo hi B : Nat} {A : Option Addr} {n c : Nat} {xs : List Int} {k : Nat} (h : RdF encInt 1 w lo hi (.slice A n c) xs) (hb : Below B w w') (hB : hi ≤ B) (hk : k < xs.length) :
    ∃ (x : Int) (b off : Nat), Hid (xs[k]? = some x) ∧ A = some ⟨b, off, none⟩ ∧ b < hi ∧ w'.cell? ⟨b, off + k, none⟩ = some (.int .i64 x) := by
  obtain ⟨x, b, off, h1, h2, h3, h4, h5⟩ := h.get hb hB hk
  exact ⟨x, b, off, h1, h2, h4, by simpa using h5 0 _ rfl⟩
theorem RdF.bool {w w' : World} {lo hi B : Nat} {A : Option Addr} {n c : Nat} {xs : List Bool} {k : Nat} (h : RdF encBool 1 w lo hi (.slice A n c) xs) (hb : Below B w w') (hB : hi ≤ B) (hk : k < xs.length) :
    ∃ (x : Bool) (b off : Nat), Hid (xs[k]? = some x) ∧ A = some ⟨b, off, none⟩ ∧ b < hi ∧ w'.cell? ⟨b, off + k, none⟩ = some (.bool x) := by
  obtain ⟨x, b, off, h1, h2, h3, h4, h5⟩ := h.get hb hB hk
  exact ⟨x, b, off, h1, h2, h4, by simpa using h5 0 _ rfl⟩
/-- The form of a slice that reads as a list. -/
theorem RdF.form {α : Type} {enc : α → List Value} {sz : Nat} {w : World} {lo hi : Nat} {v : Value} {xs : List α} (h : RdF enc sz w lo hi v xs) : ∃ A c, v = .slice A xs.length c ∧ xs.length ≤ c := by
  obtain ⟨A, c, hv, hc, _⟩ := h
  exact ⟨A, c, hv, hc⟩
theorem RdW.form {α : Type} {enc : α → List Value} {sz : Nat} {t : TypeId} {w : World} {lo hi : Nat} {v : Value} {xs : List α} (h : RdW enc sz t w lo hi v xs) : ∃ A c, v = .slice A xs.length c ∧ xs.length ≤ c := by
  obtain ⟨A, c, hv, hc, _⟩ := h
  exact ⟨A, c, hv, hc⟩
/-- 'xs[:k]'. -/
theorem RdF.pre {α : Type} {enc : α → List Value} {sz : Nat} {w : World} {lo hi : Nat} {A : Option Addr} {n c k : Nat} {xs : List α} (h : RdF enc sz w lo hi (.slice A n c) xs) (hk : k ≤ xs.length) : RdF enc sz w lo hi (.slice A k c) (xs.take k) := by
  obtain ⟨A', c', hv, hc, hA⟩ := h
  injection hv with h1 h2 h3
  subst h1 h3
  have hl : (xs.take k).length = k := by simp; omega
  refine ⟨A, c, by rw [hl], by omega, fun hp => ?_⟩
  obtain ⟨b, off, h4, h5, h6, h7⟩ := hA (by omega)
  refine ⟨b, off, h4, h5, h6, fun i x hx j u hu => h7 i x ?_ j u hu⟩
  rw [List.getElem?_take] at hx
  split at hx
  · exact hx
  · cases hx
/-- 'xs[k:]' of a slice that has an element there. -/
theorem RdF.suf {α : Type} {enc : α → List Value} {sz : Nat} {w : World} {lo hi b off n c k : Nat} {xs : List α} (h : RdF enc sz w lo hi (.slice (some ⟨b, off, none⟩) n c) xs) (hk : k ≤ xs.length) (hl : k < xs.length) : RdF enc sz w lo hi (.slice (some ⟨b, off + k * sz, none⟩) (n - k) (c - k)) (xs.drop k) := by
  obtain ⟨A', c', hv, hc, hA⟩ := h
  injection hv with h1 h2 h3
  subst h3
  have hn : n = xs.length := h2
  refine ⟨_, c - k, by rw [List.length_drop, hn], by rw [List.length_drop]; omega, fun hp => ?_⟩
  obtain ⟨b', off', h4, h5, h6, h7⟩ := hA (by omega)
  rw [← h1] at h4
  injection h4 with h4
  injection h4 with e1 e2 e3
  subst e1 e2
  refine ⟨b, off + k * sz, rfl, h5, h6, fun i x hx j u hu => ?_⟩
  rw [List.getElem?_drop] at hx
  have := h7 (k + i) x hx j u hu
  rw [Nat.add_mul] at this
  rw [show off + k * sz + i * sz + j = off + (k * sz + i * sz) + j by omega]
  exact this
theorem RowTo.snoc {α : Type} {enc : α → List Value} {sz : Nat} {ar : Array Value} {xs : List α} {x : α} (h : RowTo enc sz ar xs xs.length) (he : ∀ x, (enc x).length = sz) (hs : xs.length * sz + sz ≤ ar.size) :
    RowTo enc sz (setL ar (xs.length * sz) (enc x)) (xs ++ [x]) (xs.length + 1) := by
  have h' : RowTo enc sz ar (xs ++ [x]) xs.length := fun i y hi hy j u hu => h i y hi (by rwa [List.getElem?_append_left hi] at hy) j u hu
  exact h'.step' (by simp) he hs

theorem Blk.c2 {w : World} {g : Nat} {t : TypeId} {a b : Value} (h : Blk w g t #[a, b]) : w.cell? ⟨g, 0, none⟩ = some a ∧ w.cell? ⟨g, 1, none⟩ = some b := ⟨h.cell 0, h.cell 1⟩
theorem Blk.c3 {w : World} {g : Nat} {t : TypeId} {a b c : Value} (h : Blk w g t #[a, b, c]) : w.cell? ⟨g, 0, none⟩ = some a ∧ w.cell? ⟨g, 1, none⟩ = some b ∧ w.cell? ⟨g, 2, none⟩ = some c := ⟨h.cell 0, h.cell 1, h.cell 2⟩
theorem Blk.c4 {w : World} {g : Nat} {t : TypeId} {a b c d : Value} (h : Blk w g t #[a, b, c, d]) : w.cell? ⟨g, 0, none⟩ = some a ∧ w.cell? ⟨g, 1, none⟩ = some b ∧ w.cell? ⟨g, 2, none⟩ = some c ∧ w.cell? ⟨g, 3, none⟩ = some d := ⟨h.cell 0, h.cell 1, h.cell 2, h.cell 3⟩
theorem Blk.c5 {w : World} {g : Nat} {t : TypeId} {a b c d e : Value} (h : Blk w g t #[a, b, c, d, e]) : w.cell? ⟨g, 0, none⟩ = some a ∧ w.cell? ⟨g, 1, none⟩ = some b ∧ w.cell? ⟨g, 2, none⟩ = some c ∧ w.cell? ⟨g, 3, none⟩ = some d ∧ w.cell? ⟨g, 4, none⟩ = some e := ⟨h.cell 0, h.cell 1, h.cell 2, h.cell 3, h.cell 4⟩
theorem Blk.newAt {w : World} {n : Nat} {t : TypeId} {cs : Array Value} (h : n = w.heap.size) : Blk (w.alloc (.cells cs t)) n t cs := by rw [h]; exact Blk.new w t cs
theorem Blk.chg {w w' : World} {g lo hi : Nat} {t : TypeId} {cs : Array Value} (h : Blk w g t cs) (hc : Chg lo hi w w') (hg : g < w.heap.size) (hd : g < lo ∨ hi ≤ g) : Blk w' g t cs := (hc.block g hg hd).trans h

/-- Only blocks from lo to hi - 1 have turned; each keeps its form; only blocks of type t have turned. -/
structure Mrk (t : TypeId) (lo hi : Nat) (w w' : World) : Prop where
  chg : Chg lo hi w w'
  form : ∀ g t' ar, Blk w g t' ar → ∃ ar', Blk w' g t' ar' ∧ ar'.size = ar.size ∧ (t' ≠ t → ar' = ar)
theorem Mrk.refl (t : TypeId) (lo hi : Nat) (w : World) : Mrk t lo hi w w := ⟨Chg.refl _ _ _, fun g t' ar h => ⟨ar, h, rfl, fun _ => rfl⟩⟩
theorem Mrk.trans {t : TypeId} {lo hi : Nat} {a b c : World} (h : Mrk t lo hi a b) (k : Mrk t lo hi b c) : Mrk t lo hi a c :=
  ⟨h.chg.trans k.chg, fun g t' ar hg => by
    obtain ⟨ar1, h1, h2, h3⟩ := h.form g t' ar hg
    obtain ⟨ar2, k1, k2, k3⟩ := k.form g t' ar1 h1
    exact ⟨ar2, k1, k2.trans h2, fun hne => (k3 hne).trans (h3 hne)⟩⟩
theorem Mrk.of_below {t : TypeId} {lo hi : Nat} {w w' : World} (h : Below w.heap.size w w') : Mrk t lo hi w w' :=
  ⟨Chg.of_below h, fun g t' ar hg => ⟨ar, hg.below h hg.lt, rfl, fun _ => rfl⟩⟩
theorem Mrk.set {t : TypeId} {lo hi : Nat} {w : World} {g : Nat} {cs : Array Value} (hg : Blk w g t cs) (h1 : lo ≤ g) (h2 : g < hi) (i : Nat) (u : Value) : Mrk t lo hi w (w.setCell ⟨g, i, none⟩ u) :=
  ⟨(Chg.refl _ _ _).setCell (p := ⟨g, i, none⟩) h1 h2 u, fun g' t' ar hb => by
    by_cases hgg : g' = g
    · subst hgg
      have e : some (Obj.cells ar t' (0, 0)) = some (Obj.cells cs t (0, 0)) := hb.symm.trans hg
      injection e with e
      injection e with e1 e2 e3
      subst e1 e2
      exact ⟨_, hb.set_ i u, by simp, fun hne => absurd rfl hne⟩
    · exact ⟨ar, hb.far hgg u, rfl, fun _ => rfl⟩⟩
/-- A slice that can be written: it begins at the head of a block. -/
def WrF (t : TypeId) (sz : Nat) (w : World) (lo hi : Nat) (v : Value) (n : Nat) : Prop :=
  ∃ A c, v = .slice A n c ∧ n ≤ c ∧ (0 < n → ∃ g arr, A = some ⟨g, 0, none⟩ ∧ lo ≤ g ∧ g < hi ∧ Blk w g t arr ∧ n * sz ≤ arr.size)
theorem RdW.wr {α : Type} {enc : α → List Value} {sz : Nat} {w : World} {lo hi : Nat} {v : Value} {xs : List α} {t : TypeId} (h : RdW enc sz t w lo hi v xs) : WrF t sz w lo hi v xs.length := by
  obtain ⟨A, c, hv, hc, hA⟩ := h
  refine ⟨A, c, hv, hc, fun hl => ?_⟩
  obtain ⟨g, arr, h1, h2, h3, h4, h5, _⟩ := hA hl
  exact ⟨g, arr, h1, h2, h3, h4, h5⟩
theorem WrF.mrk {t t' : TypeId} {sz : Nat} {w w' : World} {lo hi lo' hi' : Nat} {v : Value} {n : Nat} (h : WrF t sz w lo hi v n) (hm : Mrk t' lo' hi' w w') : WrF t sz w' lo hi v n := by
  obtain ⟨A, c, hv, hc, hA⟩ := h
  refine ⟨A, c, hv, hc, fun hl => ?_⟩
  obtain ⟨g, arr, h1, h2, h3, h4, h5⟩ := hA hl
  obtain ⟨ar', h6, h7, _⟩ := hm.form g t arr h4
  exact ⟨g, ar', h1, h2, h3, h6, by omega⟩
theorem WrF.below {t : TypeId} {sz B : Nat} {w w' : World} {lo hi : Nat} {v : Value} {n : Nat} (h : WrF t sz w lo hi v n) (hb : Below B w w') (hB : hi ≤ B) : WrF t sz w' lo hi v n := by
  obtain ⟨A, c, hv, hc, hA⟩ := h
  refine ⟨A, c, hv, hc, fun hl => ?_⟩
  obtain ⟨g, arr, h1, h2, h3, h4, h5⟩ := hA hl
  exact ⟨g, arr, h1, h2, h3, h4.below hb (by omega), h5⟩
theorem WrF.wide {t : TypeId} {sz : Nat} {w : World} {lo hi lo' hi' : Nat} {v : Value} {n : Nat} (h : WrF t sz w lo hi v n) (hl : lo' ≤ lo) (hh : hi ≤ hi') : WrF t sz w lo' hi' v n := by
  obtain ⟨A, c, hv, hc, hA⟩ := h
  refine ⟨A, c, hv, hc, fun hl => ?_⟩
  obtain ⟨g, arr, h1, h2, h3, h4, h5⟩ := hA hl
  exact ⟨g, arr, h1, by omega, by omega, h4, h5⟩

theorem OwnL.mono {α : Type} {enc : α → List Value} {sz : Nat} {t : TypeId} {w : World} {base base' : Nat} {v : Value} {xs : List α} (h : OwnL enc sz t w base v xs) (hb : base' ≤ base) : OwnL enc sz t w base' v xs := by
  refine ⟨h.1, ?_⟩
  rcases h.2 with h0 | ⟨g, cap, cur, h1, h2, rest⟩
  · exact .inl h0
  · exact .inr ⟨g, cap, cur, h1, Nat.le_trans hb h2, rest⟩
theorem Blk.grown {w w' : World} {g : Nat} {t : TypeId} {cs : Array Value} {row : Option Nat} (hg : w.grownBy w' row) (h : Blk w g t cs) (hn : some g ≠ row) : Blk w' g t cs := (hg.block g h.lt hn).trans h
theorem OwnL.emptyAt {α : Type} {enc : α → List Value} {sz : Nat} {t : TypeId} {w : World} {base n : Nat} (hn : n = w.heap.size) (hb : base ≤ w.heap.size) : OwnL enc sz t (w.alloc (.cells #[] t)) base (.slice (some ⟨n, 0, none⟩) 0 0) ([] : List α) := by
  rw [hn]; exact OwnL.empty w base hb
theorem OwnL.drew {α : Type} {enc : α → List Value} {sz : Nat} {t : TypeId} {w : World} {base : Nat} {v : Value} {xs : List α} (h : OwnL enc sz t w base v xs) : OwnL enc sz t w.drew base v xs := h
theorem RdW.set {α : Type} {enc : α → List Value} {sz : Nat} {t : TypeId} {w : World} {lo hi : Nat} {v : Value} {xs : List α} (h : RdW enc sz t w lo hi v xs) {p : Addr} (hp : p.block < lo ∨ hi ≤ p.block) (u : Value) : RdW enc sz t (w.setCell p u) lo hi v xs :=
  h.keep fun b h1 h2 => Below.heap_setCell w p u b (by omega)
theorem RdF.set {α : Type} {enc : α → List Value} {sz : Nat} {w : World} {lo hi : Nat} {v : Value} {xs : List α} (h : RdF enc sz w lo hi v xs) {p : Addr} (hp : p.block < lo ∨ hi ≤ p.block) (u : Value) : RdF enc sz (w.setCell p u) lo hi v xs :=
  h.keep fun b h1 h2 => Below.heap_setCell w p u b (by omega)
theorem Blk.ne {w : World} {g g' : Nat} {t t' : TypeId} {cs cs' : Array Value} (h : Blk w g t cs) (h' : Blk w g' t' cs') (hne : t ≠ t') : g ≠ g' := by
  intro e
  subst e
  have e : some (Obj.cells cs t (0, 0)) = some (Obj.cells cs' t' (0, 0)) := h.symm.trans h'
  injection e with e
  injection e with e1 e2
  exact hne e2
theorem RdW.mono_blk {α : Type} {enc : α → List Value} {sz : Nat} {t : TypeId} {w w' : World} {lo hi : Nat} {v : Value} {xs : List α} (h : RdW enc sz t w lo hi v xs) (hk : ∀ g ar, Blk w g t ar → Blk w' g t ar) : RdW enc sz t w' lo hi v xs := by
  obtain ⟨A, c, hv, hc, hA⟩ := h
  refine ⟨A, c, hv, hc, fun hl => ?_⟩
  obtain ⟨g, arr, hg, h1, h2, hb, hs, hr⟩ := hA hl
  exact ⟨g, arr, hg, h1, h2, hk g arr hb, hs, hr⟩
theorem Below.undrew {B : Nat} {w w' : World} (h : Below B w.drew w') : Below B w w' := ⟨h.os, h.tape, h.output, h.size, h.block⟩
theorem prefAll_all {α : Type} {p : α → Bool} {q : List α → α → Bool} {xs : List α} : ∀ {k : Nat}, prefAll (fun b x => p x && q b x) xs k = true → ∀ x ∈ xs.take k, p x = true
  | 0, _ => by simp
  | k + 1, h => by
    simp only [prefAll, Bool.and_eq_true] at h
    intro b hb
    rw [List.take_add_one, List.mem_append] at hb
    rcases hb with hb | hb
    · exact prefAll_all h.1 b hb
    · cases hx : xs[k]? with
      | none => rw [hx] at hb; simp at hb
      | some x =>
        rw [hx] at hb h
        simp at hb
        subst hb
        have := h.2
        simp only [Bool.and_eq_true] at this
        exact this.1
/-- A list of lists, side by side. -/
theorem map_at {α β : Type} {f : α → β} {rs : List α} {xs : List β} (h : rs.map f = xs) {k : Nat} {r : α} (hr : rs[k]? = some r) : xs[k]? = some (f r) := by rw [← h, List.getElem?_map, hr]; rfl
end Go.Proofs.Ytfafcicbfgdmcaa
