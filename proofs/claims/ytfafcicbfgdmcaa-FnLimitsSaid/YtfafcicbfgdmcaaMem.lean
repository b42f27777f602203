/- Words for memory: a slice that reads as a list of flat elements; a block known whole. Nothing of the program stands here. -/
import Derived.WalkKit
import Derived.WalkSpells
import Derived.WalkLawsBesides
import Derived.Lib.Hide
import Derived.Deep.Draws
import Derived.Deep.QuietTactic
import Derived.BigQuiet
namespace Go.Proofs.Ytfafcicbfgdmcaa
open Go.RowKit

/-- A range test. -/
def inR (n a b : Int) : Bool := decide (a ≤ n) && decide (n ≤ b)
theorem inR_true {n a b : Int} (h1 : a ≤ n) (h2 : n ≤ b) : inR n a b = true := by simp [inR, h1, h2]
theorem inR_lo {n a b : Int} (h1 : n < a) : inR n a b = false := by simp [inR]; omega
theorem inR_hi {n a b : Int} (h1 : b < n) : inR n a b = false := by simp [inR]; omega
theorem inR_iff {n a b : Int} : inR n a b = true ↔ a ≤ n ∧ n ≤ b := by simp [inR]

theorem ret_bool {a b : Bool} (h : a = b) : Ending.returned (.bool a) = .returned (.bool b) := by rw [h]
theorem ret_int {k : IntKind} {a b : Int} (h : a = b) : Ending.returned (.int k a) = .returned (.int k b) := by rw [h]

theorem below_drewN {B : Nat} {a w : World} (h : Below B a w) (n : Nat) : Below B a (w.drewN n) := ⟨h.os, h.tape, h.output, h.size, h.block⟩
theorem Below.step {B C : Nat} {a w w1 : World} (h : Below C w w1) (hC : B ≤ C) (h0 : Below B a w) : Below B a w1 := h0.trans (h.mono hC)

/-- Posts behind definitions: the walk's simp does not take them apart. -/
def RetB (b : Bool) (w : World) (e : Ending) (w' : World) : Prop := e = .returned (.bool b) ∧ Below w.heap.size w w'
def RetI (p : Int → Prop) (w : World) (e : Ending) (w' : World) : Prop := ∃ r : Int, e = .returned (.int .i64 r) ∧ p r ∧ Below w.heap.size w w'
def RetV (p : Value → World → Prop) (w : World) (e : Ending) (w' : World) : Prop := ∃ v : Value, e = .returned v ∧ p v w' ∧ Below w.heap.size w w'
def RetVC (p : Value → World → Prop) (c : Int) (w : World) (e : Ending) (w' : World) : Prop := ∃ v : Value, e = .returned (.tuple #[v, .int .i64 c]) ∧ p v w' ∧ Below w.heap.size w w'
def SzN (l : Int) (n : Nat) (r : Int) : Prop := r ≤ l ∧ (0 ≤ r → n ≤ l)

/-- The worlds that are as wo below block B: a region whose callees make memory of their own is quiet in this class. -/
structure Cls (B : Nat) (wo : World) where
  w : World
  h : Below B wo w
instance {B : Nat} {wo : World} : Nonempty (Cls B wo) := ⟨⟨wo, Below.refl _ _⟩⟩
theorem Cls.cell {B : Nat} {wo : World} {p : Addr} {v : Value} (hp : p.block < B) (h : wo.cell? p = some v) : ∀ n : Cls B wo, n.w.cell? p = some v := fun n => (n.h.cell hp).trans h
theorem wp_region_cls {P : Program} {id : Nat} {Q : Exit → Act → World → Prop} {a : Act} {w : World} {l : List Oper} (B : Nat) (wo : World) (hm : P.follows .mixedOrders = true) (hB : Region.lexB .any l.toArray = true) (h0 : Below B wo w)
    (h : wpQuiet P l.toArray (fun w' => ∃ n : Cls B wo, w' = n.w) (fun a' => ∀ w', (∃ n : Cls B wo, w' = n.w) → Q .normal a' w') l a) : (Code.region id l.toArray true).wp P Q a w :=
  wp_region_quiet (C := fun w' => ∃ n : Cls B wo, w' = n.w) hm hB ⟨⟨w.drew, h0.drew⟩, rfl⟩ (by simpa using h)
theorem Calls.cls {P : Program} {f : FuncId} {args : Array Value} {B : Nat} {wo : World} {n : Cls B wo} {v : Value} (hB : B ≤ wo.heap.size)
    (h : Calls P f args n.w fun e w' => e = .returned v ∧ Below n.w.heap.size n.w w') : Calls P f args n.w fun e w'' => e = .returned v ∧ ∃ m : Cls B wo, w'' = m.w :=
  h.mono fun _ w' ⟨he, hw⟩ => ⟨he, ⟨w', n.h.trans (hw.mono (Nat.le_trans hB n.h.size))⟩, rfl⟩
theorem Calls.cls_same {P : Program} {f : FuncId} {args : Array Value} {B : Nat} {wo : World} {n : Cls B wo} {v : Value}
    (h : Calls P f args n.w fun e w' => e = .returned v ∧ n.w = w') : Calls P f args n.w fun e w'' => e = .returned v ∧ ∃ m : Cls B wo, w'' = m.w :=
  h.mono fun _ _ ⟨he, hw⟩ => ⟨he, n, hw.symm⟩

/-- Only blocks from lo to hi - 1, and new ones, have turned. -/
structure Chg (lo hi : Nat) (w w' : World) : Prop where
  os : w'.os = w.os
  tape : w'.tape = w.tape
  output : w'.output = w.output
  size : w.heap.size ≤ w'.heap.size
  block : ∀ b, b < w.heap.size → (b < lo ∨ hi ≤ b) → w'.heap[b]? = w.heap[b]?
theorem Chg.refl (lo hi : Nat) (w : World) : Chg lo hi w w := ⟨rfl, rfl, rfl, Nat.le_refl _, fun _ _ _ => rfl⟩
theorem Chg.trans {lo hi : Nat} {a b c : World} (h : Chg lo hi a b) (k : Chg lo hi b c) : Chg lo hi a c :=
  ⟨k.os.trans h.os, k.tape.trans h.tape, k.output.trans h.output, Nat.le_trans h.size k.size, fun i hi ho => (k.block i (Nat.lt_of_lt_of_le hi h.size) ho).trans (h.block i hi ho)⟩
theorem Chg.of_below {lo hi : Nat} {w w' : World} (h : Below w.heap.size w w') : Chg lo hi w w' := ⟨h.os, h.tape, h.output, h.size, fun b hb _ => h.block b hb⟩
theorem Chg.below {lo hi B : Nat} {w w' : World} (h : Chg lo hi w w') (hB : B ≤ lo) (hs : B ≤ w.heap.size) : Below B w w' :=
  ⟨h.os, h.tape, h.output, h.size, fun k hk => h.block k (by omega) (.inl (by omega))⟩
theorem Chg.setCell {lo hi : Nat} {a w : World} (h : Chg lo hi a w) {p : Addr} (h1 : lo ≤ p.block) (h2 : p.block < hi) (u : Value) : Chg lo hi a (w.setCell p u) :=
  h.trans ⟨rfl, rfl, rfl, by simp [World.setCell], fun b _ ho => Below.heap_setCell w p u b (by omega)⟩
theorem Chg.drew {lo hi : Nat} {a w : World} (h : Chg lo hi a w) : Chg lo hi a w.drew := ⟨h.os, h.tape, h.output, h.size, h.block⟩
theorem Chg.wide {lo hi lo' hi' : Nat} {w w' : World} (h : Chg lo hi w w') (h1 : lo' ≤ lo) (h2 : hi ≤ hi') : Chg lo' hi' w w' := ⟨h.os, h.tape, h.output, h.size, fun b hb ho => h.block b hb (by omega)⟩

/-- A block that is known whole, nothing of it frozen. -/
def Blk (w : World) (g : Nat) (t : TypeId) (cs : Array Value) : Prop := w.heap[g]? = some (.cells cs t (0, 0))
section
variable {w w' : World} {g : Nat} {t : TypeId} {cs : Array Value}
theorem Blk.lt (h : Blk w g t cs) : g < w.heap.size := by
  rcases Nat.lt_or_ge g w.heap.size with hlt | hge
  · exact hlt
  · unfold Blk at h; rw [Array.getElem?_eq_none hge] at h; cases h
theorem Blk.cell (h : Blk w g t cs) (i : Nat) : w.cell? ⟨g, i, none⟩ = cs[i]? := cell_of_row w g i cs t (0, 0) h
theorem Blk.frozen (h : Blk w g t cs) (i : Nat) : w.frozen? ⟨g, i, none⟩ = false := by
  unfold Blk at h
  simp [World.frozen?, h]
theorem Blk.new (w : World) (t : TypeId) (cs : Array Value) : Blk (w.alloc (.cells cs t)) w.heap.size t cs := heap_alloc_new w _
theorem Blk.drew (h : Blk w g t cs) : Blk w.drew g t cs := h
theorem Blk.drewN (h : Blk w g t cs) (n : Nat) : Blk (w.drewN n) g t cs := h
theorem Blk.alloc (h : Blk w g t cs) (o : Obj) : Blk (w.alloc o) g t cs := (Below.heap_alloc w o g h.lt).trans h
theorem Blk.set_ (h : Blk w g t cs) (i : Nat) (u : Value) : Blk (w.setCell ⟨g, i, none⟩ u) g t (cs.setIfInBounds i u) := by
  unfold Blk at h ⊢
  simp [World.setCell, Array.getElem?_modify, h]
theorem Blk.far (h : Blk w g t cs) {p : Addr} (hp : g ≠ p.block) (u : Value) : Blk (w.setCell p u) g t cs := (Below.heap_setCell w p u g hp).trans h
theorem Blk.below {B : Nat} (h : Blk w g t cs) (hb : Below B w w') (hg : g < B) : Blk w' g t cs := (hb.block g hg).trans h
theorem Blk.cellv (h : Blk w g t cs) (i : Nat) (hi : i < cs.size) : w.cell? ⟨g, i, none⟩ = some cs[i] := by rw [h.cell]; simp [hi]
end

theorem Blk.some_ {w : World} {g : Nat} {t : TypeId} {cs : Array Value} (h : Blk w g t cs) (i : Nat) (hi : i < cs.size) : ∃ u, w.cell? ⟨g, i, none⟩ = some u := ⟨_, h.cellv i hi⟩

/-- THE SLICE VALUE v READS AS THE LIST xs: element i lies in the sz cells from off + i * sz on, in a block b with lo ≤ b < hi; its cells are 'enc x'. -/
def RdF {α : Type} (enc : α → List Value) (sz : Nat) (w : World) (lo hi : Nat) (v : Value) (xs : List α) : Prop :=
  ∃ A c, v = .slice A xs.length c ∧ xs.length ≤ c ∧ (0 < xs.length → ∃ b off, A = some ⟨b, off, none⟩ ∧ lo ≤ b ∧ b < hi ∧
    ∀ i x, xs[i]? = some x → ∀ j u, (enc x)[j]? = some u → w.cell? ⟨b, off + i * sz + j, none⟩ = some u)

/-- A cut at the front, 'xs[:i]', of a slice that has elements. -/
theorem RdF.take {α : Type} {enc : α → List Value} {sz : Nat} {w : World} {lo hi : Nat} {b off c : Nat} {xs : List α} {i : Nat} (hi' : i ≤ xs.length) (hc : xs.length ≤ c) (h1 : lo ≤ b) (h2 : b < hi)
    (h3 : ∀ i x, xs[i]? = some x → ∀ j u, (enc x)[j]? = some u → w.cell? ⟨b, off + i * sz + j, none⟩ = some u) : RdF enc sz w lo hi (.slice (some ⟨b, off, none⟩) i c) (xs.take i) := by
  have hl : (xs.take i).length = i := by simp; omega
  refine ⟨_, c, by rw [hl], by omega, fun _ => ⟨b, off, rfl, h1, h2, fun j x hx k u hu => h3 j x ?_ k u hu⟩⟩
  rw [List.getElem?_take] at hx
  split at hx
  · exact hx
  · cases hx
section
variable {α : Type} {enc : α → List Value} {sz : Nat} {w w' : World} {lo hi lo' hi' : Nat} {v : Value} {xs : List α}
theorem RdF.keep (h : RdF enc sz w lo hi v xs) (hk : ∀ b, lo ≤ b → b < hi → w'.heap[b]? = w.heap[b]?) : RdF enc sz w' lo hi v xs := by
  obtain ⟨A, c, hv, hc, hA⟩ := h
  refine ⟨A, c, hv, hc, fun hl => ?_⟩
  obtain ⟨b, off, hb, h1, h2, h3⟩ := hA hl
  exact ⟨b, off, hb, h1, h2, fun i x hx j u hu => (World.cell?_of_block (w := w) (hk b h1 h2)).trans (h3 i x hx j u hu)⟩
theorem RdF.below {B : Nat} (h : RdF enc sz w lo hi v xs) (hb : Below B w w') (hB : hi ≤ B) : RdF enc sz w' lo hi v xs :=
  h.keep fun b _ h2 => hb.block b (by omega)
theorem RdF.wide (h : RdF enc sz w lo hi v xs) (hl : lo' ≤ lo) (hh : hi ≤ hi') : RdF enc sz w lo' hi' v xs := by
  obtain ⟨A, c, hv, hc, hA⟩ := h
  refine ⟨A, c, hv, hc, fun hl => ?_⟩
  obtain ⟨b, off, hb, h1, h2, h3⟩ := hA hl
  exact ⟨b, off, hb, by omega, by omega, h3⟩
end

/-- 'make([]T, n)': a new block of n elements. -/
theorem mkRow {P : Program} (t e : TypeId) (h1 : P.underlying t = some (.slice e)) (z : Value) (size bytes : Nat)
    (hinfo : (P.info? e).map (fun i => (i.zero, i.size, i.bytes)) = some (some z, size, bytes)) (n : Nat) (hb : bytes * n ≤ 281474976710656) (h63 : n ≤ 9223372036854775807) :
    ∃ arr : Array Value, arr.size = n * size ∧ ∀ W : World, (Instr.makeSlice t (.int .i64 (n : Int)) (.int .i64 (n : Int))).run P W =
      .ok (.slice (some ⟨W.heap.size, 0, none⟩) n n) (W.alloc (.cells arr e)) := by
  obtain ⟨i, hi, hz, hs, hby⟩ := info_parts hinfo
  refine ⟨madeCells z.cells (n * i.size), by rw [size_madeCells, hs], fun W => ?_⟩
  have hbb : (i.bytes : Int) * (n : Int) ≤ 281474976710656 := by
    rw [hby]
    have h : ((bytes * n : Nat) : Int) ≤ 281474976710656 := by omega
    rwa [Int.natCast_mul] at h
  have hr := run_make (P := P) W t e i z h1 hi hz .i64 .i64 n n (by omega) (by omega) hbb (by omega)
  simp only [Int.toNat_natCast] at hr
  exact hr

/-- The first k elements of a row are written: cell i * sz + j of the array is cell j of element i. -/
def RowTo {α : Type} (enc : α → List Value) (sz : Nat) (arr : Array Value) (xs : List α) (k : Nat) : Prop :=
  ∀ i x, i < k → xs[i]? = some x → ∀ j u, (enc x)[j]? = some u → arr[i * sz + j]? = some u
/-- The cells us, written from place o on. -/
def setL : Array Value → Nat → List Value → Array Value
  | ar, _, [] => ar
  | ar, o, u :: us => setL (ar.setIfInBounds o u) (o + 1) us
theorem setL_size : ∀ (us : List Value) (ar : Array Value) (o : Nat), (setL ar o us).size = ar.size
  | [], _, _ => rfl
  | u :: us, ar, o => by simp [setL, setL_size us]
theorem setL_other : ∀ (us : List Value) (ar : Array Value) (o i : Nat), (i < o ∨ o + us.length ≤ i) → (setL ar o us)[i]? = ar[i]?
  | [], _, _, _, _ => rfl
  | u :: us, ar, o, i, h => by
    simp only [List.length_cons] at h
    rw [setL, setL_other us _ _ _ (by omega), Array.getElem?_setIfInBounds_ne (by omega)]
theorem setL_at : ∀ (us : List Value) (ar : Array Value) (o j : Nat) (u : Value), us[j]? = some u → o + j < ar.size → (setL ar o us)[o + j]? = some u
  | [], _, _, _, _, h, _ => by simp at h
  | v :: us, ar, o, 0, u, h, hs => by
    simp at h
    subst h
    rw [setL, setL_other us _ _ _ (by omega), Nat.add_zero, Array.getElem?_setIfInBounds_self]
    simp only [Nat.add_zero] at hs
    simp [hs]
  | v :: us, ar, o, j + 1, u, h, hs => by
    have := setL_at us (ar.setIfInBounds o v) (o + 1) j u (by simpa using h) (by simp; omega)
    rw [setL, ← this]
    congr 1
    omega
theorem setL_nil (ar : Array Value) (o : Nat) : setL ar o [] = ar := rfl
theorem setL_cons (ar : Array Value) (o : Nat) (u : Value) (us : List Value) : setL ar o (u :: us) = setL (ar.setIfInBounds o u) (o + 1) us := rfl
theorem Blk.set1 {w : World} {g : Nat} {t : TypeId} {ar : Array Value} (h : Blk w g t ar) (o : Nat) (u0 : Value) : Blk (w.setCell ⟨g, o, none⟩ u0) g t (setL ar o [u0]) := by
  simp only [setL_cons, setL_nil]
  exact (h.set_ (o) _)
theorem Below.set1 {B : Nat} {a w : World} {g : Nat} (h : Below B a w) (hg : B ≤ g) (o : Nat) (u0 : Value) : Below B a (w.setCell ⟨g, o, none⟩ u0) := (h.setCell (p := ⟨g, o, none⟩) hg _)
theorem Blk.set2 {w : World} {g : Nat} {t : TypeId} {ar : Array Value} (h : Blk w g t ar) (o : Nat) (u0 u1 : Value) : Blk ((w.setCell ⟨g, o, none⟩ u0).setCell ⟨g, o + 1, none⟩ u1) g t (setL ar o [u0, u1]) := by
  simp only [setL_cons, setL_nil]
  exact ((h.set_ (o) _).set_ (o + 1) _)
theorem Below.set2 {B : Nat} {a w : World} {g : Nat} (h : Below B a w) (hg : B ≤ g) (o : Nat) (u0 u1 : Value) : Below B a ((w.setCell ⟨g, o, none⟩ u0).setCell ⟨g, o + 1, none⟩ u1) := ((h.setCell (p := ⟨g, o, none⟩) hg _).setCell (p := ⟨g, o + 1, none⟩) hg _)
theorem Blk.set3 {w : World} {g : Nat} {t : TypeId} {ar : Array Value} (h : Blk w g t ar) (o : Nat) (u0 u1 u2 : Value) : Blk (((w.setCell ⟨g, o, none⟩ u0).setCell ⟨g, o + 1, none⟩ u1).setCell ⟨g, o + 2, none⟩ u2) g t (setL ar o [u0, u1, u2]) := by
  simp only [setL_cons, setL_nil, Nat.add_assoc, Nat.reduceAdd]
  exact (((h.set_ (o) _).set_ (o + 1) _).set_ (o + 2) _)
theorem Below.set3 {B : Nat} {a w : World} {g : Nat} (h : Below B a w) (hg : B ≤ g) (o : Nat) (u0 u1 u2 : Value) : Below B a (((w.setCell ⟨g, o, none⟩ u0).setCell ⟨g, o + 1, none⟩ u1).setCell ⟨g, o + 2, none⟩ u2) := (((h.setCell (p := ⟨g, o, none⟩) hg _).setCell (p := ⟨g, o + 1, none⟩) hg _).setCell (p := ⟨g, o + 2, none⟩) hg _)
theorem Blk.set4 {w : World} {g : Nat} {t : TypeId} {ar : Array Value} (h : Blk w g t ar) (o : Nat) (u0 u1 u2 u3 : Value) : Blk ((((w.setCell ⟨g, o, none⟩ u0).setCell ⟨g, o + 1, none⟩ u1).setCell ⟨g, o + 2, none⟩ u2).setCell ⟨g, o + 3, none⟩ u3) g t (setL ar o [u0, u1, u2, u3]) := by
  simp only [setL_cons, setL_nil, Nat.add_assoc, Nat.reduceAdd]
  exact ((((h.set_ (o) _).set_ (o + 1) _).set_ (o + 2) _).set_ (o + 3) _)
theorem Below.set4 {B : Nat} {a w : World} {g : Nat} (h : Below B a w) (hg : B ≤ g) (o : Nat) (u0 u1 u2 u3 : Value) : Below B a ((((w.setCell ⟨g, o, none⟩ u0).setCell ⟨g, o + 1, none⟩ u1).setCell ⟨g, o + 2, none⟩ u2).setCell ⟨g, o + 3, none⟩ u3) := ((((h.setCell (p := ⟨g, o, none⟩) hg _).setCell (p := ⟨g, o + 1, none⟩) hg _).setCell (p := ⟨g, o + 2, none⟩) hg _).setCell (p := ⟨g, o + 3, none⟩) hg _)
theorem Blk.set5 {w : World} {g : Nat} {t : TypeId} {ar : Array Value} (h : Blk w g t ar) (o : Nat) (u0 u1 u2 u3 u4 : Value) : Blk (((((w.setCell ⟨g, o, none⟩ u0).setCell ⟨g, o + 1, none⟩ u1).setCell ⟨g, o + 2, none⟩ u2).setCell ⟨g, o + 3, none⟩ u3).setCell ⟨g, o + 4, none⟩ u4) g t (setL ar o [u0, u1, u2, u3, u4]) := by
  simp only [setL_cons, setL_nil, Nat.add_assoc, Nat.reduceAdd]
  exact (((((h.set_ (o) _).set_ (o + 1) _).set_ (o + 2) _).set_ (o + 3) _).set_ (o + 4) _)
theorem Below.set5 {B : Nat} {a w : World} {g : Nat} (h : Below B a w) (hg : B ≤ g) (o : Nat) (u0 u1 u2 u3 u4 : Value) : Below B a (((((w.setCell ⟨g, o, none⟩ u0).setCell ⟨g, o + 1, none⟩ u1).setCell ⟨g, o + 2, none⟩ u2).setCell ⟨g, o + 3, none⟩ u3).setCell ⟨g, o + 4, none⟩ u4) := (((((h.setCell (p := ⟨g, o, none⟩) hg _).setCell (p := ⟨g, o + 1, none⟩) hg _).setCell (p := ⟨g, o + 2, none⟩) hg _).setCell (p := ⟨g, o + 3, none⟩) hg _).setCell (p := ⟨g, o + 4, none⟩) hg _)
theorem RowTo.zero {α : Type} {enc : α → List Value} {sz : Nat} {arr : Array Value} {xs : List α} : RowTo enc sz arr xs 0 := fun i x h => by omega
theorem RowTo.step {α : Type} {enc : α → List Value} {sz n k : Nat} {arr : Array Value} {xs : List α} {s : α} (h : RowTo enc sz arr xs k) (hs : xs[k]? = some s) (he : ∀ x, (enc x).length = sz)
    (hz : arr.size = n * sz) (hk : k < n) : RowTo enc sz (setL arr (k * sz) (enc s)) xs (k + 1) := by
  intro i x hi hx j u hu
  have hj : j < sz := by rw [← he x]; exact (List.getElem?_eq_some_iff.1 hu).1
  by_cases hik : i = k
  · subst hik
    rw [hs] at hx
    injection hx with hx
    subst hx
    have h1 : (i + 1) * sz ≤ n * sz := Nat.mul_le_mul_right sz hk
    have h2 : (i + 1) * sz = i * sz + sz := Nat.succ_mul i sz
    exact setL_at _ _ _ _ _ hu (by omega)
  · have h1 : (i + 1) * sz ≤ k * sz := Nat.mul_le_mul_right sz (by omega)
    have h2 : (i + 1) * sz = i * sz + sz := Nat.succ_mul i sz
    rw [setL_other _ _ _ _ (by omega)]
    exact h i x (by omega) hx j u hu
/-- A slice of the call's own, that reads as xs and can be written: it begins at the head of a block. -/
def RdW {α : Type} (enc : α → List Value) (sz : Nat) (t : TypeId) (w : World) (lo hi : Nat) (v : Value) (xs : List α) : Prop :=
  ∃ A c, v = .slice A xs.length c ∧ xs.length ≤ c ∧ (0 < xs.length → ∃ g arr, A = some ⟨g, 0, none⟩ ∧ lo ≤ g ∧ g < hi ∧ Blk w g t arr ∧ xs.length * sz ≤ arr.size ∧ RowTo enc sz arr xs xs.length)
section
variable {α : Type} {enc : α → List Value} {sz : Nat} {w w' : World} {lo hi lo' hi' : Nat} {v : Value} {xs : List α} {t : TypeId}
theorem RdW.rd (h : RdW enc sz t w lo hi v xs) : RdF enc sz w lo hi v xs := by
  obtain ⟨A, c, hv, hc, hA⟩ := h
  refine ⟨A, c, hv, hc, fun hl => ?_⟩
  obtain ⟨g, arr, hg, h1, h2, hb, _, hr⟩ := hA hl
  refine ⟨g, 0, hg, h1, h2, fun i x hx j u hu => ?_⟩
  rw [hb.cell]
  have hi : i < xs.length := (List.getElem?_eq_some_iff.1 hx).1
  simpa [Nat.add_assoc] using hr i x hi hx j u hu
theorem RdW.of_row {g : Nat} {arr : Array Value} (hb : Blk w g t arr) (hs : arr.size = xs.length * sz) (hr : RowTo enc sz arr xs xs.length) (lo hi : Nat) (h1 : lo ≤ g) (h2 : g < hi) :
    RdW enc sz t w lo hi (.slice (some ⟨g, 0, none⟩) xs.length xs.length) xs :=
  ⟨_, _, rfl, Nat.le_refl _, fun _ => ⟨g, arr, rfl, h1, h2, hb, Nat.le_of_eq hs.symm, hr⟩⟩
theorem RdW.keep (h : RdW enc sz t w lo hi v xs) (hk : ∀ b, lo ≤ b → b < hi → w'.heap[b]? = w.heap[b]?) : RdW enc sz t w' lo hi v xs := by
  obtain ⟨A, c, hv, hc, hA⟩ := h
  refine ⟨A, c, hv, hc, fun hl => ?_⟩
  obtain ⟨g, arr, hg, h1, h2, hb, hs, hr⟩ := hA hl
  exact ⟨g, arr, hg, h1, h2, (hk g h1 h2).trans hb, hs, hr⟩
theorem RdW.below {B : Nat} (h : RdW enc sz t w lo hi v xs) (hb : Below B w w') (hB : hi ≤ B) : RdW enc sz t w' lo hi v xs :=
  h.keep fun b _ h2 => hb.block b (by omega)
theorem RdW.wide (h : RdW enc sz t w lo hi v xs) (hl : lo' ≤ lo) (hh : hi ≤ hi') : RdW enc sz t w lo' hi' v xs := by
  obtain ⟨A, c, hv, hc, hA⟩ := h
  refine ⟨A, c, hv, hc, fun hl => ?_⟩
  obtain ⟨g, arr, hg, h1, h2, hb, hs, hr⟩ := hA hl
  exact ⟨g, arr, hg, by omega, by omega, hb, hs, hr⟩
end
theorem RowTo.step' {α : Type} {enc : α → List Value} {sz k : Nat} {arr : Array Value} {xs : List α} {s : α} (h : RowTo enc sz arr xs k) (hs : xs[k]? = some s) (he : ∀ x, (enc x).length = sz)
    (hk : k * sz + sz ≤ arr.size) : RowTo enc sz (setL arr (k * sz) (enc s)) xs (k + 1) := by
  intro i x hi hx j u hu
  have hj : j < sz := by rw [← he x]; exact (List.getElem?_eq_some_iff.1 hu).1
  by_cases hik : i = k
  · subst hik
    rw [hs] at hx
    injection hx with hx
    subst hx
    exact setL_at _ _ _ _ _ hu (by omega)
  · have h1 : (i + 1) * sz ≤ k * sz := Nat.mul_le_mul_right sz (by omega)
    have h2 : (i + 1) * sz = i * sz + sz := Nat.succ_mul i sz
    rw [setL_other _ _ _ _ (by omega)]
    exact h i x (by omega) hx j u hu
theorem RdF.chg {α : Type} {enc : α → List Value} {sz : Nat} {w w' : World} {lo hi lo' hi' : Nat} {v : Value} {xs : List α} (h : RdF enc sz w lo hi v xs) (hc : Chg lo' hi' w w') (hs : hi ≤ w.heap.size) (hd : hi ≤ lo' ∨ hi' ≤ lo) : RdF enc sz w' lo hi v xs :=
  h.keep fun b h1 h2 => hc.block b (by omega) (by omega)
theorem RdW.chg {α : Type} {enc : α → List Value} {sz : Nat} {t : TypeId} {w w' : World} {lo hi lo' hi' : Nat} {v : Value} {xs : List α} (h : RdW enc sz t w lo hi v xs) (hc : Chg lo' hi' w w') (hs : hi ≤ w.heap.size) (hd : hi ≤ lo' ∨ hi' ≤ lo) : RdW enc sz t w' lo hi v xs :=
  h.keep fun b h1 h2 => hc.block b (by omega) (by omega)
/-- What append leaves is a slice of the call's own. -/
theorem RdW.of_own {α : Type} {enc : α → List Value} {sz : Nat} {t : TypeId} {w : World} {base : Nat} {v : Value} {xs : List α} (h : w.ownsRow base t sz v xs.length (xs.flatMap enc)) (he : ∀ x, (enc x).length = sz) :
    RdW enc sz t w base w.heap.size v xs := by
  have hrow : ∀ (ys : List α) (i : Nat) (x : α) (j : Nat) (u : Value), ys[i]? = some x → (enc x)[j]? = some u → (ys.flatMap enc)[i * sz + j]? = some u := by
    intro ys
    induction ys with
    | nil => intro i x j u hx; simp at hx
    | cons y ys ih =>
      intro i x j u hx hu
      have hj : j < sz := by rw [← he x]; exact (List.getElem?_eq_some_iff.1 hu).1
      rw [List.flatMap_cons]
      cases i with
      | zero =>
        simp at hx
        subst hx
        rw [Nat.zero_mul, Nat.zero_add, List.getElem?_append_left (by rw [he]; exact hj)]
        exact hu
      | succ i =>
        have e : (i + 1) * sz + j = sz + (i * sz + j) := by rw [Nat.succ_mul]; omega
        rw [e, List.getElem?_append_right (by rw [he]; omega), he]
        have e2 : sz + (i * sz + j) - sz = i * sz + j := by omega
        rw [e2]
        exact ih i x j u (by simpa using hx) hu
  rcases h.2 with ⟨rfl, h0⟩ | ⟨g, cap, cur, rfl, hg, hh, hnc, hcap, hcur⟩
  · have hz : xs.length = 0 := by simpa using h0
    exact ⟨none, 0, by rw [hz], by omega, fun h => by omega⟩
  · refine ⟨some ⟨g, 0, none⟩, cap, rfl, hnc, fun hl => ⟨g, cur, rfl, hg, ?_, hh, ?_, fun i x hi hx j u hu => ?_⟩⟩
    · rcases Nat.lt_or_ge g w.heap.size with hlt | hge
      · exact hlt
      · rw [Array.getElem?_eq_none hge] at hh; cases hh
    · rw [hcur.1]; exact Nat.mul_le_mul_right sz hnc
    · have h1 := hrow xs i x j u hx hu
      rw [← hcur.2, List.getElem?_take] at h1
      split at h1
      · rw [← h1, Array.getElem?_toList]
      · cases h1
theorem bytes_toList (s : ByteArray) : s.toList = s.data.toList := by
  have h : ∀ (n i : Nat) (r : List UInt8), s.size - i = n → ByteArray.toList.loop s i r = r.reverse ++ s.data.toList.drop i := by
    intro n
    induction n with
    | zero =>
      intro i r hn
      unfold ByteArray.toList.loop
      have hs : s.data.toList.length ≤ i := by
        have : s.size = s.data.toList.length := by rw [Array.length_toList]; rfl
        omega
      rw [if_neg (by omega), List.drop_eq_nil_of_le hs, List.append_nil]
    | succ n ih =>
      intro i r hn
      unfold ByteArray.toList.loop
      rw [if_pos (by omega), ih (i + 1) _ (by omega)]
      have hi : i < s.data.toList.length := by
        have : s.size = s.data.toList.length := by rw [Array.length_toList]; rfl
        omega
      rw [List.drop_eq_getElem_cons hi]
      have hg : s.get! i = s.data.toList[i] := by
        have hi' : i < s.data.size := by simpa using hi
        show s.data[i]! = _
        rw [getElem!_pos s.data i hi']
        simp
      simp [hg]
  unfold ByteArray.toList
  rw [h (s.size - 0) 0 [] rfl]
  simp
theorem toList_inj {a b : ByteArray} : a.toList = b.toList ↔ a = b := by
  rw [bytes_toList, bytes_toList]
  constructor
  · intro h
    cases a; cases b
    simpa using h
  · intro h
    rw [h]
theorem take_forall_succ {α : Type} {p : α → Prop} {xs : List α} {k : Nat} {x : α} (h : ∀ y ∈ xs.take k, p y) (hx : xs[k]? = some x) (hp : p x) : ∀ y ∈ xs.take (k + 1), p y := by
  rw [List.take_add_one, hx]
  intro y hy
  rw [List.mem_append] at hy
  rcases hy with hy | hy
  · exact h y hy
  · simp at hy; rw [hy]; exact hp
theorem take_all_succ {α : Type} {p : α → Bool} {xs : List α} {k : Nat} {x : α} (h : (xs.take k).all p = true) (hx : xs[k]? = some x) (hp : p x = true) : (xs.take (k + 1)).all p = true := by
  rw [List.take_add_one, hx]
  simp [List.all_append, h, hp]
theorem all_false_of {α : Type} {p : α → Bool} {xs : List α} {k : Nat} {x : α} (hx : xs[k]? = some x) (hp : p x = false) : xs.all p = false := by
  rw [List.all_eq_false]
  exact ⟨x, List.mem_of_getElem? hx, by simp [hp]⟩
theorem all_of_take {α : Type} {p : α → Bool} {xs : List α} {k : Nat} (h : (xs.take k).all p = true) (hk : ¬ k < xs.length) : xs.all p = true := by
  rw [List.take_of_length_le (by omega)] at h; exact h

/-- A property of each element and of those ahead of it. -/
def prefAll {α : Type} (p : List α → α → Bool) (xs : List α) : Nat → Bool
  | 0 => true
  | k + 1 => prefAll p xs k && (match xs[k]? with | some x => p (xs.take k) x | none => true)
def prefOk {α : Type} (p : List α → α → Bool) (xs : List α) : Bool := prefAll p xs xs.length
theorem prefAll_succ {α : Type} {p : List α → α → Bool} {xs : List α} {k : Nat} {x : α} (h : prefAll p xs k = true) (hx : xs[k]? = some x) (hp : p (xs.take k) x = true) : prefAll p xs (k + 1) = true := by
  simp [prefAll, h, hx, hp]
theorem prefAll_mono {α : Type} {p : List α → α → Bool} {xs : List α} {k n : Nat} (hkn : k ≤ n) (h : prefAll p xs n = true) : prefAll p xs k = true := by
  induction n with
  | zero => have : k = 0 := by omega
            subst this; rfl
  | succ n ih =>
    by_cases hk : k = n + 1
    · subst hk; exact h
    · refine ih (by omega) ?_
      simp only [prefAll, Bool.and_eq_true] at h
      exact h.1
theorem prefOk_false {α : Type} {p : List α → α → Bool} {xs : List α} {k : Nat} {x : α} (hx : xs[k]? = some x) (hp : p (xs.take k) x = false) : prefOk p xs = false := by
  cases h : prefOk p xs with
  | false => rfl
  | true =>
    have hl : k < xs.length := (List.getElem?_eq_some_iff.1 hx).1
    have := prefAll_mono (k := k + 1) (by omega) h
    simp [prefAll, hx, hp] at this
theorem prefOk_of {α : Type} {p : List α → α → Bool} {xs : List α} {k : Nat} (h : prefAll p xs k = true) (hk : k ≤ xs.length) (hn : ¬ k < xs.length) : prefOk p xs = true := by
  obtain rfl : k = xs.length := by omega
  exact h
theorem prefOk_at {α : Type} {p : List α → α → Bool} {xs : List α} {k : Nat} {x : α} (h : prefOk p xs = true) (hx : xs[k]? = some x) : p (xs.take k) x = true := by
  have hl : k < xs.length := (List.getElem?_eq_some_iff.1 hx).1
  have := prefAll_mono (k := k + 1) (by omega) h
  simp [prefAll, hx] at this
  exact this.2
theorem any_take_succ {α : Type} {p : α → Bool} {xs : List α} {k : Nat} {x : α} (h : (xs.take k).any p = false) (hx : xs[k]? = some x) (hp : p x = false) : (xs.take (k + 1)).any p = false := by
  rw [List.take_add_one, hx]
  simp [List.any_append, h, hp]
theorem any_true_of {α : Type} {p : α → Bool} {xs : List α} {k : Nat} {x : α} (hx : xs[k]? = some x) (hp : p x = true) : xs.any p = true := by
  rw [List.any_eq_true]
  exact ⟨x, List.mem_of_getElem? hx, hp⟩
theorem any_of_take {α : Type} {p : α → Bool} {xs : List α} {k : Nat} (h : (xs.take k).any p = false) (hk : ¬ k < xs.length) : xs.any p = false := by
  rw [List.take_of_length_le (by omega)] at h; exact h

theorem RdW.nil {α : Type} {enc : α → List Value} {sz : Nat} {t : TypeId} {w : World} {lo hi : Nat} : RdW enc sz t w lo hi (.slice none 0 0) ([] : List α) := ⟨none, 0, rfl, Nat.le_refl _, fun h => absurd h (by simp)⟩
def encInt (n : Int) : List Value := [.int .i64 n]
/-- A slice that the call appends to. -/
def OwnL {α : Type} (enc : α → List Value) (sz : Nat) (t : TypeId) (w : World) (base : Nat) (v : Value) (xs : List α) : Prop := w.ownsRow base t sz v xs.length (xs.flatMap enc)
theorem OwnL.snoc {α : Type} {enc : α → List Value} {sz : Nat} {t : TypeId} {w : World} {base : Nat} {v : Value} {xs : List α} {x : α} (h : w.ownsRow base t sz v (xs.length + 1) (xs.flatMap enc ++ enc x)) : OwnL enc sz t w base v (xs ++ [x]) := by
  unfold OwnL
  rw [List.flatMap_append, List.length_append]
  simpa using h
theorem OwnL.rdw {α : Type} {enc : α → List Value} {sz : Nat} {t : TypeId} {w : World} {base : Nat} {v : Value} {xs : List α} (h : OwnL enc sz t w base v xs) (he : ∀ x, (enc x).length = sz) : RdW enc sz t w base w.heap.size v xs := RdW.of_own h he
theorem OwnL.nil {α : Type} {enc : α → List Value} {sz : Nat} {t : TypeId} {w : World} {base : Nat} : OwnL enc sz t w base (.slice none 0 0) ([] : List α) := World.ownsRow_nil _ _ _ _
theorem OwnL.below {α : Type} {enc : α → List Value} {sz : Nat} {t : TypeId} {w w' : World} {base : Nat} {v : Value} {xs : List α} (h : OwnL enc sz t w base v xs) (hb : Below w.heap.size w w') : OwnL enc sz t w' base v xs := by
  refine ⟨h.1, ?_⟩
  rcases h.2 with hn | ⟨g, cap, cur, rfl, hg, hh, rest⟩
  · exact .inl hn
  · have hlt : g < w.heap.size := by
      rcases Nat.lt_or_ge g w.heap.size with hlt | hge
      · exact hlt
      · rw [Array.getElem?_eq_none hge] at hh; cases hh
    exact .inr ⟨g, cap, cur, rfl, hg, (hb.block g hlt).trans hh, rest⟩

/-- Two lists are equal, element by element. -/
def eqL {α : Type} (p : α → α → Bool) (xs ys : List α) : Bool := decide (xs.length = ys.length) && (xs.zip ys).all fun q => p q.1 q.2
theorem eqL_len {α : Type} (p : α → α → Bool) {xs ys : List α} (h : ¬ xs.length = ys.length) : eqL p xs ys = false := by simp [eqL, h]
theorem eqL_succ {α : Type} {p : α → α → Bool} {xs ys : List α} {k : Nat} {x y : α} (h : eqL p (xs.take k) (ys.take k) = true) (hx : xs[k]? = some x) (hy : ys[k]? = some y) (hp : p x y = true) :
    eqL p (xs.take (k + 1)) (ys.take (k + 1)) = true := by
  have hl : k < xs.length := (List.getElem?_eq_some_iff.1 hx).1
  have hl' : k < ys.length := (List.getElem?_eq_some_iff.1 hy).1
  simp only [eqL, Bool.and_eq_true, decide_eq_true_eq] at h ⊢
  rw [List.take_add_one, List.take_add_one, hx, hy]
  have h1 : (xs.take k).length = (ys.take k).length := h.1
  refine ⟨by simp [h1], ?_⟩
  rw [List.zip_append h1]
  simp only [List.all_append, h.2, Bool.true_and]
  simp [hp]
theorem eqL_false {α : Type} {p : α → α → Bool} {xs ys : List α} {k : Nat} {x y : α} (hx : xs[k]? = some x) (hy : ys[k]? = some y) (hp : p x y = false) : eqL p xs ys = false := by
  have : (xs.zip ys).all (fun q => p q.1 q.2) = false := by
    rw [List.all_eq_false]
    exact ⟨(x, y), List.mem_of_getElem? (i := k) (by rw [List.getElem?_zip_eq_some]; exact ⟨hx, hy⟩), by simp [hp]⟩
  simp [eqL, this]
theorem eqL_of_take {α : Type} {p : α → α → Bool} {xs ys : List α} {k : Nat} (h : eqL p (xs.take k) (ys.take k) = true) (hk : ¬ k < xs.length) (hl : xs.length = ys.length) : eqL p xs ys = true := by
  rw [List.take_of_length_le (by omega), List.take_of_length_le (by omega)] at h; exact h
theorem eqL_iff {α : Type} {p : α → α → Bool} (hp : ∀ x y, p x y = true ↔ x = y) : ∀ {xs ys : List α}, eqL p xs ys = true ↔ xs = ys
  | [], [] => by simp [eqL]
  | [], y :: ys => by simp [eqL]
  | x :: xs, [] => by simp [eqL]
  | x :: xs, y :: ys => by
    have ih := eqL_iff hp (xs := xs) (ys := ys)
    simp only [eqL, Bool.and_eq_true, decide_eq_true_eq] at ih ⊢
    simp only [List.length_cons, Nat.add_right_cancel_iff, List.zip_cons_cons, List.all_cons, Bool.and_eq_true, hp, List.cons.injEq, ← ih]
    constructor
    · rintro ⟨a, b, c⟩; exact ⟨b, a, c⟩
    · rintro ⟨a, b, c⟩; exact ⟨b, a, c⟩
end Go.Proofs.Ytfafcicbfgdmcaa
