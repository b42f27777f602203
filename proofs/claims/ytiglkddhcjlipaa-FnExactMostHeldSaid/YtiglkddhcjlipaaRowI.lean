/- Slices of slices of int64 in memory; copies of a slice of int64. -/
import Derived.Test.YtiglkddhcjlipaaRows
import Derived.Test.YtiglkddhcjlipaaIntsH
import Derived.Test.YtiglkddhcjlipaaMem3
import Derived.Test.YtiglkddhcjlipaaMem4
import Derived.StillTailTactics
import Derived.Deep.RegionHeld3
namespace Go.Proofs.Ytiglkddhcjlipaa
open Go.RowKit
set_option linter.unusedVariables false

theorem own_ne {α : Type} {enc : α → List Value} {sz : Nat} {t t' : TypeId} {w : World} {base : Nat} {v : Value} {xs : List α} {g : Nat} {cs : Array Value} (h : OwnL enc sz t w base v xs) (hb : Blk w g t' cs) (hne : t' ≠ t) : some g ≠ v.ownBlock := by
  rcases h.2 with ⟨rfl, h0⟩ | ⟨k, cap, cur, rfl, hg, hh, -⟩
  · simp [Value.ownBlock]
  · intro e
    simp only [Value.ownBlock, Option.some.injEq] at e
    exact (Blk.ne hb (show Blk w k t cur from hh) hne) e
theorem RdW.grown {α β : Type} {enc : α → List Value} {sz : Nat} {t : TypeId} {enc' : β → List Value} {sz' : Nat} {t' : TypeId} {w w' : World} {base lo hi : Nat} {v v' : Value} {xs : List α} {ys : List β} (h : RdW enc' sz' t' w lo hi v' ys) (ho : OwnL enc sz t w base v xs) (hg : w.grownBy w' v.ownBlock) (hne : t' ≠ t) : RdW enc' sz' t' w' lo hi v' ys :=
  h.mono_blk fun g ar hb => Blk.grown hg hb (own_ne ho hb hne)
theorem RdF.grown {α β : Type} {enc : α → List Value} {sz : Nat} {t : TypeId} {enc' : β → List Value} {sz' : Nat} {w w' : World} {base lo hi : Nat} {v v' : Value} {xs : List α} {ys : List β} (h : RdF enc' sz' w lo hi v' ys) (ho : OwnL enc sz t w base v xs) (hg : w.grownBy w' v.ownBlock) (hh : hi ≤ w.heap.size) (hb : hi ≤ base) : RdF enc' sz' w' lo hi v' ys :=
  h.keep fun b h1 h2 => hg.block b (by omega) (by intro e; have := ho.block_ge b e.symm; omega)

/-- A row of integers behind a slice's header. -/
structure RowI where
  xs : List Int
  a : Option Addr
  c : Nat
def RowI.v (r : RowI) : Value := .slice r.a r.xs.length r.c
def RowI.enc (r : RowI) : List Value := [.slice r.a r.xs.length r.c]
theorem RowI.one (r : RowI) : ∀ u ∈ RowI.enc r, u.oneCell' = true := by
  intro u hu
  simp [RowI.enc] at hu
  subst hu
  rfl
theorem encInt_one (n : Int) : ∀ u ∈ encInt n, u.oneCell' = true := by
  intro u hu
  simp [encInt] at hu
  subst hu
  rfl
/-- All rows read, and can be written. -/
def RowsW (w : World) (lo hi : Nat) (rs : List RowI) : Prop := ∀ r ∈ rs, RdW encInt 1 2 w lo hi r.v r.xs
theorem RowsW.below {w w' : World} {lo hi B : Nat} {rs : List RowI} (h : RowsW w lo hi rs) (hb : Below B w w') (hB : hi ≤ B) : RowsW w' lo hi rs := fun r hr => (h r hr).below hb hB
theorem RowsW.wide {w : World} {lo hi lo' hi' : Nat} {rs : List RowI} (h : RowsW w lo hi rs) (hl : lo' ≤ lo) (hh : hi ≤ hi') : RowsW w lo' hi' rs := fun r hr => (h r hr).wide hl hh
theorem RowsW.nil {w : World} {lo hi : Nat} : RowsW w lo hi [] := fun r hr => by simp at hr
theorem RowsW.app {w : World} {lo hi : Nat} {rs qs : List RowI} (h : RowsW w lo hi rs) (k : RowsW w lo hi qs) : RowsW w lo hi (rs ++ qs) := fun r hr => by
  rcases List.mem_append.1 hr with hr | hr
  · exact h r hr
  · exact k r hr
theorem RowsW.grown {α : Type} {enc : α → List Value} {sz : Nat} {t : TypeId} {w w' : World} {base lo hi : Nat} {v : Value} {xs : List α} {rs : List RowI} (h : RowsW w lo hi rs) (ho : OwnL enc sz t w base v xs) (hg : w.grownBy w' v.ownBlock) (hne : 2 ≠ t) : RowsW w' lo hi rs := fun r hr => (h r hr).grown ho hg hne
/-- A slice of slices, to read. -/
def RdII (w : World) (lo hi : Nat) (v : Value) (L : List (List Int)) : Prop := ∃ rs : List RowI, rs.map RowI.xs = L ∧ RdF RowI.enc 1 w lo hi v rs ∧ RowsW w lo hi rs
theorem RdII.below {w w' : World} {lo hi B : Nat} {v : Value} {L : List (List Int)} (h : RdII w lo hi v L) (hb : Below B w w') (hB : hi ≤ B) : RdII w' lo hi v L := by
  obtain ⟨rs, h1, h2, h3⟩ := h
  exact ⟨rs, h1, h2.below hb hB, h3.below hb hB⟩
theorem RdII.wide {w : World} {lo hi lo' hi' : Nat} {v : Value} {L : List (List Int)} (h : RdII w lo hi v L) (hl : lo' ≤ lo) (hh : hi ≤ hi') : RdII w lo' hi' v L := by
  obtain ⟨rs, h1, h2, h3⟩ := h
  exact ⟨rs, h1, h2.wide hl hh, h3.wide hl hh⟩
/-- A slice of slices that the call appends to: its own block at base or above, its rows' at lo or above. -/
def OwnII (w : World) (lo base : Nat) (v : Value) (L : List (List Int)) : Prop := ∃ rs : List RowI, rs.map RowI.xs = L ∧ OwnL RowI.enc 1 35 w base v rs ∧ RowsW w lo w.heap.size rs
theorem OwnII.below {w w' : World} {lo base : Nat} {v : Value} {L : List (List Int)} (h : OwnII w lo base v L) (hb : Below w.heap.size w w') : OwnII w' lo base v L := by
  obtain ⟨rs, h1, h2, h3⟩ := h
  exact ⟨rs, h1, h2.below hb, (h3.below hb (Nat.le_refl _)).wide (Nat.le_refl _) hb.size⟩
theorem OwnII.mono {w : World} {lo base lo' base' : Nat} {v : Value} {L : List (List Int)} (h : OwnII w lo base v L) (hl : lo' ≤ lo) (hb : base' ≤ base) : OwnII w lo' base' v L := by
  obtain ⟨rs, h1, h2, h3⟩ := h
  exact ⟨rs, h1, h2.mono hb, h3.wide hl (Nat.le_refl _)⟩
theorem OwnII.emptyAt {w : World} {lo base n : Nat} (hn : n = w.heap.size) (hb : base ≤ w.heap.size) : OwnII (w.alloc (.cells #[] 35)) lo base (.slice (some ⟨n, 0, none⟩) 0 0) [] :=
  ⟨[], rfl, OwnL.emptyAt hn hb, RowsW.nil⟩
theorem OwnII.rd {w : World} {lo base : Nat} {v : Value} {L : List (List Int)} (h : OwnII w lo base v L) (hl : lo ≤ base) : RdII w lo w.heap.size v L := by
  obtain ⟨rs, h1, h2, h3⟩ := h
  exact ⟨rs, h1, ((h2.rdw (fun _ => rfl)).rd).wide hl (Nat.le_refl _), h3⟩
theorem OwnII.form {w : World} {lo base : Nat} {v : Value} {L : List (List Int)} (h : OwnII w lo base v L) : ∃ A c, v = .slice A L.length c ∧ L.length ≤ c := by
  obtain ⟨rs, rfl, h2, h3⟩ := h
  obtain ⟨A, c, hv, hc⟩ := RdF.form (h2.rdw (fun _ => rfl)).rd
  exact ⟨A, c, by rw [hv, List.length_map], by rw [List.length_map]; exact hc⟩
theorem RdII.form {w : World} {lo hi : Nat} {v : Value} {L : List (List Int)} (h : RdII w lo hi v L) : ∃ A c, v = .slice A L.length c ∧ L.length ≤ c := by
  obtain ⟨rs, rfl, h2, h3⟩ := h
  obtain ⟨A, c, hv, hc⟩ := h2.form
  exact ⟨A, c, by rw [hv, List.length_map], by rw [List.length_map]; exact hc⟩
/-- Row k of a slice of slices. -/
theorem RdII.at {w w' : World} {lo hi B : Nat} {A : Option Addr} {n c k : Nat} {L : List (List Int)} (h : RdII w lo hi (.slice A n c) L) (hb : Below B w w') (hB : hi ≤ B) (hk : k < L.length) :
    ∃ (x : List Int) (a : Option Addr) (c1 b off : Nat), Hid (L[k]? = some x) ∧ A = some ⟨b, off, none⟩ ∧ b < hi ∧ w'.cell? ⟨b, off + k, none⟩ = some (.slice a x.length c1) ∧ RdW encInt 1 2 w' lo hi (.slice a x.length c1) x := by
  obtain ⟨rs, rfl, h2, h3⟩ := h
  rw [List.length_map] at hk
  obtain ⟨r, b, off, h4, h5, h6, h7, h8⟩ := h2.get hb hB hk
  exact ⟨r.xs, r.a, r.c, b, off, map_at (f := RowI.xs) rfl h4.out, h5, h7, by simpa using h8 0 _ rfl, (h3 r (List.mem_of_getElem? h4.out)).below hb hB⟩

set_option maxRecDepth 100000 in
set_option maxHeartbeats 800000 in
theorem cloneInt_any (v : Value) (xs : List Int) (lo hi : Nat) (w : World) (h : RdF encInt 1 w lo hi v xs) (hh : hi ≤ w.heap.size) (hm : xs.length ≤ 1048576) :
    Calls Try.prog 59 #[v] w fun e w' => RetV (fun v' w' => OwnL encInt 1 2 w' w.heap.size v' xs) w e w' := by
  have h0 := h
  obtain ⟨A, c, rfl, hc, hA⟩ := h
  clear hA
  obtain ⟨arr, hmk, hown⟩ := mkCap (P := Try.prog) (enc := encInt) 35 2 Try.underlying35 (.int .i64 0) 1 8 (by kernel_rfl) rfl xs.length (by omega) (by unfold maxLen; omega)
  have hw := hown w w.heap.size (Nat.le_refl _)
  have hx := h0.below ((Below.refl w.heap.size w).alloc (Nat.le_refl _) (.cells arr 2)) hh
  go_enter Try.func59, Try.ntmps59
  go_wp2_with (at_builtin; refine wpList_app (enc := encInt) _ rfl _ _ _ rfl w.heap.size 2 (.int .i64 0) 1 8 Try.underlying35 (by kernel_rfl) rfl (by omega) (fun _ => rfl) encInt_one (by omega) _ _ [] xs lo hi (by rfl) (by rfl) hw hx (by simp) (by simp; omega) ?_; intro v2 w2 hown2 hg2 hk2)
  go_ret
  exact ⟨_, rfl, by simpa using hown2, hk2 _ _ (Nat.le_refl _) ((Below.refl _ _).alloc (Nat.le_refl _) _)⟩
set_option maxRecDepth 100000 in
set_option maxHeartbeats 800000 in
theorem l01Own_any (v : Value) (xs : List Int) (lo hi : Nat) (w : World) (h : RdF encInt 1 w lo hi v xs) (hh : hi ≤ w.heap.size) (hm : xs.length ≤ 1048576) :
    Calls Try.prog 58 #[v] w fun e w' => RetV (fun v' w' => OwnL encInt 1 2 w' w.heap.size v' xs) w e w' := by
  have h0 := h
  obtain ⟨A, c, rfl, hc, hA⟩ := h
  clear hA
  have hw : OwnL encInt 1 2 (w.alloc (.cells #[] 2)) w.heap.size (.slice (some ⟨w.heap.size, 0, none⟩) 0 0) [] := OwnL.emptyAt rfl (Nat.le_refl _)
  have hx := h0.below ((Below.refl w.heap.size w).alloc (Nat.le_refl _) (.cells #[] 2)) hh
  go_enter Try.func58, Try.ntmps58
  go_wp2_with (at_builtin; refine wpList_app (enc := encInt) _ rfl _ _ _ rfl w.heap.size 2 (.int .i64 0) 1 8 Try.underlying35 (by kernel_rfl) rfl (by omega) (fun _ => rfl) encInt_one (by omega) _ _ [] xs lo hi (by rfl) (by rfl) hw hx (by simp) (by simp; omega) ?_; intro v2 w2 hown2 hg2 hk2)
  go_ret
  exact ⟨_, rfl, by simpa using hown2, hk2 _ _ (Nat.le_refl _) ((Below.refl _ _).alloc (Nat.le_refl _) _)⟩
end Go.Proofs.Ytiglkddhcjlipaa
