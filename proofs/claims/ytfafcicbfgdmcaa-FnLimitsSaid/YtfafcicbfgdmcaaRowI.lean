/- Slices of slices of int64 in memory; copies of a slice of int64. -/
import Derived.Test.YtfafcicbfgdmcaaRows
import Derived.Test.YtfafcicbfgdmcaaIntsH
import Derived.Test.YtfafcicbfgdmcaaMem3
import Derived.Test.YtfafcicbfgdmcaaMem4
import Derived.StillTailTactics
import Derived.Deep.RegionHeld3
namespace Go.Proofs.Ytfafcicbfgdmcaa
open Go.RowKit
set_option linter.unusedVariables false

theorem own_ne {α : Type} {enc : α → List Value} {sz : Nat} {t t' : TypeId} {w : World} {base : Nat} {v : Value} {xs : List α} {g : Nat} {cs : Array Value} (h : OwnL enc sz t w base v xs) (hb : Blk w g t' cs) (hne : t' ≠ t) : some g ≠ v.ownBlock := by
  rcases h.2 with ⟨rfl, h0⟩ | ⟨k, cap, cur, rfl, hg, hh, -⟩
  · simp [Value.ownBlock]
  · intro e
    simp only [Value.ownBlock, Option.some.injEq] at e
    exact (Blk.ne hb (show Blk w k t cur from hh) hne) e
theorem RdW.grown {α β : Type} {enc : α → List Value} {sz : Nat} {t : TypeId} {enc' : β → List Value} {sz' : Nat} {t' : TypeId} {w w' : World} {base lo hi : Nat} {v v' : Value} {xs : List α} {ys : List β} (h : RdW enc' sz' t' w lo hi v' ys) (ho : OwnL enc sz t w base v xs) (hg : w.grownBy w' v.ownBlock) (hne : t' ≠ t) : RdW enc' sz' t' w' lo hi v' ys :=
  h.mono_blk fun g ar hb => Blk.grown hg hb (own_ne ho hb hne)
theorem RdF.grown {α β : Type} {enc : α → List Value} {sz : Nat} {t : TypeId} {enc' : β → List Value} {sz' : Nat} {w w' : World} {base lo hi : Nat} {v v' : Value} {xs : List α} {ys : List β} (h : RdF enc' sz' w lo hi v' ys) (ho : OwnL enc sz t w base v xs) (hg : w.grownBy w' v.ownBlock) (hh : hi ≤ w.heap.size) (hb : hi ≤ base) : RdF enc' sz' w' lo hi v' ys :=
  h.keep fun b h1 h2 => hg.block b (by omega) (by intro e; have := ho.block_ge b e.symm; omega)

/-- A row of integers behind a slice's header. -/
structure RowI where
  xs : List Int
  a : Option Addr
  c : Nat
def RowI.v (r : RowI) : Value := .slice r.a r.xs.length r.c
def RowI.enc (r : RowI) : List Value := [.slice r.a r.xs.length r.c]
theorem RowI.one (r : RowI) : ∀ u ∈ RowI.enc r, u.oneCell' = true := by
  intro u hu
  simp [RowI.enc] at hu
  subst hu
  rfl
theorem encInt_one (n : Int) : ∀ u ∈ encInt n, u.oneCell' = true := by
  intro u hu
  simp [encInt] at hu
  subst hu
  rfl
/-- All rows read, and can be written. -/
def RowsW (w : World) (lo hi : Nat) (rs : List RowI) : Prop := ∀ r ∈ rs, RdW encInt 1 2 w lo hi r.v r.xs
theorem RowsW.below {w w' : World} {lo hi B : Nat} {rs : List RowI} (h : RowsW w lo hi rs) (hb : Below B w w') (hB : hi ≤ B) : RowsW w' lo hi rs := fun r hr => (h r hr).below hb hB
theorem RowsW.wide {w : World} {lo hi lo' hi' : Nat} {rs : List RowI} (h : RowsW w lo hi rs) (hl : lo' ≤ lo) (hh : hi ≤ hi') : RowsW w lo' hi' rs := fun r hr => (h r hr).wide hl hh
theorem RowsW.nil {w : World} {lo hi : Nat} : RowsW w lo hi [] := fun r hr => by simp at hr
theorem RowsW.app {w : World} {lo hi : Nat} {rs qs : List RowI} (h : RowsW w lo hi rs) (k : RowsW w lo hi qs) : RowsW w lo hi (rs ++ qs) := fun r hr => by
  rcases List.mem_append.1 hr with hr | hr
  · exact h r hr
  · exact k r hr
theorem RowsW.grown {α : Type} {enc : α → List Value} {sz : Nat} {t : TypeId} {w w' : World} {base lo hi : Nat} {v : Value} {xs : List α} {rs : List RowI} (h : RowsW w lo hi rs) (ho : OwnL enc sz t w base v xs) (hg : w.grownBy w' v.ownBlock) (hne : 2 ≠ t) : RowsW w' lo hi rs := fun r hr => (h r hr).grown ho hg hne
/-- A slice of slices, to read. -/
def RdII (w : World) (lo hi : Nat) (v : Value) (L : List (List Int)) : Prop := ∃ rs : List RowI, rs.map RowI.xs = L ∧ RdF RowI.enc 1 w lo hi v rs ∧ RowsW w lo hi rs
theorem RdII.below {w w' : World} {lo hi B : Nat} {v : Value} {L : List (List Int)} (h : RdII w lo hi v L) (hb : Below B w w') (hB : hi ≤ B) : RdII w' lo hi v L := by
  obtain ⟨rs, h1, h2, h3⟩ := h
  exact ⟨rs, h1, h2.below hb hB, h3.below hb hB⟩
theorem RdII.wide {w : World} {lo hi lo' hi' : Nat} {v : Value} {L : List (List Int)} (h : RdII w lo hi v L) (hl : lo' ≤ lo) (hh : hi ≤ hi') : RdII w lo' hi' v L := by
  obtain ⟨rs, h1, h2, h3⟩ := h
  exact ⟨rs, h1, h2.wide hl hh, h3.wide hl hh⟩
/-- A slice of slices that the call appends to: its own block at base or above, its rows' at lo or above. -/
def OwnII (w : World) (lo base : Nat) (v : Value) (L : List (List Int)) : Prop := ∃ rs : List RowI, rs.map RowI.xs = L ∧ OwnL RowI.enc 1 25 w base v rs ∧ RowsW w lo w.heap.size rs
theorem OwnII.below {w w' : World} {lo base : Nat} {v : Value} {L : List (List Int)} (h : OwnII w lo base v L) (hb : Below w.heap.size w w') : OwnII w' lo base v L := by
  obtain ⟨rs, h1, h2, h3⟩ := h
  exact ⟨rs, h1, h2.below hb, (h3.below hb (Nat.le_refl _)).wide (Nat.le_refl _) hb.size⟩
theorem OwnII.mono {w : World} {lo base lo' base' : Nat} {v : Value} {L : List (List Int)} (h : OwnII w lo base v L) (hl : lo' ≤ lo) (hb : base' ≤ base) : OwnII w lo' base' v L := by
  obtain ⟨rs, h1, h2, h3⟩ := h
  exact ⟨rs, h1, h2.mono hb, h3.wide hl (Nat.le_refl _)⟩
theorem OwnII.emptyAt {w : World} {lo base n : Nat} (hn : n = w.heap.size) (hb : base ≤ w.heap.size) : OwnII (w.alloc (.cells #[] 25)) lo base (.slice (some ⟨n, 0, none⟩) 0 0) [] :=
  ⟨[], rfl, OwnL.emptyAt hn hb, RowsW.nil⟩
theorem OwnII.rd {w : World} {lo base : Nat} {v : Value} {L : List (List Int)} (h : OwnII w lo base v L) (hl : lo ≤ base) : RdII w lo w.heap.size v L := by
  obtain ⟨rs, h1, h2, h3⟩ := h
  exact ⟨rs, h1, ((h2.rdw (fun _ => rfl)).rd).wide hl (Nat.le_refl _), h3⟩
theorem OwnII.form {w : World} {lo base : Nat} {v : Value} {L : List (List Int)} (h : OwnII w lo base v L) : ∃ A c, v = .slice A L.length c ∧ L.length ≤ c := by
  obtain ⟨rs, rfl, h2, h3⟩ := h
  obtain ⟨A, c, hv, hc⟩ := RdF.form (h2.rdw (fun _ => rfl)).rd
  exact ⟨A, c, by rw [hv, List.length_map], by rw [List.length_map]; exact hc⟩
theorem RdII.form {w : World} {lo hi : Nat} {v : Value} {L : List (List Int)} (h : RdII w lo hi v L) : ∃ A c, v = .slice A L.length c ∧ L.length ≤ c := by
  obtain ⟨rs, rfl, h2, h3⟩ := h
  obtain ⟨A, c, hv, hc⟩ := h2.form
  exact ⟨A, c, by rw [hv, List.length_map], by rw [List.length_map]; exact hc⟩
/-- Row k of a slice of slices. -/
theorem RdII.at {w w' : World} {lo hi B : Nat} {A : Option Addr} {n c k : Nat} {L : List (List Int)} (h : RdII w lo hi (.slice A n c) L) (hb : Below B w w') (hB : hi ≤ B) (hk : k < L.length) :
    ∃ (x : List Int) (a : Option Addr) (c1 b off : Nat), Hid (L[k]? = some x) ∧ A = some ⟨b, off, none⟩ ∧ b < hi ∧ w'.cell? ⟨b, off + k, none⟩ = some (.slice a x.length c1) ∧ RdW encInt 1 2 w' lo hi (.slice a x.length c1) x := by
  obtain ⟨rs, rfl, h2, h3⟩ := h
  rw [List.length_map] at hk
  obtain ⟨r, b, off, h4, h5, h6, h7, h8⟩ := h2.get hb hB hk
  exact ⟨r.xs, r.a, r.c, b, off, map_at (f := RowI.xs) rfl h4.out, h5, h7, by simpa using h8 0 _ rfl, (h3 r (List.mem_of_getElem? h4.out)).below hb hB⟩

theorem Chg.grown {lo hi : Nat} {a w w' : World} {row : Option Nat} (h : Chg lo hi a w) (hg : w.grownBy w' row) (hr : ∀ g, row = some g → (lo ≤ g ∧ g < hi) ∨ a.heap.size ≤ g) : Chg lo hi a w' := by
  refine ⟨hg.os.trans h.os, hg.tape.trans h.tape, hg.output.trans h.output, Nat.le_trans h.size hg.size, fun b hb ho => ?_⟩
  have hs := h.size
  refine (hg.block b (by omega) (fun e => ?_)).trans (h.block b hb ho)
  rcases hr b e.symm with h1 | h1 <;> omega
theorem RdII.chg {w w' : World} {lo hi lo' hi' : Nat} {v : Value} {L : List (List Int)} (h : RdII w lo hi v L) (hc : Chg lo' hi' w w') (hs : hi ≤ w.heap.size) (hd : hi ≤ lo' ∨ hi' ≤ lo) : RdII w' lo hi v L := by
  obtain ⟨rs, h1, h2, h3⟩ := h
  exact ⟨rs, h1, h2.chg hc hs hd, fun r hr => (h3 r hr).chg hc hs hd⟩
/-- Appending one element; the slice's block is the old one or new. -/
theorem wpList_push2 {P : Program} {ops : Array Oper} {rest : List Oper} {o : Oper} {a : Act} {Q : Exit → Act → World → Prop} {α : Type} {enc : α → List Value} (w0 : World) (n0 : Nat) (hn0 : n0 = w0.heap.size) (hgd : o.guard = none) (s x : Operand) (t : TypeId)
    (ho : o.op = .call { callee := .builtin .append, args := #[s, x], argTypes := #[t, t] })
    (base : Nat) (e te : TypeId) (z : Value) (size bytes : Nat) (ht : P.underlying t = some (.slice e)) (hinfo : (P.info? e).map (fun i => (i.zero, i.size, i.bytes)) = some (some z, size, bytes))
    (hzs : z.cells.size = size) (hsz : 0 < size) (v : Value) (xs : List α) (y : α) (cs : Array Value) (hcs : cs.toList = enc y) (he : (enc y).length = size) (h1 : ∀ u ∈ enc y, u.oneCell' = true)
    (hs : a.eval s = v) (hx : a.eval x = .slice (some ⟨n0, 0, none⟩) 1 1) (hown : OwnL enc size e w0 base v xs) (hlen : xs.length + 1 ≤ 1099511627776) (hb : bytes ≤ 128) (hbase : base ≤ w0.heap.size)
    (h : ∀ v' w', OwnL enc size e w' base v' (xs ++ [y]) → w0.grownBy w' v.ownBlock → (v'.ownBlock = v.ownBlock ∨ v'.ownBlock = some (w0.heap.size + 1)) → wpList P ops Q rest (a.put o.dst v') w') : wpList P ops Q (o :: rest) a (w0.alloc (.cells cs te)) := by
  subst hn0
  obtain ⟨i, hi, hz, hsi, hby⟩ := info_parts hinfo
  obtain ⟨v', w', hr, h2, h3, -, h5⟩ := run_append_own_at (P := P) (w0.alloc (.cells cs te)) base t o.type e i z size bytes ht hi hz hsi hby hzs hsz v xs.length (xs.flatMap enc) (World.ownsRow.alloc hown _) ⟨w0.heap.size, 0, none⟩ 1 1 (enc y) (by rw [he]; omega) (fun j u hu => by
    have hb := Blk.new w0 te cs
    have e1 : (⟨w0.heap.size, 0, none⟩ : Addr).add j = ⟨w0.heap.size, j, none⟩ := by unfold Addr.add; split <;> simp_all
    rw [e1, hb.cell, ← Array.getElem?_toList, hcs, hu]) h1 (by unfold maxLen; omega) (by
    have : (xs.length + 1) * bytes ≤ 1099511627776 * 128 := Nat.mul_le_mul hlen hb
    omega) (by simp; omega)
  refine wpList_plain hgd fun K hK => ?_
  unfold Oper.wp execOp
  simp only [ho, resolve, invoke, builtin, Sem.run_bind, Sem.run_pure, Result.andThen_ok, List.map_toArray, List.map_cons, List.map_nil, hs, hx, hr]
  refine hK _ _ (h v' w' (OwnL.snoc h2) ⟨h3.os, h3.tape, h3.output, Nat.le_trans (by simp) h3.size, fun k hk hne => (h3.block k (by simp; omega) hne).trans (Below.heap_alloc _ _ _ hk)⟩ (by simpa using h5))

set_option maxRecDepth 100000 in
set_option maxHeartbeats 800000 in
theorem cloneInt_any (v : Value) (xs : List Int) (lo hi : Nat) (w : World) (h : RdF encInt 1 w lo hi v xs) (hh : hi ≤ w.heap.size) (hm : xs.length ≤ 1048576) :
    Calls Try.prog 56 #[v] w fun e w' => RetV (fun v' w' => OwnL encInt 1 2 w' w.heap.size v' xs) w e w' := by
  have h0 := h
  obtain ⟨A, c, rfl, hc, hA⟩ := h
  clear hA
  obtain ⟨arr, hmk, hown⟩ := mkCap (P := Try.prog) (enc := encInt) 25 2 Try.underlying25 (.int .i64 0) 1 8 (by kernel_rfl) rfl xs.length (by omega) (by unfold maxLen; omega)
  have hw := hown w w.heap.size (Nat.le_refl _)
  have hx := h0.below ((Below.refl w.heap.size w).alloc (Nat.le_refl _) (.cells arr 2)) hh
  go_enter Try.func56, Try.ntmps56
  go_wp2_with (at_builtin; refine wpList_app (enc := encInt) _ rfl _ _ _ rfl w.heap.size 2 (.int .i64 0) 1 8 Try.underlying25 (by kernel_rfl) rfl (by omega) (fun _ => rfl) encInt_one (by omega) _ _ [] xs lo hi (by rfl) (by rfl) hw hx (by simp) (by simp; omega) ?_; intro v2 w2 hown2 hg2 hk2)
  go_ret
  exact ⟨_, rfl, by simpa using hown2, hk2 _ _ (Nat.le_refl _) ((Below.refl _ _).alloc (Nat.le_refl _) _)⟩
set_option maxRecDepth 100000 in
set_option maxHeartbeats 800000 in
theorem l01Own_any (v : Value) (xs : List Int) (lo hi : Nat) (w : World) (h : RdF encInt 1 w lo hi v xs) (hh : hi ≤ w.heap.size) (hm : xs.length ≤ 1048576) :
    Calls Try.prog 58 #[v] w fun e w' => RetV (fun v' w' => OwnL encInt 1 2 w' w.heap.size v' xs) w e w' := by
  have h0 := h
  obtain ⟨A, c, rfl, hc, hA⟩ := h
  clear hA
  have hw : OwnL encInt 1 2 (w.alloc (.cells #[] 2)) w.heap.size (.slice (some ⟨w.heap.size, 0, none⟩) 0 0) [] := OwnL.emptyAt rfl (Nat.le_refl _)
  have hx := h0.below ((Below.refl w.heap.size w).alloc (Nat.le_refl _) (.cells #[] 2)) hh
  go_enter Try.func58, Try.ntmps58
  go_wp2_with (at_builtin; refine wpList_app (enc := encInt) _ rfl _ _ _ rfl w.heap.size 2 (.int .i64 0) 1 8 Try.underlying25 (by kernel_rfl) rfl (by omega) (fun _ => rfl) encInt_one (by omega) _ _ [] xs lo hi (by rfl) (by rfl) hw hx (by simp) (by simp; omega) ?_; intro v2 w2 hown2 hg2 hk2)
  go_ret
  exact ⟨_, rfl, by simpa using hown2, hk2 _ _ (Nat.le_refl _) ((Below.refl _ _).alloc (Nat.le_refl _) _)⟩
end Go.Proofs.Ytfafcicbfgdmcaa
