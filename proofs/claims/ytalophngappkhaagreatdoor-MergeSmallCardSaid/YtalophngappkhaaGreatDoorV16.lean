/- merge.join. -/
import Derived.Test.YtalophngappkhaaGreatDoorV15
set_option linter.unusedVariables false
set_option linter.unusedSimpArgs false
set_option linter.unusedSectionVars false
namespace Go.Proofs.YtalophngappkhaaGreatDoor
open Go.RowKit Go.Shelf
attribute [local go_sem] Oper.semAt_some

theorem elemE : ElemT Tryz.prog 22 28 11 80 := ⟨Tryz.underlying22, by
 have h : (Tryz.prog.info? 28).map (fun i => (i.zero, i.size, i.bytes)) = some (some (.agg #[.int .i64 0, .int .i64 0, .int .u8 0, .int .u8 0, .int .i64 0, .int .i64 0, .int .i64 0, .int .i64 0, .int .i64 0, .int .u64 0, .int .i64 0]), 11, 80) := by kernel_rfl
 obtain ⟨i, h1, h2, h3, h4⟩ := info_parts h
 exact ⟨i, _, h1, h2, h3, h4, rfl⟩, by omega, by omega⟩
/-- The walk's memory: out and tw, their slices, the map, the boxes of the results. -/
structure JS (w : World) (B base : Nat) (out : List Ev) (tw : List Int) (vo vt : Value) (F : Lit → Option Value) (n : Nat) (W : World) : Prop where
 bo : Boxed W (B + 5) 22 vo
 oo : OV encE 11 28 base W vo out
 bt : Boxed W (B + 6) 32 vt
 ot : OV encI 1 3 base W vt tw
 bm : Boxed W (B + 4) 147 (.map (some (B + 3)))
 mp : MpV Tryz.prog 3 W (B + 3) n F
 r0 : Boxed W B 22 (.slice none 0 0)
 r1 : Boxed W (B + 1) 32 (.slice none 0 0)
 r2 : Boxed W (B + 2) 46 (.int .i64 0)
 bel : Below B w W
/-- The end by a conflict, or by too many. -/
structure JX (w : World) (B : Nat) (c : Int) (W : World) : Prop where
 r0 : Boxed W B 22 (.slice none 0 0)
 r1 : Boxed W (B + 1) 32 (.slice none 0 0)
 r2 : Boxed W (B + 2) 46 (.int .i64 c)
 bel : Below B w W
section
variable {w W W' : World} {F : Lit → Option Value} {B base : Nat} {out : List Ev} {tw : List Int} {vo vt : Value} {n : Nat} {c : Int}
theorem JS.chg {B0 : Nat} (h : JS w B base out tw vo vt F n W) (hB : w.heap.size = B) (hb0 : B ≤ B0) (hc : Chg B0 (fun _ => False) W W') : JS w B base out tw vo vt F n W' :=
 ⟨h.bo.chg hc (fun t => t), h.oo.chg hc (fun _ _ t => t), h.bt.chg hc (fun t => t), h.ot.chg hc (fun _ _ t => t), h.bm.chg hc (fun t => t), h.mp.chg hc (fun t => t), h.r0.chg hc (fun t => t), h.r1.chg hc (fun t => t), h.r2.chg hc (fun t => t), hc.below h.bel (by omega) hb0 (fun _ t => t.elim)⟩
theorem JX.chg {B0 : Nat} (h : JX w B c W) (hB : w.heap.size = B) (hb0 : B ≤ B0) (hc : Chg B0 (fun _ => False) W W') : JX w B c W' :=
 ⟨h.r0.chg hc (fun t => t), h.r1.chg hc (fun t => t), h.r2.chg hc (fun t => t), hc.below h.bel (by omega) hb0 (fun _ t => t.elim)⟩
theorem JS.below (h : JS w B base out tw vo vt F n W) (hB : w.heap.size = B) (hb : Below W.heap.size W W') : JS w B base out tw vo vt F n W' :=
 ⟨h.bo.below hb, h.oo.below hb, h.bt.below hb, h.ot.below hb, h.bm.below hb, h.mp.below hb, h.r0.below hb, h.r1.below hb, h.r2.below hb, h.bel.trans (hb.mono (by have := h.bel.size; omega))⟩
end
theorem JX.set {w W : World} {B : Nat} {c : Int} (h : JX w B c W) (hB : w.heap.size = B) (c' : Int) : JX w B c' (((W.setCell ⟨B, 0, none⟩ (.slice none 0 0)).setCell ⟨B + 1, 0, none⟩ (.slice none 0 0)).setCell ⟨B + 2, 0, none⟩ (.int .i64 c')) := by
 have hm : Mod (fun k => B ≤ k) W (((W.setCell ⟨B, 0, none⟩ (.slice none 0 0)).setCell ⟨B + 1, 0, none⟩ (.slice none 0 0)).setCell ⟨B + 2, 0, none⟩ (.int .i64 c')) :=
  ((Mod.setCell (T := fun k => B ≤ k) _ (Nat.le_refl B)).trans (Mod.setCell (T := fun k => B ≤ k) _ (show B ≤ B + 1 by omega))).trans (Mod.setCell (T := fun k => B ≤ k) _ (show B ≤ B + 2 by omega))
 refine ⟨?_, ?_, ?_, h.bel.trans (hm.below (B := B) (fun k hk => by omega) (by have := h.bel.size; omega))⟩
 ·exact Boxed.setOther (Boxed.setOther (Boxed.set _ h.r0) (by simp)) (by simp)
 ·exact Boxed.setOther (Boxed.set _ (Boxed.setOther h.r1 (by simp))) (by simp)
 ·exact Boxed.set _ (Boxed.setOther (Boxed.setOther h.r2 (by simp)) (by simp))
theorem JX.cells {w W : World} {B : Nat} {c : Int} (h : JX w B c W) : W.cell? ⟨B, 0, none⟩ = some (.slice none 0 0) ∧ W.cell? ⟨B + 1, 0, none⟩ = some (.slice none 0 0) ∧ W.cell? ⟨B + 2, 0, none⟩ = some (.int .i64 c) ∧
  W.frozen? ⟨B, 0, none⟩ = false ∧ W.frozen? ⟨B + 1, 0, none⟩ = false ∧ W.frozen? ⟨B + 2, 0, none⟩ = false := ⟨h.r0.cell, h.r1.cell, h.r2.cell, h.r0.frozen, h.r1.frozen, h.r2.frozen⟩
theorem own_notbook {α : Type} {enc : α → List Value} {k base : Nat} {e : TypeId} {W : World} {v : Value} {xs : List α} (h : OV enc k e base W v xs) {g : Nat} (hg : v.ownBlock = some g) : ∃ o, W.heap[g]? = some o ∧ isBook o = false := by
 rcases h.2 with ⟨rfl, _⟩ | ⟨g', cap, cur, rfl, _, hgb, _⟩
 ·cases hg
 ·cases hg
  exact ⟨_, hgb, rfl⟩
theorem Boxed.notbook {W : World} {X : Nat} {t : TypeId} {v : Value} (h : Boxed W X t v) : ∃ o, W.heap[X]? = some o ∧ isBook o = false := ⟨_, h, rfl⟩
section
variable {w W W' W3 : World} {F F' : Lit → Option Value} {B : Nat} {out : List Ev} {tw : List Int} {vo vt v' : Value} {n n' : Nat} {e : Ev} {x : Int} {tmp : Obj}
theorem JS.put (h : JS w B (B + 8) out tw vo vt F n W) (hB : w.heap.size = B) (hm : MpV Tryz.prog 3 W' (B + 3) n' F') (hg : W.grownBy W' (some (B + 3))) : JS w B (B + 8) out tw vo vt F' n' W' := by
 have ho : ∀ g, vo.ownBlock = some g → B + 8 ≤ g := fun g q => (h.oo.block g q).1
 have ht : ∀ g, vt.ownBlock = some g → B + 8 ≤ g := fun g q => (h.ot.block g q).1
 refine ⟨h.bo.kept hg (by simp), h.oo.keep hg (.inr fun q => by have := ho _ q; omega), h.bt.kept hg (by simp), h.ot.keep hg (.inr fun q => by have := ht _ q; omega), h.bm.kept hg (by simp), hm, h.r0.kept hg (by simp), h.r1.kept hg (by simp), h.r2.kept hg (by simp), h.bel.grown hg (by have := h.bel.size; omega) (fun k hk => by cases hk; omega)⟩
theorem JS.appO (h : JS w B (B + 8) out tw vo vt F n W) (hB : w.heap.size = B) (o3 : OV encE 11 28 (B + 8) W3 v' (out ++ [e])) (g3 : (W.alloc tmp).grownBy W3 vo.ownBlock) :
  Boxed W3 (B + 5) 22 vo ∧ JS w B (B + 8) (out ++ [e]) tw v' vt F n (W3.setCell ⟨B + 5, 0, none⟩ v') ∧ Mod (fun k => k = B + 5 ∨ vo.ownBlock = some k) W (W3.setCell ⟨B + 5, 0, none⟩ v') := by
 have ho : ∀ g, vo.ownBlock = some g → B + 8 ≤ g := fun g q => (h.oo.block g q).1
 have ht : ∀ g, vt.ownBlock = some g → B + 8 ≤ g := fun g q => (h.ot.block g q).1
 have h1 := h.below hB (bel_alloc W tmp)
 have hne : vt.ownBlock = none ∨ vt.ownBlock ≠ vo.ownBlock := h1.ot.ne h1.oo (by decide)
 have hm : Mod (fun k => k = B + 5 ∨ vo.ownBlock = some k) W (W3.setCell ⟨B + 5, 0, none⟩ v') := ((Mod.alloc tmp).trans (Mod.grown g3 (fun g q => .inr q))).trans (Mod.setCell _ (.inl rfl))
 refine ⟨h1.bo.kept g3 (fun q => by have := ho _ q.symm; omega), ⟨Boxed.set _ (h1.bo.kept g3 (fun q => by have := ho _ q.symm; omega)), ?_, ?_, ?_, ?_, ?_, ?_, ?_, ?_, ?_⟩, hm⟩
 ·exact o3.mod (T := fun k => k = B + 5) (Mod.setCell _ rfl) (fun g q t => by have := (o3.block g q).1; omega)
 ·exact (h1.bt.kept g3 (fun q => by have := ho _ q.symm; omega)).setOther (by simp)
 ·exact (h1.ot.keep g3 hne).mod (T := fun k => k = B + 5) (Mod.setCell _ rfl) (fun g q t => by have := ht g q; omega)
 ·exact (h1.bm.kept g3 (fun q => by have := ho _ q.symm; omega)).setOther (by simp)
 ·exact (h1.mp.kept g3 (fun q => by have := ho _ q.symm; omega)).setCell (by simp) _
 ·exact (h1.r0.kept g3 (fun q => by have := ho _ q.symm; omega)).setOther (by simp)
 ·exact (h1.r1.kept g3 (fun q => by have := ho _ q.symm; omega)).setOther (by simp)
 ·exact (h1.r2.kept g3 (fun q => by have := ho _ q.symm; omega)).setOther (by simp)
 ·exact h.bel.trans (hm.below (B := B) (fun k hk t => by rcases t with t | t; omega; have := ho _ t; omega) (by have := h.bel.size; omega))
theorem JS.appT (h : JS w B (B + 8) out tw vo vt F n W) (hB : w.heap.size = B) (o3 : OV encI 1 3 (B + 8) W3 v' (tw ++ [x])) (g3 : (W.alloc tmp).grownBy W3 vt.ownBlock) :
  Boxed W3 (B + 6) 32 vt ∧ JS w B (B + 8) out (tw ++ [x]) vo v' F n (W3.setCell ⟨B + 6, 0, none⟩ v') ∧ Mod (fun k => k = B + 6 ∨ vt.ownBlock = some k) W (W3.setCell ⟨B + 6, 0, none⟩ v') := by
 have ho : ∀ g, vo.ownBlock = some g → B + 8 ≤ g := fun g q => (h.oo.block g q).1
 have ht : ∀ g, vt.ownBlock = some g → B + 8 ≤ g := fun g q => (h.ot.block g q).1
 have h1 := h.below hB (bel_alloc W tmp)
 have hne : vo.ownBlock = none ∨ vo.ownBlock ≠ vt.ownBlock := h1.oo.ne h1.ot (by decide)
 have hm : Mod (fun k => k = B + 6 ∨ vt.ownBlock = some k) W (W3.setCell ⟨B + 6, 0, none⟩ v') := ((Mod.alloc tmp).trans (Mod.grown g3 (fun g q => .inr q))).trans (Mod.setCell _ (.inl rfl))
 refine ⟨h1.bt.kept g3 (fun q => by have := ht _ q.symm; omega), ⟨?_, ?_, Boxed.set _ (h1.bt.kept g3 (fun q => by have := ht _ q.symm; omega)), ?_, ?_, ?_, ?_, ?_, ?_, ?_⟩, hm⟩
 ·exact (h1.bo.kept g3 (fun q => by have := ht _ q.symm; omega)).setOther (by simp)
 ·exact (h1.oo.keep g3 hne).mod (T := fun k => k = B + 6) (Mod.setCell _ rfl) (fun g q t => by have := ho g q; omega)
 ·exact o3.mod (T := fun k => k = B + 6) (Mod.setCell _ rfl) (fun g q t => by have := (o3.block g q).1; omega)
 ·exact (h1.bm.kept g3 (fun q => by have := ht _ q.symm; omega)).setOther (by simp)
 ·exact (h1.mp.kept g3 (fun q => by have := ht _ q.symm; omega)).setCell (by simp) _
 ·exact (h1.r0.kept g3 (fun q => by have := ht _ q.symm; omega)).setOther (by simp)
 ·exact (h1.r1.kept g3 (fun q => by have := ht _ q.symm; omega)).setOther (by simp)
 ·exact (h1.r2.kept g3 (fun q => by have := ht _ q.symm; omega)).setOther (by simp)
 ·exact h.bel.trans (hm.below (B := B) (fun k hk t => by rcases t with t | t; omega; have := ht _ t; omega) (by have := h.bel.size; omega))
theorem JS.srtO {R : List Ev} (h : JS w B (B + 8) out tw vo vt F n W) (hB : w.heap.size = B) (o : OV encE 11 28 (B + 8) W' vo R) (g : W.grownBy W' vo.ownBlock) : JS w B (B + 8) R tw vo vt F n W' := by
 have ho : ∀ g, vo.ownBlock = some g → B + 8 ≤ g := fun g q => (h.oo.block g q).1
 refine ⟨h.bo.kept g (fun q => by have := ho _ q.symm; omega), o, h.bt.kept g (fun q => by have := ho _ q.symm; omega), h.ot.keep g (h.ot.ne h.oo (by decide)), h.bm.kept g (fun q => by have := ho _ q.symm; omega), h.mp.kept g (fun q => by have := ho _ q.symm; omega), h.r0.kept g (fun q => by have := ho _ q.symm; omega), h.r1.kept g (fun q => by have := ho _ q.symm; omega), h.r2.kept g (fun q => by have := ho _ q.symm; omega), h.bel.grown g (by have := h.bel.size; omega) (fun k hk => by have := ho _ hk; omega)⟩
theorem JS.srtT {T : List Int} (h : JS w B (B + 8) out tw vo vt F n W) (hB : w.heap.size = B) (o : OV encI 1 3 (B + 8) W' vt T) (g : W.grownBy W' vt.ownBlock) : JS w B (B + 8) out T vo vt F n W' := by
 have ht : ∀ g, vt.ownBlock = some g → B + 8 ≤ g := fun g q => (h.ot.block g q).1
 refine ⟨h.bo.kept g (fun q => by have := ht _ q.symm; omega), h.oo.keep g (h.oo.ne h.ot (by decide)), h.bt.kept g (fun q => by have := ht _ q.symm; omega), o, h.bm.kept g (fun q => by have := ht _ q.symm; omega), h.mp.kept g (fun q => by have := ht _ q.symm; omega), h.r0.kept g (fun q => by have := ht _ q.symm; omega), h.r1.kept g (fun q => by have := ht _ q.symm; omega), h.r2.kept g (fun q => by have := ht _ q.symm; omega), h.bel.grown g (by have := h.bel.size; omega) (fun k hk => by have := ht _ hk; omega)⟩
/-- Within the last region: the numbers compacted, the results stored. -/
structure JE (w : World) (B : Nat) (R : List Ev) (S T : List Int) (vo vt : Value) (D : Nat) (d2 d3 d4 : Bool) (x2 : Value) (W : World) : Prop where
 df : W.heap[D]? = some (.deferred (some []))
 bo : Boxed W (B + 5) 22 vo
 oo : OV encE 11 28 (B + 8) W vo R
 bt : Boxed W (B + 6) 32 vt
 ot : d2 = false → OV encI 1 3 (B + 8) W vt S
 o2 : d2 = true → OV encI 1 3 (B + 8) W x2 T
 r0 : Boxed W B 22 (match d3 with | true => vo | false => .slice none 0 0)
 r1 : Boxed W (B + 1) 32 (match d4 with | true => x2 | false => .slice none 0 0)
 r2 : Boxed W (B + 2) 46 (.int .i64 0)
 bel : Below B w W
theorem own_ne_df {α : Type} {enc : α → List Value} {k base D : Nat} {e : TypeId} {W : World} {v : Value} {xs : List α} (h : OV enc k e base W v xs) (hd : W.heap[D]? = some (.deferred (some []))) : some D ≠ v.ownBlock := by
 intro q
 obtain ⟨o, h1, h2⟩ := own_notbook h q.symm
 rw [hd] at h1; cases h1; cases h2
theorem JE.cmp {D : Nat} {R : List Ev} {S T : List Int} {d3 : Bool} {x2 : Value} (h : JE w B R S T vo vt D false d3 false x2 W) (hB : w.heap.size = B) (o : OV encI 1 3 (B + 8) W' v' T) (g : W.grownBy W' vt.ownBlock) : JE w B R S T vo vt D true d3 false v' W' := by
 have ht : ∀ g, vt.ownBlock = some g → B + 8 ≤ g := fun g q => ((h.ot rfl).block g q).1
 exact ⟨(g.block D (Array.getElem?_eq_some_iff.1 h.df).1 (own_ne_df (h.ot rfl) h.df)).trans h.df, h.bo.kept g (fun q => by have := ht _ q.symm; omega), h.oo.keep g (h.oo.ne (h.ot rfl) (by decide)), h.bt.kept g (fun q => by have := ht _ q.symm; omega), fun k => (by cases k), fun _ => o, Boxed.kept h.r0 g (fun q => by have := ht _ q.symm; omega), Boxed.kept h.r1 g (fun q => by have := ht _ q.symm; omega), h.r2.kept g (fun q => by have := ht _ q.symm; omega), h.bel.grown g (by have := h.bel.size; omega) (fun k hk => by have := ht _ hk; omega)⟩
theorem JE.st0 {D : Nat} {R : List Ev} {S T : List Int} {d2 d4 : Bool} {x2 : Value} (h : JE w B R S T vo vt D d2 false d4 x2 W) (hB : w.heap.size = B) (hD : B + 8 ≤ D) : JE w B R S T vo vt D d2 true d4 x2 (W.setCell ⟨B, 0, none⟩ vo) := by
 have hm := Mod.setCell (a := W) (p := ⟨B, 0, none⟩) (T := fun k => k = B) vo rfl
 exact ⟨(Below.heap_setCell _ _ _ _ (by simp; omega)).trans h.df, h.bo.setOther (by simp), h.oo.mod hm (fun g q t => by have := (h.oo.block g q).1; omega), h.bt.setOther (by simp), fun k => (h.ot k).mod hm (fun g q t => by have := ((h.ot k).block g q).1; omega), fun k => (h.o2 k).mod hm (fun g q t => by have := ((h.o2 k).block g q).1; omega), Boxed.set _ h.r0, Boxed.setOther h.r1 (by simp), h.r2.setOther (by simp), h.bel.trans (hm.below (B := B) (fun k hk t => by omega) (by have := h.bel.size; omega))⟩
theorem JE.st1 {D : Nat} {R : List Ev} {S T : List Int} {d3 : Bool} {x2 : Value} (h : JE w B R S T vo vt D true d3 false x2 W) (hB : w.heap.size = B) (hD : B + 8 ≤ D) : JE w B R S T vo vt D true d3 true x2 (W.setCell ⟨B + 1, 0, none⟩ x2) := by
 have hm := Mod.setCell (a := W) (p := ⟨B + 1, 0, none⟩) (T := fun k => k = B + 1) x2 rfl
 exact ⟨(Below.heap_setCell _ _ _ _ (by simp; omega)).trans h.df, h.bo.setOther (by simp), h.oo.mod hm (fun g q t => by have := (h.oo.block g q).1; omega), h.bt.setOther (by simp), fun k => (by cases k), fun k => (h.o2 k).mod hm (fun g q t => by have := ((h.o2 k).block g q).1; omega), Boxed.setOther h.r0 (by simp), Boxed.set _ h.r1, h.r2.setOther (by simp), h.bel.trans (hm.below (B := B) (fun k hk t => by omega) (by have := h.bel.size; omega))⟩
theorem JE.st2 {D : Nat} {R : List Ev} {S T : List Int} {d2 d3 d4 : Bool} {x2 : Value} (h : JE w B R S T vo vt D d2 d3 d4 x2 W) (hB : w.heap.size = B) (hD : B + 8 ≤ D) : JE w B R S T vo vt D d2 d3 d4 x2 (W.setCell ⟨B + 2, 0, none⟩ (.int .i64 0)) := by
 have hm := Mod.setCell (a := W) (p := ⟨B + 2, 0, none⟩) (T := fun k => k = B + 2) (.int .i64 0) rfl
 exact ⟨(Below.heap_setCell _ _ _ _ (by simp; omega)).trans h.df, h.bo.setOther (by simp), h.oo.mod hm (fun g q t => by have := (h.oo.block g q).1; omega), h.bt.setOther (by simp), fun k => (h.ot k).mod hm (fun g q t => by have := ((h.ot k).block g q).1; omega), fun k => (h.o2 k).mod hm (fun g q t => by have := ((h.o2 k).block g q).1; omega), Boxed.setOther h.r0 (by simp), Boxed.setOther h.r1 (by simp), Boxed.set _ h.r2, h.bel.trans (hm.below (B := B) (fun k hk t => by omega) (by have := h.bel.size; omega))⟩
theorem EvP.chg {B0 X : Nat} (h : EvP W X e) (hc : Chg B0 (fun _ => False) W W') : EvP W' X e := fun q u hu => hc.cell (h q u hu) (fun t => t)
end
theorem split_at {α : Type} {l : List α} {k : Nat} {e : α} (h : l[k]? = some e) : l = l.take k ++ e :: l.drop (k + 1) := by
 obtain ⟨hk, rfl⟩ := List.getElem?_eq_some_iff.1 h
 rw [← List.drop_eq_getElem_cons hk, List.take_append_drop]
theorem post_markW {P : Program} {fn : Func} {R : Ending → World → Prop} {tmps : Array Value} {w : World} {D : Nat} {v : Value}
  (hK : w.heap[D]? = some (.deferred (some []))) (hr : (results fn tmps).run P (w.putObj D (.deferred none)) = .ok v (w.putObj D (.deferred none))) (hR : R (.returned v) (w.putObj D (.deferred none))) :
  bodyPostM W0 0 P fn R .ret { tmps, defers := [{ target := .collected D, args := #[] }] } w :=
 ⟨by simp, .inl ⟨_, _, rfl, run_takeDeferred hK, ⟨_, hr, hR⟩⟩⟩
set_option maxRecDepth 100000 in
set_option maxHeartbeats 6400000 in
theorem join_ok (w : World) (v : Value) (rows : List (Value × List Ev)) (hv : EV encVs 1 w v rows) (hx : ∀ x ∈ rows, EV encE 11 w x.1 x.2) (ho : ∀ e ∈ flatR rows, EvOk e) (hm : rows.length ≤ 1000000) (hl : (flatR rows).length ≤ 100000000) :
  Calls Tryz.prog 56 #[v] w fun r w' => ∃ v1 v2 c R T, r = .returned (.tuple #[v1, v2, .int .i64 c]) ∧ OV encE 11 28 w.heap.size w' v1 R ∧ OV encI 1 3 w.heap.size w' v2 T ∧ JoinRes (flatR rows) R T c ∧ Below w.heap.size w w' := by
 refine of_in ?_
 have hfn : ∀ f, W0.fn f := fun _ => trivial
 have hd0 : W0.depth = none := rfl
 obtain ⟨A, c, rfl⟩ := hv.shape
 have HV := Lib.hid hv
 have HX := Lib.hid hx
 have HO := Lib.hid ho
 have HTM := Lib.hid (fun j => tot_le rows j)
 obtain ⟨m, hmm⟩ : ∃ m, m = rows.length := ⟨_, rfl⟩
 have HM := Lib.hid hmm
 obtain ⟨N, hN⟩ : ∃ N, N = (flatR rows).length := ⟨_, rfl⟩
 have HN := Lib.hid hN
 rw [← hmm] at hm ⊢
 rw [← hN] at hl
 have hmk := @run_makeMap Tryz.prog
 clear hv hx ho hmm hN
 refine callsIn_of_wp_marks Tryz.func56 rfl trivial ?_ rfl
 simp only [Tryz.ntmps56, List.size_toArray, List.length_cons, List.length_nil, Nat.reduceAdd, Nat.reduceSub, Array.replicate_succ, Array.replicate_zero, List.push_toArray, List.append_toArray, List.nil_append, List.cons_append]
 gi_wp2
 obtain ⟨B, hB⟩ : ∃ B, w.heap.size = B := ⟨_, rfl⟩
 have HB := Lib.hid hB
 have HJ0 := Lib.hid (show JX w w.heap.size 0 (((w.alloc (.cells #[.slice none 0 0] 22)).alloc (.cells #[.slice none 0 0] 32)).alloc (.cells #[.int .i64 0] 46)) from
  ⟨((Boxed.new w _ _).below (bel_alloc _ _)).below (bel_alloc _ _), (by have := (Boxed.new (w.alloc (.cells #[.slice none 0 0] 22)) 32 (.slice none 0 0)).below (bel_alloc _ (.cells #[.int .i64 0] 46)); rwa [World.size_alloc] at this), (by have := Boxed.new ((w.alloc (.cells #[.slice none 0 0] 22)).alloc (.cells #[.slice none 0 0] 32)) 46 (.int .i64 0); rwa [World.size_alloc, World.size_alloc] at this), (bstep (bel_alloc2 w _ _) (bel_alloc _ _))⟩)
 have HZ0 := Lib.hid (show (((w.alloc (.cells #[.slice none 0 0] 22)).alloc (.cells #[.slice none 0 0] 32)).alloc (.cells #[.int .i64 0] 46)).heap.size = w.heap.size + 3 by simp)
 have h1 := HJ0.out
 have h2 := HZ0.out
 clear HJ0 HZ0
 generalize ((w.alloc (.cells #[.slice none 0 0] 22)).alloc (.cells #[.slice none 0 0] 32)).alloc (.cells #[.int .i64 0] 46) = w1 at h1 h2 ⊢
 rw [hB] at h1 h2 ⊢
 have HJX := Lib.hid h1
 have HZ := Lib.hid h2
 clear h1 h2 hB
 rw [show B + 1 + 1 = B + 2 from rfl]
 gi_loopg [5, 16] m (fun g z i wr => ∃ j : Nat, j + g = m ∧ i = .int .i64 j ∧ z = .int .i64 (((rows.take j).flatMap Prod.snd).length : Nat) ∧ wr = w1)
 case atStart => exact ⟨0, by omega, rfl, rfl, rfl⟩
 case round =>
  obtain ⟨j, hj, rfl, rfl, rfl⟩ := hrel
  have HJ := Lib.hid hj
  clear hj
  by_cases hlt : j < m
  ·obtain ⟨b, off, c', hvv, -, rr⟩ := ((LowW.of_below (HB.out ▸ HJX.out.bel)).ev HV.out).row (by rw [← HM.out]; omega)
   simp only [Value.slice.injEq] at hvv
   obtain ⟨rfl, -, rfl⟩ := hvv
   obtain ⟨x, hx⟩ : ∃ x, rows[j]? = some x := ⟨_, List.getElem?_eq_getElem (by rw [← HM.out]; exact hlt)⟩
   have cx := rr.vs hx
   obtain ⟨A2, c2, hA2⟩ := (HX.out x (List.mem_of_getElem? hx)).shape
   have HST := Lib.hid (tot_step hx)
   have q1 := HTM.out (j + 1)
   rw [HST.out] at q1
   have q2 : ((rows.take j).flatMap Prod.snd).length + x.2.length ≤ N := by rw [HN.out]; exact q1
   rw [hA2] at cx
   generalize ((rows.take j).flatMap Prod.snd).length = T0 at q1 q2 HST ⊢
   generalize x.2.length = T1 at q1 q2 HST cx ⊢
   clear hx rr hA2 q1
   gi_wp2
   gi_roundg (gk - 1)
   case measure => have := HJ.out; omega
   case rel => exact ⟨j + 1, by have := HJ.out; omega, by go_num, by rw [HST.out]; first | rfl | (congr 1) | (congr 1; omega), rfl⟩
  ·obtain rfl : m = j := by have := HJ.out; omega
   rw [List.take_of_length_le (show rows.length ≤ m by rw [HM.out]; exact Nat.le_refl _)]
   have hnn : (rows.flatMap Prod.snd).length = N := HN.out.symm
   rw [hnn]
   clear hnn
   by_cases hbig : 65535 < N
   ·have d1 : decide ((65535 : Int) < (N : Int)) = true := by simp; omega
    obtain ⟨r0, r1, r2, f0, f1, f2⟩ := HJX.out.cells
    have HE := Lib.hid (HJX.out.set HB.out 5)
    obtain ⟨e0, e1, e2, -⟩ := HE.out.cells
    have HBIG := Lib.hid hbig
    gi_wp2
    refine post_mark0 (results_cell3 rfl _ _ _ rfl rfl rfl (load_sev e0) (load_sint e1) (load_errno e2)) ?_
    exact ⟨_, _, _, [], [], rfl, OV.nil _ _, OV.nil _ _, .inl ⟨by rw [← HN.out]; exact HBIG.out, rfl, rfl, rfl⟩, HB.out ▸ HE.out.bel⟩
   ·have d1 : decide ((65535 : Int) < (N : Int)) = false := by simp; omega
    have HNB := Lib.hid (show N ≤ 65535 by omega)
    gi_wp2
    have hj : JS w B (B + 8) [] [] (.slice none 0 0) (.slice none 0 0) (mapJ []) 0 ((((wr.alloc (.map #[] 0)).alloc (.cells #[.map (some wr.heap.size)] 147)).alloc (.cells #[.slice none 0 0] 22)).alloc (.cells #[.slice none 0 0] 32)) := by
     have hz := HZ.out
     have b0 := bel_alloc wr (.map #[] 0)
     have b1 := bel_alloc (wr.alloc (.map #[] 0)) (.cells #[.map (some wr.heap.size)] 147)
     have b2 := bel_alloc ((wr.alloc (.map #[] 0)).alloc (.cells #[.map (some wr.heap.size)] 147)) (.cells #[.slice none 0 0] 22)
     have b3 := bel_alloc (((wr.alloc (.map #[] 0)).alloc (.cells #[.map (some wr.heap.size)] 147)).alloc (.cells #[.slice none 0 0] 22)) (.cells #[.slice none 0 0] 32)
     refine ⟨?_, OV.nil _ _, ?_, OV.nil _ _, ?_, ?_, ?_, ?_, ?_, ?_⟩
     ·have := (Boxed.new ((wr.alloc (.map #[] 0)).alloc (.cells #[.map (some wr.heap.size)] 147)) 22 (.slice none 0 0)).below b3
      simp only [World.size_alloc, hz] at this ⊢
      exact this
     ·have := Boxed.new (((wr.alloc (.map #[] 0)).alloc (.cells #[.map (some wr.heap.size)] 147)).alloc (.cells #[.slice none 0 0] 22)) 32 (.slice none 0 0)
      simp only [World.size_alloc, hz] at this ⊢
      exact this
     ·have := ((Boxed.new (wr.alloc (.map #[] 0)) 147 (.map (some wr.heap.size))).below b2).below b3
      simp only [World.size_alloc, hz] at this ⊢
      exact this
     ·have := (((MpV.made Tryz.prog 3 wr).below b1).below b2).below b3
      rw [mapJ_nil]
      simp only [World.size_alloc, hz] at this ⊢
      exact this
     ·exact (((HJX.out.r0.below b0).below b1).below b2).below b3
     ·exact (((HJX.out.r1.below b0).below b1).below b2).below b3
     ·exact (((HJX.out.r2.below b0).below b1).below b2).below b3
     ·exact HB.out ▸ bstep (bstep (bstep (bstep (HB.out ▸ HJX.out.bel) b0) b1) b2) b3
    have hzz : ((((wr.alloc (.map #[] 0)).alloc (.cells #[.map (some wr.heap.size)] 147)).alloc (.cells #[.slice none 0 0] 22)).alloc (.cells #[.slice none 0 0] 32)).heap.size = B + 7 := by simp [HZ.out]
    rw [HZ.out] at hj hzz ⊢
    generalize (((wr.alloc (.map #[] 0)).alloc (.cells #[.map (some (B + 3))] 147)).alloc (.cells #[.slice none 0 0] 22)).alloc (.cells #[.slice none 0 0] 32) = w5 at hj hzz ⊢
    rw [show B + 3 + 1 = B + 4 from rfl, show B + 4 + 1 = B + 5 from rfl, show B + 5 + 1 = B + 6 from rfl]
    have HJS := Lib.hid hj
    have HZ5 := Lib.hid hzz
    clear hj hzz HJX HZ HTM hmk d1
    refine (each_ok _ _ _ _).mono ?_
    rintro e w6 ⟨rfl, hw6⟩
    have hz6 : w6.heap.size = B + 8 := by rw [← hw6]; simp [HZ5.out]
    have HJ6 := Lib.hid (show JS w B (B + 8) [] [] (.slice none 0 0) (.slice none 0 0) (mapJ []) 0 w6 from by rw [← hw6]; exact HJS.out.below HB.out (bel_alloc _ _))
    have hc6 : w6.cell? ⟨B + 7, 0, none⟩ = some (.slice A m c) := by rw [← hw6, ← HZ5.out]; simp [go_sem]
    rw [HZ5.out]
    have HIT := Lib.hid (each1_iter w w6 (B + 7) (.slice A rows.length c) rows (by rw [← HM.out]; exact hc6) (LowW.of_below (HB.out ▸ HJ6.out.bel)) HV.out HX.out (by rw [← HM.out]; omega) (fun x hx => by
     have h1 : x.2.length ≤ (flatR rows).length := by
      obtain ⟨i, hi, rfl⟩ := List.getElem_of_mem hx
      have := tot_le rows (i + 1)
      rw [tot_step (List.getElem?_eq_getElem hi)] at this
      unfold flatR; omega
     rw [← HN.out] at h1; omega))
    clear hw6 hc6 HJS HZ5
    gi_wp2
    obtain ⟨zs, hzs⟩ : ∃ zs : Nat → Array Value, zs = fun k => #[evA ((flatR rows)[k]?.getD ev0)] := ⟨_, rfl⟩
    rw [← hzs] at HIT
    have hz0 : ∀ k, (zs k).size = 1 := fun k => by rw [hzs]; rfl
    refine wp_range (xs := zs) rfl (enters_of Tryz.func112 (by kernel_rfl) rfl)
     HIT.out (fun k t => t.elim) (fun k e => by have := HB.out; omega) hz0
     (fun k W => ∃ out tw vo vt n, JSt ((flatR rows).take k) out tw ∧ n ≤ k ∧ JS w B (B + 8) out tw vo vt (mapJ out) n W) (fun cd W => cd = .ret ∧ Conf (flatR rows) ∧ JX w B 120 W)
     (fun k W1 W2 h hc => by obtain ⟨out, tw, vo, vt, n, h1, h2, h⟩ := h; exact ⟨out, tw, vo, vt, n, h1, h2, h.chg HB.out (by omega) hc⟩)
     (fun cd W1 W2 h hc => ⟨h.1, h.2.1, h.2.2.chg HB.out (by omega) hc⟩) ⟨_, _, _, _, _, JSt.nil, Nat.le_refl _, HJ6.out⟩ ?round ?done ?stop
    case round =>
     rintro l k W hk hl hl2 ⟨out, tw, vo, vt, n, hst, hnk, hjs⟩
     obtain ⟨e, he⟩ : ∃ e, (flatR rows)[k]? = some e := ⟨_, List.getElem?_eq_getElem hk⟩
     have hzk : zs k = #[.agg #[.int .i64 e.seq, .int .i64 e.time, .int .u8 e.cpu, .int .u8 e.kind, .int .i64 e.task, .int .i64 e.grp, .int .i64 e.to, .int .i64 e.wt, .int .i64 e.ticks, .int .u64 e.mask, .int .i64 e.got]] := by rw [hzs]; simp only [he, Option.getD_some]; rfl
     have HTK := Lib.hid (show (flatR rows).take (k + 1) = (flatR rows).take k ++ [e] by rw [List.take_add_one, he]; rfl)
     have HEO := Lib.hid (HO.out e (List.mem_of_getElem? he))
     have HKEY := Lib.hid (keyI HEO.out.seq)
     have HCF := Lib.hid (fun (x : Ev) (h : fndS out e.seq = some x) (hne : x ≠ e) => (show Conf (flatR rows) from by
      rw [split_at he]
      exact hst.conf h hne))
     have HST := Lib.hid hst
     have HNK := Lib.hid (show n ≤ k ∧ k < 65535 from ⟨hnk, by have := HNB.out; have := HN.out; omega⟩)
     rw [hzk]
     have HZ6 := Lib.hid hz6
     clear hzs hz0 hzk HIT he hst hnk HJ6
     have HEV := Lib.hid (evp_new W e)
     have HJ1 := Lib.hid (hjs.below HB.out (bel_alloc W (.cells #[.int .i64 e.seq, .int .i64 e.time, .int .u8 e.cpu, .int .u8 e.kind, .int .i64 e.task, .int .i64 e.grp, .int .i64 e.to, .int .i64 e.wt, .int .i64 e.ticks, .int .u64 e.mask, .int .i64 e.got] 28)))
     clear hjs
     gi_wp2
     refine ⟨BK.alloc _, fun W2 hc hq => ?_⟩
     have HE2 := Lib.hid (HEV.out.chg hc)
     have HJ2 := Lib.hid (HJ1.out.chg HB.out (by rw [hz6]; omega) hc)
     clear hz6
     have HZW := Lib.hid (show W2.heap.size = W.heap.size + 1 by rw [hq]; simp)
     obtain ⟨E, hE⟩ : ∃ E, W.heap.size = E := ⟨_, rfl⟩
     have HEB := Lib.hid (show B + 8 ≤ E by have := HZ6.out; omega)
     rw [hE] at HE2 HZW ⊢
     clear hc hq HEV HJ1 hE
     have c8 := HJ2.out.bm.cell
     obtain ⟨c0, c1, c2, c3, c4, c5, c6, c7⟩ : _ ∧ _ ∧ _ ∧ _ ∧ _ ∧ _ ∧ _ ∧ _ := ⟨HE2.out.c0, HE2.out.c1, HE2.out.c2, HE2.out.c3, HE2.out.c4, HE2.out.c5, HE2.out.c6, HE2.out.c7⟩
     have c8' := HE2.out.c8
     have c9 := HE2.out.c9
     have c10 := HE2.out.c10
     cases hf : fndS out e.seq with
     | none =>
      have HFN := Lib.hid hf
      have HJ3 := Lib.hid (HJ2.out.below HB.out (bel_alloc W2 (.cells #[.int .i64 0, .int .i64 0, .int .u8 0, .int .u8 0, .int .i64 0, .int .i64 0, .int .i64 0, .int .i64 0, .int .i64 0, .int .u64 0, .int .i64 0] 28)))
      have HE3 := Lib.hid (HE2.out.below (bel_alloc W2 (.cells #[.int .i64 0, .int .i64 0, .int .u8 0, .int .u8 0, .int .i64 0, .int .i64 0, .int .i64 0, .int .i64 0, .int .i64 0, .int .u64 0, .int .i64 0] 28)) HE2.out.lt)
      have d8 := HJ3.out.bm.cell
      obtain ⟨d0, d1, d2, d3, d4, d5, d6, d7⟩ : _ ∧ _ ∧ _ ∧ _ ∧ _ ∧ _ ∧ _ ∧ _ := ⟨HE3.out.c0, HE3.out.c1, HE3.out.c2, HE3.out.c3, HE3.out.c4, HE3.out.c5, HE3.out.c6, HE3.out.c7⟩
      have d8' := HE3.out.c8
      have d9 := HE3.out.c9
      have d10 := HE3.out.c10
      clear hf
      gi_wp2_with (first | (gi_at_lookup; refine wpListIn_look2V (k := 3) (e := 28) (z := evA ev0) rfl _ _ (by rfl) lawI Tryz.underlying147 (zeroEv _) (by rfl) HJ2.out.mp _ _ (by rfl) HKEY.out ?_; rw [mapJ_at, HFN.out]; simp only [Option.map_none, Option.getD_none, Option.isSome_none, evA, ev0]) | (gi_at_mapUpdate; refine wpListIn_putV (k := 3) (e := 28) rfl _ _ _ (by rfl) lawI Tryz.underlying147 (by rfl) HJ3.out.mp (by have := HNK.out; unfold maxLen; omega) _ _ _ (by rfl) (by rfl) HKEY.out ?_))
      intro w4 hm4 hg4
      have hmj := mapJ_put HFN.out
      unfold evA at hmj
      rw [hmj] at hm4
      clear hmj
      have HJ4 := Lib.hid (HJ3.out.put HB.out hm4 hg4)
      have HE4 := Lib.hid (HE3.out.grown hg4 (by have := HEB.out; simp; omega))
      have HM4 := Lib.hid (show BK (fun k => k < w.heap.size ∨ k = B + 7) W2 w4 from (BK.alloc _).trans (BK.of_mod (T := fun k => k = B + 3) (Mod.grown hg4 (fun g q => by cases q; rfl)) (fun k _ q => by
       subst q
       refine ⟨by have := HB.out; omega, ?_⟩
       obtain ⟨D, ⟨es, clock, h1, h2⟩, r⟩ := HJ3.out.mp
       exact ⟨_, h1, rfl⟩)))
      clear hm4 hg4 HJ3 HE3 d0 d1 d2 d3 d4 d5 d6 d7 d8 d8' d9 d10 c0 c1 c2 c3 c4 c5 c6 c7 c8 c8' c9 c10
      have b5 := HJ4.out.bo.cell
      obtain ⟨c0, c1, c2, c3, c4, c5, c6, c7⟩ : _ ∧ _ ∧ _ ∧ _ ∧ _ ∧ _ ∧ _ ∧ _ := ⟨HE4.out.c0, HE4.out.c1, HE4.out.c2, HE4.out.c3, HE4.out.c4, HE4.out.c5, HE4.out.c6, HE4.out.c7⟩
      have c8 := HE4.out.c8
      have c9 := HE4.out.c9
      have c10 := HE4.out.c10
      have HEL := Lib.hid (fun (w : World) => (show EV encE 11 (w.alloc (.cells #[.int .i64 e.seq, .int .i64 e.time, .int .u8 e.cpu, .int .u8 e.kind, .int .i64 e.task, .int .i64 e.grp, .int .i64 e.to, .int .i64 e.wt, .int .i64 e.ticks, .int .u64 e.mask, .int .i64 e.got] 28)) (.slice (some ⟨w.heap.size, 0, none⟩) 1 1) [e] from EV.newL (xs := [e]) (n := 1) (c := 1) encE_len rfl rfl (Nat.le_refl _)))
      gi_wp2_with (gi_at_builtin; refine wpListIn_app elemE encE_len encE_one rfl _ _ rfl _ _ rfl rfl (HJ4.out.oo.alloc _) (HEL.out _) ?q1 ?q2 ?_)
      case q1 => have h1 := HST.out.len; have h2 := HNK.out; rw [List.length_take] at h1; simp; omega
      case q2 => have := HM4.out.size; have := HEB.out; have := HZW.out; simp; omega
      intro v' w5 o5 g5
      obtain ⟨A5, n5, hv5⟩ := (o5.ev encE_len).shape
      obtain ⟨k1, k2, k3⟩ := HJ4.out.appO HB.out o5 g5
      have k1c := k1.cell
      have k1f := k1.frozen
      have HJ5 := Lib.hid k2
      have HM5 := Lib.hid (show BK (fun k => k < w.heap.size ∨ k = B + 7) W2 (w5.setCell ⟨B + 5, 0, none⟩ v') from HM4.out.trans (BK.of_mod k3 (fun k _ q => by
       rcases q with rfl | q
       ·exact ⟨by have := HB.out; omega, Boxed.notbook HJ4.out.bo⟩
       ·exact ⟨by have := HB.out; have := (HJ4.out.oo.block k q).1; omega, own_notbook HJ4.out.oo q⟩)))
      obtain ⟨L5, hL5⟩ : ∃ L, (out ++ [e]).length = L := ⟨_, rfl⟩
      rw [hL5] at hv5
      subst hv5
      clear k1 k2 k3 o5 g5 HJ4 HE4 HM4 b5 c0 c1 c2 c3 c4 c5 c6 c7 c8 c9 c10 HEL
      gi_wp2
      refine ⟨HM5.out, out ++ [e], tw, _, vt, n + 1, ?_, ?_, HJ5.out⟩
      ·rw [HTK.out]; exact HST.out.new HFN.out
      ·have := HNK.out; omega
     | some x =>
      have HFN := Lib.hid hf
      have HJ3 := Lib.hid (HJ2.out.below HB.out (bel_alloc W2 (.cells #[.int .i64 x.seq, .int .i64 x.time, .int .u8 x.cpu, .int .u8 x.kind, .int .i64 x.task, .int .i64 x.grp, .int .i64 x.to, .int .i64 x.wt, .int .i64 x.ticks, .int .u64 x.mask, .int .i64 x.got] 28)))
      have HE3 := Lib.hid (HE2.out.below (bel_alloc W2 (.cells #[.int .i64 x.seq, .int .i64 x.time, .int .u8 x.cpu, .int .u8 x.kind, .int .i64 x.task, .int .i64 x.grp, .int .i64 x.to, .int .i64 x.wt, .int .i64 x.ticks, .int .u64 x.mask, .int .i64 x.got] 28)) HE2.out.lt)
      have HW3 := Lib.hid (evp_new W2 x)
      obtain ⟨d0, d1, d2, d3, d4, d5, d6, d7⟩ : _ ∧ _ ∧ _ ∧ _ ∧ _ ∧ _ ∧ _ ∧ _ := ⟨HE3.out.c0, HE3.out.c1, HE3.out.c2, HE3.out.c3, HE3.out.c4, HE3.out.c5, HE3.out.c6, HE3.out.c7⟩
      have d8 := HE3.out.c8
      have d9 := HE3.out.c9
      have d10 := HE3.out.c10
      obtain ⟨g0, g1, g2, g3, g4, g5, g6, g7⟩ : _ ∧ _ ∧ _ ∧ _ ∧ _ ∧ _ ∧ _ ∧ _ := ⟨HW3.out.c0, HW3.out.c1, HW3.out.c2, HW3.out.c3, HW3.out.c4, HW3.out.c5, HW3.out.c6, HW3.out.c7⟩
      have g8 := HW3.out.c8
      have g9 := HW3.out.c9
      have g10 := HW3.out.c10
      have hnq := ev_neq x e
      have HM3 := Lib.hid (show BK (fun k => k < w.heap.size ∨ k = B + 7) W2 (W2.alloc (.cells #[.int .i64 x.seq, .int .i64 x.time, .int .u8 x.cpu, .int .u8 x.kind, .int .i64 x.task, .int .i64 x.grp, .int .i64 x.to, .int .i64 x.wt, .int .i64 x.ticks, .int .u64 x.mask, .int .i64 x.got] 28)) from BK.alloc _)
      clear hf
      by_cases hxe : x = e
      ·have HXE := Lib.hid hxe
       rw [show (!decide (x = e)) = false by simp [hxe]] at hnq
       unfold evA at hnq
       have b6 := HJ3.out.bt.cell
       have HEL := Lib.hid (fun (w : World) (q : Nat) (hq : w.heap.size = q) => (show EV encI 1 (w.alloc (.cells #[.int .i64 e.seq] 3)) (.slice (some ⟨q, 0, none⟩) 1 1) [e.seq] from hq ▸ EV.newL (xs := [e.seq]) (n := 1) (c := 1) encI_len rfl rfl (Nat.le_refl _)))
       clear hxe
       gi_wp2_with (first | (gi_at_lookup; refine wpListIn_look2V (k := 3) (e := 28) (z := evA ev0) rfl _ _ (by rfl) lawI Tryz.underlying147 (zeroEv _) (by rfl) HJ2.out.mp _ _ (by rfl) HKEY.out ?_; rw [mapJ_at, HFN.out]; simp only [Option.map_some, Option.getD_some, Option.isSome_some, evA]) | (gi_at_builtin; refine wpListIn_app elemI encI_len encI_one rfl _ _ rfl _ _ rfl rfl (HJ3.out.ot.alloc _) (HEL.out _ _ (by simp)) ?q1 ?q2 ?_))
       case q1 => have h1 := HST.out.len; have h2 := HNK.out; rw [List.length_take] at h1; simp; omega
       case q2 => have := HEB.out; have := HZW.out; simp; omega
       intro v' w5 o5 g5
       obtain ⟨A5, n5, hv5⟩ := (o5.ev encI_len).shape
       obtain ⟨k1, k2, k3⟩ := HJ3.out.appT HB.out o5 g5
       have k1c := k1.cell
       have k1f := k1.frozen
       have HJ5 := Lib.hid k2
       have HM5 := Lib.hid (show BK (fun k => k < w.heap.size ∨ k = B + 7) W2 (w5.setCell ⟨B + 6, 0, none⟩ v') from HM3.out.trans (BK.of_mod k3 (fun k _ q => by
        rcases q with rfl | q
        ·exact ⟨by have := HB.out; omega, Boxed.notbook HJ3.out.bt⟩
        ·exact ⟨by have := HB.out; have := (HJ3.out.ot.block k q).1; omega, own_notbook HJ3.out.ot q⟩)))
       obtain ⟨L5, hL5⟩ : ∃ L, (tw ++ [e.seq]).length = L := ⟨_, rfl⟩
       rw [hL5] at hv5
       subst hv5
       clear k1 k2 k3 o5 g5 HJ3 HE3 HM3 b6 c0 c1 c2 c3 c4 c5 c6 c7 c8 c8' c9 c10 d0 d1 d2 d3 d4 d5 d6 d7 d8 d9 d10 HEL hnq HW3
       gi_wp2
       refine ⟨HM5.out, out, tw ++ [e.seq], vo, _, n, ?_, ?_, HJ5.out⟩
       ·rw [HTK.out]; exact HST.out.old (HXE.out ▸ HFN.out)
       ·have := HNK.out; omega
      ·have HCC := Lib.hid (HCF.out x HFN.out hxe)
       rw [show (!decide (x = e)) = true by simp [hxe]] at hnq
       unfold evA at hnq
       have HX3 := Lib.hid (show JX w B 0 (W2.alloc (.cells #[.int .i64 x.seq, .int .i64 x.time, .int .u8 x.cpu, .int .u8 x.kind, .int .i64 x.task, .int .i64 x.grp, .int .i64 x.to, .int .i64 x.wt, .int .i64 x.ticks, .int .u64 x.mask, .int .i64 x.got] 28)) from ⟨HJ3.out.r0, HJ3.out.r1, HJ3.out.r2, HJ3.out.bel⟩)
       obtain ⟨r0, r1, r2, f0, f1, f2⟩ := HX3.out.cells
       have HE := Lib.hid (HX3.out.set HB.out 120)
       have HM5 := Lib.hid (HM3.out.trans (BK.of_mod (S := fun k => k < w.heap.size ∨ k = B + 7) (T := fun k => k = B ∨ k = B + 1 ∨ k = B + 2) (((Mod.setCell (a := W2.alloc (.cells #[.int .i64 x.seq, .int .i64 x.time, .int .u8 x.cpu, .int .u8 x.kind, .int .i64 x.task, .int .i64 x.grp, .int .i64 x.to, .int .i64 x.wt, .int .i64 x.ticks, .int .u64 x.mask, .int .i64 x.got] 28)) (p := ⟨B, 0, none⟩) (T := fun k => k = B ∨ k = B + 1 ∨ k = B + 2) (.slice none 0 0) (.inl rfl)).trans (Mod.setCell (p := ⟨B + 1, 0, none⟩) (T := fun k => k = B ∨ k = B + 1 ∨ k = B + 2) (.slice none 0 0) (.inr (.inl rfl)))).trans (Mod.setCell (p := ⟨B + 2, 0, none⟩) (T := fun k => k = B ∨ k = B + 1 ∨ k = B + 2) (.int .i64 120) (.inr (.inr rfl)))) (fun k _ q => by
        rcases q with rfl | rfl | rfl
        ·exact ⟨by have := HB.out; omega, Boxed.notbook HX3.out.r0⟩
        ·exact ⟨by have := HB.out; omega, Boxed.notbook HX3.out.r1⟩
        ·exact ⟨by have := HB.out; omega, Boxed.notbook HX3.out.r2⟩)))
       clear hxe
       gi_wp2_with (gi_at_lookup; refine wpListIn_look2V (k := 3) (e := 28) (z := evA ev0) rfl _ _ (by rfl) lawI Tryz.underlying147 (zeroEv _) (by rfl) HJ2.out.mp _ _ (by rfl) HKEY.out ?_; rw [mapJ_at, HFN.out]; simp only [Option.map_some, Option.getD_some, Option.isSome_some, evA])
       exact ⟨HM5.out, rfl, HCC.out, HE.out⟩
    case done =>
     rintro D W ⟨out, tw, vo, vt, n, hst, hnk, hjs⟩ hD hK
     have hst2 : JSt (flatR rows) out tw := by rw [List.take_of_length_le (by rw [← HN.out]; exact Nat.le_refl _)] at hst; exact hst
     have HST := Lib.hid hst2
     have HJ1 := Lib.hid hjs
     have HK1 := Lib.hid hK
     have HDD := Lib.hid (show B + 8 ≤ D by omega)
     have hlen := hst2.len
     have HLN := Lib.hid (show out.length ≤ 65535 ∧ tw.length ≤ 65535 by have := HNB.out; have := HN.out; omega)
     have b5 := hjs.bo.cell
     clear hst hst2 hjs hK hD hlen
     gi_wp2_with fail
     refine (in_of (sort_ev W vo out (B + 8) HJ1.out.oo (by have := HLN.out; omega))).mono ?_
     rintro e w7 ⟨rfl, R, hp, hs, oR, g7⟩
     have HR := Lib.hid (And.intro hp hs)
     have HJ7 := Lib.hid (HJ1.out.srtO HB.out oR g7)
     have HK7 := Lib.hid ((g7.block D (Array.getElem?_eq_some_iff.1 HK1.out).1 (own_ne_df HJ1.out.oo HK1.out)).trans HK1.out)
     clear hp hs oR g7 b5
     have b6 := HJ7.out.bt.cell
     gi_wp2_with fail
     refine (in_of (sort_int w7 vt tw (B + 8) HJ7.out.ot (by have := HLN.out; omega))).mono ?_
     rintro e w8 ⟨rfl, oT, g8⟩
     have HJ8 := Lib.hid (HJ7.out.srtT HB.out oT g8)
     have HK8 := Lib.hid ((g8.block D (Array.getElem?_eq_some_iff.1 HK7.out).1 (own_ne_df HJ7.out.ot HK7.out)).trans HK7.out)
     clear oT g8 b6
     gi_wp2_with fail
     obtain ⟨Ao, co, hvo⟩ := (HJ8.out.oo.ev encE_len).shape
     obtain ⟨At, ct, hvt⟩ := (HJ8.out.ot.ev encI_len).shape
     obtain ⟨Lo, hLo⟩ : ∃ L, R.length = L := ⟨_, rfl⟩
     obtain ⟨Lt, hLt⟩ : ∃ L, (srtI tw).length = L := ⟨_, rfl⟩
     rw [hLo] at hvo
     rw [hLt] at hvt
     subst hvo hvt
     have HJE := Lib.hid (show ∀ x, JE w B R (srtI tw) (setI tw) (.slice Ao Lo co) (.slice At Lt ct) D false false false x w8.drew from fun x =>
      ⟨HK8.out, HJ8.out.bo, HJ8.out.oo, HJ8.out.bt, fun _ => HJ8.out.ot, fun h => (by cases h), HJ8.out.r0, HJ8.out.r1, HJ8.out.r2, below_drew HJ8.out.bel⟩)
     have HLT := Lib.hid (show (srtI tw).length ≤ 1000000000 by rw [srtI_len]; have := HLN.out; omega)
     refine wpIn_wide.2 ?_
     refine wp_region_dag (by kernel_rfl) 6 rfl (fun i => i == 2 || i == 3 || i == 4 || i == 5) (fun x => ⟨#[.slice A m c, undef, .pointer (some ⟨B, 0, none⟩), .pointer (some ⟨B + 1, 0, none⟩), .pointer (some ⟨B + 2, 0, none⟩), .int .i64 (N : Nat), undef, u7, .pointer (some ⟨B + 4, 0, none⟩), .pointer (some ⟨B + 5, 0, none⟩), .pointer (some ⟨B + 6, 0, none⟩), undef, undef, undef, .slice A m c, .int .i64 (m : Nat), .int .i64 (m : Nat), .bool false, u18, u19, u20, u21, u22, u23, u24, .int .i64 (N : Nat), .bool false, Value.map (some (B + 3)), .slice A m c, .func (Fn.func 112) #[] #[.pointer (some ⟨B + 7, 0, none⟩)], undef, undef, undef, undef, undef, undef, undef, undef, undef, undef, undef, undef, undef, undef, undef, undef, undef, undef, undef, undef, undef, undef, undef, undef, undef, undef, undef, undef, undef, undef, .slice Ao Lo co, .tuple #[], .slice At Lt ct, .tuple #[], x 0, x 1, x 2], [{ target := Target.collected D, args := #[] }]⟩) (fun iF vF => match iF with | 0 => vF = .slice Ao Lo co | 1 => vF = .slice At Lt ct | _ => True)
      (fun d x W => JE w B R (srtI tw) (setI tw) (.slice Ao Lo co) (.slice At Lt ct) D (d 2) (d 3) (d 4) (x 2) W) ?hB (by kernel_rfl) (by kernel_rfl) ?hpure ?hmem ?hend (fun i => (#[undef, undef, undef, undef, undef, undef] : Array Value).getD i undef) rfl ?hstart
     case hstart =>
      try dsimp only
      exact HJE.out _
     case hB =>
      intro d d' x i v W hi hm h
      have g2 : ¬ 2 = i := by rintro rfl; exact absurd (show true = false from hi) (by simp)
      have e2 : d' 2 = d 2 := hm 2 rfl
      have g3 : ¬ 3 = i := by rintro rfl; exact absurd (show true = false from hi) (by simp)
      have e3 : d' 3 = d 3 := hm 3 rfl
      have g4 : ¬ 4 = i := by rintro rfl; exact absurd (show true = false from hi) (by simp)
      have e4 : d' 4 = d 4 := hm 4 rfl
      have g5 : ¬ 5 = i := by rintro rfl; exact absurd (show true = false from hi) (by simp)
      have e5 : d' 5 = d 5 := hm 5 rfl
      try dsimp only at h ⊢
      first | rw [upd_ne g2, upd_ne g3, upd_ne g4, upd_ne g5, e2, e3, e4, e5] | simp only [upd_ne g2, upd_ne g3, upd_ne g4, upd_ne g5, e2, e3, e4, e5]
      exact h
     case hpure =>
      intro iF o hi hnm ho d x W hB hd hdn hnd hcl Kq hK
      rcases (show iF = 0 ∨ iF = 1 ∨ iF = 2 ∨ iF = 3 ∨ iF = 4 ∨ iF = 5 by omega) with rfl | rfl | rfl | rfl | rfl | rfl <;> obtain rfl := Option.some.inj ho
      all_goals first | exact absurd (show true = false from hnm) (by simp) | skip
      ·have q := hB.bo.cell
       clear ho hd hdn hnd hcl hB hnm hi
       simp only [upd, reduceIte, Nat.reduceEqDiff] at hK
       try dsimp only
       go_simp
       exact hK _ rfl
      ·have q := hB.bt.cell
       clear ho hd hdn hnd hcl hB hnm hi
       simp only [upd, reduceIte, Nat.reduceEqDiff] at hK
       try dsimp only
       go_simp
       exact hK _ rfl
     case hmem =>
      intro iF o hi hmm ho d d' x W hB hd hdn hnd hdi hdi' hdm hcl Kq hK
      rcases (show iF = 0 ∨ iF = 1 ∨ iF = 2 ∨ iF = 3 ∨ iF = 4 ∨ iF = 5 by omega) with rfl | rfl | rfl | rfl | rfl | rfl <;> obtain rfl := Option.some.inj ho
      all_goals first | exact absurd (show false = true from hmm) (by simp) | skip
      ·have e1 : x 1 = .slice At Lt ct := hd 1 (by kernel_rfl) (by kernel_rfl)
       have dm3 : d' 3 = d 3 := hdm 3 (by omega)
       have dm4 : d' 4 = d 4 := hdm 4 (by omega)
       have dm5 : d' 5 = d 5 := hdm 5 (by omega)
       have dz4 : d 4 = false := hnd 4 (by kernel_rfl)
       rw [hdi, dz4] at hB
       have ot := hB.ot rfl
       clear ho hd hdn hnd hcl hmm
       simp only [upd, reduceIte, Nat.reduceEqDiff, e1] at hK
       try dsimp only
       go_simp
       go_at_call 89
       refine (compact_int W _ _ (B + 8) ot HLT.out).mono ?_
       rintro r W2 ⟨v', rfl, o, g⟩
       go_simp
       refine hK _ _ ?_
       try dsimp only
       rw [dm3, dm4, hdi', dz4]
       exact hB.cmp HB.out o g
      ·have e0 : x 0 = .slice Ao Lo co := hd 0 (by kernel_rfl) (by kernel_rfl)
       have dm2 : d' 2 = d 2 := hdm 2 (by omega)
       have dm4 : d' 4 = d 4 := hdm 4 (by omega)
       have dm5 : d' 5 = d 5 := hdm 5 (by omega)
       rw [hdi] at hB
       have r0 := Boxed.cell hB.r0
       have f0 := Boxed.frozen hB.r0
       clear ho hd hdn hnd hcl hmm
       simp only [upd, reduceIte, Nat.reduceEqDiff, e0] at hK
       try dsimp only
       go_simp
       refine hK undef _ ?_
       try dsimp only
       rw [dm2, dm4, hdi']
       exact hB.st0 HB.out HDD.out
      ·have dm2 : d' 2 = d 2 := hdm 2 (by omega)
       have dm3 : d' 3 = d 3 := hdm 3 (by omega)
       have dm5 : d' 5 = d 5 := hdm 5 (by omega)
       have dn2 : d 2 = true := hdn 2 (by kernel_rfl)
       rw [hdi, dn2] at hB
       have r1 := Boxed.cell hB.r1
       have f1 := Boxed.frozen hB.r1
       obtain ⟨A2, c2, e2⟩ := ((hB.o2 rfl).ev encI_len).shape
       clear ho hd hdn hnd hcl hmm
       simp only [upd, reduceIte, Nat.reduceEqDiff, e2] at hK
       try dsimp only
       try rw [e2]
       go_simp
       refine hK undef _ ?_
       try dsimp only
       rw [dm2, dm3, hdi', dn2]
       have hs := hB.st1 HB.out HDD.out
       rw [e2] at hs
       first | exact hs | (rw [e2]; exact hs)
      ·have dm2 : d' 2 = d 2 := hdm 2 (by omega)
       have dm3 : d' 3 = d 3 := hdm 3 (by omega)
       have dm4 : d' 4 = d 4 := hdm 4 (by omega)
       have r2 := Boxed.cell hB.r2
       have f2 := Boxed.frozen hB.r2
       clear ho hd hdn hnd hcl hmm
       simp only [upd, reduceIte, Nat.reduceEqDiff] at hK
       try dsimp only
       go_simp
       refine hK undef _ ?_
       try dsimp only
       rw [dm2, dm3, dm4]
       exact hB.st2 HB.out HDD.out
     case hend =>
      intro d x W hall hB hd
      rw [hall 2 (by omega), hall 3 (by omega), hall 4 (by omega)] at hB
      clear hd hall
      try dsimp only
      generalize x 2 = vx at hB ⊢
      generalize x 0 = z0
      generalize x 1 = z1
      have HE := Lib.hid (show JE w B R (srtI tw) (setI tw) (.slice Ao Lo co) (.slice At Lt ct) D true true true vx W from hB)
      clear hB
      have hx := HE.out
      have HCH := Lib.hid (show Chg B (fun _ => False) W (W.putObj D (.deferred none)) from Chg.putObj (B := B) hx.df rfl (by have := HDD.out; omega))
      have e0 := (Boxed.chg hx.r0 HCH.out (fun t => t)).cell
      have e1 := (Boxed.chg hx.r1 HCH.out (fun t => t)).cell
      have e2 := (hx.r2.chg HCH.out (fun t => t)).cell
      have o1 := hx.oo.chg HCH.out (fun _ _ t => t)
      have o2 := (hx.o2 rfl).chg HCH.out (fun _ _ t => t)
      have bl := below_putObj hx.bel (show B ≤ D by have := HDD.out; omega) (.deferred none)
      have hdf := hx.df
      clear hx
      gi_wp2
      refine post_markW hdf (results_cell3 rfl _ _ _ rfl rfl rfl (load_sev e0) (load_sint e1) (load_errno e2)) ?_
      exact ⟨_, _, _, rfl, R, o1.base_le (by have := HB.out; omega), setI tw, o2.base_le (by have := HB.out; omega), .inr (.inr ⟨by rw [← HN.out]; exact HNB.out, HST.out.nc, rfl, HST.out.done HR.out.1 (HR.out.2.imp (fun h => by omega))⟩), HB.out ▸ bl⟩
    case stop =>
     rintro D cd W ⟨rfl, hcf, hjx⟩ hD hK
     have HE := Lib.hid (show JX w B 120 (W.putObj D (.deferred none)) from hjx.chg (B0 := B) HB.out (Nat.le_refl _) (Chg.putObj (B := B) hK rfl (by omega)))
     obtain ⟨e0, e1, e2, -⟩ := HE.out.cells
     gi_wp2
     refine post_markW hK (results_cell3 rfl _ _ _ rfl rfl rfl (load_sev e0) (load_sint e1) (load_errno e2)) ?_
     exact ⟨_, _, _, [], [], rfl, OV.nil _ _, OV.nil _ _, .inr (.inl ⟨by rw [← HN.out]; exact HNB.out, hcf, rfl, rfl, rfl⟩), HB.out ▸ HE.out.bel⟩
end Go.Proofs.YtalophngappkhaaGreatDoor
