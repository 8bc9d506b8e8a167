/- EntitySmall: the walk of bent. -/
import Derived.Test.YtenngfkgfdogjaaZ36
import Derived.Test.YtenngfkgfdogjaaZ28
set_option linter.unusedVariables false
set_option linter.unusedSimpArgs false
set_option linter.unusedSectionVars false
namespace Go.Proofs.Ytenngfkgfdogjaa
open Go Go.RowKit Go.Shelf
attribute [local go_sem] Oper.semAt_some

theorem mod_set7 {w : World} {X : Nat} (v0 v1 v2 v3 v4 v5 v6 : Value) : Mod (fun k => k = X) w (set7 w X v0 v1 v2 v3 v4 v5 v6) := by
  have st : ∀ (W : World) (i : Nat) (v : Value), Mod (fun k => k = X) W (W.setCell ⟨X, i, none⟩ v) := fun W i v => Mod.setCell v rfl
  exact (((((((st _ 0 v0).trans (st _ 1 v1)).trans (st _ 2 v2)).trans (st _ 3 v3)).trans (st _ 4 v4)).trans (st _ 5 v5)).trans (st _ 6 v6))
set_option maxRecDepth 100000 in
set_option maxHeartbeats 3200000 in
theorem bent_t43 (w w0 : World) (X : Nat) {u0 u1 u4 u5 u6 u7 u8 u9 u10 u11 u12 u13 u14 u15 u16 u17 u18 u19 u20 u21 u22 u23 u24 u25 u26 u27 u28 u29 u30 u31 u32 u33 u34 u35 u36 u37 u38 u39 u40 u41 u42 u43 u44 u45 u46 u47 u48 u49 u50 u51 u52 u53 u54 u55 u56 u57 u58 u59 u60 u61 u62 u63 u64 u65 u66 u67 u68 u69 u70 u71 u72 u73 u74 u75 u76 u77 u78 u79 u80 u81 u82 u83 u84 u85 u86 u87 u88 u89 u90 u91 u92 u93 u94 u95 u96 u97 u98 u99 u100 u101 u102 u103 u104 u105 u106 u107 u108 u109 u110 u111 u112 u113 u114 u115 u116 u117 u118 u119 u120 u121 u122 u123 u124 u125 u126 u127 u128 u129 u130 u131 u132 u133 u134 u135 u136 u137 u138 u139 u140 u141 u142 u143 u144 u145 u146 u147 u148 u149 u150 u151 u152 u153 u154 u155 u156 u157 u158 u159 u160 u161 u162 u163 : Value} (h : Bn w X w0) :
    Code.wp Try.prog (tailR Try.f34 43) (bodyPost Try.prog Try.f34 fun e w' => ∃ c s, e = .returned (c.val s) ∧ StG w' c s ∧ Below w.heap.size w w')
      ⟨#[u0, u1, .pointer (some ⟨w.heap.size, 0, none⟩), .pointer (some ⟨X, 0, none⟩), u4, u5, u6, u7, u8, u9, u10, u11, u12, u13, u14, u15, u16, u17, u18, u19, u20, u21, u22, u23, u24, u25, u26, u27, u28, u29, u30, u31, u32, u33, u34, u35, u36, u37, u38, u39, u40, u41, u42, u43, u44, u45, u46, u47, u48, u49, u50, u51, u52, u53, u54, u55, u56, u57, u58, u59, u60, u61, u62, u63, u64, u65, u66, u67, u68, u69, u70, u71, u72, u73, u74, u75, u76, u77, u78, u79, u80, u81, u82, u83, u84, u85, u86, u87, u88, u89, u90, u91, u92, u93, u94, u95, u96, u97, u98, u99, u100, u101, u102, u103, u104, u105, u106, u107, u108, u109, u110, u111, u112, u113, u114, u115, u116, u117, u118, u119, u120, u121, u122, u123, u124, u125, u126, u127, u128, u129, u130, u131, u132, u133, u134, u135, u136, u137, u138, u139, u140, u141, u142, u143, u144, u145, u146, u147, u148, u149, u150, u151, u152, u153, u154, u155, u156, u157, u158, u159, u160, u161, u162, u163], []⟩ w0 := by
  conv => arg 2; whnf
  conv => arg 4; dsimp only
  obtain ⟨c, s, hb, hg, ha⟩ := h.ex
  obtain ⟨b0, b1, b2, b3, b4, b5, b6⟩ := hb.cell
  have z0 := h.zb
  obtain ⟨z1, z2, z3, z4, z5, z6, z7⟩ := z0.cell
  have f0 := z0.frz 0
  have f1 := z0.frz 1
  have f2 := z0.frz 2
  have f3 := z0.frz 3
  have f4 := z0.frz 4
  have f5 := z0.frz 5
  have f6 := z0.frz 6
  obtain ⟨vg, vc, vu, vt, vs⟩ := c
  obtain ⟨A1, c1, h1⟩ := hg.at'.eg.shape
  obtain ⟨A2, c2, h2⟩ := hg.at'.ec.shape
  obtain ⟨A3, c3, h3⟩ := hg.at'.eu.shape
  obtain ⟨A4, c4, h4⟩ := hg.at'.et.shape
  obtain ⟨A5, c5, h5⟩ := hg.at'.es.1.shape
  dsimp only at h1 h2 h3 h4 h5 b0 b1 b2 b3 b4 b5 b6
  subst h1 h2 h3 h4 h5
  have HB := Lib.hid h.bel
  have HG := Lib.hid hg
  have HA := Lib.hid ha
  have HZ := Lib.hid z0
  obtain ⟨Z, hZ⟩ : ∃ Z, w.heap.size = Z := ⟨_, rfl⟩
  have HZZ := Lib.hid hZ
  rw [hZ] at z1 z2 z3 z4 z5 z6 z7 f0 f1 f2 f3 f4 f5 f6 ⊢
  clear h hb hg ha z0 hZ
  go_wp2
  have E7 := Lib.hid (fill7 (B := w.heap.size) HZ.out (.int .i64 s.n) (.int .u64 s.cr) (.slice A1 s.gs.length c1) (.slice A2 s.cl.length c2) (.slice A3 s.cu.length c3) (.slice A4 s.ts.length c4) (.slice A5 s.ss.length c5))
  rw [HZZ.out] at E7
  clear z1 z2 z3 z4 z5 z6 z7 f0 f1 f2 f3 f4 f5 f6 b0 b1 b2 b3 b4 b5 b6
  refine bodyPost_ret (results_cell_row rfl _ _ Z _ _ _ _ rfl E7.out Try.underlying38 rfl (by kernel_rfl)) rfl ?_
  have hm := mod_set7 (w := w0) (X := w.heap.size) (.int .i64 s.n) (.int .u64 s.cr) (.slice A1 s.gs.length c1) (.slice A2 s.cl.length c2) (.slice A3 s.cu.length c3) (.slice A4 s.ts.length c4) (.slice A5 s.ss.length c5)
  refine ⟨⟨.slice A1 s.gs.length c1, .slice A2 s.cl.length c2, .slice A3 s.cu.length c3, .slice A4 s.ts.length c4, .slice A5 s.ss.length c5⟩, s, rfl, ?_, ?_⟩
  · have := HG.out.modZ HA.out hm
    rw [HZZ.out] at this
    exact this
  · have := bel_set7 HB.out (P := w.heap.size) (Nat.le_refl _) (.int .i64 s.n) (.int .u64 s.cr) (.slice A1 s.gs.length c1) (.slice A2 s.cl.length c2) (.slice A3 s.cu.length c3) (.slice A4 s.ts.length c4) (.slice A5 s.ss.length c5)
    rw [HZZ.out] at this
    exact this
theorem wp_app_run {P : Program} {w : World} {t : TypeId} {o : Oper} {a : Act} {K : Act → World → Prop} {Q : Exit → Act → World → Prop}
    (s x : Operand) (ho : o.op = .call { callee := .builtin .append, args := #[s, x], argTypes := #[t, t] })
    (v sv : Value) (hs : a.eval s = v) (hx : a.eval x = sv) {R : Value → World → Prop} (hr : ∃ v' w', (Builtin.append_ #[t, t] o.type #[v, sv]).run P w = .ok v' w' ∧ R v' w')
    (h : ∀ v' w', R v' w' → K (a.put o.dst v') w') : o.wp P a w K Q := by
  obtain ⟨v', w', hr, h2⟩ := hr
  unfold Oper.wp execOp
  simp only [ho, resolve, invoke, builtin, Sem.run_bind, Sem.run_pure, Result.andThen_ok, List.map_toArray, List.map_cons, List.map_nil, hs, hx, hr]
  exact h v' w' h2
/-- A number of a kind lies there. -/
def KC (w : World) (p : Addr) (k : IntKind) : Prop := ∃ z, w.cell? p = some (.int k z)
theorem KC.set {w : World} {p q : Addr} {k k' : IntKind} {z : Int} (h : KC w p k) (h' : KC w q k') : KC (w.setCell q (.int k' z)) p k := by
  obtain ⟨a, ha⟩ := h
  obtain ⟨b, hb⟩ := h'
  by_cases e : p = q
  · subst e
    rw [ha] at hb
    cases hb
    exact ⟨z, World.cell?_setCell_same _ _ _ ha⟩
  · exact ⟨a, by rw [World.cell?_setCell_other _ _ _ _ (fun e2 => e e2.symm)]; exact ha⟩
/-- Where four stores go: the state, and the cells. -/
structure SJ (w : World) (X gc gu gt cc cu r : Nat) (W : World) : Prop where
  bn : Bn w X W
  d3 : W.cell? ⟨X, 3, none⟩ = some (.slice (some ⟨gc, 0, none⟩) 1 cc)
  d4 : W.cell? ⟨X, 4, none⟩ = some (.slice (some ⟨gu, 0, none⟩) 1 cu)
  k : KC W ⟨gc, 0, none⟩ .i64 ∧ W.frozen? ⟨gc, 0, none⟩ = false ∧ KC W ⟨gu, 0, none⟩ .i64 ∧ W.frozen? ⟨gu, 0, none⟩ = false ∧ KC W ⟨gt, r * 8 + 4, none⟩ .u64 ∧ W.frozen? ⟨gt, r * 8 + 4, none⟩ = false ∧ KC W ⟨gt, r * 8 + 7, none⟩ .u32 ∧ W.frozen? ⟨gt, r * 8 + 7, none⟩ = false
  ne : (gc ≠ X ∧ gu ≠ X ∧ gt ≠ X) ∧ w.heap.size < gc ∧ w.heap.size < gu ∧ w.heap.size < gt
section
variable {w W : World} {X gc gu gt cc cu r : Nat}
theorem SJ.all (h : SJ w X gc gu gt cc cu r W) : W.cell? ⟨X, 3, none⟩ = some (.slice (some ⟨gc, 0, none⟩) 1 cc) ∧ W.cell? ⟨X, 4, none⟩ = some (.slice (some ⟨gu, 0, none⟩) 1 cu) ∧ SJ w X gc gu gt cc cu r W := ⟨h.d3, h.d4, h⟩
theorem SJ.set (h : SJ w X gc gu gt cc cu r W) {q : Addr} {k' : IntKind} (hk : KC W q k') (hX : q.block ≠ X) (hZ : w.heap.size < q.block) (z : Int) : SJ w X gc gu gt cc cu r (W.setCell q (.int k' z)) := by
  have hx : ∀ i : Nat, q ≠ ⟨X, i, none⟩ := fun i e => hX (by rw [e])
  obtain ⟨a, ha⟩ := hk
  obtain ⟨k1, f1, k2, f2, k3, f3, k4, f4⟩ := h.k
  refine ⟨h.bn.kin hX hZ ha (kin_int _ _ _), by rw [World.cell?_setCell_other _ _ _ _ (hx 3)]; exact h.d3, by rw [World.cell?_setCell_other _ _ _ _ (hx 4)]; exact h.d4, ⟨k1.set ⟨a, ha⟩, ?_, k2.set ⟨a, ha⟩, ?_, k3.set ⟨a, ha⟩, ?_, k4.set ⟨a, ha⟩, ?_⟩, h.ne⟩
  all_goals (rw [World.frozen?_setCell]; assumption)
theorem SJ.s1 (h : SJ w X gc gu gt cc cu r W) (z : Int) : SJ w X gc gu gt cc cu r (W.setCell ⟨gc, 0, none⟩ (.int .i64 z)) := h.set h.k.1 h.ne.1.1 h.ne.2.1 z
theorem SJ.s2 (h : SJ w X gc gu gt cc cu r W) (z : Int) : SJ w X gc gu gt cc cu r (W.setCell ⟨gu, 0, none⟩ (.int .i64 z)) := h.set h.k.2.2.1 h.ne.1.2.1 h.ne.2.2.1 z
theorem SJ.s3 (h : SJ w X gc gu gt cc cu r W) (z : Int) : SJ w X gc gu gt cc cu r (W.setCell ⟨gt, r * 8 + 4, none⟩ (.int .u64 z)) := h.set h.k.2.2.2.2.1 h.ne.1.2.2 h.ne.2.2.2 z
theorem SJ.s4 (h : SJ w X gc gu gt cc cu r W) (z : Int) : SJ w X gc gu gt cc cu r (W.setCell ⟨gt, r * 8 + 7, none⟩ (.int .u32 z)) := h.set h.k.2.2.2.2.2.2.1 h.ne.1.2.2 h.ne.2.2.2 z
theorem Bn.drew {w wx : World} {X : Nat} (h : Bn w X wx) : Bn w X wx.drew := by
  obtain ⟨c, s, hb, hg, ha⟩ := h.ex
  exact ⟨⟨c, s, hb, hg.below (below_drew (Below.refl _ _)), ha⟩, h.zb, below_drew h.bel⟩
theorem SJ.drew (h : SJ w X gc gu gt cc cu r W) : SJ w X gc gu gt cc cu r W.drew := ⟨h.bn.drew, h.d3, h.d4, h.k, h.ne⟩
theorem sj_start {c : StC} {s : St} {n ct : Nat} (h : Bf w X c s W) (hvc : c.vc = .slice (some ⟨gc, 0, none⟩) 1 cc) (hvu : c.vu = .slice (some ⟨gu, 0, none⟩) 1 cu) (hvt : c.vt = .slice (some ⟨gt, 0, none⟩) n ct) (hr : r < s.ts.length) : SJ w X gc gu gt cc cu r W := by
  have oc := h.e.o.oc
  have ou := h.e.o.ou
  have ot := h.e.o.ot
  rw [hvc] at oc
  rw [hvu] at ou
  rw [hvt] at ot
  obtain ⟨_, l2, l3, _⟩ := h.e.len
  obtain ⟨_, _, _, b3, b4, _, _⟩ := h.e.bx.cell
  rw [hvc] at b3
  rw [hvu] at b4
  obtain ⟨t, ht⟩ : ∃ t, s.ts[r]? = some t := ⟨_, List.getElem?_eq_getElem hr⟩
  have rt := ((ot.ev encT_len).row3 (by omega)).tk ht
  simp only [Nat.zero_add] at rt
  obtain ⟨x, hx⟩ : ∃ x, s.cl[0]? = some x := ⟨_, List.getElem?_eq_getElem (by omega)⟩
  obtain ⟨y, hy⟩ : ∃ y, s.cu[0]? = some y := ⟨_, List.getElem?_eq_getElem (by omega)⟩
  have c1 := ((oc.ev encI_len).row3 (by omega)).i1 hx
  have c2 := ((ou.ev encI_len).row3 (by omega)).i1 hy
  have fc : W.frozen? ⟨gc, 0, none⟩ = false := by
    unfold OV at oc
    rw [l2] at oc
    exact World.ownsRow.frozenAt oc _
  have fu : W.frozen? ⟨gu, 0, none⟩ = false := by
    unfold OV at ou
    rw [l3] at ou
    exact World.ownsRow.frozenAt ou _
  have f4 := (h.e.o.tcell hvt ht (j := 4) (by omega)).2
  have f7 := (h.e.o.tcell hvt ht (j := 7) (by omega)).2
  have n1 := (oc.block gc rfl).1
  have n2 := (ou.block gu rfl).1
  have n3 := (ot.block gt rfl).1
  exact ⟨h.bn, b3, b4, ⟨⟨_, c1⟩, fc, ⟨_, c2⟩, fu, ⟨_, rt.2.2.2.2.1⟩, f4, ⟨_, rt.2.2.2.2.2.2.2⟩, f7⟩, ⟨oc.ne_box h.e.bx (by decide), ou.ne_box h.e.bx (by decide), ot.ne_box h.e.bx (by decide)⟩, by omega, by omega, by omega⟩
end
theorem own_cap {α : Type} {enc : α → List Value} {k base g n cap : Nat} {e : TypeId} {w : World} {xs : List α} (h : OV enc k e base w (.slice (some ⟨g, 0, none⟩) n cap) xs) : n ≤ cap := by
  rcases h.2 with ⟨h, _⟩ | ⟨g', cap', cur, h1, _, _, hnc, _⟩
  · cases h
  · simp only [Value.slice.injEq] at h1; omega
/-- A task's number is put in the place of another one. -/
theorem tkin {w wx : World} {X g n cp i : Nat} {c : StC} {s : St} {k : IntKind} {z : Int} {j : Nat} (h : Bf w X c s wx) (hv : c.vt = .slice (some ⟨g, 0, none⟩) n cp) (hi : i < s.ts.length) (hj : ((encT ⟨0, 0, 0, 0, 0, false, 0, 0⟩)[j]?).any (fun u => match u with | .int k' _ => decide (k' = k) | _ => false) = true := by rfl) :
    ∀ u, wx.cell? ⟨g, i * 8 + j, none⟩ = some u → Kin u (.int k z) := by
  intro u hu
  obtain ⟨t, ht⟩ : ∃ t, s.ts[i]? = some t := ⟨_, List.getElem?_eq_getElem hi⟩
  have o := h.e.o.ot
  rw [hv] at o
  have r := ((o.ev encT_len).row3 (by omega)).tk ht
  simp only [Nat.zero_add] at r
  obtain ⟨r0, r1, r2, r3, r4, r5, r6, r7⟩ := r
  match j, hj with
  | 0, hj => simp [encT] at hj; subst hj; rw [Nat.add_zero, r0] at hu; cases hu; exact kin_int _ _ _
  | 1, hj => simp [encT] at hj; subst hj; rw [r1] at hu; cases hu; exact kin_int _ _ _
  | 2, hj => simp [encT] at hj; subst hj; rw [r2] at hu; cases hu; exact kin_int _ _ _
  | 3, hj => simp [encT] at hj; subst hj; rw [r3] at hu; cases hu; exact kin_int _ _ _
  | 4, hj => simp [encT] at hj; subst hj; rw [r4] at hu; cases hu; exact kin_int _ _ _
  | 5, hj => simp [encT] at hj
  | 6, hj => simp [encT] at hj; subst hj; rw [r6] at hu; cases hu; exact kin_int _ _ _
  | 7, hj => simp [encT] at hj; subst hj; rw [r7] at hu; cases hu; exact kin_int _ _ _
  | j + 8, hj => simp [encT] at hj
set_option maxRecDepth 100000 in
set_option maxHeartbeats 12800000 in
theorem bent_t3 (w w0 : World) (X gg gc gu gt gs cg cc cu ct cs way r : Nat) (c : StC) (s : St) {u1 u5 u6 u7 u8 u9 u10 u11 u12 u13 u14 u15 u16 u17 u18 u19 u20 u21 u22 u23 u24 u25 u26 u27 u28 u29 u30 u31 u32 u33 u34 u35 u36 u37 u38 u39 u40 u41 u42 u43 u44 u45 u46 u47 u48 u49 u50 u51 u52 u53 u54 u55 u56 u57 u58 u59 u60 u61 u62 u63 u64 u65 u66 u67 u68 u69 u70 u71 u72 u73 u74 u75 u76 u77 u78 u79 u80 u81 u82 u83 u84 u85 u86 u87 u88 u89 u90 u91 u92 u93 u94 u95 u96 u97 u98 u99 u100 u101 u102 u103 u104 u105 u106 u107 u108 u109 u110 u111 u112 u113 u114 u115 u116 u117 u118 u119 u120 u121 u122 u123 u124 u125 u126 u127 u128 u129 u130 u131 u132 u133 u134 u135 u136 u137 u138 u139 u140 u141 u142 u143 u144 u145 u146 u147 u148 u149 u150 u151 u152 u153 u154 u155 u156 u157 u158 u159 u160 u161 u162 u163 : Value} (h : Bf w X c s w0) (hw : way < 40) (hr : r < 2)
    (hvg : c.vg = .slice (some ⟨gg, 0, none⟩) 2 cg) (hvc : c.vc = .slice (some ⟨gc, 0, none⟩) 1 cc) (hvu : c.vu = .slice (some ⟨gu, 0, none⟩) 1 cu) (hvt : c.vt = .slice (some ⟨gt, 0, none⟩) 2 ct) (hvs : c.vs = .slice (some ⟨gs, 0, none⟩) 2 cs) :
    Code.wp Try.prog (tailR Try.f34 3) (bodyPost Try.prog Try.f34 fun e w' => ∃ c s, e = .returned (c.val s) ∧ StG w' c s ∧ Below w.heap.size w w')
      ⟨#[.int .i64 (way : Nat), u1, .pointer (some ⟨w.heap.size, 0, none⟩), .pointer (some ⟨X, 0, none⟩), .pointer (some ⟨gt, r * 8, none⟩), u5, u6, u7, u8, u9, u10, u11, u12, u13, u14, u15, u16, u17, u18, u19, u20, u21, u22, u23, u24, u25, u26, u27, u28, u29, u30, u31, u32, u33, u34, u35, u36, u37, u38, u39, u40, u41, u42, u43, u44, u45, u46, u47, u48, u49, u50, u51, u52, u53, u54, u55, u56, u57, u58, u59, u60, u61, u62, u63, u64, u65, u66, u67, u68, u69, u70, u71, u72, u73, u74, u75, u76, u77, u78, u79, u80, u81, u82, u83, u84, u85, u86, u87, u88, u89, u90, u91, u92, u93, u94, u95, u96, u97, u98, u99, u100, u101, u102, u103, u104, u105, u106, u107, u108, u109, u110, u111, u112, u113, u114, u115, u116, u117, u118, u119, u120, u121, u122, u123, u124, u125, u126, u127, u128, u129, u130, u131, u132, u133, u134, u135, u136, u137, u138, u139, u140, u141, u142, u143, u144, u145, u146, u147, u148, u149, u150, u151, u152, u153, u154, u155, u156, u157, u158, u159, u160, u161, u162, u163], []⟩ w0 := by
  conv => arg 2; whnf
  conv => arg 4; dsimp only
  obtain ⟨m, hm⟩ : ∃ m, way % 20 = m := ⟨_, rfl⟩
  obtain ⟨q, hq⟩ : ∃ q, way / 20 = q := ⟨_, rfl⟩
  have e1 : (way : Int) % 20 = (m : Int) := by rw [← hm]; rfl
  have e2 : (way : Int) / 20 = (q : Int) := by rw [← hq]; rfl
  have hm9 : m < 20 := by omega
  have hq2 : q < 2 := by omega
  have E1 := Lib.hid e1
  have E2 := Lib.hid e2
  have H := Lib.hid h
  have HVG := Lib.hid hvg
  have HVC := Lib.hid hvc
  have HVU := Lib.hid hvu
  have HVT := Lib.hid hvt
  have HVS := Lib.hid hvs
  obtain ⟨l1, l2, l3, l4, l5, l6⟩ := h.e.len
  have L1 := Lib.hid l1
  have L4 := Lib.hid l4
  have L5 := Lib.hid l5
  have HR := Lib.hid hr
  clear h hm hq e1 e2 hvg hvc hvu hvt hvs l1 l2 l3 l4 l5 l6 hw
  go_upto_block 0 with fail
  rw [E1.out]
  go_cut [] (fun wx => Bn w X wx)
  case first =>
    rcases (show m = 0 ∨ m = 1 ∨ m = 2 ∨ m = 3 ∨ m = 4 ∨ m = 5 ∨ m = 6 ∨ m = 7 ∨ m = 8 ∨ m = 9 ∨ m = 10 ∨ m = 11 ∨ m = 12 ∨ m = 13 ∨ m = 14 ∨ m = 15 ∨ m = 16 ∨ m = 17 ∨ m = 18 ∨ m = 19 by omega) with rfl | rfl | rfl | rfl | rfl | rfl | rfl | rfl | rfl | rfl | rfl | rfl | rfl | rfl | rfl | rfl | rfl | rfl | rfl | rfl
    · have d0 := H.out.e.bx.cell.1
      have fr := H.out.e.bx.frz 0
      have e2 := E2.out
      rcases (show q = 0 ∨ q = 1 by omega) with rfl | rfl
      all_goals
        go_wp2_with fail
        go_meet
        exact bent_0 H.out _ (by decide) (by decide)
    · have d2 := H.out.e.bx.cell.2.2.1
      rw [HVG.out] at d2
      have fr := H.out.e.bx.frz 2
      have e2 := E2.out
      have hcg := own_cap (HVG.out ▸ H.out.e.o.og)
      rcases (show q = 0 ∨ q = 1 by omega) with rfl | rfl
      all_goals
        go_wp2_with fail
        go_meet
        exact bent_1 H.out HVG.out L1.out (by omega)
    · have d3 := H.out.e.bx.cell.2.2.2.1
      have A1 := Lib.hid (bel_alloc w0 (.cells #[.int .i64 0] 3))
      obtain ⟨A9, c9, h9⟩ := (H.out.e.o.oc.ev encI_len).shape
      rw [HVC.out] at d3
      go_wp2_with (at_builtin; refine wpList_app_run rfl _ _ rfl _ _ rfl rfl (HVC.out ▸ bent_2 (H.out.below A1.out) (new_one (z := 0)) _) ?_; rintro v' w' ⟨⟨A9, m9, c9, rfl⟩, ⟨u, hc⟩, hf, hbad⟩; have HBAD := Lib.hid hbad; clear hbad)
      go_wp2_with fail
      go_meet
      exact HBAD.out
    · have d4 := H.out.e.bx.cell.2.2.2.2.1
      have fr := H.out.e.bx.frz 4
      go_wp2_with fail
      go_meet
      exact bent_3 H.out
    · have d6 := H.out.e.bx.cell.2.2.2.2.2.2
      obtain ⟨N, hN⟩ : ∃ N, w0.heap.size = N := ⟨_, rfl⟩
      have HNN := Lib.hid hN
      have A1 := Lib.hid (bel_alloc w0 (.cells #[.int .u64 0, .int .u32 0, .int .u64 0] 51))
      have O1 := Lib.hid (show OV encS 3 51 (w.heap.size + 1) (w0.alloc (.cells #[.int .u64 0, .int .u32 0, .int .u64 0] 51)) (SV.v (some ⟨N, 0, none⟩, 1, 1)) [⟨0, 0, 0⟩] from OV.litM (n := 1) hN (by have := H.out.e.zb.lt; omega) rfl rfl rfl (by omega))
      have A2 := Lib.hid (bel_alloc (w0.alloc (.cells #[.int .u64 0, .int .u32 0, .int .u64 0] 51)) (.cells #[.slice (some ⟨N, 0, none⟩) 1 1] 52))
      have EN := Lib.hid (show EV encW 1 ((w0.alloc (.cells #[.int .u64 0, .int .u32 0, .int .u64 0] 51)).alloc (.cells #[.slice (some ⟨N, 0, none⟩) 1 1] 52)) (.slice (some ⟨N + 1, 0, none⟩) 1 1) [((some ⟨N, 0, none⟩, 1, 1), [⟨0, 0, 0⟩])] from by
        have h1 := EV.newL (w := w0.alloc (.cells #[.int .u64 0, .int .u32 0, .int .u64 0] 51)) (e := 52) (xs := [((((some ⟨N, 0, none⟩, 1, 1) : SV), ([⟨0, 0, 0⟩] : List Sp)))]) (n := 1) (c := 1) (cs := #[.slice (some ⟨N, 0, none⟩) 1 1]) encW_len rfl rfl (Nat.le_refl _)
        rwa [World.size_alloc, hN] at h1)
      rw [HVS.out] at d6
      have hs1 : w0.heap.size + 1 = N + 1 := by omega
      clear hs1
      go_upto_region 14 with fail
      subst hN
      go_wp2_with (at_builtin; refine wpList_app_run rfl _ _ rfl _ _ rfl rfl (HVS.out ▸ bent_4 ((H.out.below A1.out).below A2.out) ((O1.out.below A2.out).ev encS_len) (O1.out.below A2.out) EN.out _) ?_; rintro v' w' ⟨⟨A9, m9, c9, rfl⟩, ⟨u, hc⟩, hf, hbad⟩; have HBAD := Lib.hid hbad; clear hbad)
      go_wp2_with fail
      go_meet
      exact HBAD.out
    · have d6 := H.out.e.bx.cell.2.2.2.2.2.2
      rw [HVS.out] at d6
      obtain ⟨y, hy⟩ : ∃ y, s.ss[1]? = some y := ⟨_, List.getElem?_eq_getElem (by rw [L5.out]; decide)⟩
      have os := H.out.e.o.os
      rw [HVS.out] at os
      have c1 := ((os.ev encR_len).row3 (by rw [L5.out]; decide)) 1 y hy 0 _ rfl
      simp only [Nat.mul_one, Nat.add_zero, Nat.zero_add, Nat.zero_mul] at c1
      have fr : w0.frozen? ⟨gs, 1, none⟩ = false := by
        unfold OV at os
        rw [L5.out] at os
        exact World.ownsRow.frozenAt os _
      have HY := Lib.hid hy
      have hym := List.mem_of_getElem? hy
      obtain ⟨g1, c1c, hx1, _, _⟩ := (H.out.e.o.orr y hym).form (by rw [H.out.e.len.2.2.2.2.2 y hym]; decide)
      rw [H.out.e.len.2.2.2.2.2 y hym] at hx1
      rw [hx1] at c1
      have HX1 := Lib.hid hx1
      have NE := Lib.hid (show gs ≠ X from os.ne_box H.out.e.bx (by decide))
      have BD := Lib.hid (below_drew (Below.refl w0.heap.size w0))
      have c1d : w0.drew.cell? ⟨gs, 1, none⟩ = some (.slice (some ⟨g1, 0, none⟩) 1 c1c) := c1
      have d6d : w0.drew.cell? ⟨X, 6, none⟩ = some (.slice (some ⟨gs, 0, none⟩) 2 cs) := d6
      have HDD := Lib.hid (H.out.below BD.out)
      have i1 : (1 : Int) < 2 := by decide
      clear os hy hym hx1 c1 d6 fr
      go_upto_region 16 with fail
      refine wp_region_held_drew (S := fun wz => wz.cell? ⟨X, 6, none⟩ = some (.slice (some ⟨gs, 0, none⟩) 2 cs)) (by kernel_rfl) d6d (fun hh => ?_)
      generalize w0.drew = wd at c1d d6d HDD hh ⊢
      have A1 := Lib.hid (bel_alloc wd (.cells #[.int .u64 0, .int .u32 0, .int .u64 0] 51))
      have ES := Lib.hid (show EV encS 3 (wd.alloc (.cells #[.int .u64 0, .int .u32 0, .int .u64 0] 51)) (.slice (some ⟨wd.heap.size, 0, none⟩) 1 1) [⟨0, 0, 0⟩] from EV.newL (xs := [(⟨0, 0, 0⟩ : Sp)]) (n := 1) (c := 1) encS_len rfl rfl (Nat.le_refl _))
      have HD := Lib.hid (HDD.out.below A1.out)
      have c1e := below_cell A1.out c1d
      have d6e := below_cell A1.out d6d
      refine wpAnyH_takeW (i := 0) (d := some 64) (v := ?_) (by kernel_rfl) (by kernel_rfl) (by kernel_rfl) (by kernel_rfl) (fun _ _ _ h => h) ?_ hh ?_
      rotate_left
      · (intro o ho w hSw; obtain rfl := Option.some.inj ho; clear ho; (try dsimp only at hSw ⊢); go_simp; (try with_reducible rfl))
      simp only [Act.put, List.setIfInBounds_toArray, List.set_cons_zero, List.set_cons_succ]
      refine wpAnyH_takeW (i := 1) (d := some 65) (v := ?_) (by kernel_rfl) (by kernel_rfl) (by kernel_rfl) (by kernel_rfl) (fun _ _ _ h => h) ?_ hh ?_
      rotate_left
      · (intro o ho w hSw; obtain rfl := Option.some.inj ho; clear ho; (try dsimp only at hSw ⊢); go_simp; (try with_reducible rfl))
      simp only [Act.put, List.setIfInBounds_toArray, List.set_cons_zero, List.set_cons_succ]
      refine wpAnyH_takeW (i := 2) (d := some 66) (v := ?_) (by kernel_rfl) (by kernel_rfl) (by kernel_rfl) (by kernel_rfl) (fun _ _ _ h => h) ?_ hh ?_
      rotate_left
      · (intro o ho w hSw; obtain rfl := Option.some.inj ho; clear ho; (try dsimp only at hSw ⊢); go_simp; (try with_reducible rfl))
      simp only [Act.put, List.setIfInBounds_toArray, List.set_cons_zero, List.set_cons_succ]
      refine wpAnyH_takeW (i := 3) (d := some 67) (v := ?_) (by kernel_rfl) (by kernel_rfl) (by kernel_rfl) (by kernel_rfl) (fun _ _ _ h => h) ?_ hh ?_
      rotate_left
      · (intro o ho w hSw; obtain rfl := Option.some.inj ho; clear ho; (try dsimp only at hSw ⊢); go_simp; (try with_reducible rfl))
      simp only [Act.put, List.setIfInBounds_toArray, List.set_cons_zero, List.set_cons_succ]
      refine wpAnyH_takeW (i := 4) (d := some 68) (v := ?_) (by kernel_rfl) (by kernel_rfl) (by kernel_rfl) (by kernel_rfl) (fun _ _ _ h => h) ?_ hh ?_
      rotate_left
      · (intro o ho w hSw; obtain rfl := Option.some.inj ho; clear ho; (try dsimp only at hSw ⊢); go_simp; (try with_reducible rfl))
      simp only [Act.put, List.setIfInBounds_toArray, List.set_cons_zero, List.set_cons_succ]
      refine wpAnyH_takeW (i := 6) (d := some 70) (v := ?_) (by kernel_rfl) (by kernel_rfl) (by kernel_rfl) (by kernel_rfl) (fun _ _ _ h => h) ?_ hh ?_
      rotate_left
      · (intro o ho w hSw; obtain rfl := Option.some.inj ho; clear ho; (try dsimp only at hSw ⊢); go_simp; (try with_reducible rfl))
      simp only [Act.put, List.setIfInBounds_toArray, List.set_cons_zero, List.set_cons_succ]
      refine wpAnyH_ready (rs := [5, 7]) (by kernel_rfl) (by simp) (AllReadyH.cons rfl (fun K hK => ?_) (AllReadyH.cons rfl (fun K hK => ?_) AllReadyH.nil))
      · go_simp
        refine hK.out _ _ hh (fun hh2 => ?_)
        clear hK K hh
        have hh := hh2
        clear hh2
        try simp only [Act.put, List.setIfInBounds_toArray, List.set_cons_zero, List.set_cons_succ]
        refine wpAnyH_ready (rs := [7]) (by kernel_rfl) (by simp) (AllReadyH.cons rfl (fun K hK => ?_) AllReadyH.nil)
        go_simp
        refine hK.out _ _ d6e (fun hh2 => ?_)
        clear hK K hh
        have hh := hh2
        clear hh2
        try simp only [Act.put, List.setIfInBounds_toArray, List.set_cons_zero, List.set_cons_succ]
        refine wpAnyH_ready (rs := [8]) (by kernel_rfl) (by simp) (AllReadyH.cons rfl (fun K hK => ?_) AllReadyH.nil)
        rw [if_pos (by rfl)]
        refine wp_app_run _ _ rfl _ _ rfl rfl (HX1.out ▸ bent_5 HD.out HVS.out HY.out ES.out _) ?_
        rintro v' w' ⟨⟨A9, m9, c9, rfl⟩, hc, hf, hX6, hbad⟩
        have HBAD := Lib.hid hbad
        rw [HVS.out] at hX6
        refine hK.out _ _ hX6 (fun hh2 => ?_)
        clear hbad
        clear hK K hh
        have hh := hh2
        clear hh2
        try simp only [Act.put, List.setIfInBounds_toArray, List.set_cons_zero, List.set_cons_succ]
        refine wpAnyH_takeW (i := 9) (d := some 73) (v := ?_) (by kernel_rfl) (by kernel_rfl) (by kernel_rfl) (by kernel_rfl) (fun _ _ _ h => h) ?_ hh ?_
        rotate_left
        · (intro o ho w hSw; obtain rfl := Option.some.inj ho; clear ho; (try dsimp only at hSw ⊢); go_simp; (try with_reducible rfl))
        simp only [Act.put, List.setIfInBounds_toArray, List.set_cons_zero, List.set_cons_succ]
        refine wpAnyH_ready (rs := [10]) (by kernel_rfl) (by simp) (AllReadyH.cons rfl (fun K hK => ?_) AllReadyH.nil)
        go_simp
        refine hK.out _ _ (by (try dsimp only); rw [World.cell?_setCell_other _ _ _ _ (by simp only [ne_eq, Addr.mk.injEq, not_and]; intro e; exact absurd e NE.out)]; exact hX6) (fun hh2 => ?_)
        try simp only [Act.put, List.setIfInBounds_toArray, List.set_cons_zero, List.set_cons_succ]
        refine wpAnyH_done (by kernel_rfl) ?_ _
        clear hK K hh hh2 hc hf hX6
        go_wp2_with fail
        go_meet
        exact HBAD.out
      · go_simp
        refine hK.out _ _ d6e (fun hh2 => ?_)
        clear hK K hh
        have hh := hh2
        clear hh2
        try simp only [Act.put, List.setIfInBounds_toArray, List.set_cons_zero, List.set_cons_succ]
        refine wpAnyH_ready (rs := [5]) (by kernel_rfl) (by simp) (AllReadyH.cons rfl (fun K hK => ?_) AllReadyH.nil)
        go_simp
        refine hK.out _ _ d6e (fun hh2 => ?_)
        clear hK K hh
        have hh := hh2
        clear hh2
        try simp only [Act.put, List.setIfInBounds_toArray, List.set_cons_zero, List.set_cons_succ]
        refine wpAnyH_ready (rs := [8]) (by kernel_rfl) (by simp) (AllReadyH.cons rfl (fun K hK => ?_) AllReadyH.nil)
        rw [if_pos (by rfl)]
        refine wp_app_run _ _ rfl _ _ rfl rfl (HX1.out ▸ bent_5 HD.out HVS.out HY.out ES.out _) ?_
        rintro v' w' ⟨⟨A9, m9, c9, rfl⟩, hc, hf, hX6, hbad⟩
        have HBAD := Lib.hid hbad
        rw [HVS.out] at hX6
        refine hK.out _ _ hX6 (fun hh2 => ?_)
        clear hbad
        clear hK K hh
        have hh := hh2
        clear hh2
        try simp only [Act.put, List.setIfInBounds_toArray, List.set_cons_zero, List.set_cons_succ]
        refine wpAnyH_takeW (i := 9) (d := some 73) (v := ?_) (by kernel_rfl) (by kernel_rfl) (by kernel_rfl) (by kernel_rfl) (fun _ _ _ h => h) ?_ hh ?_
        rotate_left
        · (intro o ho w hSw; obtain rfl := Option.some.inj ho; clear ho; (try dsimp only at hSw ⊢); go_simp; (try with_reducible rfl))
        simp only [Act.put, List.setIfInBounds_toArray, List.set_cons_zero, List.set_cons_succ]
        refine wpAnyH_ready (rs := [10]) (by kernel_rfl) (by simp) (AllReadyH.cons rfl (fun K hK => ?_) AllReadyH.nil)
        go_simp
        refine hK.out _ _ (by (try dsimp only); rw [World.cell?_setCell_other _ _ _ _ (by simp only [ne_eq, Addr.mk.injEq, not_and]; intro e; exact absurd e NE.out)]; exact hX6) (fun hh2 => ?_)
        try simp only [Act.put, List.setIfInBounds_toArray, List.set_cons_zero, List.set_cons_succ]
        refine wpAnyH_done (by kernel_rfl) ?_ _
        clear hK K hh hh2 hc hf hX6
        go_wp2_with fail
        go_meet
        exact HBAD.out
    · have d6 := H.out.e.bx.cell.2.2.2.2.2.2
      rw [HVS.out] at d6
      obtain ⟨y, hy⟩ : ∃ y, s.ss[0]? = some y := ⟨_, List.getElem?_eq_getElem (by rw [L5.out]; decide)⟩
      have os := H.out.e.o.os
      rw [HVS.out] at os
      have c1 := ((os.ev encR_len).row3 (by rw [L5.out]; decide)) 0 y hy 0 _ rfl
      simp only [Nat.mul_one, Nat.add_zero, Nat.zero_add, Nat.zero_mul] at c1
      have fr : w0.frozen? ⟨gs, 0, none⟩ = false := by
        unfold OV at os
        rw [L5.out] at os
        exact World.ownsRow.frozenAt os _
      have HY := Lib.hid hy
      clear os hy
      go_wp2_with fail
      go_meet
      exact H.out.row HVS.out HY.out (ys := []) (by simp) (EV.nil _ _) (Aw.nil _ _ _)
    · obtain ⟨t, ht⟩ : ∃ t, s.ts[0]? = some t := ⟨_, List.getElem?_eq_getElem (by rw [L4.out]; decide)⟩
      obtain ⟨⟨u, hc⟩, hf⟩ := H.out.e.o.tcell HVT.out ht (j := 0) (by omega)
      simp only [Nat.zero_mul, Nat.add_zero, Nat.one_mul] at hc hf
      have d5 := H.out.e.bx.cell.2.2.2.2.2.1
      rw [HVT.out] at d5
      have e2 := E2.out
      clear ht
      go_wp2_with fail
      go_meet
      exact H.out.task HVT.out (i := 0) (by rw [L4.out]; decide) (j := 0) (by omega) (tkin H.out HVT.out (by rw [L4.out]; decide))
    · obtain ⟨t, ht⟩ : ∃ t, s.ts[1]? = some t := ⟨_, List.getElem?_eq_getElem (by rw [L4.out]; decide)⟩
      obtain ⟨⟨u, hc⟩, hf⟩ := H.out.e.o.tcell HVT.out ht (j := 0) (by omega)
      simp only [Nat.zero_mul, Nat.add_zero, Nat.one_mul] at hc hf
      have d5 := H.out.e.bx.cell.2.2.2.2.2.1
      rw [HVT.out] at d5
      have e2 := E2.out
      clear ht
      have d5d : w0.drew.cell? ⟨X, 5, none⟩ = some (.slice (some ⟨gt, 0, none⟩) 2 ct) := d5
      have BD := Lib.hid (below_drew (Below.refl w0.heap.size w0))
      have HDD := Lib.hid (H.out.below BD.out)
      have ot := H.out.e.o.ot
      rw [HVT.out] at ot
      have NE := Lib.hid (show gt ≠ X from ot.ne_box H.out.e.bx (by decide))
      have hcd : w0.drew.cell? ⟨gt, 8, none⟩ = some u := hc
      have hfd : w0.drew.frozen? ⟨gt, 8, none⟩ = false := hf
      have i1 : (1 : Int) < 2 := by decide
      clear ot hc hf d5
      go_upto_region 22 with fail
      refine wp_region_held_drew (S := fun wz => wz.cell? ⟨X, 5, none⟩ = some (.slice (some ⟨gt, 0, none⟩) 2 ct)) (by kernel_rfl) d5d (fun hh => ?_)
      generalize w0.drew = wd at d5d HDD hcd hfd hh ⊢
      have A1 := Lib.hid (bel_alloc wd (.cells #[.int .i64 5, .int .i64 65535, .int .i64 65536] 3))
      have EI := Lib.hid (show EV encI 1 (wd.alloc (.cells #[.int .i64 5, .int .i64 65535, .int .i64 65536] 3)) (.slice (some ⟨wd.heap.size, 0, none⟩) 3 3) [5, 65535, 65536] from EV.newL (xs := [(5 : Int), 65535, 65536]) (n := 3) (c := 3) encI_len rfl rfl (Nat.le_refl _))
      have HD := Lib.hid (HDD.out.below A1.out)
      have d5e := below_cell A1.out d5d
      have hce := below_cell A1.out hcd
      have hfe := (A1.out.frozen (cell_lt hcd)).trans hfd
      have wq0 : IntKind.i64.wrap 0 = 0 := IntWalk.i64_in 0 (by omega)
      have wq1 : IntKind.i64.wrap 1 = 1 := IntWalk.i64_in 1 (by omega)
      rcases (show q = 0 ∨ q = 1 by omega) with rfl | rfl
      · have c9 := (EI.out.row3 (by decide)).i1 (i := 0) (x := 5) rfl
        simp only [Nat.zero_add] at c9
        refine wpAnyH_takeW (i := 0) (d := some 89) (v := ?_) (by kernel_rfl) (by kernel_rfl) (by kernel_rfl) (by kernel_rfl) (fun _ _ _ h => h) ?_ hh ?_
        rotate_left
        · (intro o ho w hSw; obtain rfl := Option.some.inj ho; clear ho; (try dsimp only at hSw ⊢); go_simp; (try with_reducible rfl))
        simp only [Act.put, List.setIfInBounds_toArray, List.set_cons_zero, List.set_cons_succ]
        refine wpAnyH_takeW (i := 1) (d := some 90) (v := ?_) (by kernel_rfl) (by kernel_rfl) (by kernel_rfl) (by kernel_rfl) (fun _ _ _ h => h) ?_ hh ?_
        rotate_left
        · (intro o ho w hSw; obtain rfl := Option.some.inj ho; clear ho; (try dsimp only at hSw ⊢); go_simp; (try with_reducible rfl))
        simp only [Act.put, List.setIfInBounds_toArray, List.set_cons_zero, List.set_cons_succ]
        refine wpAnyH_takeW (i := 3) (d := some 92) (v := ?_) (by kernel_rfl) (by kernel_rfl) (by kernel_rfl) (by kernel_rfl) (fun _ _ _ h => h) ?_ hh ?_
        rotate_left
        · (intro o ho w hSw; obtain rfl := Option.some.inj ho; clear ho; (try dsimp only at hSw ⊢); go_simp; (try with_reducible rfl))
        simp only [Act.put, List.setIfInBounds_toArray, List.set_cons_zero, List.set_cons_succ]
        refine wpAnyH_takeW (i := 4) (d := some 93) (v := ?_) (by kernel_rfl) (by kernel_rfl) (by kernel_rfl) (by kernel_rfl) (fun _ _ _ h => h) ?_ hh ?_
        rotate_left
        · (intro o ho w hSw; obtain rfl := Option.some.inj ho; clear ho; (try dsimp only at hSw ⊢); go_simp; (try with_reducible rfl))
        simp only [Act.put, List.setIfInBounds_toArray, List.set_cons_zero, List.set_cons_succ]
        refine wpAnyH_ready (rs := [2]) (by kernel_rfl) (by simp) (AllReadyH.cons rfl (fun K hK => ?_) AllReadyH.nil)
        go_simp
        refine hK.out _ _ d5e (fun hh2 => ?_)
        clear hK K hh
        have hh := hh2
        clear hh2
        try simp only [Act.put, List.setIfInBounds_toArray, List.set_cons_zero, List.set_cons_succ]
        refine wpAnyH_takeW (i := 5) (d := some 94) (v := ?_) (by kernel_rfl) (by kernel_rfl) (by kernel_rfl) (by kernel_rfl) (fun _ _ _ h => h) ?_ hh ?_
        rotate_left
        · (intro o ho w hSw; obtain rfl := Option.some.inj ho; clear ho; (try dsimp only at hSw ⊢); go_simp; (try with_reducible rfl))
        simp only [Act.put, List.setIfInBounds_toArray, List.set_cons_zero, List.set_cons_succ]
        refine wpAnyH_ready (rs := [6]) (by kernel_rfl) (by simp) (AllReadyH.cons rfl (fun K hK => ?_) AllReadyH.nil)
        go_simp
        refine hK.out _ _ d5e (fun hh2 => ?_)
        clear hK K hh
        have hh := hh2
        clear hh2
        try simp only [Act.put, List.setIfInBounds_toArray, List.set_cons_zero, List.set_cons_succ]
        refine wpAnyH_takeW (i := 7) (d := some 96) (v := ?_) (by kernel_rfl) (by kernel_rfl) (by kernel_rfl) (by kernel_rfl) (fun _ _ _ h => h) ?_ hh ?_
        rotate_left
        · (intro o ho w hSw; obtain rfl := Option.some.inj ho; clear ho; (try dsimp only at hSw ⊢); go_simp; (try with_reducible rfl))
        simp only [Act.put, List.setIfInBounds_toArray, List.set_cons_zero, List.set_cons_succ]
        refine wpAnyH_takeW (i := 8) (d := some 97) (v := ?_) (by kernel_rfl) (by kernel_rfl) (by kernel_rfl) (by kernel_rfl) (fun _ _ _ h => h) ?_ hh ?_
        rotate_left
        · (intro o ho w hSw; obtain rfl := Option.some.inj ho; clear ho; (try dsimp only at hSw ⊢); go_simp; (try with_reducible rfl))
        simp only [Act.put, List.setIfInBounds_toArray, List.set_cons_zero, List.set_cons_succ]
        refine wpAnyH_ready (rs := [9]) (by kernel_rfl) (by simp) (AllReadyH.cons rfl (fun K hK => ?_) AllReadyH.nil)
        go_simp
        refine hK.out _ _ (by (try dsimp only); rw [World.cell?_setCell_other _ _ _ _ (by simp only [ne_eq, Addr.mk.injEq, not_and]; intro e; exact absurd e NE.out)]; exact d5e) (fun hh2 => ?_)
        try simp only [Act.put, List.setIfInBounds_toArray, List.set_cons_zero, List.set_cons_succ]
        refine wpAnyH_done (by kernel_rfl) ?_ _
        clear hK K hh hh2 c9 hce hfe d5e hcd hfd d5d
        go_wp2_with fail
        go_meet
        exact HD.out.task HVT.out (i := 1) (by rw [L4.out]; decide) (j := 0) (by omega) (tkin HD.out HVT.out (by rw [L4.out]; decide))
      · have c9 := (EI.out.row3 (by decide)).i1 (i := 1) (x := 65535) rfl
        simp only [Nat.zero_add] at c9
        refine wpAnyH_takeW (i := 0) (d := some 89) (v := ?_) (by kernel_rfl) (by kernel_rfl) (by kernel_rfl) (by kernel_rfl) (fun _ _ _ h => h) ?_ hh ?_
        rotate_left
        · (intro o ho w hSw; obtain rfl := Option.some.inj ho; clear ho; (try dsimp only at hSw ⊢); go_simp; (try with_reducible rfl))
        simp only [Act.put, List.setIfInBounds_toArray, List.set_cons_zero, List.set_cons_succ]
        refine wpAnyH_takeW (i := 1) (d := some 90) (v := ?_) (by kernel_rfl) (by kernel_rfl) (by kernel_rfl) (by kernel_rfl) (fun _ _ _ h => h) ?_ hh ?_
        rotate_left
        · (intro o ho w hSw; obtain rfl := Option.some.inj ho; clear ho; (try dsimp only at hSw ⊢); go_simp; (try with_reducible rfl))
        simp only [Act.put, List.setIfInBounds_toArray, List.set_cons_zero, List.set_cons_succ]
        refine wpAnyH_takeW (i := 3) (d := some 92) (v := ?_) (by kernel_rfl) (by kernel_rfl) (by kernel_rfl) (by kernel_rfl) (fun _ _ _ h => h) ?_ hh ?_
        rotate_left
        · (intro o ho w hSw; obtain rfl := Option.some.inj ho; clear ho; (try dsimp only at hSw ⊢); go_simp; (try with_reducible rfl))
        simp only [Act.put, List.setIfInBounds_toArray, List.set_cons_zero, List.set_cons_succ]
        refine wpAnyH_takeW (i := 4) (d := some 93) (v := ?_) (by kernel_rfl) (by kernel_rfl) (by kernel_rfl) (by kernel_rfl) (fun _ _ _ h => h) ?_ hh ?_
        rotate_left
        · (intro o ho w hSw; obtain rfl := Option.some.inj ho; clear ho; (try dsimp only at hSw ⊢); go_simp; (try with_reducible rfl))
        simp only [Act.put, List.setIfInBounds_toArray, List.set_cons_zero, List.set_cons_succ]
        refine wpAnyH_ready (rs := [2]) (by kernel_rfl) (by simp) (AllReadyH.cons rfl (fun K hK => ?_) AllReadyH.nil)
        go_simp
        refine hK.out _ _ d5e (fun hh2 => ?_)
        clear hK K hh
        have hh := hh2
        clear hh2
        try simp only [Act.put, List.setIfInBounds_toArray, List.set_cons_zero, List.set_cons_succ]
        refine wpAnyH_takeW (i := 5) (d := some 94) (v := ?_) (by kernel_rfl) (by kernel_rfl) (by kernel_rfl) (by kernel_rfl) (fun _ _ _ h => h) ?_ hh ?_
        rotate_left
        · (intro o ho w hSw; obtain rfl := Option.some.inj ho; clear ho; (try dsimp only at hSw ⊢); go_simp; (try with_reducible rfl))
        simp only [Act.put, List.setIfInBounds_toArray, List.set_cons_zero, List.set_cons_succ]
        refine wpAnyH_ready (rs := [6]) (by kernel_rfl) (by simp) (AllReadyH.cons rfl (fun K hK => ?_) AllReadyH.nil)
        go_simp
        refine hK.out _ _ d5e (fun hh2 => ?_)
        clear hK K hh
        have hh := hh2
        clear hh2
        try simp only [Act.put, List.setIfInBounds_toArray, List.set_cons_zero, List.set_cons_succ]
        refine wpAnyH_takeW (i := 7) (d := some 96) (v := ?_) (by kernel_rfl) (by kernel_rfl) (by kernel_rfl) (by kernel_rfl) (fun _ _ _ h => h) ?_ hh ?_
        rotate_left
        · (intro o ho w hSw; obtain rfl := Option.some.inj ho; clear ho; (try dsimp only at hSw ⊢); go_simp; (try with_reducible rfl))
        simp only [Act.put, List.setIfInBounds_toArray, List.set_cons_zero, List.set_cons_succ]
        refine wpAnyH_takeW (i := 8) (d := some 97) (v := ?_) (by kernel_rfl) (by kernel_rfl) (by kernel_rfl) (by kernel_rfl) (fun _ _ _ h => h) ?_ hh ?_
        rotate_left
        · (intro o ho w hSw; obtain rfl := Option.some.inj ho; clear ho; (try dsimp only at hSw ⊢); go_simp; (try with_reducible rfl))
        simp only [Act.put, List.setIfInBounds_toArray, List.set_cons_zero, List.set_cons_succ]
        refine wpAnyH_ready (rs := [9]) (by kernel_rfl) (by simp) (AllReadyH.cons rfl (fun K hK => ?_) AllReadyH.nil)
        go_simp
        refine hK.out _ _ (by (try dsimp only); rw [World.cell?_setCell_other _ _ _ _ (by simp only [ne_eq, Addr.mk.injEq, not_and]; intro e; exact absurd e NE.out)]; exact d5e) (fun hh2 => ?_)
        try simp only [Act.put, List.setIfInBounds_toArray, List.set_cons_zero, List.set_cons_succ]
        refine wpAnyH_done (by kernel_rfl) ?_ _
        clear hK K hh hh2 c9 hce hfe d5e hcd hfd d5d
        go_wp2_with fail
        go_meet
        exact HD.out.task HVT.out (i := 1) (by rw [L4.out]; decide) (j := 0) (by omega) (tkin HD.out HVT.out (by rw [L4.out]; decide))
    · obtain ⟨t, ht⟩ : ∃ t, s.ts[1]? = some t := ⟨_, List.getElem?_eq_getElem (by rw [L4.out]; decide)⟩
      obtain ⟨⟨u, hc⟩, hf⟩ := H.out.e.o.tcell HVT.out ht (j := 0) (by omega)
      simp only [Nat.zero_mul, Nat.add_zero, Nat.one_mul] at hc hf
      have d5 := H.out.e.bx.cell.2.2.2.2.2.1
      rw [HVT.out] at d5
      clear ht
      go_wp2_with fail
      go_meet
      exact H.out.task HVT.out (i := 1) (by rw [L4.out]; decide) (j := 0) (by omega) (tkin H.out HVT.out (by rw [L4.out]; decide))
    · obtain ⟨t, ht⟩ : ∃ t, s.ts[r]? = some t := ⟨_, List.getElem?_eq_getElem (by rw [L4.out]; exact HR.out)⟩
      obtain ⟨⟨u, hc⟩, hf⟩ := H.out.e.o.tcell HVT.out ht (j := 1) (by omega)
      clear ht
      go_wp2_with fail
      go_meet
      exact H.out.task HVT.out (by rw [L4.out]; exact HR.out) (j := 1) (by omega) (tkin H.out HVT.out (by rw [L4.out]; exact HR.out))
    · obtain ⟨t, ht⟩ : ∃ t, s.ts[r]? = some t := ⟨_, List.getElem?_eq_getElem (by rw [L4.out]; exact HR.out)⟩
      obtain ⟨⟨u, hc⟩, hf⟩ := H.out.e.o.tcell HVT.out ht (j := 1) (by omega)
      clear ht
      go_wp2_with fail
      go_meet
      exact H.out.task HVT.out (by rw [L4.out]; exact HR.out) (j := 1) (by omega) (tkin H.out HVT.out (by rw [L4.out]; exact HR.out))
    · obtain ⟨t, ht⟩ : ∃ t, s.ts[r]? = some t := ⟨_, List.getElem?_eq_getElem (by rw [L4.out]; exact HR.out)⟩
      obtain ⟨⟨u, hc⟩, hf⟩ := H.out.e.o.tcell HVT.out ht (j := 2) (by omega)
      have e2 := E2.out
      clear ht
      go_wp2_with fail
      go_meet
      exact H.out.task HVT.out (by rw [L4.out]; exact HR.out) (j := 2) (by omega) (tkin H.out HVT.out (by rw [L4.out]; exact HR.out))
    · obtain ⟨t, ht⟩ : ∃ t, s.ts[r]? = some t := ⟨_, List.getElem?_eq_getElem (by rw [L4.out]; exact HR.out)⟩
      obtain ⟨⟨u, hc⟩, hf⟩ := H.out.e.o.tcell HVT.out ht (j := 2) (by omega)
      have e2 := E2.out
      have hw1 : IntKind.i64.wrap (65536 + (q : Int)) = 65536 + (q : Int) := IntWalk.i64_in _ (by omega)
      clear ht
      go_wp2_with fail
      go_meet
      exact H.out.task HVT.out (by rw [L4.out]; exact HR.out) (j := 2) (by omega) (tkin H.out HVT.out (by rw [L4.out]; exact HR.out))
    · obtain ⟨t, ht⟩ : ∃ t, s.ts[r]? = some t := ⟨_, List.getElem?_eq_getElem (by rw [L4.out]; exact HR.out)⟩
      obtain ⟨⟨u, hc⟩, hf⟩ := H.out.e.o.tcell HVT.out ht (j := 3) (by omega)
      clear ht
      go_wp2_with fail
      go_meet
      exact H.out.task HVT.out (by rw [L4.out]; exact HR.out) (j := 3) (by omega) (tkin H.out HVT.out (by rw [L4.out]; exact HR.out))
    · obtain ⟨t, ht⟩ : ∃ t, s.ts[r]? = some t := ⟨_, List.getElem?_eq_getElem (by rw [L4.out]; exact HR.out)⟩
      obtain ⟨⟨u, hc⟩, hf⟩ := H.out.e.o.tcell HVT.out ht (j := 3) (by omega)
      clear ht
      go_wp2_with fail
      go_meet
      exact H.out.task HVT.out (by rw [L4.out]; exact HR.out) (j := 3) (by omega) (tkin H.out HVT.out (by rw [L4.out]; exact HR.out))
    · have d2 := H.out.e.bx.cell.2.2.1
      rw [HVG.out] at d2
      obtain ⟨⟨y1, y2⟩, hy⟩ : ∃ y, s.gs[1]? = some y := ⟨_, List.getElem?_eq_getElem (by rw [L1.out]; decide)⟩
      have og := H.out.e.o.og
      rw [HVG.out] at og
      have c1 := ((og.ev encG_len).row3 (by rw [L1.out]; decide)) 1 _ hy 1 _ rfl
      simp only [Nat.zero_add, Nat.one_mul, Nat.reduceAdd] at c1
      have fr : w0.frozen? ⟨gg, 3, none⟩ = false := by
        unfold OV at og
        rw [L1.out] at og
        exact World.ownsRow.frozenAt og _
      have BN := Lib.hid (H.out.bn.kin (p := ⟨gg, 3, none⟩) (og.ne_box H.out.e.bx (by decide)) (by have := (og.block gg rfl).1; show _ < gg; omega) c1 (kin_int .i64 y2 0))
      clear og hy
      go_wp2_with fail
      go_meet
      exact BN.out
    · have d6 := H.out.e.bx.cell.2.2.2.2.2.2
      rw [HVS.out] at d6
      have fr := H.out.e.bx.frz 6
      have hcg := own_cap (HVS.out ▸ H.out.e.o.os)
      go_wp2_with fail
      go_meet
      exact bent_17 H.out HVS.out L5.out (by omega)
    · have d6 := H.out.e.bx.cell.2.2.2.2.2.2
      rw [HVS.out] at d6
      obtain ⟨y, hy⟩ : ∃ y, s.ss[1]? = some y := ⟨_, List.getElem?_eq_getElem (by rw [L5.out]; decide)⟩
      have os := H.out.e.o.os
      rw [HVS.out] at os
      have c1 := ((os.ev encR_len).row3 (by rw [L5.out]; decide)) 1 y hy 0 _ rfl
      simp only [Nat.mul_one, Nat.add_zero, Nat.zero_add, Nat.zero_mul] at c1
      have fr : w0.frozen? ⟨gs, 1, none⟩ = false := by
        unfold OV at os
        rw [L5.out] at os
        exact World.ownsRow.frozenAt os _
      have hym := List.mem_of_getElem? hy
      have hyl := H.out.e.len.2.2.2.2.2 y hym
      obtain ⟨g1, c1c, hx1, _, _⟩ := (H.out.e.o.orr y hym).form (by omega)
      rw [hyl] at hx1
      rw [hx1] at c1
      have oy := H.out.e.o.orr y hym
      rw [hx1] at oy
      obtain ⟨z, hz⟩ : ∃ z, y.2[0]? = some z := ⟨_, List.getElem?_eq_getElem (by omega)⟩
      have cz := ((oy.ev encS_len).row3 (by omega)) 0 z hz 0 _ rfl
      simp only [Nat.zero_mul, Nat.add_zero] at cz
      have fz : w0.frozen? ⟨g1, 0, none⟩ = false := by
        unfold OV at oy
        rw [hyl] at oy
        exact World.ownsRow.frozenAt oy _
      obtain ⟨t, ht⟩ : ∃ t, s.ts[r]? = some t := ⟨_, List.getElem?_eq_getElem (by rw [L4.out]; exact HR.out)⟩
      obtain ⟨⟨u, hc⟩, hf⟩ := H.out.e.o.tcell HVT.out ht (j := 6) (by omega)
      have ot := H.out.e.o.ot
      rw [HVT.out] at ot
      have hne : g1 ≠ gt := by
        rcases oy.ne2 ot (by decide) with h1 | h1
        · cases h1
        · intro e; exact h1 (by rw [e]; rfl)
      have hne2 : ¬ gt = g1 := fun e => hne e.symm
      have B1 := H.out.task HVT.out (by rw [L4.out]; exact HR.out) (j := 6) (by omega) (tkin (k := .u64) (z := 18446744073709551615) H.out HVT.out (by rw [L4.out]; exact HR.out))
      have cz2 : (w0.setCell ⟨gt, r * 8 + 6, none⟩ (.int .u64 18446744073709551615)).cell? ⟨g1, 0, none⟩ = some (.int .u64 z.v) := by
        rw [World.cell?_setCell_other _ _ _ _ (by simp only [ne_eq, Addr.mk.injEq, not_and]; intro e; exact absurd e hne2)]; exact cz
      have B2 := Lib.hid (B1.kin (p := ⟨g1, 0, none⟩) (oy.ne_box H.out.e.bx (by decide)) (by have := (oy.block g1 rfl).1; show _ < g1; omega) cz2 (kin_int .u64 z.v 18446744073709551615))
      have i1 : (1 : Int) < 2 := by decide
      clear os hy hym hyl hx1 oy hz ht ot B1 cz2 fr
      go_wp2_with fail
      go_meet
      exact B2.out
    · have hh := (sj_start H.out HVC.out HVU.out HVT.out (by rw [L4.out]; exact HR.out)).drew
      have i1 : (0 : Int) < 1 := by decide
      go_upto_region 4 with fail
      refine wp_region_held_drew (S := fun wz => wz.cell? ⟨X, 3, none⟩ = some (.slice (some ⟨gc, 0, none⟩) 1 cc) ∧ wz.cell? ⟨X, 4, none⟩ = some (.slice (some ⟨gu, 0, none⟩) 1 cu) ∧ SJ w X gc gu gt cc cu r wz) (by kernel_rfl) hh.all (fun hh => ?_)
      refine wpAnyH_takeW (i := 0) (d := some 14) (v := ?_) (by kernel_rfl) (by kernel_rfl) (by kernel_rfl) (by kernel_rfl) (fun _ _ _ h => h) ?_ hh ?_
      rotate_left
      · (intro o ho w hSw; obtain rfl := Option.some.inj ho; clear ho; (try dsimp only at hSw ⊢); go_simp; (try with_reducible rfl))
      simp only [Act.put, List.setIfInBounds_toArray, List.set_cons_zero, List.set_cons_succ]
      refine wpAnyH_takeW (i := 1) (d := some 15) (v := ?_) (by kernel_rfl) (by kernel_rfl) (by kernel_rfl) (by kernel_rfl) (fun _ _ _ h => h) ?_ hh ?_
      rotate_left
      · (intro o ho w hSw; obtain rfl := Option.some.inj ho; clear ho; (try dsimp only at hSw ⊢); go_simp; (try with_reducible rfl))
      simp only [Act.put, List.setIfInBounds_toArray, List.set_cons_zero, List.set_cons_succ]
      refine wpAnyH_takeW (i := 2) (d := some 16) (v := ?_) (by kernel_rfl) (by kernel_rfl) (by kernel_rfl) (by kernel_rfl) (fun _ _ _ h => h) ?_ hh ?_
      rotate_left
      · (intro o ho w hSw; obtain rfl := Option.some.inj ho; clear ho; (try dsimp only at hSw ⊢); go_simp; (try with_reducible rfl))
      simp only [Act.put, List.setIfInBounds_toArray, List.set_cons_zero, List.set_cons_succ]
      refine wpAnyH_takeW (i := 3) (d := some 17) (v := ?_) (by kernel_rfl) (by kernel_rfl) (by kernel_rfl) (by kernel_rfl) (fun _ _ _ h => h) ?_ hh ?_
      rotate_left
      · (intro o ho w hSw; obtain rfl := Option.some.inj ho; clear ho; (try dsimp only at hSw ⊢); go_simp; (try with_reducible rfl))
      simp only [Act.put, List.setIfInBounds_toArray, List.set_cons_zero, List.set_cons_succ]
      refine wpAnyH_takeW (i := 4) (d := some 18) (v := ?_) (by kernel_rfl) (by kernel_rfl) (by kernel_rfl) (by kernel_rfl) (fun _ _ _ h => h) ?_ hh ?_
      rotate_left
      · (intro o ho w hSw; obtain rfl := Option.some.inj ho; clear ho; (try dsimp only at hSw ⊢); go_simp; (try with_reducible rfl))
      simp only [Act.put, List.setIfInBounds_toArray, List.set_cons_zero, List.set_cons_succ]
      refine wpAnyH_takeW (i := 5) (d := some 19) (v := ?_) (by kernel_rfl) (by kernel_rfl) (by kernel_rfl) (by kernel_rfl) (fun _ _ _ h => h) ?_ hh ?_
      rotate_left
      · (intro o ho w hSw; obtain rfl := Option.some.inj ho; clear ho; (try dsimp only at hSw ⊢); go_simp; (try with_reducible rfl))
      simp only [Act.put, List.setIfInBounds_toArray, List.set_cons_zero, List.set_cons_succ]
      refine wpAnyH_takeW (i := 6) (d := some 20) (v := ?_) (by kernel_rfl) (by kernel_rfl) (by kernel_rfl) (by kernel_rfl) (fun _ _ _ h => h) ?_ hh ?_
      rotate_left
      · (intro o ho w hSw; obtain rfl := Option.some.inj ho; clear ho; (try dsimp only at hSw ⊢); go_simp; (try with_reducible rfl))
      simp only [Act.put, List.setIfInBounds_toArray, List.set_cons_zero, List.set_cons_succ]
      refine wpAnyH_ready (rs := [7]) (by kernel_rfl) (by simp) (AllReadyH.cons rfl (fun K hK => ?_) AllReadyH.nil)
      obtain ⟨⟨z1, hz1⟩, f1, ⟨z2, hz2⟩, f2, ⟨z3, hz3⟩, f3, ⟨z4, hz4⟩, f4⟩ := hh.2.2.k
      go_simp
      refine hK.out _ _ (hh.2.2.s1 _).all (fun hh2 => ?_)
      clear hz1 hz2 hz3 hz4 f1 f2 f3 f4
      clear hK K hh
      have hh := hh2
      clear hh2
      try simp only [Act.put, List.setIfInBounds_toArray, List.set_cons_zero, List.set_cons_succ]
      refine wpAnyH_takeW (i := 8) (d := some 21) (v := ?_) (by kernel_rfl) (by kernel_rfl) (by kernel_rfl) (by kernel_rfl) (fun _ _ _ h => h) ?_ hh ?_
      rotate_left
      · (intro o ho w hSw; obtain rfl := Option.some.inj ho; clear ho; (try dsimp only at hSw ⊢); go_simp; (try with_reducible rfl))
      simp only [Act.put, List.setIfInBounds_toArray, List.set_cons_zero, List.set_cons_succ]
      refine wpAnyH_ready (rs := [9]) (by kernel_rfl) (by simp) (AllReadyH.cons rfl (fun K hK => ?_) AllReadyH.nil)
      obtain ⟨⟨z1, hz1⟩, f1, ⟨z2, hz2⟩, f2, ⟨z3, hz3⟩, f3, ⟨z4, hz4⟩, f4⟩ := hh.2.2.k
      go_simp
      refine hK.out _ _ (hh.2.2.s2 _).all (fun hh2 => ?_)
      clear hz1 hz2 hz3 hz4 f1 f2 f3 f4
      clear hK K hh
      have hh := hh2
      clear hh2
      try simp only [Act.put, List.setIfInBounds_toArray, List.set_cons_zero, List.set_cons_succ]
      refine wpAnyH_takeW (i := 10) (d := some 22) (v := ?_) (by kernel_rfl) (by kernel_rfl) (by kernel_rfl) (by kernel_rfl) (fun _ _ _ h => h) ?_ hh ?_
      rotate_left
      · (intro o ho w hSw; obtain rfl := Option.some.inj ho; clear ho; (try dsimp only at hSw ⊢); go_simp; (try with_reducible rfl))
      simp only [Act.put, List.setIfInBounds_toArray, List.set_cons_zero, List.set_cons_succ]
      refine wpAnyH_takeW (i := 11) (d := some 23) (v := ?_) (by kernel_rfl) (by kernel_rfl) (by kernel_rfl) (by kernel_rfl) (fun _ _ _ h => h) ?_ hh ?_
      rotate_left
      · (intro o ho w hSw; obtain rfl := Option.some.inj ho; clear ho; (try dsimp only at hSw ⊢); go_simp; (try with_reducible rfl))
      simp only [Act.put, List.setIfInBounds_toArray, List.set_cons_zero, List.set_cons_succ]
      refine wpAnyH_ready (rs := [12]) (by kernel_rfl) (by simp) (AllReadyH.cons rfl (fun K hK => ?_) AllReadyH.nil)
      obtain ⟨⟨z1, hz1⟩, f1, ⟨z2, hz2⟩, f2, ⟨z3, hz3⟩, f3, ⟨z4, hz4⟩, f4⟩ := hh.2.2.k
      go_simp
      refine hK.out _ _ (hh.2.2.s3 _).all (fun hh2 => ?_)
      clear hz1 hz2 hz3 hz4 f1 f2 f3 f4
      clear hK K hh
      have hh := hh2
      clear hh2
      try simp only [Act.put, List.setIfInBounds_toArray, List.set_cons_zero, List.set_cons_succ]
      refine wpAnyH_takeW (i := 13) (d := some 24) (v := ?_) (by kernel_rfl) (by kernel_rfl) (by kernel_rfl) (by kernel_rfl) (fun _ _ _ h => h) ?_ hh ?_
      rotate_left
      · (intro o ho w hSw; obtain rfl := Option.some.inj ho; clear ho; (try dsimp only at hSw ⊢); go_simp; (try with_reducible rfl))
      simp only [Act.put, List.setIfInBounds_toArray, List.set_cons_zero, List.set_cons_succ]
      refine wpAnyH_takeW (i := 14) (d := some 25) (v := ?_) (by kernel_rfl) (by kernel_rfl) (by kernel_rfl) (by kernel_rfl) (fun _ _ _ h => h) ?_ hh ?_
      rotate_left
      · (intro o ho w hSw; obtain rfl := Option.some.inj ho; clear ho; (try dsimp only at hSw ⊢); go_simp; (try with_reducible rfl))
      simp only [Act.put, List.setIfInBounds_toArray, List.set_cons_zero, List.set_cons_succ]
      refine wpAnyH_ready (rs := [15]) (by kernel_rfl) (by simp) (AllReadyH.cons rfl (fun K hK => ?_) AllReadyH.nil)
      obtain ⟨⟨z1, hz1⟩, f1, ⟨z2, hz2⟩, f2, ⟨z3, hz3⟩, f3, ⟨z4, hz4⟩, f4⟩ := hh.2.2.k
      go_simp
      refine hK.out _ _ (hh.2.2.s4 _).all (fun hh2 => ?_)
      clear hz1 hz2 hz3 hz4 f1 f2 f3 f4
      clear hK K hh
      have hh := hh2
      clear hh2
      try simp only [Act.put, List.setIfInBounds_toArray, List.set_cons_zero, List.set_cons_succ]
      refine wpAnyH_done (by kernel_rfl) ?_ _
      have BN := Lib.hid hh.2.2.bn
      clear hh
      go_wp2_with fail
      go_meet
      exact BN.out
  case rest =>
    refine (‹∀ (a : Act) (w : World), Code.wp _ _ _ a w → _› : ∀ (a : Act) (w : World), _ → _) _ _ (bent_t43 w _ X hcut)
end Go.Proofs.Ytenngfkgfdogjaa
