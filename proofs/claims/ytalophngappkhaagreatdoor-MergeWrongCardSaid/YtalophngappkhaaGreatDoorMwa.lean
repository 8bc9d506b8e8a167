/- slices.Insert of one block into a row of the call's own. -/
import Derived.Test.YtalophngappkhaaGreatDoorZ28
import Derived.Laws.CopyRow
import Derived.Laws.CopyOwn
import Derived.Lib.AppendZerosOnto
import Derived.Lib.Overlaps
import Derived.Deep.RegionLaw
import Derived.StillTailTactics
set_option linter.unusedVariables false
set_option linter.unusedSimpArgs false
set_option linter.unusedSectionVars false
namespace Go.Proofs.YtalophngappkhaaGreatDoor
open Go Go.RowKit Go.Shelf

theorem run_copyB (w : World) (ty : TypeId) (g o dLen dCap : Nat) (a : Addr) (sLen sCap : Nat) (cur : List Value) (t : TypeId) (cs : List Value) (n : Nat)
    (hg : w.heap[g]? = some (.cells cur.toArray t (0, 0))) (hn : Nat.min sLen dLen = n) (hcs : cs.length = n * 5)
    (hsrc : ∀ j v, cs[j]? = some v → w.cell? (a.add j) = some v) (hfit : o + cs.length ≤ cur.length) (h1 : ∀ v ∈ cs, v.oneCell' = true) :
    (Builtin.copy_ #[30, 30] ty #[.slice (some ⟨g, o, none⟩) dLen dCap, .slice (some a) sLen sCap]).run Tryz.prog w =
      .ok (goInt n) (w.setRow g (splice cur o cs).toArray) := by
  have hl := run_loadCells_list (P := Tryz.prog) w a cs hsrc
  have hst := run_storeCells_at Tryz.prog g o t cs 0 cur.toArray w hg (by simpa using hfit) h1
  obtain ⟨i, z, hi, hz, hsz, hby, hzs⟩ := elemBk.hi
  rw [hcs] at hl
  simp [Builtin.copy_, run_underlying elemBk.ht, Builtin.lenOf, Builtin.firstCells, sizeOf, typeInfo, hi, hsz, hn, hl, hst, splice]
theorem step_copyE {ops : Array Oper} {o : Oper} {a : Act} {w : World} {K : Act → World → Prop} {Q : Exit → Act → World → Prop} {E : Prop}
    (hg : o.guard = none) (d x : Operand) (dT sT : TypeId) (hop : o.op = Op.call { callee := Callee.builtin Builtin.copy, args := #[d, x], argTypes := #[dT, sT] })
    (v u : Value) (hd : a.eval d = v) (hx : a.eval x = u) {v' : Value} {w' : World} (hr : (Builtin.copy_ #[dT, sT] o.type #[v, u]).run Tryz.prog w = .ok v' w') (hK : K (a.put o.dst v') w') :
    if Region.wanted o (yielded ops a.tmps) = true then Oper.wp Tryz.prog o a w K Q else E := by
  have hw : Region.wanted o (yielded ops a.tmps) = true := by simp [Region.wanted, hg]
  rw [if_pos hw]
  unfold Oper.wp
  simp [execOp, hop, resolve, invoke, builtin, hd, hx, hr, Result.andThen]
  exact hK
theorem wpList_copyE {w : World} {ops : Array Oper} {rest : List Oper} {o : Oper} {a : Act} {Q : Exit → Act → World → Prop} (hgd : o.guard = none) (d s : Operand) (t t' : TypeId)
    (ho : o.op = .call { callee := .builtin .copy, args := #[d, s], argTypes := #[t, t'] }) (v u : Value) (hd : a.eval d = v) (hs : a.eval s = u) {v' : Value} {w' : World}
    (hr : (Builtin.copy_ #[t, t'] o.type #[v, u]).run Tryz.prog w = .ok v' w') (h : wpList Tryz.prog ops Q rest (a.put o.dst v') w') : wpList Tryz.prog ops Q (o :: rest) a w :=
  wpList_plain hgd fun _ hK => by
    unfold Oper.wp execOp
    simp only [ho, resolve, invoke, builtin, Sem.run_bind, Sem.run_pure, Result.andThen_ok, List.map_toArray, List.map_cons, List.map_nil, hd, hs, hr]
    exact hK _ _ h
/-- A row of which the front is known reads as its list. -/
theorem EV.of_row {α : Type} {enc : α → List Value} {k : Nat} (hk : ∀ x, (enc x).length = k) {w : World} {g N c : Nat} {cur : List Value} {e : TypeId} {fz : Nat × Nat} {L : List α} (hg : w.heap[g]? = some (.cells cur.toArray e fz)) (ht : cur.take (N * k) = L.flatMap enc) (hL : L.length = N) (hc : N ≤ c) :
    EV enc k w (.slice (some ⟨g, 0, none⟩) N c) L := by
  subst hL
  refine EV.mk (fun i x hx j u hu => ?_) hc
  have h1 := flat_get hk L i x hx j u hu
  rw [← ht] at h1
  have h2 : i * k + j < L.length * k := by
    have := (List.getElem?_eq_some_iff.1 h1).1
    rw [List.length_take] at this; omega
  rw [List.getElem?_take_of_lt h2] at h1
  have := cell_of_row w g (i * k + j) cur.toArray e fz hg
  rw [Nat.zero_add, this]
  simpa using h1
/-- What stands in the row at last. -/
theorem splice_ins {F C A B : List Value} {i n : Nat} (hA : A.length = 5) (hF : F.length = n * 5) (hi : i < n) (hC : C.take (i * 5) = F.take (i * 5)) (hl : (n + 1) * 5 ≤ C.length) (hB : B = F.drop (i * 5)) :
    (splice (splice C ((i + 1) * 5) B) (i * 5) A).take ((n + 1) * 5) = F.take (i * 5) ++ A ++ F.drop (i * 5) ∧ (splice (splice C (i * 5) A) ((i + 1) * 5) B).take ((n + 1) * 5) = F.take (i * 5) ++ A ++ F.drop (i * 5) := by
  subst hB
  have hT : (C.take ((i + 1) * 5)).length = (i + 1) * 5 := by rw [List.length_take]; omega
  have hCl : (C.take (i * 5)).length = i * 5 := by rw [List.length_take]; omega
  have hlen : (F.take (i * 5) ++ A ++ F.drop (i * 5)).length = (n + 1) * 5 := by
    rw [List.length_append, List.length_append, List.length_take, List.length_drop, hA, hF]; omega
  constructor
  · obtain ⟨Z, hZ⟩ : ∃ Z, C.drop ((i + 1) * 5 + (F.drop (i * 5)).length) = Z := ⟨_, rfl⟩
    have e1 : splice C ((i + 1) * 5) (F.drop (i * 5)) = C.take ((i + 1) * 5) ++ (F.drop (i * 5) ++ Z) := by unfold splice; rw [hZ]
    have e2 : (C.take ((i + 1) * 5) ++ (F.drop (i * 5) ++ Z)).take (i * 5) = F.take (i * 5) := by
      rw [List.take_append_of_le_length (by rw [hT]; omega), List.take_take, Nat.min_eq_left (by omega), hC]
    have e3 : (C.take ((i + 1) * 5) ++ (F.drop (i * 5) ++ Z)).drop (i * 5 + A.length) = F.drop (i * 5) ++ Z := by
      rw [hA]; exact List.drop_left' (by rw [hT]; omega)
    rw [e1]
    unfold splice
    rw [e2, e3, show F.take (i * 5) ++ (A ++ (F.drop (i * 5) ++ Z)) = (F.take (i * 5) ++ A ++ F.drop (i * 5)) ++ Z by simp]
    exact List.take_left' hlen
  · obtain ⟨Y, hY⟩ : ∃ Y, C.drop (i * 5 + A.length) = Y := ⟨_, rfl⟩
    have e1 : splice C (i * 5) A = (F.take (i * 5) ++ A) ++ Y := by unfold splice; rw [hY, hC]; simp
    have hFl : (F.take (i * 5) ++ A).length = (i + 1) * 5 := by rw [List.length_append, List.length_take, hA]; omega
    obtain ⟨Z, hZ⟩ : ∃ Z, ((F.take (i * 5) ++ A) ++ Y).drop ((i + 1) * 5 + (F.drop (i * 5)).length) = Z := ⟨_, rfl⟩
    rw [e1]
    unfold splice
    rw [List.take_left' hFl, hZ, show (F.take (i * 5) ++ A) ++ (F.drop (i * 5) ++ Z) = (F.take (i * 5) ++ A ++ F.drop (i * 5)) ++ Z by simp]
    exact List.take_left' hlen

theorem flatB_len (l : List (Sl3 × Bck)) : (l.flatMap encSb).length = l.length * 5 := flat_len encSb_len l
theorem flatB_take (l : List (Sl3 × Bck)) (i : Nat) (h : i ≤ l.length) : (l.flatMap encSb).take (i * 5) = (l.take i).flatMap encSb := by
  have e : l.flatMap encSb = (l.take i).flatMap encSb ++ (l.drop i).flatMap encSb := by rw [← List.flatMap_append, List.take_append_drop]
  rw [e]
  exact List.take_left' (by rw [flatB_len, List.length_take]; omega)
theorem flatB_drop (l : List (Sl3 × Bck)) (i : Nat) (h : i ≤ l.length) : (l.flatMap encSb).drop (i * 5) = (l.drop i).flatMap encSb := by
  have e : l.flatMap encSb = (l.take i).flatMap encSb ++ (l.drop i).flatMap encSb := by rw [← List.flatMap_append, List.take_append_drop]
  rw [e]
  exact List.drop_left' (by rw [flatB_len, List.length_take]; omega)
set_option maxRecDepth 100000 in
set_option maxHeartbeats 2000000 in
/-- At the end of the row. -/
theorem insB_end (w : World) (g n cap base : Nat) (l : List (Sl3 × Bck)) (x : Sl3 × Bck) (m : Nat) (hvm : w.heap[m]? = some (.cells (encSb x).toArray 24 (0, 0))) (hgm : ¬ g = m) (hv : OV encSb 5 24 base w (.slice (some ⟨g, 0, none⟩) n cap) l) (hn : l.length = n) (hn1 : 1 ≤ n) (hlen : n ≤ 1000) (hcap : n ≤ cap) (hbase : base ≤ w.heap.size) :
    Calls Tryz.prog 24 #[.slice (some ⟨g, 0, none⟩) n cap, .int .i64 n, .slice (some ⟨m, 0, none⟩) 1 1] w fun e w' =>
      ∃ v', e = .returned v' ∧ EV encSb 5 w' v' (l ++ [x]) ∧ Mod (fun k => k = g) w w' := by
  have EV1 := Lib.hid (EV.of_row (N := 1) (c := 1) (L := [x]) encSb_len hvm (by rw [List.take_of_length_le (by rw [encSb_len]; omega)]; simp) rfl (Nat.le_refl 1))
  have OV1 := Lib.hid hv
  have M1 := Lib.hid (Mod.refl (fun k => k = g) w)
  have SZ := Lib.hid hbase
  have HN := Lib.hid hn
  clear hv hn hvm
  by_cases hc : cap = n
  all_goals
    go_enter Tryz.func24, Tryz.ntmps24
    go_wp2_with (at_builtin; refine wpList_app elemBk encSb_len encSb_one rfl (.tmp 23) (.tmp 24) rfl _ _ rfl rfl OV1.out EV1.out ?q1 ?q2 ?_)
    case q1 => rw [HN.out]; simp; omega
    case q2 => exact SZ.out
    intro v' w2 o2 g2
    have E2 := Lib.hid (o2.ev encSb_len)
    have M2 := Lib.hid (M1.out.trans_new (T' := fun k => k = g) (Mod.grown g2 (fun k hk => by simp [Value.ownBlock] at hk; exact hk.symm)) (fun _ _ h => h))
    clear o2 g2
    go_wp2
    go_ret
    exact ⟨_, rfl, E2.out, M2.out⟩
theorem ov_raw {e : TypeId} {base : Nat} {w : World} {g n cap : Nat} {l : List (Sl3 × Bck)} (h : OV encSb 5 e base w (.slice (some ⟨g, 0, none⟩) n cap) l) (hn : l.length = n) :
    ∃ cur : List Value, w.heap[g]? = some (.cells cur.toArray e (0, 0)) ∧ cur.length = cap * 5 ∧ cur.take (n * 5) = l.flatMap encSb ∧ n ≤ cap ∧ cap ≤ maxLen ∧ base ≤ g := by
  rcases h.2 with ⟨h0, _⟩ | ⟨g', cap', cur, hv, hb, hg, hnc, hcm, hcs, ht⟩
  · cases h0
  · simp only [Value.slice.injEq, Option.some.injEq, Addr.mk.injEq, and_true] at hv
    obtain ⟨rfl, hn', rfl⟩ := hv
    rw [hn] at ht hnc
    exact ⟨cur.toList, by simpa using hg, by simpa using hcs, ht, hnc, hcm, hb⟩
theorem raw_cell {w : World} {g : Nat} {cur : List Value} {e : TypeId} {fz : Nat × Nat} (h : w.heap[g]? = some (.cells cur.toArray e fz)) {i j : Nat} {u : Value} (hu : (cur.drop i)[j]? = some u) : w.cell? ⟨g, i + j, none⟩ = some u := by
  rw [List.getElem?_drop] at hu
  have := cell_of_row w g (i + j) cur.toArray e fz h
  rw [this]; simpa using hu
theorem flatB_one (l : List (Sl3 × Bck)) : ∀ u ∈ l.flatMap encSb, u.oneCell' = true := fun u hu => by
  obtain ⟨x, _, hx⟩ := List.mem_flatMap.1 hu
  exact encSb_one x u hx
theorem take_drop_flat {cur F : List Value} {n i : Nat} (h : cur.take (n * 5) = F) (hi : i ≤ n) {j : Nat} {u : Value} (hu : (F.drop (i * 5))[j]? = some u) : (cur.drop (i * 5))[j]? = some u := by
  subst h
  rw [List.getElem?_drop] at hu ⊢
  have h2 := (List.getElem?_eq_some_iff.1 hu).1
  rw [List.length_take] at h2
  rwa [List.getElem?_take_of_lt (by omega)] at hu
set_option maxRecDepth 100000 in
set_option maxHeartbeats 4000000 in
/-- Within the row, no room: a new row. -/
theorem insB_grow (W : World) (g n i base : Nat) (l : List (Sl3 × Bck)) (x : Sl3 × Bck) (m : Nat) (hvm : W.heap[m]? = some (.cells (encSb x).toArray 24 (0, 0))) (hgm : ¬ g = m) (hv : OV encSb 5 24 base W (.slice (some ⟨g, 0, none⟩) n n) l) (hn : l.length = n) (hi : i < n) (hlen : n ≤ 1000) :
    Calls Tryz.prog 24 #[.slice (some ⟨g, 0, none⟩) n n, .int .i64 i, .slice (some ⟨m, 0, none⟩) 1 1] W fun e w' =>
      ∃ v', e = .returned v' ∧ EV encSb 5 w' v' (l.take i ++ [x] ++ l.drop i) ∧ Mod (fun k => k = g) W w' := by
  obtain ⟨cur, r1, r2, r3, r4, r5, r6⟩ := ov_raw hv hn
  have hgl := (Array.getElem?_eq_some_iff.1 r1).1
  have hml := (Array.getElem?_eq_some_iff.1 hvm).1
  have M1 := Lib.hid (Mod.refl (fun k => k = g) W)
  obtain ⟨F, hF⟩ : ∃ F, l.flatMap encSb = F := ⟨_, rfl⟩
  have hFl : F.length = n * 5 := by rw [← hF, flatB_len, hn]
  have hF1 : ∀ u ∈ F, u.oneCell' = true := hF ▸ flatB_one l
  rw [hF] at r3
  obtain ⟨ti, z, e1, e2, e3, e4, e5⟩ := elemBk.hi
  obtain ⟨cg, hcg⟩ : ∃ cg, grownCap W (n + 1) n 24 = cg := ⟨_, rfl⟩
  have hcgn : n + 1 ≤ cg := by rw [← hcg]; exact grownCap_ge _ _ _ _
  obtain ⟨C, hC⟩ : ∃ C : List Value, (((F.take (i * 5)).toArray ++ Builtin.zeroCells z.cells (n + 1 - i) ++ Builtin.zeroCells z.cells (cg - (n + 1)))).toList = C := ⟨_, rfl⟩
  have hCt : C.take (i * 5) = F.take (i * 5) := by
    rw [← hC]; simp only [Array.toList_append, List.append_assoc]
    exact List.take_left' (by rw [List.length_take]; omega)
  have hCl : (n + 1) * 5 ≤ C.length := by
    rw [← hC]; simp only [Array.toList_append, List.length_append, Array.length_toList, size_zeroCells, List.size_toArray, List.length_take, e5, e3]; omega
  have hz : ∀ ty, (Builtin.append_ #[30, 3] ty #[.slice (some ⟨g, 0, none⟩) i n, .int .i64 ((n : Int) + 1 - (i : Int))]).run Tryz.prog W =
      .ok (.slice (some ⟨W.heap.size, 0, none⟩) (n + 1) cg) (W.drew.alloc (.cells C.toArray 24)) := fun ty => by
    have := Lib.run_append_grow_zeros (P := Tryz.prog) W 30 3 ty 24 ti z .i64 .i64 elemBk.ht Tryz.underlying3 e1 e2 (some ⟨g, 0, none⟩) i n (F.take (i * 5))
      (run_firstCells_some (w := W.drew) ti.size i ⟨g, 0, none⟩ i n (F.take (i * 5)) (by rw [e3, List.length_take]; omega) (fun j v hj => by
        rw [Addr.add_lit]
        have hj2 := (List.getElem?_eq_some_iff.1 hj).1
        rw [List.length_take] at hj2
        rw [List.getElem?_take_of_lt (by omega)] at hj
        exact raw_cell (w := W.drew) r1 (i := 0) (by rw [List.drop_zero]; rw [← r3, List.getElem?_take_of_lt (by omega)] at hj; exact hj)))
      (n + 1 - i) (by omega) (by omega) (by omega) (by omega) (by rw [e4]; omega) (growslice_fits (by omega) (by rw [e4]; omega))
    rw [show i + (n + 1 - i) = n + 1 by omega, hcg] at this
    rw [show (n : Int) + 1 - (i : Int) = ((n + 1 - i : Nat) : Int) by omega, this, ← hC]
  have hX := heap_alloc_new W.drew (.cells C.toArray 24)
  have hWg := (Below.heap_alloc W.drew (.cells C.toArray 24) g (by show g < W.heap.size; omega)).trans r1
  have hWm := (Below.heap_alloc W.drew (.cells C.toArray 24) m (by show m < W.heap.size; omega)).trans hvm
  have MW : Mod (fun k => k = g) W (W.drew.alloc (.cells C.toArray 24)) := (M1.out.trans Mod.drew).trans (Mod.alloc _)
  have hX : (W.drew.alloc (.cells C.toArray 24)).heap[W.heap.size]? = some (.cells C.toArray 24 (0, 0)) := hX
  obtain ⟨X, hXe⟩ : ∃ X, W.heap.size = X := ⟨_, rfl⟩
  have hgX : g < X ∧ m < X ∧ W.heap.size ≤ X := by omega
  rw [hXe] at hX hz
  generalize hW2 : W.drew.alloc (.cells C.toArray 24) = W2 at hX hWg hWm MW hz
  have hc1 : ∀ ty dc, (Builtin.copy_ #[30, 30] ty #[.slice (some ⟨X, i * 5, none⟩) (n + 1 - i) dc, .slice (some ⟨m, 0, none⟩) 1 1]).run Tryz.prog W2 = .ok (goInt 1) (W2.setRow X (splice C (i * 5) (encSb x)).toArray) := fun ty dc =>
    run_copyB W2 ty X (i * 5) (n + 1 - i) dc ⟨m, 0, none⟩ 1 1 C 24 (encSb x) 1 hX (Nat.min_eq_left (by omega)) rfl (fun j v hj => by
      rw [Addr.add_lit]
      exact raw_cell (cur := (encSb x)) hWm (i := 0) (by simpa using hj)) (by rw [encSb_len]; omega) (encSb_one x)
  have hX3 := setRow_heap W2 X C.toArray (splice C (i * 5) (encSb x)).toArray 24 (0, 0) hX
  have hg3 := (setRow_other W2 X g (splice C (i * 5) (encSb x)).toArray (by omega)).trans hWg
  have M3 : Mod (fun k => k = X) W2 (W2.setRow X (splice C (i * 5) (encSb x)).toArray) := ⟨rfl, rfl, rfl, by simp [World.setRow], fun k hk ht => setRow_other _ _ _ _ ht⟩
  have hl1 : (splice C (i * 5) (encSb x)).length = C.length := length_splice _ _ _ (by rw [encSb_len]; omega)
  have SP := Lib.hid ((splice_ins (F := F) (C := C) (A := (encSb x)) (B := F.drop (i * 5)) rfl hFl hi hCt hCl rfl).2)
  obtain ⟨C1, hC1⟩ : ∃ C1, splice C (i * 5) (encSb x) = C1 := ⟨_, rfl⟩
  rw [hC1] at hc1 hX3 hg3 M3 hl1 SP
  generalize hW3 : W2.setRow X C1.toArray = W3 at hc1 hX3 hg3 M3
  have hc2 : ∀ (W4 : World), W4.heap = W3.heap → ∀ ty dc sc, (Builtin.copy_ #[30, 30] ty #[.slice (some ⟨X, (i + 1) * 5, none⟩) (n - i) dc, .slice (some ⟨g, i * 5, none⟩) (n - i) sc]).run Tryz.prog W4 = .ok (goInt ((n - i : Nat) : Int)) (W4.setRow X (splice C1 ((i + 1) * 5) (F.drop (i * 5))).toArray) := fun W4 h4 ty dc sc =>
    run_copyB W4 ty X ((i + 1) * 5) (n - i) dc ⟨g, i * 5, none⟩ (n - i) sc C1 24 (F.drop (i * 5)) (n - i) (by rw [h4]; exact hX3) (by show min (n - i) (n - i) = n - i; omega) (by rw [List.length_drop, hFl]; omega) (fun j v hj => by
      rw [Addr.add_lit]
      exact raw_cell (w := W4) (by rw [h4]; exact hg3) (take_drop_flat r3 (by omega) hj)) (by rw [List.length_drop, hFl, hl1]; omega) (fun v hv => hF1 v (List.mem_of_mem_drop hv))
  have FIN := Lib.hid (show ∀ (W4 : World), W4.heap = W3.heap → W4.os = W3.os → W4.tape = W3.tape → W4.output = W3.output → EV encSb 5 (W4.setRow X (splice C1 ((i + 1) * 5) (F.drop (i * 5))).toArray) (.slice (some ⟨X, 0, none⟩) (n + 1) cg) (l.take i ++ [x] ++ l.drop i) ∧ Mod (fun k => k = g) W (W4.setRow X (splice C1 ((i + 1) * 5) (F.drop (i * 5))).toArray) from fun W4 h4 h5 h6 h7 => by
    refine ⟨EV.of_row encSb_len (setRow_heap W4 X C1.toArray _ 24 (0, 0) (by rw [h4]; exact hX3)) (SP.out.trans ?_) (by simp; omega) hcgn, ?_⟩
    · rw [← hF, flatB_take _ _ (by omega), flatB_drop _ _ (by omega), List.flatMap_append, List.flatMap_append]; rfl
    · have m4 : Mod (fun k => k = X) W2 (W4.setRow X (splice C1 ((i + 1) * 5) (F.drop (i * 5))).toArray) := by
        refine M3.trans ⟨h5, h6, h7, by simp [World.setRow, h4], fun k hk ht => (setRow_other _ _ _ _ ht).trans (by rw [h4])⟩
      exact MW.trans_new m4 (fun k hk t => by omega))
  have w1 : IntKind.i64.wrap ((n : Int) + 1) = (n : Int) + 1 := IntWalk.i64_in _ (by omega)
  have w2 : IntKind.i64.wrap ((n : Int) + 1 - (i : Int)) = (n : Int) + 1 - (i : Int) := IntWalk.i64_in _ (by omega)
  have w3 : IntKind.i64.wrap ((i : Int) + 1) = (i : Int) + 1 := IntWalk.i64_in _ (by omega)
  have w4 : (0 : Int) ≤ (i : Int) + 1 := by omega
  have w5 : ((i : Int) + 1).toNat = i + 1 := by omega
  have x1 : ¬ cg = i := by omega
  have x2 : ¬ cg = i + 1 := by omega
  have x3 : ¬ n = i := by omega
  have x4 : ((i : Int) == (n : Int)) = false := by simp; omega
  have x5 : (i : Int) ≤ (n : Int) := by omega
  have x6 : (i : Int) + 1 ≤ (n : Int) + 1 := by omega
  have x7 : i ≤ n + 1 := by omega
  have x8 : i + 1 ≤ n + 1 := by omega
  have HC2 := Lib.hid (fun ty => hc2 W3.drew rfl ty (cg - (i + 1)) (n - i))
  have HC1 := Lib.hid hc1
  have HZ := Lib.hid hz
  have HG := Lib.hid hcgn
  clear hz hc1 hc2 hX hWg hWm MW hX3 hg3 M3 SP hC1 hl1 hCt hCl hC hcg hcgn r1 r2 r3 r4 r5 r6 hgl M1 hvm hF hFl hF1 e1 e2 e3 e4 e5 hW2 hXe hgX hml hn hv
  go_enter Tryz.func24, Tryz.ntmps24
  go_wp2_with (at_builtin; refine Lib.wpList_append_run W rfl (.tmp 34) (.tmp 39) 30 3 rfl _ _ rfl rfl _ _ (HZ.out _) ?_)
  rw [HC1.out]
  go_wp2_with fail
  go_still_tail 8, (by kernel_rfl)
  change wpList _ _ _ _ _ W3.drew
  go_wp2_with fail
  rw [HC2.out]
  all_goals
    go_wp2
    go_ret
    first
      | exact ⟨_, rfl, FIN.out W3.drew rfl rfl rfl rfl⟩
      | exact ⟨_, rfl, FIN.out _ rfl rfl rfl rfl⟩
set_option maxRecDepth 100000 in
set_option maxHeartbeats 4000000 in
theorem insB_room (W : World) (g n cap i base : Nat) (l : List (Sl3 × Bck)) (x : Sl3 × Bck) (m : Nat) (hvm : W.heap[m]? = some (.cells (encSb x).toArray 24 (0, 0))) (hgm : ¬ g = m) (hv : OV encSb 5 24 base W (.slice (some ⟨g, 0, none⟩) n cap) l) (hn : l.length = n) (hi : i < n) (hlen : n ≤ 1000) (hroom : n + 1 ≤ cap) :
    Calls Tryz.prog 24 #[.slice (some ⟨g, 0, none⟩) n cap, .int .i64 i, .slice (some ⟨m, 0, none⟩) 1 1] W fun e w' =>
      ∃ v', e = .returned v' ∧ EV encSb 5 w' v' (l.take i ++ [x] ++ l.drop i) ∧ Mod (fun k => k = g) W w' := by
  obtain ⟨cur, r1, r2, r3, r4, r5, r6⟩ := ov_raw hv hn
  unfold maxLen at r5
  have hgl := (Array.getElem?_eq_some_iff.1 r1).1
  have hml := (Array.getElem?_eq_some_iff.1 hvm).1
  have M1 := Lib.hid (Mod.refl (fun k => k = g) W)
  obtain ⟨F, hF⟩ : ∃ F, l.flatMap encSb = F := ⟨_, rfl⟩
  have hFl : F.length = n * 5 := by rw [← hF, flatB_len, hn]
  have hF1 : ∀ u ∈ F, u.oneCell' = true := hF ▸ flatB_one l
  rw [hF] at r3
  obtain ⟨ti, z, e1, e2, e3, e4, e5⟩ := elemBk.hi
  have hov : ∀ lb cb, (callFunc 58 #[.slice (some ⟨m, 0, none⟩) 1 1, .slice (some ⟨g, (i + 1) * 5, none⟩) lb cb]).run Tryz.prog W = .ok (.value (.bool false)) W := fun lb cb => by
    rw [run_callFunc_extern Tryz.func58 (by kernel_rfl) (by kernel_rfl) (by kernel_rfl) (e := Extern.SlicesOverlaps.overlaps #[30, 30] #[4]) (by kernel_rfl),
      Lib.run_overlaps_apart W 30 4 24 elemBk.ht 5 (fun w => by simp [sizeOf, typeInfo, e1, e3]) ⟨m, 0, none⟩ ⟨g, (i + 1) * 5, none⟩ 1 1 lb cb (fun h => hgm h.symm) 24 24 5 cur.length (by simp [World.shape?, hvm, encSb_len]) (by simp [World.shape?, r1]) (by omega) (Blk.frozen hvm 0) (Blk.frozen hvm 5)]
    rfl
  have hc1 : ∀ ty dc sc, (Builtin.copy_ #[30, 30] ty #[.slice (some ⟨g, (i + 1) * 5, none⟩) (n - i) dc, .slice (some ⟨g, i * 5, none⟩) (n + 1 - i) sc]).run Tryz.prog W.drew = .ok (goInt ((n - i : Nat) : Int)) (W.drew.setRow g (splice cur ((i + 1) * 5) (F.drop (i * 5))).toArray) := fun ty dc sc =>
    run_copyB W.drew ty g ((i + 1) * 5) (n - i) dc ⟨g, i * 5, none⟩ (n + 1 - i) sc cur 24 (F.drop (i * 5)) (n - i) r1 (by show min (n + 1 - i) (n - i) = n - i; omega) (by rw [List.length_drop, hFl]; omega) (fun j v hj => by
      rw [Addr.add_lit]
      exact raw_cell (w := W.drew) r1 (take_drop_flat r3 (by omega) hj)) (by rw [List.length_drop, hFl, r2]; omega) (fun v hv => hF1 v (List.mem_of_mem_drop hv))
  have hX3 := setRow_heap W.drew g cur.toArray (splice cur ((i + 1) * 5) (F.drop (i * 5))).toArray 24 (0, 0) r1
  have hm3 := (setRow_other W.drew g m (splice cur ((i + 1) * 5) (F.drop (i * 5))).toArray (fun h => hgm h.symm)).trans hvm
  have M3 : Mod (fun k => k = g) W (W.drew.setRow g (splice cur ((i + 1) * 5) (F.drop (i * 5))).toArray) := (M1.out.trans Mod.drew).trans ⟨rfl, rfl, rfl, by simp [World.setRow], fun k hk ht => setRow_other _ _ _ _ ht⟩
  have hl1 : (splice cur ((i + 1) * 5) (F.drop (i * 5))).length = cur.length := length_splice _ _ _ (by rw [List.length_drop, hFl]; omega)
  have hct : cur.take (i * 5) = F.take (i * 5) := by rw [← r3, List.take_take, Nat.min_eq_left (by omega)]
  have SP := Lib.hid ((splice_ins (F := F) (C := cur) (A := (encSb x)) (B := F.drop (i * 5)) rfl hFl hi hct (by omega) rfl).1)
  obtain ⟨C1, hC1⟩ : ∃ C1, splice cur ((i + 1) * 5) (F.drop (i * 5)) = C1 := ⟨_, rfl⟩
  rw [hC1] at hc1 hX3 hm3 M3 hl1 SP
  generalize hW3 : W.drew.setRow g C1.toArray = W3 at hc1 hX3 hm3 M3
  have hc2 : ∀ ty dc, (Builtin.copy_ #[30, 30] ty #[.slice (some ⟨g, i * 5, none⟩) (n + 1 - i) dc, .slice (some ⟨m, 0, none⟩) 1 1]).run Tryz.prog W3 = .ok (goInt 1) (W3.setRow g (splice C1 (i * 5) (encSb x)).toArray) := fun ty dc =>
    run_copyB W3 ty g (i * 5) (n + 1 - i) dc ⟨m, 0, none⟩ 1 1 C1 24 (encSb x) 1 hX3 (Nat.min_eq_left (by omega)) rfl (fun j v hj => by
      rw [Addr.add_lit]
      exact raw_cell (cur := (encSb x)) hm3 (i := 0) (by simpa using hj)) (by rw [encSb_len]; omega) (encSb_one x)
  have FIN := Lib.hid (show EV encSb 5 (W3.setRow g (splice C1 (i * 5) (encSb x)).toArray) (.slice (some ⟨g, 0, none⟩) (n + 1) cap) (l.take i ++ [x] ++ l.drop i) ∧ Mod (fun k => k = g) W (W3.setRow g (splice C1 (i * 5) (encSb x)).toArray) from by
    refine ⟨EV.of_row encSb_len (setRow_heap W3 g C1.toArray _ 24 (0, 0) hX3) (SP.out.trans ?_) (by simp; omega) hroom, ?_⟩
    · rw [← hF, flatB_take _ _ (by omega), flatB_drop _ _ (by omega), List.flatMap_append, List.flatMap_append]; rfl
    · exact M3.trans ⟨rfl, rfl, rfl, by simp [World.setRow], fun k hk ht => setRow_other _ _ _ _ ht⟩)
  have w1 : IntKind.i64.wrap ((n : Int) + 1) = (n : Int) + 1 := IntWalk.i64_in _ (by omega)
  have w3 : IntKind.i64.wrap ((i : Int) + 1) = (i : Int) + 1 := IntWalk.i64_in _ (by omega)
  have w4 : (0 : Int) ≤ (i : Int) + 1 := by omega
  have w5 : ((i : Int) + 1).toNat = i + 1 := by omega
  have w6 : (0 : Int) ≤ (n : Int) + 1 := by omega
  have w7 : ((n : Int) + 1).toNat = n + 1 := by omega
  have w8 : (n : Int) + 1 ≤ (cap : Int) := by omega
  have w9 : decide ((cap : Int) < (n : Int) + 1) = false := by rw [decide_eq_false_iff_not]; omega
  have x1 : ¬ cap = i := by omega
  have x2 : ¬ cap = i + 1 := by omega
  have x4 : ((i : Int) == (n : Int)) = false := by simp; omega
  have x5 : (i : Int) ≤ (n : Int) := by omega
  have x6 : (i : Int) + 1 ≤ (n : Int) + 1 := by omega
  have x9 : (i : Int) ≤ (n : Int) + 1 := by omega
  have HC2 := Lib.hid hc2
  have HC1 := Lib.hid (fun ty => hc1 ty (cap - (i + 1)) (cap - i))
  clear hc1 hc2 hX3 hm3 M3 SP hC1 hl1 hct r1 r2 r3 r4 r5 r6 hgl M1 hvm hF hFl hF1 e1 e2 e3 e4 e5 hgm hml hn hv
  go_enter Tryz.func24, Tryz.ntmps24
  go_wp2_with (simp only [hov])
  go_still_tail 8, (by kernel_rfl)
  change wpList _ _ _ _ _ W.drew
  go_wp2_with fail
  rw [HC1.out]
  go_wp2_with fail
  rw [HC2.out]
  go_wp2_with fail
  go_ret
  exact ⟨_, rfl, FIN.out⟩

/-- slices.Insert of one block, as the walk meets it. -/
theorem insert_bk (w : World) (g n cap i base : Nat) (l : List (Sl3 × Bck)) (x : Sl3 × Bck) (m : Nat) (hvm : w.heap[m]? = some (.cells (encSb x).toArray 24 (0, 0))) (hgm : ¬ g = m) (hv : OV encSb 5 24 base w (.slice (some ⟨g, 0, none⟩) n cap) l) (hn : l.length = n) (hi : i ≤ n) (hn1 : 1 ≤ n) (hlen : n ≤ 1000) (hbase : base ≤ w.heap.size) :
    Calls Tryz.prog 24 #[.slice (some ⟨g, 0, none⟩) n cap, .int .i64 i, .slice (some ⟨m, 0, none⟩) 1 1] w fun e w' =>
      ∃ v', e = .returned v' ∧ EV encSb 5 w' v' (l.take i ++ [x] ++ l.drop i) ∧ Mod (fun k => k = g) w w' := by
  obtain ⟨cur, r1, r2, r3, r4, r5, r6⟩ := ov_raw hv hn
  by_cases h : i = n
  · subst h
    have := insB_end w g i cap base l x m hvm hgm hv hn hn1 hlen r4 hbase
    rwa [List.take_of_length_le (by omega), List.drop_eq_nil_of_le (by omega), List.append_nil]
  · by_cases h2 : n + 1 ≤ cap
    · exact insB_room w g n cap i base l x m hvm hgm hv hn (by omega) hlen h2
    · obtain rfl : cap = n := by omega
      exact insB_grow w g cap i base l x m hvm hgm hv hn (by omega) hlen
end Go.Proofs.YtalophngappkhaaGreatDoor
