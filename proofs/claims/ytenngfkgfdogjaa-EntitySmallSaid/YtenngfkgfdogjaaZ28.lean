/- Taking the operations of a region that draws in the text's order, one by one, by their slots | What a walk is: from the root down to a task that is ready | The law's own search for a task | EntityWalk's plain law: there is a walk just if a task is ready; the first of a queue. -/
import Derived.Test.YtenngfkgfdogjaaZ1
import Derived.Deep.RegionHeld3
import Derived.Test.YtenngfkgfdogjaaZ27
set_option linter.unusedVariables false
set_option linter.unusedSimpArgs false
set_option linter.unusedSectionVars false
namespace Go.Proofs.Ytenngfkgfdogjaa
open Go Go.RowKit

section
variable {P : Program} {ops : Array Oper} {Q : Exit → Act → World → Prop} {md : Region.Mode} {S : World → Prop}
theorem wpAnyH_takeU {i : Nat} {d : Option Tmp} {fuel : Nat} {listed : Array Bool} {a : Act} {w : World} (hd : (ops[i]?).map (fun o => (o.dst, Region.wanted o (yielded ops a.tmps))) = some (d, false))
    (hs : Region.noSelect ops = true) (hf : Region.free md ops listed i = true) (hr : (Region.ready md ops listed).contains i = true)
    (hQ : ∀ c a w, Q (.panic c) (a.put d undef) w → Q (.panic c) a w) (hS : S w)
    (h : wpAnyH P md ops Q S fuel (listed.setIfInBounds i true) (a.put d undef) w) : wpAnyH P md ops Q S (fuel + 1) listed a w := by
  obtain ⟨o, ho, he⟩ := Option.map_eq_some_iff.1 hd
  simp only [Prod.mk.injEq] at he
  obtain ⟨rfl, hw⟩ := he
  exact wpAnyH_take ho hs hf hr hQ (.inr ⟨hw, rfl⟩) hS h
theorem wpAnyH_takeW {i : Nat} {d : Option Tmp} {v : Value} {fuel : Nat} {listed : Array Bool} {a : Act} {w : World} (hd : (ops[i]?).map (fun o => (o.dst, Region.wanted o (yielded ops a.tmps))) = some (d, true))
    (hs : Region.noSelect ops = true) (hf : Region.free md ops listed i = true) (hr : (Region.ready md ops listed).contains i = true)
    (hQ : ∀ c a w, Q (.panic c) (a.put d v) w → Q (.panic c) a w) (hy : ∀ o, ops[i]? = some o → ∀ w, S w → (execOp a.eval o).run P w = .ok (.value v) w) (hS : S w)
    (h : wpAnyH P md ops Q S fuel (listed.setIfInBounds i true) (a.put d v) w) : wpAnyH P md ops Q S (fuel + 1) listed a w := by
  obtain ⟨o, ho, he⟩ := Option.map_eq_some_iff.1 hd
  simp only [Prod.mk.injEq] at he
  obtain ⟨rfl, hw⟩ := he
  exact wpAnyH_take ho hs hf hr hQ (.inl ⟨hw, hy o ho⟩) hS h
end
end Go.Proofs.Ytenngfkgfdogjaa
namespace Go.Proofs.Ytenngfkgfdogjaa
open Go Go.RowKit Go.Shelf

/-- From group g the walk goes through the groups q to the task t. -/
inductive WalkR (s : St) (cpu : Int) : Nat → List Ky → List Nat → Tk → Prop
  | last (g : Nat) (t : Tk) (l : List Ky) (hg : g < s.gs.length) (hm : memL s g cpu = tkKey t :: l) (ht : t ∈ s.ts) (hr : t.rdy = true ∧ t.cpu = cpu) (he : t.g = (g : Int)) : WalkR s cpu g [tkKey t] [g] t
  | step (g x : Nat) (l ws : List Ky) (q : List Nat) (t : Tk) (hg : g < s.gs.length) (h0 : 0 < x) (hx : x < s.gs.length) (hp : par s.gs x = (g : Int)) (hm : memL s g cpu = spKey s cpu x :: l) (h : WalkR s cpu x ws q t) : WalkR s cpu g (spKey s cpu x :: ws) (g :: q) t
theorem walk_spec {s : St} (h : Shp s) (cpu : Int) : ∀ f g : Nat, g < s.gs.length → WOk s (memL s g cpu) f → 0 < (memL s g cpu).length → ∃ q t, WalkR s cpu g (nextW s cpu (memL s g cpu) f) q t := by
  intro f
  induction f using Nat.strongRecOn with
  | _ f ih =>
    intro g hg hw hp
    rcases hm : memL s g cpu with _ | ⟨k, l⟩
    · rw [hm] at hp; exact absurd hp (by decide)
    · have hk : k ∈ memL s g cpu := by rw [hm]; exact List.mem_cons_self ..
      rw [hm] at hw
      rcases memL_mem.1 hk with ⟨t, ht, hr, he, rfl⟩ | ⟨x, hx, hc, rfl⟩
      · rw [nextW_task rfl]
        exact ⟨[g], t, .last g t l hg hm ht hr he⟩
      · obtain ⟨f', rfl, hw', e⟩ := wok_next h (cpu := cpu) hw rfl
        rw [e]
        unfold isCh at hc
        simp only [Bool.and_eq_true, decide_eq_true_eq] at hc
        have hf := hc.2
        rw [memL_fill h hx, decide_eq_true_eq] at hf
        obtain ⟨q, t, hq⟩ := ih f' (by omega) x hx hw' hf
        exact ⟨g :: q, t, .step g x l _ q t hg hc.1.1 hx hc.1.2 hm hq⟩
section
variable {s : St} {cpu : Int} {g : Nat} {ws : List Ky} {q : List Nat} {t : Tk}
theorem WalkR.len (h : WalkR s cpu g ws q t) : q.length = ws.length := by
  induction h with
  | last => rfl
  | step _ _ _ _ _ _ _ _ _ _ _ _ ih => rw [List.length_cons, List.length_cons, ih]
theorem WalkR.pos (h : WalkR s cpu g ws q t) : 0 < ws.length := by
  cases h <;> simp
theorem WalkR.task (h : WalkR s cpu g ws q t) : t ∈ s.ts ∧ t.rdy = true ∧ t.cpu = cpu := by
  induction h with
  | last _ _ _ _ _ ht hr => exact ⟨ht, hr⟩
  | step _ _ _ _ _ _ _ _ _ _ _ _ ih => exact ih
theorem WalkR.head (h : WalkR s cpu g ws q t) : q[0]? = some g := by
  cases h <;> rfl
theorem WalkR.lst (h : WalkR s cpu g ws q t) : ws[ws.length - 1]? = some (tkKey t) := by
  induction h with
  | last => rfl
  | step _ _ _ ws _ _ _ _ _ _ _ h ih =>
    have := h.pos
    rw [List.length_cons, Nat.add_sub_cancel]
    obtain ⟨n, hn⟩ : ∃ n, ws.length = n + 1 := ⟨ws.length - 1, by omega⟩
    rw [hn, Nat.add_sub_cancel] at ih
    rw [hn, List.getElem?_cons_succ]; exact ih
/-- The groups are the task's path, from above. -/
theorem WalkR.way (hs : Shp s) (h : WalkR s cpu g ws q t) : path s.gs t.g.toNat = q.reverse ++ (path s.gs g).tail := by
  induction h with
  | last g t l hg _ _ _ he =>
    rw [he, Int.toNat_natCast]
    have := path_head hs.bef hg
    cases hp : path s.gs g with
    | nil => rw [hp] at this; cases this
    | cons a r => rw [hp] at this; cases this; rfl
  | step g x l ws q t hg h0 hx hp _ _ ih =>
    rw [ih, List.reverse_cons, List.append_assoc, path_succ hs.bef h0 hx, hp, Int.toNat_natCast, List.tail_cons]
    congr 1
    have := path_head hs.bef hg
    cases hq : path s.gs g with
    | nil => rw [hq] at this; cases this
    | cons a r => rw [hq] at this; cases this; rfl
/-- Each key is the first of its queue. -/
theorem WalkR.fst (h : WalkR s cpu g ws q t) : ∀ (i : Nat) (k : Ky), ws[i]? = some k → ∃ (x : Nat) (l : List Ky), q[i]? = some x ∧ x < s.gs.length ∧ memL s x cpu = k :: l := by
  induction h with
  | last g t l hg hm =>
    intro i k hk
    rcases i with _ | i
    · cases hk; exact ⟨g, l, rfl, hg, hm⟩
    · simp at hk
  | step g x l ws q t hg h0 hx hp hm _ ih =>
    intro i k hk
    rcases i with _ | i
    · cases hk; exact ⟨g, l, rfl, hg, hm⟩
    · exact ih i k hk
/-- Each key but the last is the next group's spot. -/
theorem WalkR.nxt (h : WalkR s cpu g ws q t) : ∀ (i : Nat) (k : Ky), i + 1 < ws.length → ws[i]? = some k → ∃ x : Nat, q[i + 1]? = some x ∧ x < s.gs.length ∧ k = spKey s cpu x := by
  induction h with
  | last => intro i k hi; simp at hi
  | step g x l ws q t hg h0 hx hp hm h ih =>
    intro i k hi hk
    rcases i with _ | i
    · cases hk; exact ⟨x, h.head, hx, rfl⟩
    · exact ih i k (by simp at hi; omega) hk
end
end Go.Proofs.Ytenngfkgfdogjaa
namespace Go.Proofs.Ytenngfkgfdogjaa
open Go Go.RowKit Go.Shelf
attribute [local go_sem] Oper.semAt_some

theorem load_tk {w : World} {Y : Nat} {t : Tk} (q0 : w.cell? ⟨Y, 0, none⟩ = some (.int .i64 t.id)) (q1 : w.cell? ⟨Y, 1, none⟩ = some (.int .i64 t.g)) (q2 : w.cell? ⟨Y, 2, none⟩ = some (.int .i64 t.wt)) (q3 : w.cell? ⟨Y, 3, none⟩ = some (.int .i64 t.cpu)) (q4 : w.cell? ⟨Y, 4, none⟩ = some (.int .u64 t.mask)) (q5 : w.cell? ⟨Y, 5, none⟩ = some (.bool t.rdy)) (q6 : w.cell? ⟨Y, 6, none⟩ = some (.int .u64 t.v)) (q7 : w.cell? ⟨Y, 7, none⟩ = some (.int .u32 t.r)) :
    (loadVar 61 ⟨Y, 0, none⟩).run Try.prog w = .ok (.agg #[.int .i64 t.id, .int .i64 t.g, .int .i64 t.wt, .int .i64 t.cpu, .int .u64 t.mask, .bool t.rdy, .int .u64 t.v, .int .u32 t.r]) w := by
  have h1 : (isAgg 61).run Try.prog w = .ok true w := by kernel_rfl
  have h2 : (Go.sizeOf 61).run Try.prog w = .ok 8 w := by kernel_rfl
  unfold loadVar
  simp [Sem.run_bind, h1, h2, Result.andThen, loadCells, loadCellsFrom, go_sem, q0, q1, q2, q3, q4, q5, q6, q7]
theorem load_set8 {w : World} {Y : Nat} (t : Tk) {u0 : Value} (y0 : w.cell? ⟨Y, 0, none⟩ = some u0) {u1 : Value} (y1 : w.cell? ⟨Y, 1, none⟩ = some u1) {u2 : Value} (y2 : w.cell? ⟨Y, 2, none⟩ = some u2) {u3 : Value} (y3 : w.cell? ⟨Y, 3, none⟩ = some u3) {u4 : Value} (y4 : w.cell? ⟨Y, 4, none⟩ = some u4) {u5 : Value} (y5 : w.cell? ⟨Y, 5, none⟩ = some u5) {u6 : Value} (y6 : w.cell? ⟨Y, 6, none⟩ = some u6) {u7 : Value} (y7 : w.cell? ⟨Y, 7, none⟩ = some u7) :
    (loadVar 61 ⟨Y, 0, none⟩).run Try.prog ((((((((w.setCell ⟨Y, 0, none⟩ (.int .i64 t.id)).setCell ⟨Y, 1, none⟩ (.int .i64 t.g)).setCell ⟨Y, 2, none⟩ (.int .i64 t.wt)).setCell ⟨Y, 3, none⟩ (.int .i64 t.cpu)).setCell ⟨Y, 4, none⟩ (.int .u64 t.mask)).setCell ⟨Y, 5, none⟩ (.bool t.rdy)).setCell ⟨Y, 6, none⟩ (.int .u64 t.v)).setCell ⟨Y, 7, none⟩ (.int .u32 t.r)) = .ok (.agg #[.int .i64 t.id, .int .i64 t.g, .int .i64 t.wt, .int .i64 t.cpu, .int .u64 t.mask, .bool t.rdy, .int .u64 t.v, .int .u32 t.r]) ((((((((w.setCell ⟨Y, 0, none⟩ (.int .i64 t.id)).setCell ⟨Y, 1, none⟩ (.int .i64 t.g)).setCell ⟨Y, 2, none⟩ (.int .i64 t.wt)).setCell ⟨Y, 3, none⟩ (.int .i64 t.cpu)).setCell ⟨Y, 4, none⟩ (.int .u64 t.mask)).setCell ⟨Y, 5, none⟩ (.bool t.rdy)).setCell ⟨Y, 6, none⟩ (.int .u64 t.v)).setCell ⟨Y, 7, none⟩ (.int .u32 t.r)) := by
  refine load_tk ?_ ?_ ?_ ?_ ?_ ?_ ?_ ?_
  all_goals go_simp
set_option maxRecDepth 100000 in
set_option maxHeartbeats 3200000 in
theorem task_ok (w : World) (c : StC) (s : St) (id : Int) (hat : StAt w c s) (hl : s.ts.length ≤ 65535) :
    Calls Try.prog 26 #[c.val s, .int .i64 id] w fun e w' => ((∃ t : Tk, t ∈ s.ts ∧ t.id = id ∧ e = .returned (.tuple #[.agg #[.int .i64 t.id, .int .i64 t.g, .int .i64 t.wt, .int .i64 t.cpu, .int .u64 t.mask, .bool t.rdy, .int .u64 t.v, .int .u32 t.r], .bool true])) ∨ (∀ t ∈ s.ts, t.id ≠ id) ∧ e = .returned (.tuple #[.agg #[.int .i64 0, .int .i64 0, .int .i64 0, .int .i64 0, .int .u64 0, .bool false, .int .u64 0, .int .u32 0], .bool false])) ∧ Below w.heap.size w w' := by
  have A1 := bel_alloc w (.cells (c.cells s) 38)
  have BX := StBox.new w c s
  have hat := hat.below A1
  obtain ⟨vg, vc, vu, vt, vs⟩ := c
  obtain ⟨T, hT⟩ : ∃ T, s.ts.length = T := ⟨_, rfl⟩
  have HT := Lib.hid hT
  obtain ⟨At, ct, hvt⟩ := hat.et.shape
  rw [hT] at hvt hl
  dsimp only at hvt
  subst hvt
  unfold StC.val StC.cells at *
  dsimp only at *
  have HA := Lib.hid hat
  clear hat hT
  go_enter Try.func26, Try.ntmps26
  go_upto_region 1 with fail
  have Z := heap_alloc_new (w.alloc (.cells #[.int .i64 s.n, .int .u64 s.cr, vg, vc, vu, .slice At T ct, vs] 38)) (.cells #[.int .i64 0, .int .i64 0, .int .i64 0, .int .i64 0, .int .u64 0, .bool false, .int .u64 0, .int .u32 0] 61)
  have A2 := bel_alloc (w.alloc (.cells #[.int .i64 s.n, .int .u64 s.cr, vg, vc, vu, .slice At T ct, vs] 38)) (.cells #[.int .i64 0, .int .i64 0, .int .i64 0, .int .i64 0, .int .u64 0, .bool false, .int .u64 0, .int .u32 0] 61)
  have hsz : (w.alloc (.cells #[.int .i64 s.n, .int .u64 s.cr, vg, vc, vu, .slice At T ct, vs] 38)).heap.size = w.heap.size + 1 := by simp
  rw [hsz] at Z
  have F : Facts _ [sSA ⟨vg, vc, vu, .slice At T ct, vs⟩ s, sSB w.heap.size ⟨vg, vc, vu, .slice At T ct, vs⟩ s] := ⟨HA.out.below A2, BX.below A2, trivial⟩
  have BW := below_step A1 A2
  have K2 := newTk (w.alloc (.cells #[.int .i64 s.n, .int .u64 s.cr, vg, vc, vu, .slice At T ct, vs] 38)) ⟨0, 0, 0, 0, 0, false, 0, 0⟩ hsz
  dsimp only at K2
  clear A1 A2 BX HA hsz
  generalize (w.alloc (.cells #[.int .i64 s.n, .int .u64 s.cr, vg, vc, vu, .slice At T ct, vs] 38)).alloc (.cells #[.int .i64 0, .int .i64 0, .int .i64 0, .int .i64 0, .int .u64 0, .bool false, .int .u64 0, .int .u32 0] 61) = w2 at Z F BW K2 ⊢
  obtain ⟨X, hX⟩ : ∃ X, w.heap.size = X := ⟨_, rfl⟩
  obtain ⟨Y, hY⟩ : ∃ Y, X + 1 = Y := ⟨_, rfl⟩
  simp only [hX, hY] at F Z K2 ⊢
  have HXY := Lib.hid (show w.heap.size ≤ Y by omega)
  have hYlt : Y < w2.heap.size := (Array.getElem?_eq_some_iff.1 Z).1
  have HZ := Lib.hid (fun W (h : Below w2.heap.size w2 W) => (h.block Y hYlt).trans Z)
  have HK2 := Lib.hid (fun W (h : Below w2.heap.size w2 W) => (K2.below h).tk (i := 0) rfl)
  simp only [Nat.zero_mul, Nat.add_zero, Nat.zero_add] at HK2
  have HF := Lib.hid F
  have HBW := Lib.hid BW
  rw [hX] at BW
  obtain ⟨b0, b1, b2, b3, b4, b5, b6⟩ := (F.get 1 : StBox w2 X ⟨vg, vc, vu, .slice At T ct, vs⟩ s).cell
  clear hX hY F Z BW K2
  go_wp2_with fail
  go_loopg [11] T (fun k i wr => ∃ j : Nat, j + k = T ∧ i = .int .i64 j ∧ (∀ (a : Nat) (t : Tk), a < j → s.ts[a]? = some t → t.id ≠ id) ∧ Below w2.heap.size w2 wr)
  case atStart => exact ⟨0, by omega, rfl, fun a t h => absurd h (Nat.not_lt_zero a), Below.refl _ _⟩
  case round =>
    obtain ⟨j, hj, rfl, hno, hbr⟩ := hrel
    have HJ := Lib.hid hj
    have HNO := Lib.hid hno
    have HBR := Lib.hid hbr
    have hsw := hbr.size
    clear hj hno b0 b1 b2 b3 b4 b5 b6
    by_cases hlt : j < T
    · have hd : decide ((j : Int) < (T : Int)) = true := by rw [decide_eq_true_eq]; omega
      obtain ⟨t, ht⟩ : ∃ t, s.ts[j]? = some t := ⟨_, List.getElem?_eq_getElem (by rw [HT.out]; exact hlt)⟩
      have HTJ := Lib.hid ht
      obtain ⟨b, off, c', hv, _, r⟩ := ((HF.out.below hbr).get 0 : StAt wr ⟨vg, vc, vu, .slice At T ct, vs⟩ s).et.row (by rw [HT.out]; omega)
      rw [HT.out] at hv
      simp only [Value.slice.injEq] at hv
      obtain ⟨rfl, _, rfl⟩ := hv
      obtain ⟨c0, c1, c2, c3, c4, c5, c6, c7⟩ := r.tk ht
      clear r ht hbr
      go_upto_region 4 with fail
      have A1 := bel_alloc wr (.cells #[.int .i64 t.id, .int .i64 t.g, .int .i64 t.wt, .int .i64 t.cpu, .int .u64 t.mask, .bool t.rdy, .int .u64 t.v, .int .u32 t.r] 61)
      have K := newTk wr t rfl
      generalize wr.alloc (.cells #[.int .i64 t.id, .int .i64 t.g, .int .i64 t.wt, .int .i64 t.cpu, .int .u64 t.mask, .bool t.rdy, .int .u64 t.v, .int .u32 t.r] 61) = w1 at A1 K ⊢
      clear c0 c1 c2 c3 c4 c5 c6 c7
      obtain ⟨d0, d1, d2, d3, d4, d5, d6, d7⟩ := K.tk (i := 0) rfl
      simp only [Nat.zero_mul, Nat.add_zero, Nat.zero_add] at d0 d1 d2 d3 d4 d5 d6 d7
      have B1 := Lib.hid (HBR.out.trans (A1.mono hsw))
      have hne : Y ≠ wr.heap.size := by omega
      clear A1 K
      by_cases he : t.id = id
      · have hq : (t.id == id) = true := by rw [he]; exact beq_self_eq_true id
        have HE := Lib.hid he
        have z := HZ.out w1 B1.out
        have z0 := frozen_of_row w1 Y 0 _ _ z
        have z1 := frozen_of_row w1 Y 1 _ _ z
        have z2 := frozen_of_row w1 Y 2 _ _ z
        have z3 := frozen_of_row w1 Y 3 _ _ z
        have z4 := frozen_of_row w1 Y 4 _ _ z
        have z5 := frozen_of_row w1 Y 5 _ _ z
        have z6 := frozen_of_row w1 Y 6 _ _ z
        have z7 := frozen_of_row w1 Y 7 _ _ z
        obtain ⟨y0, y1, y2, y3, y4, y5, y6, y7⟩ := HK2.out w1 B1.out
        clear he
        go_wp2
        refine bodyPost_ret (v := .tuple #[.agg #[.int .i64 t.id, .int .i64 t.g, .int .i64 t.wt, .int .i64 t.cpu, .int .u64 t.mask, .bool t.rdy, .int .u64 t.v, .int .u32 t.r], .bool true]) ((results_cell_tmp rfl _ _ _).trans ?_) rfl ?_
        · have hl := load_set8 t y0 y1 y2 y3 y4 y5 y6 y7
          simp [hl, asAddr, Result.andThen]
        refine ⟨.inl ⟨t, List.mem_of_getElem? HTJ.out, HE.out, rfl⟩, ?_⟩
        exact (((((((((HBW.out.trans (B1.out.mono HBW.out.size)).setCell (p := ⟨Y, 0, none⟩) HXY.out _).setCell (p := ⟨Y, 1, none⟩) HXY.out _).setCell (p := ⟨Y, 2, none⟩) HXY.out _).setCell (p := ⟨Y, 3, none⟩) HXY.out _).setCell (p := ⟨Y, 4, none⟩) HXY.out _).setCell (p := ⟨Y, 5, none⟩) HXY.out _).setCell (p := ⟨Y, 6, none⟩) HXY.out _).setCell (p := ⟨Y, 7, none⟩) HXY.out _)
      · have hq : (t.id == id) = false := beq_eq_false_iff_ne.2 he
        have HE := Lib.hid he
        clear he
        go_wp2
        go_roundg (gk - 1)
        case measure => have := HJ.out; omega
        case rel => exact ⟨j + 1, by have := HJ.out; omega, by go_num, fun a u ha hu => by
            rcases Nat.lt_succ_iff_lt_or_eq.1 ha with h | rfl
            · exact HNO.out a u h hu
            · rw [HTJ.out] at hu; cases hu; exact HE.out, B1.out⟩
    · have hd : decide ((j : Int) < (T : Int)) = false := by rw [decide_eq_false_iff_not]; omega
      have z := HZ.out wr hbr
      have z0 := frozen_of_row wr Y 0 _ _ z
      have z1 := frozen_of_row wr Y 1 _ _ z
      have z2 := frozen_of_row wr Y 2 _ _ z
      have z3 := frozen_of_row wr Y 3 _ _ z
      have z4 := frozen_of_row wr Y 4 _ _ z
      have z5 := frozen_of_row wr Y 5 _ _ z
      have z6 := frozen_of_row wr Y 6 _ _ z
      have z7 := frozen_of_row wr Y 7 _ _ z
      obtain ⟨y0, y1, y2, y3, y4, y5, y6, y7⟩ := HK2.out wr hbr
      clear hbr z
      go_wp2
      refine bodyPost_ret (v := .tuple #[.agg #[.int .i64 0, .int .i64 0, .int .i64 0, .int .i64 0, .int .u64 0, .bool false, .int .u64 0, .int .u32 0], .bool false]) ((results_cell_tmp rfl _ _ _).trans ?_) rfl ?_
      · have hl := load_set8 ⟨0, 0, 0, 0, 0, false, 0, 0⟩ y0 y1 y2 y3 y4 y5 y6 y7
        simp [hl, asAddr, Result.andThen]
      refine ⟨.inr ⟨fun t ht => ?_, rfl⟩, ?_⟩
      · obtain ⟨a, ha⟩ := List.getElem?_of_mem ht
        have hl := (List.getElem?_eq_some_iff.1 ha).1
        exact HNO.out a t (by have := HT.out; omega) ha
      · exact (((((((((HBW.out.trans (HBR.out.mono HBW.out.size)).setCell (p := ⟨Y, 0, none⟩) HXY.out _).setCell (p := ⟨Y, 1, none⟩) HXY.out _).setCell (p := ⟨Y, 2, none⟩) HXY.out _).setCell (p := ⟨Y, 3, none⟩) HXY.out _).setCell (p := ⟨Y, 4, none⟩) HXY.out _).setCell (p := ⟨Y, 5, none⟩) HXY.out _).setCell (p := ⟨Y, 6, none⟩) HXY.out _).setCell (p := ⟨Y, 7, none⟩) HXY.out _)
end Go.Proofs.Ytenngfkgfdogjaa
namespace Go.Proofs.Ytenngfkgfdogjaa
open Go Go.RowKit Go.Shelf

theorem zero_path {gs : List (Int × Int)} {n : Nat} (hb : Bef gs n) : ∀ x, x < n → 0 ∈ path gs x := by
  intro x
  induction x using Nat.strongRecOn with
  | _ x ih =>
    intro hx
    rcases Nat.eq_zero_or_pos x with rfl | h0
    · rw [path_zero]; exact List.mem_singleton.2 rfl
    · obtain ⟨h1, h2⟩ := hb x h0 hx
      rw [path_succ hb h0 hx]
      exact List.mem_cons_of_mem _ (ih _ (by omega) (by omega))
theorem fill_root {s : St} (h : Shp s) (cpu : Int) : fillB s.gs (rdyL s cpu) 0 = decide (0 < (rdyL s cpu).length) := by
  cases hf : fillB s.gs (rdyL s cpu) 0
  · refine (decide_eq_false fun hp => ?_).symm
    obtain ⟨t, ht⟩ := List.exists_mem_of_length_pos hp
    have := rdy_g h t ht
    have h2 := fillB_iff.2 ⟨t, ht, zero_path h.bef _ (by omega)⟩
    rw [hf] at h2; cases h2
  · obtain ⟨t, ht, _⟩ := fillB_iff.1 hf
    exact (decide_eq_true (List.length_pos_of_mem ht)).symm
theorem walk_some {s : St} (h : Shp s) (cpu : Int) (hp : 0 < (rdyL s cpu).length) : ∃ q t, WalkR s cpu 0 (walkL s cpu) q t := by
  have hg : 0 < s.gs.length := by have := (right_iff.1 h.right).pos; omega
  have h0 : 0 < (memL s 0 cpu).length := by
    have := memL_fill h (cpu := cpu) hg
    rw [fill_root h, decide_eq_true hp] at this
    exact of_decide_eq_true this.symm
  rw [walkL_eq]
  exact walk_spec h cpu s.gs.length 0 hg (wok_start cpu) h0
theorem walk_none {s : St} (h : Shp s) (cpu : Int) (hp : (rdyL s cpu).length = 0) : walkL s cpu = [] := by
  have hg : 0 < s.gs.length := by have := (right_iff.1 h.right).pos; omega
  have h0 : (memL s 0 cpu).length = 0 := by
    have := memL_fill h (cpu := cpu) hg
    rw [fill_root h, hp] at this
    have := of_decide_eq_false this.symm
    simpa using this
  rw [walkL_eq, List.eq_nil_of_length_eq_zero h0]; rfl
theorem fst_min {s : St} (h : Shp s) {g cpu : Int} {k : Ky} {l : List Ky} (hm : memL s g cpu = k :: l) : ∀ m ∈ memL s g cpu, keyLt m k = false := by
  have hp := memL_pw h g cpu
  rw [hm] at hp ⊢
  intro m hk
  rcases List.mem_cons.1 hk with rfl | hk
  · exact keyLt_irrefl m
  · exact keyLt_asymm ((List.pairwise_cons.1 hp).1 m hk)
section
variable {s : St} {cpu : Int} {ws : List Ky} {q : List Nat} {t : Tk}
theorem WalkR.way0 (hs : Shp s) (h : WalkR s cpu 0 ws q t) : path s.gs t.g.toNat = q.reverse := by
  rw [h.way hs, path_zero, List.tail_cons, List.append_nil]
theorem WalkR.way_len (hs : Shp s) (h : WalkR s cpu 0 ws q t) : (path s.gs t.g.toNat).length = ws.length := by
  rw [h.way0 hs, List.length_reverse, h.len]
theorem WalkR.way_get (hs : Shp s) (h : WalkR s cpu 0 ws q t) {i : Nat} (hi : i < ws.length) : (path s.gs t.g.toNat)[ws.length - 1 - i]? = q[i]? := by
  have hl := h.len
  rw [h.way0 hs, List.getElem?_reverse (by omega)]
  congr 1; omega
end
end Go.Proofs.Ytenngfkgfdogjaa
