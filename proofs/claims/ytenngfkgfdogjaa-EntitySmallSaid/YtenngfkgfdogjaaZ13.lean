/- The builtin append with its bound in bytes: lists as long as arguments may be | A state whose memory is a call's own; clones; the contract of quantumlaw21.Copy | Contract of entity.Floors | Plain laws of queues: what is in order is known by what it has; a queue put together key by key | States that differ only in where their rows lie. -/
import Derived.Test.YtenngfkgfdogjaaZ1
import Derived.Test.YtenngfkgfdogjaaZ12
import Derived.Test.YtenngfkgfdogjaaZ10
import Derived.Test.YtenngfkgfdogjaaZ3
set_option linter.unusedVariables false
set_option linter.unusedSimpArgs false
set_option linter.unusedSectionVars false
namespace Go.Proofs.Ytenngfkgfdogjaa
open Go Go.RowKit
section
variable {P : Program} {α : Type} {enc : α → List Value} {k bytes base : Nat} {t e : TypeId} {w w' : World} {v sv : Value} {xs ys : List α}
theorem run_appB (T : ElemT P t e k bytes) (hk : ∀ x, (enc x).length = k) (h1 : ∀ x, ∀ u ∈ enc x, u.oneCell' = true) (ty : TypeId)
    (hown : OV enc k e base w v xs) (hys : EV enc k w sv ys) (hbb : (xs.length + ys.length) * bytes ≤ 140737488355328) (hml : xs.length + ys.length ≤ maxLen) (hbase : base ≤ w.heap.size) :
    ∃ v' w', (Builtin.append_ #[t, t] ty #[v, sv]).run P w = .ok v' w' ∧ OV enc k e base w' v' (xs ++ ys) ∧ w.grownBy w' v.ownBlock := by
  obtain ⟨i, z, hi, hz, hsz, hby, hzs⟩ := T.hi
  have own : ∀ {ad : Addr} {c : Nat}, sv = .slice (some ad) ys.length c → (∀ j u, (ys.flatMap enc)[j]? = some u → w.cell? (ad.add j) = some u) →
      ∃ v' w', (Builtin.append_ #[t, t] ty #[v, sv]).run P w = .ok v' w' ∧ OV enc k e base w' v' (xs ++ ys) ∧ w.grownBy w' v.ownBlock := by
    intro ad c hsv hc
    subst hsv
    obtain ⟨v', w', hr, ho, hg, _⟩ := run_append_own (P := P) w base t ty e i z k bytes T.ht hi hz hsz hby hzs T.hk v xs.length _ hown ad ys.length c (ys.flatMap enc)
      (flat_len hk ys) hc (fun u hu => by obtain ⟨x, _, hx⟩ := List.mem_flatMap.1 hu; exact h1 x u hx) hml hbb hbase
    refine ⟨v', w', hr, ?_, hg⟩
    unfold OV
    rw [List.length_append, List.flatMap_append]
    exact ho
  rcases hys with ⟨rfl, A, c, rfl⟩ | ⟨hne, b, off, c, rfl, hle, hr⟩
  · cases A with
    | some ad => exact own rfl (by simp)
    | none =>
      refine ⟨v, w, ?_, by simpa using hown, ⟨rfl, rfl, rfl, Nat.le_refl _, fun _ _ _ => rfl⟩⟩
      rcases hown.2 with ⟨rfl, _⟩ | ⟨g, cap, cur, rfl, _, _, hnc, _⟩
      · simp [Builtin.append_, run_underlying T.ht, sizeOf, typeInfo, hi, Builtin.lenOf, Builtin.firstCells]
      · simp [Builtin.append_, run_underlying T.ht, sizeOf, typeInfo, hi, Builtin.lenOf, Builtin.firstCells, hnc, storeCells]
  · refine own rfl fun j u hj => ?_
    rw [Addr.add_lit]
    have hkp := T.hk
    have hjl : j < ys.length * k := by
      have := (List.getElem?_eq_some_iff.1 hj).1
      rwa [flat_len hk] at this
    have hq : j / k < ys.length := Nat.div_lt_of_lt_mul (by rwa [Nat.mul_comm])
    have hdm : j / k * k + j % k = j := by rw [Nat.mul_comm]; exact Nat.div_add_mod j k
    have hm : j % k < (enc ys[j / k]).length := by rw [hk]; exact Nat.mod_lt _ hkp
    obtain ⟨u', hu'⟩ : ∃ u', (enc ys[j / k])[j % k]? = some u' := ⟨_, List.getElem?_eq_getElem hm⟩
    have h2 := flat_get hk ys (j / k) ys[j / k] (List.getElem?_eq_getElem hq) (j % k) u' hu'
    rw [hdm, hj] at h2
    cases h2
    have := hr (j / k) ys[j / k] (List.getElem?_eq_getElem hq) (j % k) u hu'
    rwa [Nat.add_assoc, hdm] at this

theorem wpList_appB {ops : Array Oper} {rest : List Oper} {o : Oper} {a : Act} {Q : Exit → Act → World → Prop} (T : ElemT P t e k bytes) (hk : ∀ x, (enc x).length = k) (h1 : ∀ x, ∀ u ∈ enc x, u.oneCell' = true)
    (hgd : o.guard = none) (s x : Operand) (ho : o.op = .call { callee := .builtin .append, args := #[s, x], argTypes := #[t, t] })
    (v sv : Value) (hs : a.eval s = v) (hx : a.eval x = sv) (hown : OV enc k e base w v xs) (hys : EV enc k w sv ys) (hbb : (xs.length + ys.length) * bytes ≤ 140737488355328) (hml : xs.length + ys.length ≤ maxLen) (hbase : base ≤ w.heap.size)
    (h : ∀ v' w', OV enc k e base w' v' (xs ++ ys) → w.grownBy w' v.ownBlock → wpList P ops Q rest (a.put o.dst v') w') : wpList P ops Q (o :: rest) a w := by
  refine wpList_plain hgd fun _ hK => ?_
  obtain ⟨v', w', hr, h2, h3⟩ := run_appB T hk h1 o.type hown hys hbb hml hbase
  unfold Oper.wp execOp
  simp only [ho, resolve, invoke, builtin, Sem.run_bind, Sem.run_pure, Result.andThen_ok, List.map_toArray, List.map_cons, List.map_nil, hs, hx, hr]
  exact hK _ _ (h v' w' h2 h3)

end
end Go.Proofs.Ytenngfkgfdogjaa
namespace Go.Proofs.Ytenngfkgfdogjaa
open Go Go.RowKit Go.Shelf
attribute [local go_sem] Oper.semAt_some

structure Sim (s s' : St) : Prop where
  n : s.n = s'.n
  cr : s.cr = s'.cr
  gs : s.gs = s'.gs
  cl : s.cl = s'.cl
  cu : s.cu = s'.cu
  ts : s.ts = s'.ts
  ss : s.ss.map Prod.snd = s'.ss.map Prod.snd
theorem Sim.refl (s : St) : Sim s s := ⟨rfl, rfl, rfl, rfl, rfl, rfl, rfl⟩
theorem Sim.symm {s s' : St} (h : Sim s s') : Sim s' s := ⟨h.n.symm, h.cr.symm, h.gs.symm, h.cl.symm, h.cu.symm, h.ts.symm, h.ss.symm⟩
theorem Sim.len {s s' : St} (h : Sim s s') : s.ss.length = s'.ss.length := by have := congrArg List.length h.ss; simpa using this
/-- Of two values that hold rows, the rows are not the same. -/
def Apart (v v' : Value) : Prop := v.ownBlock = none ∨ v.ownBlock ≠ v'.ownBlock
/-- A state whose memory the call owns. -/
structure StO (base : Nat) (w : World) (c : StC) (s : St) : Prop where
  og : OV encG 2 82 base w c.vg s.gs
  oc : OV encI 1 3 base w c.vc s.cl
  ou : OV encI 1 3 base w c.vu s.cu
  ot : OV encT 8 61 base w c.vt s.ts
  os : OV encR 1 52 base w c.vs s.ss
  orr : ∀ x ∈ s.ss, OV encS 3 51 base w x.1 x.2
theorem StO.at {base : Nat} {w : World} {c : StC} {s : St} (h : StO base w c s) : StAt w c s :=
  ⟨h.og.ev encG_len, h.oc.ev encI_len, h.ou.ev encI_len, h.ot.ev encT_len, h.os.ev encR_len, fun x hx => (h.orr x hx).ev encS_len⟩
theorem StO.below {base : Nat} {w w' : World} {c : StC} {s : St} (h : StO base w c s) (hb : Below w.heap.size w w') : StO base w' c s :=
  ⟨h.og.below hb, h.oc.below hb, h.ou.below hb, h.ot.below hb, h.os.below hb, fun x hx => (h.orr x hx).below hb⟩
theorem StO.base_le {base base' : Nat} {w : World} {c : StC} {s : St} (h : StO base w c s) (hb : base' ≤ base) : StO base' w c s :=
  ⟨h.og.base_le hb, h.oc.base_le hb, h.ou.base_le hb, h.ot.base_le hb, h.os.base_le hb, fun x hx => (h.orr x hx).base_le hb⟩

set_option maxHeartbeats 400000 in
theorem clone_intB (w : World) (v1 : Value) (xs : List (Int)) (h1 : EV encI 1 w v1 xs) (b1 : xs.length * 8 ≤ 140737488355328) :
    Calls Try.prog 54 #[v1] w fun e w' => ∃ v, e = .returned v ∧ OV encI 1 3 w.heap.size w' v xs ∧ Below w.heap.size w w' := by
  obtain ⟨A, c, rfl⟩ := h1.shape
  have H1 := Lib.hid h1
  clear h1
  have heq : ∀ (w : World) (a : Option Addr) (n c n' c' : Nat), (binOp .eql 34 (.slice a n c) (.slice none n' c')).run Try.prog w = .ok (.bool a.isNone) w := fun w a n c n' c' => Lib.run_eql_slice_nil w _ _ a n c n' c' Try.underlying34
  cases A with
  | none =>
    obtain rfl : xs = [] := by
      rcases H1.out with ⟨h, _⟩ | ⟨_, b, off, c', h, _⟩
      · exact h
      · cases h
    clear H1 b1
    go_enter Try.func54, Try.ntmps54
    go_wp2
    go_ret
    exact ⟨_, rfl, OV.nil _ _, Below.refl _ _⟩
  | some ad =>
    go_enter Try.func54, Try.ntmps54
    go_wp2_with (at_builtin; refine wpList_appB elemI encI_len encI_one rfl _ _ rfl _ _ rfl rfl (OV.made w 0 #[] (Nat.le_refl _) (Nat.zero_le _) rfl) (H1.out.keep fun p u hc => ?qc) ?qn ?qm ?qb ?_)
    case qc => exact (World.cell?_alloc_lt w _ p (cell_lt hc)).trans hc
    case qn => simpa using b1
    case qm => unfold maxLen; simp; omega
    case qb => simp
    intro v' w1 hown hgrow
    go_wp2
    go_ret
    refine ⟨v', rfl, by simpa using hown, ((Below.refl _ w).alloc (Nat.le_refl _) _).grown hgrow (by simp) (by intro k hk; simp [Value.ownBlock] at hk; omega)⟩

set_option maxHeartbeats 400000 in
theorem clone_grp (w : World) (v1 : Value) (xs : List (Int × Int)) (h1 : EV encG 2 w v1 xs) (b1 : xs.length * 16 ≤ 140737488355328) :
    Calls Try.prog 53 #[v1] w fun e w' => ∃ v, e = .returned v ∧ OV encG 2 82 w.heap.size w' v xs ∧ Below w.heap.size w w' := by
  obtain ⟨A, c, rfl⟩ := h1.shape
  have H1 := Lib.hid h1
  clear h1
  have heq : ∀ (w : World) (a : Option Addr) (n c n' c' : Nat), (binOp .eql 31 (.slice a n c) (.slice none n' c')).run Try.prog w = .ok (.bool a.isNone) w := fun w a n c n' c' => Lib.run_eql_slice_nil w _ _ a n c n' c' Try.underlying31
  cases A with
  | none =>
    obtain rfl : xs = [] := by
      rcases H1.out with ⟨h, _⟩ | ⟨_, b, off, c', h, _⟩
      · exact h
      · cases h
    clear H1 b1
    go_enter Try.func53, Try.ntmps53
    go_wp2
    go_ret
    exact ⟨_, rfl, OV.nil _ _, Below.refl _ _⟩
  | some ad =>
    go_enter Try.func53, Try.ntmps53
    go_wp2_with (at_builtin; refine wpList_appB elemG encG_len encG_one rfl _ _ rfl _ _ rfl rfl (OV.made w 0 #[] (Nat.le_refl _) (Nat.zero_le _) rfl) (H1.out.keep fun p u hc => ?qc) ?qn ?qm ?qb ?_)
    case qc => exact (World.cell?_alloc_lt w _ p (cell_lt hc)).trans hc
    case qn => simpa using b1
    case qm => unfold maxLen; simp; omega
    case qb => simp
    intro v' w1 hown hgrow
    go_wp2
    go_ret
    refine ⟨v', rfl, by simpa using hown, ((Below.refl _ w).alloc (Nat.le_refl _) _).grown hgrow (by simp) (by intro k hk; simp [Value.ownBlock] at hk; omega)⟩

theorem elemT : ElemT Try.prog 35 61 8 64 := ⟨Try.underlying35, by
  have h : (Try.prog.info? 61).map (fun i => (i.zero, i.size, i.bytes)) = some (some (.agg #[.int .i64 0, .int .i64 0, .int .i64 0, .int .i64 0, .int .u64 0, .bool false, .int .u64 0, .int .u32 0]), 8, 64) := by kernel_rfl
  obtain ⟨i, h1, h2, h3, h4⟩ := info_parts h
  exact ⟨i, _, h1, h2, h3, h4, rfl⟩, by omega, by omega⟩
set_option maxHeartbeats 400000 in
theorem clone_tk (w : World) (v1 : Value) (xs : List (Tk)) (h1 : EV encT 8 w v1 xs) (b1 : xs.length * 64 ≤ 140737488355328) :
    Calls Try.prog 55 #[v1] w fun e w' => ∃ v, e = .returned v ∧ OV encT 8 61 w.heap.size w' v xs ∧ Below w.heap.size w w' := by
  obtain ⟨A, c, rfl⟩ := h1.shape
  have H1 := Lib.hid h1
  clear h1
  have heq : ∀ (w : World) (a : Option Addr) (n c n' c' : Nat), (binOp .eql 35 (.slice a n c) (.slice none n' c')).run Try.prog w = .ok (.bool a.isNone) w := fun w a n c n' c' => Lib.run_eql_slice_nil w _ _ a n c n' c' Try.underlying35
  cases A with
  | none =>
    obtain rfl : xs = [] := by
      rcases H1.out with ⟨h, _⟩ | ⟨_, b, off, c', h, _⟩
      · exact h
      · cases h
    clear H1 b1
    go_enter Try.func55, Try.ntmps55
    go_wp2
    go_ret
    exact ⟨_, rfl, OV.nil _ _, Below.refl _ _⟩
  | some ad =>
    go_enter Try.func55, Try.ntmps55
    go_wp2_with (at_builtin; refine wpList_appB elemT encT_len encT_one rfl _ _ rfl _ _ rfl rfl (OV.made w 0 #[] (Nat.le_refl _) (Nat.zero_le _) rfl) (H1.out.keep fun p u hc => ?qc) ?qn ?qm ?qb ?_)
    case qc => exact (World.cell?_alloc_lt w _ p (cell_lt hc)).trans hc
    case qn => simpa using b1
    case qm => unfold maxLen; simp; omega
    case qb => simp
    intro v' w1 hown hgrow
    go_wp2
    go_ret
    refine ⟨v', rfl, by simpa using hown, ((Below.refl _ w).alloc (Nat.le_refl _) _).grown hgrow (by simp) (by intro k hk; simp [Value.ownBlock] at hk; omega)⟩

theorem elemS : ElemT Try.prog 52 51 3 24 := ⟨Try.underlying52, by
  have h : (Try.prog.info? 51).map (fun i => (i.zero, i.size, i.bytes)) = some (some (.agg #[.int .u64 0, .int .u32 0, .int .u64 0]), 3, 24) := by kernel_rfl
  obtain ⟨i, h1, h2, h3, h4⟩ := info_parts h
  exact ⟨i, _, h1, h2, h3, h4, rfl⟩, by omega, by omega⟩
set_option maxHeartbeats 400000 in
theorem clone_sp (w : World) (v1 : Value) (xs : List (Sp)) (h1 : EV encS 3 w v1 xs) (b1 : xs.length * 24 ≤ 140737488355328) :
    Calls Try.prog 57 #[v1] w fun e w' => ∃ v, e = .returned v ∧ OV encS 3 51 w.heap.size w' v xs ∧ Below w.heap.size w w' := by
  obtain ⟨A, c, rfl⟩ := h1.shape
  have H1 := Lib.hid h1
  clear h1
  have heq : ∀ (w : World) (a : Option Addr) (n c n' c' : Nat), (binOp .eql 52 (.slice a n c) (.slice none n' c')).run Try.prog w = .ok (.bool a.isNone) w := fun w a n c n' c' => Lib.run_eql_slice_nil w _ _ a n c n' c' Try.underlying52
  cases A with
  | none =>
    obtain rfl : xs = [] := by
      rcases H1.out with ⟨h, _⟩ | ⟨_, b, off, c', h, _⟩
      · exact h
      · cases h
    clear H1 b1
    go_enter Try.func57, Try.ntmps57
    go_wp2
    go_ret
    exact ⟨_, rfl, OV.nil _ _, Below.refl _ _⟩
  | some ad =>
    go_enter Try.func57, Try.ntmps57
    go_wp2_with (at_builtin; refine wpList_appB elemS encS_len encS_one rfl _ _ rfl _ _ rfl rfl (OV.made w 0 #[] (Nat.le_refl _) (Nat.zero_le _) rfl) (H1.out.keep fun p u hc => ?qc) ?qn ?qm ?qb ?_)
    case qc => exact (World.cell?_alloc_lt w _ p (cell_lt hc)).trans hc
    case qn => simpa using b1
    case qm => unfold maxLen; simp; omega
    case qb => simp
    intro v' w1 hown hgrow
    go_wp2
    go_ret
    refine ⟨v', rfl, by simpa using hown, ((Below.refl _ w).alloc (Nat.le_refl _) _).grown hgrow (by simp) (by intro k hk; simp [Value.ownBlock] at hk; omega)⟩

/-- A slice's three numbers. -/
abbrev SV := Option Addr × Nat × Nat
def SV.v (p : SV) : Value := .slice p.1 p.2.1 p.2.2
def encW (x : SV × List Sp) : List Value := [x.1.v]
theorem encW_len (x : SV × List Sp) : (encW x).length = 1 := rfl
theorem encW_one (x : SV × List Sp) : ∀ u ∈ encW x, u.oneCell' = true := by intro u hu; simp [encW] at hu; subst hu; rfl
theorem elemW : ElemT Try.prog 36 52 1 24 := ⟨Try.underlying36, by
  have h : (Try.prog.info? 52).map (fun i => (i.zero, i.size, i.bytes)) = some (some (.slice none 0 0), 1, 24) := by kernel_rfl
  obtain ⟨i, h1, h2, h3, h4⟩ := info_parts h
  exact ⟨i, _, h1, h2, h3, h4, rfl⟩, by omega, by omega⟩
set_option maxHeartbeats 400000 in
theorem clone_rows (w : World) (v1 : Value) (xs : List (SV × List Sp)) (h1 : EV encW 1 w v1 xs) (b1 : xs.length * 24 ≤ 140737488355328) :
    Calls Try.prog 56 #[v1] w fun e w' => ∃ v, e = .returned v ∧ OV encW 1 52 w.heap.size w' v xs ∧ Below w.heap.size w w' := by
  obtain ⟨A, c, rfl⟩ := h1.shape
  have H1 := Lib.hid h1
  clear h1
  have heq : ∀ (w : World) (a : Option Addr) (n c n' c' : Nat), (binOp .eql 36 (.slice a n c) (.slice none n' c')).run Try.prog w = .ok (.bool a.isNone) w := fun w a n c n' c' => Lib.run_eql_slice_nil w _ _ a n c n' c' Try.underlying36
  cases A with
  | none =>
    obtain rfl : xs = [] := by
      rcases H1.out with ⟨h, _⟩ | ⟨_, b, off, c', h, _⟩
      · exact h
      · cases h
    clear H1 b1
    go_enter Try.func56, Try.ntmps56
    go_wp2
    go_ret
    exact ⟨_, rfl, OV.nil _ _, Below.refl _ _⟩
  | some ad =>
    go_enter Try.func56, Try.ntmps56
    go_wp2_with (at_builtin; refine wpList_appB elemW encW_len encW_one rfl _ _ rfl _ _ rfl rfl (OV.made w 0 #[] (Nat.le_refl _) (Nat.zero_le _) rfl) (H1.out.keep fun p u hc => ?qc) ?qn ?qm ?qb ?_)
    case qc => exact (World.cell?_alloc_lt w _ p (cell_lt hc)).trans hc
    case qn => simpa using b1
    case qm => unfold maxLen; simp; omega
    case qb => simp
    intro v' w1 hown hgrow
    go_wp2
    go_ret
    refine ⟨v', rfl, by simpa using hown, ((Below.refl _ w).alloc (Nat.le_refl _) _).grown hgrow (by simp) (by intro k hk; simp [Value.ownBlock] at hk; omega)⟩

def rowOf (x : SV × List Sp) : Value × List Sp := (x.1.v, x.2)
theorem flatW (ys : List (SV × List Sp)) : (ys.map rowOf).flatMap encR = ys.flatMap encW := by
  induction ys with
  | nil => rfl
  | cons y r ih => rw [List.map_cons, List.flatMap_cons, List.flatMap_cons, ih]; rfl
theorem OV.rows {base : Nat} {e : TypeId} {w : World} {v : Value} {ys : List (SV × List Sp)} (h : OV encW 1 e base w v ys) : OV encR 1 e base w v (ys.map rowOf) := by
  unfold OV at *; rw [flatW, List.length_map]; exact h
theorem EV.rows {w : World} {v : Value} {ys : List (SV × List Sp)} (h : EV encR 1 w v (ys.map rowOf)) : EV encW 1 w v ys := by
  rcases h with ⟨h1, h2⟩ | ⟨h1, b, off, c, h2, h3, h4⟩
  · exact .inl ⟨by simpa using h1, h2⟩
  · rw [List.length_map] at h2 h3
    exact .inr ⟨by simpa using h1, b, off, c, h2, h3, fun i x hx j u hu => h4 i (rowOf x) (by rw [List.getElem?_map, hx]; rfl) j u hu⟩
theorem rows_sv {w : World} {v : Value} {xs : List (Value × List Sp)} (h : RowsS w v xs) : ∃ ys : List (SV × List Sp), ys.map rowOf = xs := by
  have : ∀ l : List (Value × List Sp), (∀ x ∈ l, EV encS 3 w x.1 x.2) → ∃ ys : List (SV × List Sp), ys.map rowOf = l := by
    intro l
    induction l with
    | nil => intro _; exact ⟨[], rfl⟩
    | cons x r ih =>
      intro hl
      obtain ⟨ys, hy⟩ := ih (fun y hy => hl y (List.mem_cons_of_mem _ hy))
      obtain ⟨A, c, hv⟩ := (hl x (List.mem_cons_self ..)).shape
      exact ⟨((A, x.2.length, c), x.2) :: ys, by rw [List.map_cons, hy]; simp [rowOf, SV.v, ← hv]⟩
  exact this xs h.2
/-- One cell written into a row of the call's own. -/
theorem flat_setF {α : Type} {enc : α → List Value} {k : Nat} (hk : ∀ x, (enc x).length = k) : ∀ (xs : List α) (i j : Nat) (x y : α) (u : Value), xs[i]? = some x → j < k → enc y = (enc x).set j u → (xs.flatMap enc).set (i * k + j) u = (xs.set i y).flatMap enc
  | [], i, j, x, y, u, h, _, _ => by simp at h
  | z :: r, 0, j, x, y, u, h, hj, he => by
    simp at h; subst h
    rw [List.flatMap_cons, List.set_cons_zero, List.flatMap_cons, he, Nat.zero_mul, Nat.zero_add, List.set_append_left _ _ (by rw [hk]; exact hj)]
  | z :: r, i + 1, j, x, y, u, h, hj, he => by
    rw [List.flatMap_cons, List.set_cons_succ, List.flatMap_cons, ← flat_setF hk r i j x y u (by simpa using h) hj he, List.set_append_right _ _ (by rw [hk, Nat.add_mul]; omega), hk]
    congr 2
    rw [Nat.add_mul]; omega
theorem OV.setF {α : Type} {enc : α → List Value} {k base g n cap i j : Nat} {e : TypeId} {w : World} {xs : List α} {x : α} (hk : ∀ x, (enc x).length = k) (h : OV enc k e base w (.slice (some ⟨g, 0, none⟩) n cap) xs) (hn : xs.length = n) (hi : xs[i]? = some x) (hj : j < k) (y : α) (u : Value) (he : enc y = (enc x).set j u) :
    OV enc k e base (w.setCell ⟨g, i * k + j, none⟩ u) (.slice (some ⟨g, 0, none⟩) n cap) (xs.set i y) ∧ w.grownBy (w.setCell ⟨g, i * k + j, none⟩ u) (some g) := by
  subst hn
  obtain ⟨h1, h2⟩ := World.ownsRow.stored h (i * k + j) u
  refine ⟨?_, h2⟩
  unfold OV
  rw [← flat_setF hk xs i j x y u hi hj he, List.length_set]
  exact h1
theorem OV.other {α : Type} {enc : α → List Value} {k base : Nat} {e : TypeId} {w : World} {v : Value} {xs : List α} (h : OV enc k e base w v xs) {p : Addr} (hp : p.block < base) (u : Value) : OV enc k e base (w.setCell p u) v xs :=
  h.same fun g o hg ho => (Below.heap_setCell _ _ _ _ (fun e => by have := (h.block g hg).1; omega)).trans ho
end Go.Proofs.Ytenngfkgfdogjaa
namespace Go.Proofs.Ytenngfkgfdogjaa
open Go Go.RowKit Go.Shelf
attribute [local go_sem] Oper.semAt_some

def encU (z : Int) : List Value := [.int .u64 z]
theorem encU_len (z : Int) : (encU z).length = 1 := rfl
theorem encU_one (z : Int) : ∀ u ∈ encU z, u.oneCell' = true := by intro u hu; simp [encU] at hu; subst hu; rfl
def encV (x : SV × List Int) : List Value := [x.1.v]
theorem encV_len (x : SV × List Int) : (encV x).length = 1 := rfl
theorem encV_one (x : SV × List Int) : ∀ u ∈ encV x, u.oneCell' = true := by intro u hu; simp [encV] at hu; subst hu; rfl
theorem elemV : ElemT Try.prog 45 48 1 24 := ⟨Try.underlying45, by
  have h : (Try.prog.info? 48).map (fun i => (i.zero, i.size, i.bytes)) = some (some (.slice none 0 0), 1, 24) := by kernel_rfl
  obtain ⟨i, h1, h2, h3, h4⟩ := info_parts h
  exact ⟨i, _, h1, h2, h3, h4, rfl⟩, by omega, by omega⟩
theorem elemU : ElemT Try.prog 48 22 1 8 := ⟨Try.underlying48, by
  have h : (Try.prog.info? 22).map (fun i => (i.zero, i.size, i.bytes)) = some (some (.int .u64 0), 1, 8) := by kernel_rfl
  obtain ⟨i, h1, h2, h3, h4⟩ := info_parts h
  exact ⟨i, _, h1, h2, h3, h4, rfl⟩, by omega, by omega⟩
theorem OV.ne2 {α β : Type} {enc : α → List Value} {enc' : β → List Value} {k k' : Nat} {e e' : TypeId} {base base' : Nat} {w : World} {v v' : Value} {xs : List α} {ys : List β}
    (h : OV enc k e base w v xs) (h' : OV enc' k' e' base' w v' ys) (hne : e ≠ e') : v.ownBlock = none ∨ v.ownBlock ≠ v'.ownBlock := by
  rcases h.2 with ⟨rfl, _⟩ | ⟨g, cap, cur, rfl, _, hg, _⟩
  · exact .inl rfl
  · rcases h'.2 with ⟨rfl, _⟩ | ⟨g', cap', cur', rfl, _, hg', _⟩
    · right; simp [Value.ownBlock]
    · right
      intro he
      obtain rfl : g = g' := by simpa [Value.ownBlock] using he
      rw [hg] at hg'
      simp at hg'
      exact hne hg'.2
/-- What the call owns reads as rows of numbers. -/
def RowsU (base : Nat) (w : World) (v : Value) (xs : List (SV × List Int)) : Prop :=
  OV encV 1 48 base w v xs ∧ ∀ x ∈ xs, OV encU 1 22 base w x.1.v x.2
theorem RowsU.below {base : Nat} {w w' : World} {v : Value} {xs : List (SV × List Int)} (h : RowsU base w v xs) (hb : Below w.heap.size w w') : RowsU base w' v xs :=
  ⟨h.1.below hb, fun x hx => (h.2 x hx).below hb⟩
theorem RowsU.base_le {base base' : Nat} {w : World} {v : Value} {xs : List (SV × List Int)} (h : RowsU base w v xs) (hb : base' ≤ base) : RowsU base' w v xs :=
  ⟨h.1.base_le hb, fun x hx => (h.2 x hx).base_le hb⟩
theorem ER.sp {w : World} {b off : Nat} {l : List Sp} (h : ER encS 3 w b off l) {i : Nat} {x : Sp} (hi : l[i]? = some x) :
    w.cell? ⟨b, off + i * 3, none⟩ = some (.int .u64 x.v) ∧ w.cell? ⟨b, off + i * 3 + 1, none⟩ = some (.int .u32 x.r) ∧ w.cell? ⟨b, off + i * 3 + 2, none⟩ = some (.int .u64 x.fl) :=
  ⟨h i x hi 0 _ rfl, h i x hi 1 _ rfl, h i x hi 2 _ rfl⟩
def flE (s : St) : List (List Int) := if shapedB s then floorsL s else []
def shE (s : St) : Int := if shapedB s then 0 else 210
def rowF (s : St) (g n : Nat) : List Int := (List.range n).map fun c => floorV s g c
theorem rowF_succ (s : St) (g n : Nat) : rowF s g (n + 1) = rowF s g n ++ [floorV s g n] := by simp [rowF, List.range_succ]
theorem flE_pos {s : St} (h : shapedB s = true) : flE s = (List.range s.gs.length).map fun g => rowF s g s.n.toNat := by unfold flE; rw [h]; rfl
theorem floorV_eq (s : St) (g : Nat) (c : Nat) : floorV s g c = match memL s g c with
  | [] => (spotV s g c).fl
  | k :: _ => max (spotV s g c).fl k.v := rfl
set_option maxRecDepth 100000 in
set_option maxHeartbeats 3200000 in
theorem floors_pub (w : World) (c : StC) (s : St) (h : StAt w c s) (hb : StB s) :
    Calls Try.prog 17 #[c.val s] w fun e w' => ∃ v rows, e = .returned (.tuple #[v, .int .i64 (shE s)]) ∧ RowsU w.heap.size w' v rows ∧ rows.map Prod.snd = flE s ∧ Below w.heap.size w w' := by
  have ME := Lib.hid (fun (hs : Shp s) W g cpu (hW : StAt W c s) (h0 : 0 ≤ cpu) (h1 : cpu < s.n) => members_ok W c s g cpu hW hs h0 h1)
  have CC := Lib.hid (show c.cells s = #[.int .i64 s.n, .int .u64 s.cr, c.vg, c.vc, c.vu, c.vt, c.vs] from rfl)
  have a1 := bel_alloc w (.cells (c.cells s) 38)
  have BX := StBox.new w c s
  have CK := Lib.hid (shaped_ok (w.alloc (.cells (c.cells s) 38)) c s (h.below a1) hb.g hb.t)
  have F : Facts (w.alloc (.cells (c.cells s) 38)) [sSA c s, sSB w.heap.size c s, sB w] := ⟨h.below a1, BX, a1, trivial⟩
  unfold StC.val at CK ME ⊢
  simp only [CC.out] at CK F ME ⊢
  clear h a1 BX
  go_enter Try.func17, Try.ntmps17
  go_upto_region 1 with fail
  generalize w.alloc (.cells #[.int .i64 s.n, .int .u64 s.cr, c.vg, c.vc, c.vu, c.vt, c.vs] 38) = w1 at F CK ⊢
  obtain ⟨X0, hX0⟩ : ∃ X0, w.heap.size = X0 := ⟨_, rfl⟩
  rw [hX0] at F
  simp only [hX0]
  have HX0 := Lib.hid hX0
  clear hX0
  obtain ⟨b0, b1, b2, b3, b4, b5, b6⟩ := (F.get 1 : StBox w1 X0 c s).cell
  go_wp2_with fail
  refine CK.out.mono ?_
  rintro e w2 ⟨rfl, bb⟩
  replace F := F.below bb
  clear bb CK b0 b1 b2 b3 b4 b5 b6
  obtain ⟨b0, b1, b2, b3, b4, b5, b6⟩ := (F.get 1 : StBox w2 X0 c s).cell
  have HF := Lib.hid F
  cases hs : shapedB s with
  | false =>
    have hfin := Lib.hid (F.get 2 : Below w.heap.size w w2)
    clear F ME
    have HS := Lib.hid hs
    clear hs
    go_wp2
    go_ret2
    exact ⟨_, [], ret_vi (by unfold shE; rw [HS.out]; rfl), ⟨OV.nil _ _, fun _ h => by simp at h⟩, by unfold flE; rw [HS.out]; rfl, hfin.out⟩
  | true =>
    have ME2 := Lib.hid (ME.out (shp_iff.1 hs))
    have HSH := Lib.hid (shp_iff.1 hs)
    have hgl := (right_iff.1 HSH.out.right).many
    have hss := HSH.out.ss
    obtain ⟨n, hn⟩ : ∃ n : Nat, s.n = n := ⟨s.n.toNat, by have := HSH.out.n1; omega⟩
    have hn2 := HSH.out.n2
    have hn64 : n ≤ 64 := by omega
    have HN := Lib.hid hn
    have HS := Lib.hid hs
    have HR := Lib.hid (F.get 0 : StAt w2 c s).es
    have hw2 := (F.get 2 : Below w.heap.size w w2).size
    clear ME F hs hn
    obtain ⟨A, cs, hvs⟩ := HR.out.1.shape
    rw [hss] at hvs
    rw [hvs] at b6
    have ME3 := ME2.out
    simp only [hvs] at ME3
    have ME3 := Lib.hid ME3
    have HVS := Lib.hid hvs
    clear hvs ME2
    go_wp2
    go_loopg [4, 18] s.gs.length (fun k v i wr => ∃ (gi : Nat) (rows : List (SV × List Int)), gi + k = s.gs.length ∧ i = .int .i64 gi ∧ RowsU w2.heap.size wr v rows ∧ rows.map Prod.snd = (List.range gi).map (fun g => rowF s g n) ∧ Below w2.heap.size w2 wr)
    case atStart => exact ⟨0, [], by omega, rfl, ⟨OV.nil _ _, fun _ h => by simp at h⟩, rfl, Below.refl _ _⟩
    case round =>
      obtain ⟨gi, rows, hk, rfl, hr, hm, hbl⟩ := hrel
      have HM := Lib.hid hm
      have HRW := Lib.hid hr
      have HBL := Lib.hid hbl
      have HK := Lib.hid hk
      have hws := hbl.size
      clear hm hr hk
      by_cases hlt : gi < s.gs.length
      · obtain ⟨x, hx⟩ : ∃ x, s.ss[gi]? = some x := ⟨_, List.getElem?_eq_getElem (by omega)⟩
        obtain ⟨br, off, c', hv, hcc, hrr⟩ := (HR.out.below hbl).1.row (by omega)
        rw [HVS.out, ← hss] at hv
        injection hv with ev1 ev2 ev3
        subst ev1
        subst ev3
        have cx := hrr gi x hx 0 _ rfl
        simp only [Nat.mul_one, Nat.add_zero] at cx
        have hrow := HSH.out.row x (List.mem_of_getElem? hx)
        rw [HN.out] at hrow
        have hrow' : x.2.length = n := by omega
        have HXR := Lib.hid (HR.out.2 x (List.mem_of_getElem? hx))
        obtain ⟨A', c2, hvx⟩ := HXR.out.shape
        rw [hrow'] at hvx
        have HX := Lib.hid hx
        clear hx hrr ev2 hrow
        rw [hvx] at cx
        have hsp : ∀ (j : Nat) (sp : Sp), x.2[j]? = some sp → spotV s gi (j : Int) = sp := fun j sp h => by
          unfold spotV; rw [HX.out]; simp [h]
        have HSP := Lib.hid hsp
        clear hsp hbl
        have hgid : decide ((gi : Int) < (s.gs.length : Int)) = true := by simp; omega
        go_wp2
        obtain ⟨w0r, rfl⟩ : ∃ w0r, w0r = wr := ⟨_, rfl⟩
        go_loopg [7, 25] n (fun k v i wr => ∃ (j : Nat), j + k = n ∧ i = .int .i64 j ∧ OV encU 1 22 w0r.heap.size wr v (rowF s gi j) ∧ (∃ p : SV, v = .slice p.1 p.2.1 p.2.2) ∧ Below w0r.heap.size w0r wr)
        case atStart => exact ⟨0, by omega, rfl, OV.nil _ _, ⟨(none, 0, 0), rfl⟩, Below.refl _ _⟩
        case round =>
          obtain ⟨j, hk2, rfl, ho, hsl, hb2⟩ := hrel
          have HO := Lib.hid ho
          have HSL := Lib.hid hsl
          have HB2 := Lib.hid hb2
          have HK2 := Lib.hid hk2
          clear ho hsl hk2
          by_cases hj : j < n
          · obtain ⟨sp, hsp⟩ : ∃ sp, x.2[j]? = some sp := ⟨_, List.getElem?_eq_getElem (by omega)⟩
            obtain ⟨bs, os, cs3, hv3, _, hrs⟩ := ((HXR.out.below HBL.out).below hb2).row (by omega)
            rw [hvx, hrow'] at hv3
            injection hv3 with ev1 ev2 ev3
            subst ev1
            subst ev3
            obtain ⟨p0, p1, p2⟩ := hrs.sp hsp
            have HFL := Lib.hid (show (spotV s gi (j : Int)).fl = sp.fl by rw [HSP.out j sp hsp])
            have hjd : decide ((j : Int) < (n : Int)) = true := by simp; omega
            obtain ⟨b0, b1, b2, b3, b4, b5, b6⟩ := (((HF.out.below HBL.out).below hb2).get 1 : StBox wr X0 c s).cell
            clear hrs hsp ev2
            have ba := bel_alloc wr (.cells #[.int .u64 sp.v, .int .u32 sp.r, .int .u64 sp.fl] 51)
            have HBA := Lib.hid (below_step hb2 ba)
            have SA := Lib.hid (((HF.out.below HBL.out).below HBA.out).get 0 : StAt _ c s)
            have FA := Lib.hid (((HF.out.below HBL.out).below HBA.out).get 2)
            have BXA := Lib.hid (((HF.out.below HBL.out).below HBA.out).get 1 : StBox _ X0 c s)
            have HOA := Lib.hid (HO.out.alloc (.cells #[.int .u64 sp.v, .int .u32 sp.r, .int .u64 sp.fl] 51))
            have hszA := HBA.out.size
            clear hb2 ba
            go_upto_region 12 with fail
            generalize wr.alloc (.cells #[.int .u64 sp.v, .int .u32 sp.r, .int .u64 sp.fl] 51) = wa at HBA SA FA BXA HOA hszA ⊢
            generalize wr.heap.size = P at *
            clear p0 p1 p2 b0 b1 b2 b3 b4 b5 b6 cx
            obtain ⟨b0, b1, b2, b3, b4, b5, b6⟩ := BXA.out.cell
            rw [HVS.out] at b6
            go_wp2_with fail
            refine (ME3.out _ (gi : Int) (j : Int) SA.out (by omega) (by rw [HN.out]; omega)).mono ?_
            rintro e w4 ⟨v4, rfl, o4, bb⟩
            have HB4 := Lib.hid (below_step HBA.out bb)
            have HO4 := Lib.hid (HOA.out.below bb)
            have hs4 := HB4.out.size
            have HFV := Lib.hid (floorV_eq s gi j)
            clear bb HOA SA FA BXA HBA hszA b0 b1 b2 b3 b4 b5 b6
            cases hm : memL s gi j with
            | nil =>
              rw [hm] at o4
              obtain ⟨A4, c4, rfl⟩ := (o4.ev encY_len).shape
              have HFV2 := Lib.hid (show floorV s gi j = sp.fl by rw [HFV.out, hm]; exact HFL.out)
              clear o4 hm HFV
              have HRT := Lib.hid (EV.new1 (w := w4) (enc := encU) (k := 1) (e := 22) (x := sp.fl) (c := 1) (cs := #[.int .u64 sp.fl]) rfl (Nat.le_refl _))
              go_wp2_with (at_builtin; refine wpList_app elemU encU_len encU_one rfl (.tmp 45) (.tmp 47) rfl _ _ rfl rfl (HO4.out.alloc _) HRT.out ?q1 ?q2 ?_)
              case q1 => simp [rowF]; omega
              case q2 => simp; omega
              intro v9 w9 o9 g9
              have HB9 := Lib.hid ((below_step HB4.out (bel_alloc w4 (.cells #[.int .u64 sp.fl] 22))).grown g9 (by simp; omega) (fun q hq => (HO4.out.block q hq).1))
              rw [← HFV2.out, ← rowF_succ] at o9
              have HO9 := Lib.hid o9
              clear o9 g9 HRT
              go_wp2
              go_roundg (gk - 1)
              case measure => have := HK2.out; omega
              case rel => exact ⟨j + 1, by have := HK2.out; omega, by go_num, HO9.out, by obtain ⟨g, cap, hv, _⟩ := HO9.out.form (by simp [rowF]); exact ⟨(_, _, _), hv⟩, HB9.out⟩
            | cons k L =>
              rw [hm] at o4
              have HFV2 := Lib.hid (show floorV s gi j = max sp.fl k.v by rw [HFV.out, hm]; show max _ _ = _; rw [HFL.out])
              obtain ⟨b4, f4, c4, rfl, _, r4⟩ := (o4.ev encY_len).row (by simp)
              obtain ⟨k0, _, _⟩ := r4.ky (i := 0) rfl
              simp only [Nat.zero_mul, Nat.add_zero] at k0
              clear o4 hm HFV r4
              by_cases hmx : sp.fl ≤ k.v
              · have hmx2 : max sp.fl k.v = k.v := Int.max_eq_right hmx
                rw [hmx2] at HFV2
                have HRT := Lib.hid (EV.new1 (w := w4) (enc := encU) (k := 1) (e := 22) (x := k.v) (c := 1) (cs := #[.int .u64 k.v]) rfl (Nat.le_refl _))
                go_wp2_with (at_builtin; refine wpList_app elemU encU_len encU_one rfl (.tmp 45) (.tmp 47) rfl _ _ rfl rfl (HO4.out.alloc _) HRT.out ?q1 ?q2 ?_)
                case q1 => simp [rowF]; omega
                case q2 => simp; omega
                intro v9 w9 o9 g9
                have HB9 := Lib.hid ((below_step HB4.out (bel_alloc w4 (.cells #[.int .u64 k.v] 22))).grown g9 (by simp; omega) (fun q hq => (HO4.out.block q hq).1))
                rw [← HFV2.out, ← rowF_succ] at o9
                have HO9 := Lib.hid o9
                clear o9 g9 HRT
                go_wp2
                go_roundg (gk - 1)
                case measure => have := HK2.out; omega
                case rel => exact ⟨j + 1, by have := HK2.out; omega, by go_num, HO9.out, by obtain ⟨g, cap, hv, _⟩ := HO9.out.form (by simp [rowF]); exact ⟨(_, _, _), hv⟩, HB9.out⟩
              · have hmx2 : max sp.fl k.v = sp.fl := Int.max_eq_left (by omega)
                rw [hmx2] at HFV2
                have HRT := Lib.hid (EV.new1 (w := w4) (enc := encU) (k := 1) (e := 22) (x := sp.fl) (c := 1) (cs := #[.int .u64 sp.fl]) rfl (Nat.le_refl _))
                go_wp2_with (at_builtin; refine wpList_app elemU encU_len encU_one rfl (.tmp 45) (.tmp 47) rfl _ _ rfl rfl (HO4.out.alloc _) HRT.out ?q1 ?q2 ?_)
                case q1 => simp [rowF]; omega
                case q2 => simp; omega
                intro v9 w9 o9 g9
                have HB9 := Lib.hid ((below_step HB4.out (bel_alloc w4 (.cells #[.int .u64 sp.fl] 22))).grown g9 (by simp; omega) (fun q hq => (HO4.out.block q hq).1))
                rw [← HFV2.out, ← rowF_succ] at o9
                have HO9 := Lib.hid o9
                clear o9 g9 HRT
                go_wp2
                go_roundg (gk - 1)
                case measure => have := HK2.out; omega
                case rel => exact ⟨j + 1, by have := HK2.out; omega, by go_num, HO9.out, by obtain ⟨g, cap, hv, _⟩ := HO9.out.form (by simp [rowF]); exact ⟨(_, _, _), hv⟩, HB9.out⟩
          · obtain rfl : j = n := by have := HK2.out; omega
            have hjd : decide ((j : Int) < (j : Int)) = false := by simp
            obtain ⟨p, rfl⟩ := HSL.out
            have HRT := Lib.hid (EV.new1 (w := wr) (enc := encV) (k := 1) (e := 48) (x := ((p, rowF s gi j) : SV × List Int)) (c := 1) (cs := #[p.v]) rfl (Nat.le_refl _))
            have HB3 := Lib.hid (HBL.out.trans (HB2.out.mono hws))
            have hws3 := HB3.out.size
            have hb2s := HB2.out.size
            have HRW2 := Lib.hid (HRW.out.below HB2.out)
            clear hb2
            unfold SV.v at HRT
            go_wp2_with (at_builtin; refine wpList_app elemV encV_len encV_one rfl (.tmp 50) (.tmp 52) rfl _ _ rfl rfl (HRW2.out.1.alloc _) HRT.out ?q1 ?q2 ?_)
            case q1 => have := congrArg List.length HM.out; simp at this; simp; omega
            case q2 => simp; omega
            intro v9 w9 o9 g9
            have hkeep : ∀ y : SV × List Int, OV encU 1 22 w2.heap.size wr y.1.v y.2 → OV encU 1 22 w2.heap.size w9 y.1.v y.2 := fun y hy => by
              refine (hy.alloc _).keep g9 ?_
              exact (hy.alloc (.cells #[.slice p.1 p.2.1 p.2.2] 48)).ne2 (HRW2.out.1.alloc (.cells #[.slice p.1 p.2.1 p.2.2] 48)) (by decide)
            have HR9 := Lib.hid (show RowsU w2.heap.size w9 v9 (rows ++ [(p, rowF s gi j)]) from ⟨o9, fun y hy => by
              rcases List.mem_append.1 hy with hy | hy
              · exact hkeep y (HRW2.out.2 y hy)
              · rw [List.mem_singleton] at hy; subst hy; exact hkeep _ (HO.out.base_le hws)⟩)
            have HB9 := Lib.hid ((below_step HB3.out (bel_alloc wr (.cells #[.slice p.1 p.2.1 p.2.2] 48))).grown g9 (by simp; omega) (fun q hq => (HRW2.out.1.block q hq).1))
            clear o9 g9 HRT hkeep
            go_wp2
            go_roundg (s.gs.length - (gi + 1))
            case measure => have := HK.out; omega
            case rel => exact ⟨gi + 1, _, by have := HK.out; omega, by go_num, HR9.out, by rw [List.map_append, HM.out, List.range_succ, List.map_append]; rfl, HB9.out⟩
      · obtain rfl : gi = s.gs.length := by have := HK.out; omega
        have hgid : decide ((s.gs.length : Int) < (s.gs.length : Int)) = false := by simp
        have hfin := Lib.hid ((HF.out.below HBL.out).get 2)
        have HRR := Lib.hid (HRW.out.base_le hw2)
        have HMM := Lib.hid HM.out
        clear hbl
        go_wp2
        go_ret2
        exact ⟨_, rows, ret_vi (by unfold shE; rw [HS.out]; rfl), HRR.out, by rw [HM.out, flE_pos HS.out, HN.out]; rfl, hfin.out⟩
end Go.Proofs.Ytenngfkgfdogjaa
namespace Go.Proofs.Ytenngfkgfdogjaa
open Go.RowKit Go.Shelf

def KLt (a b : Ky) : Prop := keyLt a b = true
theorem keyLe_trans (a b c : Ky) (h1 : keyLe a b = true) (h2 : keyLe b c = true) : keyLe a c = true := by
  unfold keyLe at *
  cases h : keyLt c a with
  | false => rfl
  | true =>
    exfalso
    by_cases e1 : a = b
    · subst e1; rw [h] at h2; cases h2
    · by_cases e2 : b = c
      · subst e2; rw [h] at h1; cases h1
      · rcases keyLt_total e1 with h3 | h3
        · have := keyLt_trans h h3; rw [this] at h2; cases h2
        · rw [h3] at h1; cases h1
theorem keyLe_total (a b : Ky) : (keyLe a b || keyLe b a) = true := by
  unfold keyLe
  cases h : keyLt b a with
  | false => rfl
  | true => rw [keyLt_asymm h]; rfl
theorem srtK_perm (l : List Ky) : (srtK l).Perm l := List.mergeSort_perm _ _
theorem srtK_le (l : List Ky) : (srtK l).Pairwise (fun a b => keyLe a b = true) := List.pairwise_mergeSort keyLe_trans keyLe_total l
theorem srtK_lt {l : List Ky} (h : l.Nodup) : (srtK l).Pairwise KLt := by
  have h1 := srtK_le l
  have h2 : (srtK l).Nodup := (srtK_perm l).symm.nodup h
  refine (h1.and h2).imp ?_
  rintro a b ⟨h3, h4⟩
  unfold keyLe at h3
  rcases keyLt_total h4 with h5 | h5
  · exact h5
  · rw [h5] at h3; cases h3
/-- What is in order is known by what it has. -/
theorem klt_unique : ∀ {a b : List Ky}, a.Pairwise KLt → b.Pairwise KLt → (∀ k, k ∈ a ↔ k ∈ b) → a = b
  | [], [], _, _, _ => rfl
  | [], y :: b, _, _, h => absurd ((h y).2 (List.mem_cons_self ..)) (by simp)
  | x :: a, [], _, _, h => absurd ((h x).1 (List.mem_cons_self ..)) (by simp)
  | x :: a, y :: b, ha, hb, h => by
    have ha' := List.pairwise_cons.1 ha
    have hb' := List.pairwise_cons.1 hb
    have e : x = y := by
      rcases List.mem_cons.1 ((h x).1 (List.mem_cons_self ..)) with e | hx
      · exact e
      rcases List.mem_cons.1 ((h y).2 (List.mem_cons_self ..)) with e | hy
      · exact e.symm
      have h1 := hb'.1 x hx
      have h2 := ha'.1 y hy
      unfold KLt at h1 h2
      rw [keyLt_asymm h1] at h2; cases h2
    subst e
    congr 1
    refine klt_unique ha'.2 hb'.2 fun k => ⟨fun hk => ?_, fun hk => ?_⟩
    · rcases List.mem_cons.1 ((h k).1 (List.mem_cons_of_mem _ hk)) with e | h'
      · subst e; have := ha'.1 k hk; unfold KLt at this; rw [keyLt_irrefl] at this; cases this
      · exact h'
    · rcases List.mem_cons.1 ((h k).2 (List.mem_cons_of_mem _ hk)) with e | h'
      · subst e; have := hb'.1 k hk; unfold KLt at this; rw [keyLt_irrefl] at this; cases this
      · exact h'
/-- Into its place. -/
def insK : List Ky → Ky → List Ky
  | [], k => [k]
  | x :: r, k => if keyLt x k then x :: insK r k else k :: x :: r
theorem insK_mem {x k : Ky} : ∀ {l : List Ky}, x ∈ insK l k ↔ x = k ∨ x ∈ l
  | [] => by simp [insK]
  | y :: r => by
    unfold insK
    split
    · rw [List.mem_cons, insK_mem, List.mem_cons]
      constructor
      · rintro (h | h | h) <;> simp [h]
      · rintro (h | h | h) <;> simp [h]
    · rw [List.mem_cons]
theorem insK_len {k : Ky} : ∀ {l : List Ky}, (insK l k).length = l.length + 1
  | [] => rfl
  | y :: r => by unfold insK; split <;> simp [insK_len]
theorem insK_pw {k : Ky} : ∀ {l : List Ky}, l.Pairwise KLt → k ∉ l → (insK l k).Pairwise KLt
  | [], _, _ => by simp [insK]
  | y :: r, h, hk => by
    have h' := List.pairwise_cons.1 h
    rw [List.mem_cons, not_or] at hk
    unfold insK
    split
    · rename_i hy
      refine List.pairwise_cons.2 ⟨fun z hz => ?_, insK_pw h'.2 hk.2⟩
      rcases insK_mem.1 hz with rfl | hz
      · exact hy
      · exact h'.1 z hz
    · rename_i hy
      have hky : KLt k y := by
        rcases keyLt_total hk.1 with h3 | h3
        · exact h3
        · exact absurd h3 hy
      refine List.pairwise_cons.2 ⟨fun z hz => ?_, h⟩
      rcases List.mem_cons.1 hz with rfl | hz
      · exact hky
      · exact keyLt_trans hky (h'.1 z hz)
def foldK (l : List Ky) : List Ky := l.foldl insK []
theorem foldK_snoc (l : List Ky) (k : Ky) : foldK (l ++ [k]) = insK (foldK l) k := by simp [foldK]
theorem foldl_ins_mem {x : Ky} : ∀ {l acc : List Ky}, x ∈ l.foldl insK acc ↔ x ∈ acc ∨ x ∈ l
  | [], acc => by simp
  | y :: r, acc => by
    rw [List.foldl_cons, foldl_ins_mem, insK_mem, List.mem_cons]
    constructor
    · rintro ((h | h) | h) <;> simp [h]
    · rintro (h | h | h) <;> simp [h]
theorem foldl_ins_pw : ∀ {l acc : List Ky}, acc.Pairwise KLt → l.Nodup → (∀ x ∈ l, x ∉ acc) → (l.foldl insK acc).Pairwise KLt
  | [], acc, h, _, _ => h
  | y :: r, acc, h, hn, hd => by
    rw [List.foldl_cons]
    have hn' := List.nodup_cons.1 hn
    refine foldl_ins_pw (insK_pw h (hd y (List.mem_cons_self ..))) hn'.2 fun x hx hm => ?_
    rcases insK_mem.1 hm with rfl | hm
    · exact hn'.1 hx
    · exact hd x (List.mem_cons_of_mem _ hx) hm
theorem foldK_mem {x : Ky} {l : List Ky} : x ∈ foldK l ↔ x ∈ l := by unfold foldK; rw [foldl_ins_mem]; simp
theorem foldK_pw {l : List Ky} (h : l.Nodup) : (foldK l).Pairwise KLt := foldl_ins_pw List.Pairwise.nil h (fun _ _ => by simp)
theorem foldK_srtK {l : List Ky} (h : l.Nodup) : foldK l = srtK l :=
  klt_unique (foldK_pw h) (srtK_lt h) fun k => by rw [foldK_mem, (srtK_perm l).mem_iff]
/-! ### what a queue has -/
theorem pw_nodup {l : List Tk} (h : l.Pairwise (fun a b => a.id < b.id)) : (l.map tkKey).Nodup := by
  unfold List.Nodup
  rw [List.pairwise_map]
  exact h.imp fun {a b} h e => by have : (tkKey a).id = (tkKey b).id := by rw [e]
                                  simp only [tkKey] at this; omega
theorem all_nodup {s : St} (h : Shp s) (g cpu : Int) : (tksK s g cpu ++ grpK s g cpu).Nodup := by
  rw [List.nodup_append]
  refine ⟨?_, ?_, ?_⟩
  · unfold tksK rdyL
    exact pw_nodup (((tks_pw h.tks).filter _).filter _)
  · unfold grpK List.Nodup
    rw [List.pairwise_map]
    refine (List.Pairwise.filter _ List.nodup_range).imp fun {a b} h e => ?_
    have : (spKey s cpu a).id = (spKey s cpu b).id := by rw [e]
    simp only [spKey] at this; omega
  · intro a ha b hb e
    unfold tksK at ha; unfold grpK at hb
    obtain ⟨t, _, rfl⟩ := List.mem_map.1 ha
    obtain ⟨x, _, rfl⟩ := List.mem_map.1 hb
    have : (tkKey t).sp = (spKey s cpu x).sp := by rw [e]
    simp only [tkKey, spKey] at this; cases this
theorem memL_fold {s : St} (h : Shp s) (g cpu : Int) : memL s g cpu = foldK (tksK s g cpu ++ grpK s g cpu) := (foldK_srtK (all_nodup h g cpu)).symm
theorem memL_pw {s : St} (h : Shp s) (g cpu : Int) : (memL s g cpu).Pairwise KLt := srtK_lt (all_nodup h g cpu)
theorem memL_mem {s : St} {g cpu : Int} {k : Ky} : k ∈ memL s g cpu ↔ (∃ t ∈ s.ts, (t.rdy = true ∧ t.cpu = cpu) ∧ t.g = g ∧ k = tkKey t) ∨ (∃ x, x < s.gs.length ∧ isCh s g cpu x = true ∧ k = spKey s cpu x) := by
  unfold memL
  rw [(srtK_perm _).mem_iff, List.mem_append]
  unfold tksK grpK rdyL rdyB
  simp only [List.mem_map, List.mem_filter, List.mem_range, Bool.and_eq_true, decide_eq_true_eq]
  constructor
  · rintro (⟨t, ⟨⟨h1, h2⟩, h3⟩, rfl⟩ | ⟨x, ⟨h1, h2⟩, rfl⟩)
    · exact .inl ⟨t, h1, h2, h3, rfl⟩
    · exact .inr ⟨x, h1, h2, rfl⟩
  · rintro (⟨t, h1, h2, h3, rfl⟩ | ⟨x, h1, h2, rfl⟩)
    · exact .inl ⟨t, ⟨⟨h1, h2⟩, h3⟩, rfl⟩
    · exact .inr ⟨x, ⟨h1, h2⟩, rfl⟩
end Go.Proofs.Ytenngfkgfdogjaa
namespace Go.Proofs.Ytenngfkgfdogjaa
open Go Go.RowKit Go.Shelf

section
variable {s s' : St}
theorem shapedB_sim (h : Sim s s') : shapedB s = shapedB s' := by
  have hl := h.len
  have ha : ∀ (m : Int) (l : List (Value × List Sp)), l.all (fun x => decide ((x.2.length : Int) = m)) = (l.map Prod.snd).all (fun x => decide ((x.length : Int) = m)) := fun m l => by
    rw [List.all_map]; rfl
  unfold shapedB
  rw [ha, ha, h.ss, h.n, h.gs, h.cl, h.cu, h.ts, hl]
theorem spotV_sim (h : Sim s s') : spotV s = spotV s' := by
  have hs : ∀ (l : List (Value × List Sp)) (g : Nat), (l[g]?.getD (.slice none 0 0, [])).2 = ((l.map Prod.snd)[g]?).getD [] := fun l g => by
    rw [List.getElem?_map]
    cases l[g]? <;> rfl
  funext g cpu
  unfold spotV
  rw [hs, hs, h.ss]
theorem rdyL_sim (h : Sim s s') : rdyL s = rdyL s' := by funext cpu; unfold rdyL; rw [h.ts]
theorem memL_sim (h : Sim s s') : memL s = memL s' := by
  have hk : spKey s = spKey s' := by funext cpu x; unfold spKey; rw [spotV_sim h]
  have hc : isCh s = isCh s' := by funext g cpu x; unfold isCh; rw [h.gs, rdyL_sim h]
  funext g cpu
  unfold memL tksK grpK
  rw [hk, hc, rdyL_sim h, h.gs]
theorem walkL_sim (h : Sim s s') : walkL s = walkL s' := by
  have hf : ∀ (f : Nat) (cpu g : Int), walkF s cpu f g = walkF s' cpu f g := by
    intro f
    induction f with
    | zero => intro _ _; rfl
    | succ f ih =>
      intro cpu g
      unfold walkF
      rw [memL_sim h]
      cases memL s' g cpu with
      | nil => rfl
      | cons k l => dsimp only; rw [ih]
  funext cpu
  unfold walkL
  rw [hf, h.gs]
theorem chkE_sim (h : Sim s s') : chkE s = chkE s' := by funext g cpu; unfold chkE; rw [shapedB_sim h, h.gs, h.n]
theorem memE_sim (h : Sim s s') : memE s = memE s' := by funext g cpu; unfold memE; rw [chkE_sim h, memL_sim h]
theorem filE_sim (h : Sim s s') : filE s = filE s' := by funext g cpu; unfold filE; rw [chkE_sim h, h.gs, rdyL_sim h]
theorem rdyE_sim (h : Sim s s') : rdyE s = rdyE s' := by funext cpu; unfold rdyE; rw [chkE_sim h, rdyL_sim h]
theorem walE_sim (h : Sim s s') : walE s = walE s' := by funext cpu; unfold walE; rw [chkE_sim h, walkL_sim h]
theorem loadE_sim (h : Sim s s') : loadE s = loadE s' := by funext cpu; unfold loadE; rw [chkE_sim h, rdyL_sim h]
theorem shE_sim (h : Sim s s') : shE s = shE s' := by unfold shE; rw [shapedB_sim h]
theorem flE_sim (h : Sim s s') : flE s = flE s' := by
  have hv : floorV s = floorV s' := by funext g c; unfold floorV; rw [memL_sim h, spotV_sim h]
  unfold flE floorsL
  rw [shapedB_sim h, h.gs, h.n, hv]
theorem Sim.stb (h : Sim s s') (hb : StB s) : StB s' := ⟨by rw [← h.gs]; exact hb.g, by rw [← h.ts]; exact hb.t, by rw [← h.n]; exact hb.n1, by rw [← h.n]; exact hb.n2⟩
end
end Go.Proofs.Ytenngfkgfdogjaa
