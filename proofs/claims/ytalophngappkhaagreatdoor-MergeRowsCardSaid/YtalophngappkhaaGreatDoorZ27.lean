/- How the arguments of the outright laws read: the numbers that events are made of | quantumlaw12.Trace | quantumlaw12.sameAs, where both are the same | quantumlaw12.Cut, in plain words | What a cut trace is merged to, in plain words: how many numbers the gaps have | What a cut trace is merged to, in plain words. -/
import Derived.Test.YtalophngappkhaaGreatDoorZ3
import Derived.Test.YtalophngappkhaaGreatDoorZ26
import Derived.Deep.DeepCutAuto
set_option linter.unusedVariables false
set_option linter.unusedSimpArgs false
set_option linter.unusedSectionVars false
namespace Go.Proofs.YtalophngappkhaaGreatDoor
open Go Go.RowKit Go.Shelf Go.Deep Go.ChangeShapes Go.WideShapes

section
variable {H : Type} {encd : TypeId × Value → H} {P : Program} {w : World} {base : Nat} {spare : Nat → Bool} {held : Bool}
/-- A struct of one cell a field. -/
theorem flat_one {t : TypeId} {fs : Array Field} {n : Nat} {cs : List Value} {x : DataW H × List MemPlace} (ht : P.underlying t = some (.struct fs)) (ct : P.cellsOf t = fs.size)
    (hf : (fs.toList.zipIdx.all fun (f, i) => f.offset == i && P.cellsOf f.type == 1) = true)
    (h : DataW.trod encd P w base spare held n t cs = some x) : cs.length = fs.size ∧ ∃ m, ∀ (i : Nat) (f : Field) (c : Value), fs[i]? = some f → cs[i]? = some c → ∃ y, DataW.trod encd P w base spare held m f.type [c] = some y := by
  obtain ⟨xs, m, _, hx, hcl, hxl, he⟩ := DataW.trod_struct ht h
  refine ⟨by omega, m, fun i f c hi hc => ?_⟩
  have h1 := List.all_eq_true.1 hf (f, i) (by
    rw [List.mem_zipIdx_iff_getElem?]
    simpa using hi)
  simp only [Bool.and_eq_true, beq_iff_eq] at h1
  have h2 := he i f hi
  obtain ⟨hil, hcv⟩ := List.getElem?_eq_some_iff.1 hc
  have h3 : (cs.drop i).take 1 = [c] := by
    rw [List.drop_eq_getElem_cons hil, hcv]; rfl
  rw [h1.1, h1.2, h3] at h2
  exact ⟨_, h2.trans (List.getElem?_eq_getElem (show i < xs.length by omega)) |>.trans rfl⟩
theorem wf_u8_ {z : Int} (h : (Lit.int .u8 z).wf = true) : 0 ≤ z ∧ z ≤ 255 := by simpa [Lit.wf, IntKind.min, IntKind.max, IntKind.signed, IntKind.bits] using h
theorem wf_u16_ {z : Int} (h : (Lit.int .u16 z).wf = true) : 0 ≤ z ∧ z ≤ 65535 := by simpa [Lit.wf, IntKind.min, IntKind.max, IntKind.signed, IntKind.bits] using h
theorem wf_u64_ {z : Int} (h : (Lit.int .u64 z).wf = true) : 0 ≤ z ∧ z ≤ 18446744073709551615 := by simpa [Lit.wf, IntKind.min, IntKind.max, IntKind.signed, IntKind.bits] using h
theorem wf_i64_ {z : Int} (h : (Lit.int .i64 z).wf = true) : -9223372036854775808 ≤ z ∧ z ≤ 9223372036854775807 := by simpa [Lit.wf, IntKind.min, IntKind.max, IntKind.signed, IntKind.bits] using h
theorem wf_u32_ {z : Int} (h : (Lit.int .u32 z).wf = true) : 0 ≤ z ∧ z ≤ 4294967295 := by simpa [Lit.wf, IntKind.min, IntKind.max, IntKind.signed, IntKind.bits] using h
set_option maxRecDepth 100000 in
theorem s6_cells {n : Nat} {cs : List Value} {x : DataW H × List MemPlace} (h : DataW.trod encd Tryz.prog w base spare held n 80 cs = some x) : ∃ t : S6, cs = encS6 t ∧ S6Ok t := by
  obtain ⟨hl, m, hm⟩ := flat_one Tryz.underlying80 (by kernel_rfl) (by kernel_rfl) h
  match cs, hl with
  | [c0, c1, c2, c3, c4, c5, c6, c7, c8, c9, c10], _ =>
    obtain ⟨y0, t0⟩ := hm 0 _ _ rfl rfl
    obtain ⟨y1, t1⟩ := hm 1 _ _ rfl rfl
    obtain ⟨y2, t2⟩ := hm 2 _ _ rfl rfl
    obtain ⟨y3, t3⟩ := hm 3 _ _ rfl rfl
    obtain ⟨y4, t4⟩ := hm 4 _ _ rfl rfl
    obtain ⟨y5, t5⟩ := hm 5 _ _ rfl rfl
    obtain ⟨y6, t6⟩ := hm 6 _ _ rfl rfl
    obtain ⟨y7, t7⟩ := hm 7 _ _ rfl rfl
    obtain ⟨y8, t8⟩ := hm 8 _ _ rfl rfl
    obtain ⟨y9, t9⟩ := hm 9 _ _ rfl rfl
    obtain ⟨y10, t10⟩ := hm 10 _ _ rfl rfl
    obtain ⟨z0, e0, _, w0⟩ := DataW.trod_int Tryz.underlying5 t0
    obtain ⟨z1, e1, _, w1⟩ := DataW.trod_int Tryz.underlying5 t1
    obtain ⟨z2, e2, _, w2⟩ := DataW.trod_int Tryz.underlying78 t2
    obtain ⟨z3, e3, _, w3⟩ := DataW.trod_int Tryz.underlying78 t3
    obtain ⟨z4, e4, _, w4⟩ := DataW.trod_int Tryz.underlying78 t4
    obtain ⟨z5, e5, _, w5⟩ := DataW.trod_int Tryz.underlying78 t5
    obtain ⟨z6, e6, _, w6⟩ := DataW.trod_int Tryz.underlying78 t6
    obtain ⟨z7, e7, _, w7⟩ := DataW.trod_int Tryz.underlying78 t7
    obtain ⟨z8, e8, _, w8⟩ := DataW.trod_int Tryz.underlying78 t8
    obtain ⟨z9, e9, _, w9⟩ := DataW.trod_int Tryz.underlying78 t9
    obtain ⟨z10, e10, _, w10⟩ := DataW.trod_int Tryz.underlying26 t10
    cases e0; cases e1; cases e2; cases e3; cases e4; cases e5; cases e6; cases e7; cases e8; cases e9; cases e10
    exact ⟨⟨z0, z1, z2, z3, z4, z5, z6, z7, z8, z9, z10⟩, rfl, ⟨wf_u8_ w0, wf_u8_ w1, wf_u32_ w2, wf_u32_ w3, wf_u32_ w4, wf_u32_ w5, wf_u32_ w6, wf_u32_ w7, wf_u32_ w8, wf_u32_ w9, wf_u64_ w10⟩⟩
def S6Arg (w : World) (v : Value) (ts : List S6) : Prop := EV encS6 11 w v ts ∧ (∀ t ∈ ts, S6Ok t) ∧ ts.length ≤ 9223372036854775807
theorem s6_open {n : Nat} {v : Value} {x : DataW H × List MemPlace} (h : DataW.trod encd Tryz.prog w base spare held n 43 [v] = some x) : ∃ ts, S6Arg w v ts := by
  obtain ⟨A, len, cap, xs, rfl, h1, h2, h3, h4⟩ := open_rows (enc := encS6) (k := 11) (Q := S6Ok) Tryz.underlying43 (by kernel_rfl) (by omega) (fun n cs y hy => s6_cells hy) h
  exact ⟨xs, h1, h4, by unfold maxLen at h3; omega⟩
end
theorem S6Arg.below {w w' : World} {v : Value} {ts : List S6} (h : S6Arg w v ts) (hb : Below w.heap.size w w') : S6Arg w' v ts := ⟨h.1.below hb, h.2⟩
end Go.Proofs.YtalophngappkhaaGreatDoor
namespace Go.Proofs.YtalophngappkhaaGreatDoor
open Go Go.RowKit Go.Shelf
attribute [local go_sem] Oper.semAt_some

/-- What a trace is: right events of four CPUs, whose numbers grow, and whose times do not decrease. -/
structure Tr (l : List Ev) : Prop where
  ok : ∀ e ∈ l, EvOk e ∧ chkEv e = 0 ∧ 0 ≤ e.cpu ∧ e.cpu < 4 ∧ 1 ≤ e.seq ∧ e.seq ≤ 3 * l.length ∧ 0 ≤ e.time ∧ e.time ≤ 50 * l.length
  srt : l.Pairwise (fun a b => a.seq < b.seq ∧ a.time ≤ b.time)
  len : l.length ≤ 40
theorem Tr.nil : Tr [] := ⟨fun e h => (by cases h), List.Pairwise.nil, Nat.zero_le _⟩
/-- One event more: s and t are the greatest number and time so far. -/
structure TrS (l : List Ev) (s t : Int) : Prop where
  tr : Tr l
  hi : ∀ e ∈ l, e.seq ≤ s ∧ e.time ≤ t
  sb : 0 ≤ s ∧ s ≤ 3 * l.length ∧ 0 ≤ t ∧ t ≤ 50 * l.length
theorem TrS.nil : TrS [] 0 0 := ⟨Tr.nil, fun e h => (by cases h), by simp⟩
theorem TrS.snoc {l : List Ev} {s t s' t' : Int} (h : TrS l s t) (hl : l.length < 40) {x : S6} (hx : S6Ok x) {m : Int} (hm : 0 ≤ m ∧ m ≤ 18446744073709551615) (hb : x.kind % 10 = 0 → m.toNat / 2 ^ (x.cpu % 64).toNat % 2 = 1) (hc : x.cpu % 64 < 4) (h1 : s < s' ∧ s' ≤ s + 3) (h2 : t ≤ t' ∧ t' ≤ t + 50) :
    TrS (l ++ [{ made6 x m with seq := s', time := t' }]) s' t' := by
  have hsb := h.sb
  have hok := made6_ok hx hm
  have hf := made6_facts x m
  have hchk := made6_chk hx hb (s := s') (t := t') (by omega) (by omega)
  have hlen : (l ++ [{ made6 x m with seq := s', time := t' }]).length = l.length + 1 := by simp
  refine ⟨⟨fun e he => ?_, ?_, by omega⟩, fun e he => ?_, by rw [hlen]; omega⟩
  · rw [hlen]
    rcases List.mem_append.1 he with he | he
    · obtain ⟨a1, a2, a3, a4, a5, a6, a7, a8⟩ := h.tr.ok e he
      exact ⟨a1, a2, a3, a4, a5, by omega, a7, by omega⟩
    · simp only [List.mem_cons, List.not_mem_nil, or_false] at he
      subst he
      refine ⟨⟨hok.cpu, hok.kind, hok.mask, by show _ ≤ s' ∧ s' ≤ _; omega, by show _ ≤ t' ∧ t' ≤ _; omega, hok.task, hok.grp, hok.to, hok.wt, hok.ticks, hok.got⟩, hchk, ?_, ?_, by show 1 ≤ s'; omega, by show s' ≤ _; omega, by show 0 ≤ t'; omega, by show t' ≤ _; omega⟩
      · show 0 ≤ (made6 x m).cpu
        exact hok.cpu.1
      · show (made6 x m).cpu < 4
        rw [hf.2.2.1]; exact hc
  · rw [List.pairwise_append]
    refine ⟨h.tr.srt, List.pairwise_singleton _ _, fun a ha b hb2 => ?_⟩
    simp only [List.mem_cons, List.not_mem_nil, or_false] at hb2
    subst hb2
    have := h.hi a ha
    show a.seq < s' ∧ a.time ≤ t'
    omega
  · rcases List.mem_append.1 he with he | he
    · have := h.hi e he; omega
    · simp only [List.mem_cons, List.not_mem_nil, or_false] at he
      subst he
      exact ⟨Int.le_refl _, Int.le_refl _⟩
theorem ER.s6 {w : World} {b off : Nat} {l : List S6} (h : ER encS6 11 w b off l) {i : Nat} {x : S6} (hi : l[i]? = some x) : ∀ j u, (encS6 x)[j]? = some u → w.cell? ⟨b, off + i * 11 + j, none⟩ = some u := h i x hi
/-- The box of the numbers. -/
structure SB6 (W : World) (X : Nat) (x : S6) : Prop where
  cell : W.heap[X]? = some (.cells (encS6 x).toArray 80 (0, 0))
theorem SB6.c {W : World} {X : Nat} {x : S6} (h : SB6 W X x) (j : Nat) (u : Value) (hu : (encS6 x)[j]? = some u) : W.cell? ⟨X, j, none⟩ = some u := by
  rw [cell_of_row W X j _ _ _ h.cell]; simpa using hu
theorem SB6.f {W : World} {X : Nat} {x : S6} (h : SB6 W X x) (j : Nat) : W.frozen? ⟨X, j, none⟩ = false := frozen_of_row W X j _ _ h.cell
theorem SB6.lt {W : World} {X : Nat} {x : S6} (h : SB6 W X x) : X < W.heap.size := (Array.getElem?_eq_some_iff.1 h.cell).1
theorem SB6.below {W W' : World} {X : Nat} {x : S6} (h : SB6 W X x) (hb : Below W.heap.size W W') : SB6 W' X x := ⟨(hb.block X h.lt).trans h.cell⟩
/-- The box of an event that is written to. -/
structure EB (W : World) (X : Nat) (e : Ev) : Prop where
  cell : W.heap[X]? = some (.cells (encE e).toArray 28 (0, 0))
theorem EB.c {W : World} {X : Nat} {e : Ev} (h : EB W X e) (j : Nat) (u : Value) (hu : (encE e)[j]? = some u) : W.cell? ⟨X, j, none⟩ = some u := by
  rw [cell_of_row W X j _ _ _ h.cell]; simpa using hu
theorem EB.f {W : World} {X : Nat} {e : Ev} (h : EB W X e) (j : Nat) : W.frozen? ⟨X, j, none⟩ = false := frozen_of_row W X j _ _ h.cell
theorem EB.set {W : World} {X : Nat} {e : Ev} (h : EB W X e) (j : Nat) (u : Value) (e' : Ev) (he : (encE e').toArray = (encE e).toArray.setIfInBounds j u) : EB (W.setCell ⟨X, j, none⟩ u) X e' := ⟨by rw [he]; exact heap_setCell_same W X j _ _ u h.cell⟩
end Go.Proofs.YtalophngappkhaaGreatDoor
namespace Go.Proofs.YtalophngappkhaaGreatDoor
open Go Go.RowKit Go.Shelf
attribute [local go_sem] Oper.semAt_some

set_option maxRecDepth 100000 in
set_option maxHeartbeats 3200000 in
theorem same_ok (w : World) (ve vt vg ue ut ug : Value) (R : List Ev) (T : List Int) (G : List (Int × Int)) (lost next : Int) (opn : Bool) (h1 : EV encE 11 w ve R) (h2 : EV encI 1 w vt T) (h3 : EV encP 2 w vg G) (k1 : EV encE 11 w ue R) (k2 : EV encI 1 w ut T) (k3 : EV encP 2 w ug G)
    (b1 : R.length ≤ 100000) (b2 : T.length ≤ 100000) (b3 : G.length ≤ 100000) :
    Calls Tryz.prog 26 #[mgA ve vt vg lost next opn, mgA ue ut ug lost next opn] w fun r w' => r = .returned (.bool true) ∧ Below w.heap.size w w' := by
  have HB1 := Lib.hid (bel_alloc w (.cells #[ve, vt, vg, .int .i64 lost, .int .i64 next, .bool opn] 39))
  have HX := Lib.hid ((MgBox.new w ve vt vg lost next opn).below (bel_alloc _ (.cells #[ue, ut, ug, .int .i64 lost, .int .i64 next, .bool opn] 39)))
  have HY := Lib.hid (MgBox.new (w.alloc (.cells #[ve, vt, vg, .int .i64 lost, .int .i64 next, .bool opn] 39)) ue ut ug lost next opn)
  have HB := Lib.hid (bstep HB1.out (bel_alloc _ (.cells #[ue, ut, ug, .int .i64 lost, .int .i64 next, .bool opn] 39)))
  have E1 := Lib.hid (And.intro h1 k1)
  have E2 := Lib.hid (And.intro h2 k2)
  have E3 := Lib.hid (And.intro h3 k3)
  clear h1 h2 h3 k1 k2 k3 HB1
  unfold mgA
  go_enter Tryz.func26, Tryz.ntmps26
  go_upto_region 1 with fail
  have hsz : (w.alloc (.cells #[ve, vt, vg, .int .i64 lost, .int .i64 next, .bool opn] 39)).heap.size = w.heap.size + 1 := by simp
  try rw [hsz] at HY
  generalize (w.alloc (.cells #[ve, vt, vg, .int .i64 lost, .int .i64 next, .bool opn] 39)).alloc (.cells #[ue, ut, ug, .int .i64 lost, .int .i64 next, .bool opn] 39) = w1 at HX HY HB ⊢
  clear hsz
  generalize w.heap.size + 1 = Y at HY ⊢
  obtain ⟨X, hX⟩ : ∃ X, w.heap.size = X := ⟨_, rfl⟩
  rw [hX] at HX ⊢
  rw [← hX]
  have a0 := HX.out.c0
  have d0 := HY.out.c0
  go_wp2_with fail
  refine (eq_ev w1 ve ue R (E1.out.1.below HB.out) (E1.out.2.below HB.out) (by omega)).mono ?_
  rintro r w2 ⟨rfl, bb⟩
  have HB2 := Lib.hid (bstep HB.out bb)
  have HX2 := Lib.hid (HX.out.below bb)
  have HY2 := Lib.hid (HY.out.below bb)
  clear bb a0 d0 HX HY HB
  have a1 := HX2.out.c1
  have d1 := HY2.out.c1
  go_wp2_with fail
  refine (eq_int w2 vt ut T (E2.out.1.below HB2.out) (E2.out.2.below HB2.out) (by omega)).mono ?_
  rintro r w3 ⟨rfl, bb⟩
  have HB3 := Lib.hid (bstep HB2.out bb)
  have HX3 := Lib.hid (HX2.out.below bb)
  have HY3 := Lib.hid (HY2.out.below bb)
  clear bb a1 d1 HX2 HY2 HB2
  have a2 := HX3.out.c2
  have d2 := HY3.out.c2
  go_wp2_with fail
  refine (eq_run w3 vg ug G (E3.out.1.below HB3.out) (E3.out.2.below HB3.out) (by omega)).mono ?_
  rintro r w4 ⟨rfl, bb⟩
  have HB4 := Lib.hid (bstep HB3.out bb)
  have HX4 := Lib.hid (HX3.out.below bb)
  have HY4 := Lib.hid (HY3.out.below bb)
  clear bb a2 d2 HX3 HY3 HB3
  have a3 := HX4.out.c3
  have d3 := HY4.out.c3
  have a4 := HX4.out.c4
  have d4 := HY4.out.c4
  have a5 := HX4.out.c5
  have d5 := HY4.out.c5
  cases opn
  all_goals
    go_wp2
    go_ret
    exact ⟨rfl, HB4.out⟩
end Go.Proofs.YtalophngappkhaaGreatDoor
namespace Go.Proofs.YtalophngappkhaaGreatDoor
open Go Go.RowKit Go.Shelf

/-- The greatest number of a trace. -/
def lastS (tr : List Ev) : Int := match tr.getLast? with
  | none => 0
  | some e => e.seq
theorem lastS_nil : lastS [] = 0 := rfl
theorem lastS_at {tr : List Ev} {n : Nat} {e : Ev} (hn : tr.length = n + 1) (he : tr[n]? = some e) : lastS tr = e.seq := by
  unfold lastS
  rw [List.getLast?_eq_getElem?, hn, Nat.add_sub_cancel, he]
theorem lastS_le {tr : List Ev} (h : Tr tr) : 0 ≤ lastS tr ∧ lastS tr ≤ 120 ∧ ∀ e ∈ tr, e.seq ≤ lastS tr := by
  rcases Nat.eq_zero_or_pos tr.length with h0 | h0
  · rw [List.eq_nil_of_length_eq_zero h0]
    exact ⟨by decide, by decide, fun e he => by cases he⟩
  · obtain ⟨n, hn⟩ : ∃ n, tr.length = n + 1 := ⟨tr.length - 1, by omega⟩
    obtain ⟨x, hx⟩ : ∃ x, tr[n]? = some x := ⟨_, List.getElem?_eq_getElem (by omega)⟩
    rw [lastS_at hn hx]
    obtain ⟨_, _, _, _, h1, h2, _⟩ := h.ok x (List.mem_of_getElem? hx)
    have := h.len
    refine ⟨by omega, by omega, fun e he => ?_⟩
    obtain ⟨i, hi, rfl⟩ := List.getElem_of_mem he
    have hs := List.pairwise_iff_getElem.1 h.srt
    obtain ⟨hn', rfl⟩ := List.getElem?_eq_some_iff.1 hx
    rcases Nat.lt_or_ge i n with hlt | hge
    · have := (hs i n hi hn' hlt).1; omega
    · obtain rfl : i = n := by omega
      exact Int.le_refl _
/-- A block of a cut trace. -/
structure CutB (tr : List Ev) (b : Bck) : Prop where
  kind : b.kind = 1
  cpu : 0 ≤ b.cpu ∧ b.cpu < 4
  lost : 0 ≤ b.lost ∧ b.lost ≤ 2
  next : b.next = 0
  len : 0 < b.evs.length ∧ b.evs.length ≤ 6
  own : ∀ e ∈ b.evs, e.cpu = b.cpu
  sub : b.evs.Sublist tr
theorem CutB.good {tr : List Ev} (ht : Tr tr) {b : Bck} (h : CutB tr b) : BlkOk b ∧ chkB b = 0 := by
  have h1 := h.kind
  have h2 := h.cpu
  have h3 := h.lost
  have h4 := h.next
  have ho : BlkOk b := ⟨by omega, by omega, by omega, by omega, fun e he => (ht.ok e (h.sub.mem he)).1⟩
  refine ⟨ho, chkB_small ho (.inl ⟨h1, ?_, by omega, by omega, by omega, h4, fun he => ?_, fun e l he => h.own e (by rw [he]; simp)⟩) (by have := h.len; omega)⟩
  · refine RowOk.of fun i e he => ⟨(ht.ok e (h.sub.mem (List.mem_of_getElem? he))).2.1, fun j p hij hp => ?_⟩
    have hs := List.pairwise_iff_getElem.1 (ht.srt.sublist h.sub)
    obtain ⟨hi', rfl⟩ := List.getElem?_eq_some_iff.1 he
    obtain ⟨hj', rfl⟩ := List.getElem?_eq_some_iff.1 hp
    have := hs j i hj' hi' (by omega)
    exact ⟨(h.own _ (List.getElem_mem hi')).trans (h.own _ (List.getElem_mem hj')).symm, this.1, this.2⟩
  · have := h.len; rw [he] at this; simp at this
/-- What Cut returns: blocks, whose events are together those of the trace, and an end. -/
structure CutR (tr : List Ev) (bs : List Bck) (nx : Int) : Prop where
  blk : ∀ b ∈ bs, CutB tr b
  perm : (bs.flatMap Bck.evs).Perm tr
  nx : lastS tr < nx ∧ nx ≤ lastS tr + 4
theorem flat_ge : ∀ {bs : List Bck}, (∀ b ∈ bs, 0 < b.evs.length) → bs.length ≤ (bs.flatMap Bck.evs).length
  | [], _ => Nat.zero_le _
  | b :: bs, h => by
    have h1 := h b (by simp)
    have h2 := flat_ge (bs := bs) (fun x hx => h x (by simp [hx]))
    rw [List.flatMap_cons, List.length_append, List.length_cons]
    omega
theorem CutR.len {tr : List Ev} {bs : List Bck} {nx : Int} (h : CutR tr bs nx) : bs.length ≤ tr.length := by
  rw [← h.perm.length_eq]
  exact flat_ge fun b hb => (h.blk b hb).len.1
/-- The events of some CPUs. -/
def cpusL (tr : List Ev) (c : Nat) : List Ev := (List.range c).flatMap (cpuL tr)
theorem cpus_succ (tr : List Ev) (c : Nat) : cpusL tr (c + 1) = cpusL tr c ++ cpuL tr c := by
  unfold cpusL
  rw [List.range_succ, List.flatMap_append]
  simp
theorem cpus_count (tr : List Ev) (x : Ev) : ∀ c : Nat, (cpusL tr c).count x = if 0 ≤ x.cpu ∧ x.cpu < (c : Int) then tr.count x else 0
  | 0 => by
    rw [if_neg (by omega)]; rfl
  | c + 1 => by
    rw [cpus_succ, List.count_append, cpus_count tr x c]
    have h1 : (cpuL tr c).count x = if x.cpu = (c : Int) then tr.count x else 0 := by
      unfold cpuL
      by_cases hx : x.cpu = (c : Int)
      · rw [if_pos hx, List.count_filter (by simpa using hx)]
      · rw [if_neg hx, List.count_eq_zero]
        intro hm
        exact hx (by simpa using (List.mem_filter.1 hm).2)
    rw [h1]
    by_cases h2 : x.cpu = (c : Int)
    · rw [if_pos h2, if_neg (by omega), if_pos (by omega)]; simp
    · by_cases h3 : 0 ≤ x.cpu ∧ x.cpu < (c : Int)
      · rw [if_neg h2, if_pos h3, if_pos (by omega)]; simp
      · rw [if_neg h2, if_neg h3, if_neg (by omega)]
theorem cpus_perm {tr : List Ev} {c : Nat} (h : ∀ e ∈ tr, 0 ≤ e.cpu ∧ e.cpu < (c : Int)) : (cpusL tr c).Perm tr := by
  rw [List.perm_iff_count]
  intro x
  rw [cpus_count]
  by_cases hx : 0 ≤ x.cpu ∧ x.cpu < (c : Int)
  · rw [if_pos hx]
  · rw [if_neg hx]
    symm
    rw [List.count_eq_zero]
    exact fun hm => hx (h x hm)
/-- How far Cut has come: CPUs below c, and i events of CPU c. -/
structure CutI (tr : List Ev) (c i : Nat) (bs : List Bck) : Prop where
  blk : ∀ b ∈ bs, CutB tr b
  flat : bs.flatMap Bck.evs = cpusL tr c ++ (cpuL tr c).take i
theorem CutI.nil (tr : List Ev) : CutI tr 0 0 [] := ⟨fun b hb => (by cases hb), by simp [cpusL]⟩
theorem CutI.cpu {tr : List Ev} {c i : Nat} {bs : List Bck} (h : CutI tr c i bs) (hi : (cpuL tr c).length ≤ i) : CutI tr (c + 1) 0 bs :=
  ⟨h.blk, by rw [h.flat, List.take_of_length_le hi, List.take_zero, List.append_nil, cpus_succ]⟩
theorem CutI.step {tr : List Ev} {c i n : Nat} {bs : List Bck} (h : CutI tr c i bs) (hc : c < 4) (hi : i < (cpuL tr c).length) (hn : 1 ≤ n ∧ n ≤ 6) {lost : Int} (hl : 0 ≤ lost ∧ lost ≤ 2) :
    CutI tr c (i + n) (bs ++ [⟨1, (c : Int), lost, 0, ((cpuL tr c).drop i).take n⟩]) := by
  refine ⟨fun b hb => ?_, ?_⟩
  · rcases List.mem_append.1 hb with hb | hb
    · exact h.blk b hb
    · simp only [List.mem_cons, List.not_mem_nil, or_false] at hb
      subst hb
      refine ⟨rfl, ⟨by show (0 : Int) ≤ (c : Int); omega, by show (c : Int) < 4; omega⟩, hl, rfl, ?_, fun e he => ?_, ?_⟩
      · show 0 < (((cpuL tr c).drop i).take n).length ∧ (((cpuL tr c).drop i).take n).length ≤ 6
        rw [List.length_take, List.length_drop]; omega
      · have h1 : e ∈ cpuL tr c := List.mem_of_mem_drop (List.mem_of_mem_take he)
        unfold cpuL at h1
        simpa using (List.mem_filter.1 h1).2
      · exact ((List.take_sublist _ _).trans (List.drop_sublist _ _)).trans List.filter_sublist
  · rw [List.flatMap_append, h.flat, List.append_assoc]
    congr 1
    simp only [List.flatMap_cons, List.flatMap_nil, List.append_nil]
    rw [List.take_add]
theorem CutI.done {tr : List Ev} (ht : Tr tr) {bs : List Bck} (h : CutI tr 4 0 bs) {nx : Int} (hx : lastS tr < nx ∧ nx ≤ lastS tr + 4) : CutR tr bs nx :=
  ⟨h.blk, by
    rw [h.flat, List.take_zero, List.append_nil]
    exact cpus_perm fun e he => by have := ht.ok e he; exact ⟨this.2.2.1, this.2.2.2.1⟩, hx⟩
theorem CutI.len {tr : List Ev} {c i : Nat} {bs : List Bck} (h : CutI tr c i bs) : bs.length ≤ (cpusL tr c).length + (cpuL tr c).length := by
  have h1 := flat_ge fun b hb => (h.blk b hb).len.1
  rw [h.flat, List.length_append, List.length_take] at h1
  omega
theorem cpus_len (tr : List Ev) : ∀ c : Nat, (cpusL tr c).length ≤ tr.length := by
  intro c
  have h : (cpusL tr c).Perm (tr.filter fun x => decide (0 ≤ x.cpu ∧ x.cpu < (c : Int))) := by
    rw [List.perm_iff_count]
    intro x
    rw [cpus_count]
    by_cases hx : 0 ≤ x.cpu ∧ x.cpu < (c : Int)
    · rw [if_pos hx, List.count_filter (by simpa using hx)]
    · rw [if_neg hx]
      symm
      rw [List.count_eq_zero]
      exact fun hm => hx (by simpa using (List.mem_filter.1 hm).2)
  rw [h.length_eq]
  exact List.length_filter_le _ _
theorem CutI.len2 {tr : List Ev} {c i : Nat} {bs : List Bck} (h : CutI tr c i bs) : bs.length ≤ tr.length := by
  have h1 := flat_ge fun b hb => (h.blk b hb).len.1
  have h2 := cpus_len tr (c + 1)
  rw [h.flat, List.length_append, List.length_take] at h1
  rw [cpus_succ, List.length_append] at h2
  omega
end Go.Proofs.YtalophngappkhaaGreatDoor
namespace Go.Proofs.YtalophngappkhaaGreatDoor
open Go Go.RowKit Go.Shelf

/-- How many of the first L. -/
def cntF (f : Int → Bool) : Nat → Int
  | 0 => 0
  | L + 1 => cntF f L + cond (f (L : Int)) 1 0
theorem cntF_or (f g : Int → Bool) : ∀ L, cntF (fun n => f n || g n) L + cntF (fun n => f n && g n) L = cntF f L + cntF g L
  | 0 => rfl
  | L + 1 => by
    have := cntF_or f g L
    simp only [cntF]
    cases f (L : Int) <;> cases g (L : Int) <;> simp only [Bool.or_false, Bool.or_true, Bool.and_false, Bool.and_true, cond_true, cond_false] <;> omega
theorem cntF_none (L : Nat) : cntF (fun _ => false) L = 0 := by
  induction L with
  | zero => rfl
  | succ L ih => simp only [cntF]; rw [ih]; simp
theorem cntF_ext {f g : Int → Bool} (h : ∀ n, f n = g n) (L : Nat) : cntF f L = cntF g L := by
  rw [show f = g from funext h]
theorem cntF_run (p : Int) (c : Int) (hp : 0 ≤ p) (hc : 0 ≤ c) : ∀ L : Nat, cntF (fun n => decide (p ≤ n ∧ n < p + c)) L = if (L : Int) ≤ p then 0 else if (L : Int) ≤ p + c then (L : Int) - p else c
  | 0 => by simp only [cntF]; repeat' split
            all_goals omega
  | L + 1 => by
    simp only [cntF]
    rw [cntF_run p c hp hc L]
    have e : cond (decide (p ≤ (L : Int) ∧ (L : Int) < p + c)) (1 : Int) 0 = if p ≤ (L : Int) ∧ (L : Int) < p + c then 1 else 0 := by
      by_cases h : p ≤ (L : Int) ∧ (L : Int) < p + c
      · rw [if_pos h, decide_eq_true h]; rfl
      · rw [if_neg h, decide_eq_false h]; rfl
    rw [e]
    push_cast
    repeat' split
    all_goals omega
theorem cnt_cntF (L : Nat) : ∀ {l : List (Int × Int)}, Can 0 l → endR 0 l ≤ L → cntR l = cntF (hasR l) L := by
  intro l
  induction hn : l.length generalizing l with
  | zero =>
    intro _ _
    have : l = [] := List.eq_nil_of_length_eq_zero hn
    subst this
    rw [show (hasR ([] : List (Int × Int))) = fun _ => false from rfl, cntF_none]; rfl
  | succ m ih =>
    intro hc he
    rcases List.eq_nil_or_concat l with rfl | ⟨p, r, rfl⟩
    · simp at hn
    · rw [List.concat_eq_append] at *
      obtain ⟨c1, c2, c3⟩ := can_snoc.1 hc
      rw [endR_append] at he
      have hr := rok_iff.1 c3
      have hnx : nxt r = r.1 + r.2 := rfl
      have h1 := ih (l := p) (by simp at hn; exact hn) c1 (by omega)
      have e1 : cntF (hasR (p ++ [r])) L = cntF (fun n => hasR p n || decide (r.1 ≤ n ∧ n < r.1 + r.2)) L := cntF_ext (fun n => by rw [hasR_append, hasR_cons, hasR_nil, Bool.or_false]; rfl) L
      have e2 := cntF_or (hasR p) (fun n => decide (r.1 ≤ n ∧ n < r.1 + r.2)) L
      have e3 : cntF (fun n => hasR p n && decide (r.1 ≤ n ∧ n < r.1 + r.2)) L = 0 := by
        rw [cntF_ext (g := fun _ => false) (fun n => ?_) L, cntF_none]
        by_cases hd : r.1 ≤ n ∧ n < r.1 + r.2
        · rw [has_end c1 (by omega)]; rfl
        · rw [show decide (r.1 ≤ n ∧ n < r.1 + r.2) = false from by simpa using hd, Bool.and_false]
      have e4 := cntF_run r.1 r.2 (by omega) (by omega) L
      rw [cntR_append, e1, h1]
      simp only [cntR]
      rw [if_neg (by omega)] at e4
      split at e4 <;> omega
theorem cntF_mem (L : Nat) : ∀ {R : List Ev}, R.Pairwise (fun a b => a.seq < b.seq) → (∀ e ∈ R, 1 ≤ e.seq ∧ e.seq < (L : Int)) → cntF (fun n => decide (n ∈ seqsL R)) L = R.length
  | [], _, _ => by
    rw [cntF_ext (g := fun _ => false) (fun n => by simp [seqsL]), cntF_none]; rfl
  | e :: R, hs, hr => by
    obtain ⟨h1, h2⟩ := List.pairwise_cons.1 hs
    have ih := cntF_mem L h2 (fun x hx => hr x (by simp [hx]))
    have he := hr e (by simp)
    have e1 : cntF (fun n => decide (n ∈ seqsL (e :: R))) L = cntF (fun n => decide (e.seq ≤ n ∧ n < e.seq + 1) || decide (n ∈ seqsL R)) L := cntF_ext (fun n => by
      rw [show seqsL (e :: R) = e.seq :: seqsL R from rfl]
      by_cases hn : n ∈ seqsL R
      · simp [hn]
      · simp only [List.mem_cons, hn, or_false, decide_false, Bool.or_false]
        exact decide_eq_decide.2 (by omega)) L
    have e2 := cntF_or (fun n => decide (e.seq ≤ n ∧ n < e.seq + 1)) (fun n => decide (n ∈ seqsL R)) L
    have e3 : cntF (fun n => decide (e.seq ≤ n ∧ n < e.seq + 1) && decide (n ∈ seqsL R)) L = 0 := by
      rw [cntF_ext (g := fun _ => false) (fun n => ?_) L, cntF_none]
      by_cases hd : e.seq ≤ n ∧ n < e.seq + 1
      · rw [decide_eq_true hd, Bool.true_and, decide_eq_false_iff_not]
        intro hm
        obtain ⟨x, hx, rfl⟩ := List.mem_map.1 hm
        have := h1 x hx
        omega
      · rw [decide_eq_false hd, Bool.false_and]
    have e4 := cntF_run e.seq 1 (by omega) (by omega) L
    rw [if_neg (by omega)] at e4
    rw [e1, List.length_cons]
    split at e4 <;> omega
/-- The gaps have all numbers that are not there. -/
theorem gaps_cnt {R : List Ev} (hs : R.Pairwise (fun a b => a.seq < b.seq)) {next : Int} (h : ∀ e ∈ R, 1 ≤ e.seq ∧ e.seq < next) (hl : R.length ≤ 65535) (h1 : 1 ≤ next) (h2 : next ≤ 281474976710657) :
    cntR (gapsOf R next) + R.length = next - 1 := by
  obtain ⟨L, hL⟩ : ∃ L : Nat, (L : Int) = 281474976710657 := ⟨281474976710657, by decide⟩
  obtain ⟨_, g2, g3⟩ := gaps_ok hs (fun e he => by have := h e he; omega) hl h1 h2
  have e1 := cnt_cntF L g2 (by rw [hL]; exact end_le (by omega) g2)
  have e2 := cntF_mem L hs (fun e he => by have := h e he; omega)
  have e3 := cntF_or (hasR (gapsOf R next)) (fun n => decide (n ∈ seqsL R)) L
  have e4 : cntF (fun n => hasR (gapsOf R next) n && decide (n ∈ seqsL R)) L = 0 := by
    rw [cntF_ext (g := fun _ => false) (fun n => ?_) L, cntF_none]
    rw [g3]
    by_cases hn : n ∈ seqsL R <;> simp [hn]
  have e5 : cntF (fun n => hasR (gapsOf R next) n || decide (n ∈ seqsL R)) L = cntF (fun n => decide (1 ≤ n ∧ n < 1 + (next - 1))) L := cntF_ext (fun n => by
    rw [g3]
    by_cases hn : n ∈ seqsL R
    · obtain ⟨x, hx, rfl⟩ := List.mem_map.1 hn
      have := h x hx
      have h3 : 1 ≤ x.seq ∧ x.seq < 1 + (next - 1) := by omega
      simp [hn, h3]
    · simp only [hn, not_false_eq_true, and_true, decide_false, Bool.or_false]
      exact decide_eq_decide.2 (by omega)) L
  have e6 := cntF_run 1 (next - 1) (by omega) (by omega) L
  rw [if_neg (by omega)] at e6
  split at e6 <;> omega
end Go.Proofs.YtalophngappkhaaGreatDoor
namespace Go.Proofs.YtalophngappkhaaGreatDoor
open Go Go.RowKit Go.Shelf

theorem foldl_perm {α β : Type} (f : β → α → β) (hf : ∀ a b c, f (f a b) c = f (f a c) b) {l m : List α} (h : l.Perm m) : ∀ a, l.foldl f a = m.foldl f a := by
  induction h with
  | nil => intro a; rfl
  | cons x _ ih => intro a; exact ih _
  | swap x y l => intro a; simp only [List.foldl_cons]; rw [hf]
  | trans _ _ ih1 ih2 => intro a; rw [ih1, ih2]
theorem endB_perm {l m : List Bck} (h : l.Perm m) : endB l = endB m := foldl_perm _ (fun a b c => by omega) h 0
theorem lostB_perm {l m : List Bck} (h : l.Perm m) : lostB l = lostB m := foldl_perm _ (fun a b c => by omega) h 0
theorem lostB_cons (b : Bck) (l : List Bck) : lostB (b :: l) = b.lost + lostB l := by
  have h : lostB (b :: l) = lostB (l ++ [b]) := lostB_perm (List.perm_append_comm (l₁ := [b]) (l₂ := l))
  rw [h, lostB_snoc]; omega
theorem lostB_app (l : List Bck) : ∀ m, lostB (m ++ l) = lostB m + lostB l
  | [] => by simp [lostB]
  | b :: m => by rw [List.cons_append, lostB_cons, lostB_cons, lostB_app l m]; omega
theorem endB_cons (b : Bck) (l : List Bck) : endB (b :: l) = max (endB l) b.next := by
  have h : endB (b :: l) = endB (l ++ [b]) := endB_perm (List.perm_append_comm (l₁ := [b]) (l₂ := l))
  rw [h, endB_snoc]
theorem endB_zero {l : List Bck} (h : ∀ b ∈ l, b.next = 0) : endB l = 0 := by
  induction l with
  | nil => rfl
  | cons b l ih =>
    rw [endB_cons, ih (fun x hx => h x (by simp [hx])), h b (by simp)]
    rfl
/-- A row of right numbers. -/
structure Srt (R : List Ev) (hi : Int) : Prop where
  srt : R.Pairwise (fun a b => a.seq < b.seq)
  rng : ∀ e ∈ R, 1 ≤ e.seq ∧ e.seq ≤ hi
theorem Srt.next {R : List Ev} {hi : Int} (h : Srt R hi) : nxtS R = lastS R + 1 ∧ 0 ≤ lastS R ∧ ∀ e ∈ R, e.seq ≤ lastS R := by
  rcases List.eq_nil_or_concat R with rfl | ⟨p, x, rfl⟩
  · exact ⟨rfl, by decide, fun e he => by cases he⟩
  · rw [List.concat_eq_append] at *
    have h1 : lastS (p ++ [x]) = x.seq := by unfold lastS; simp
    have hx := h.rng x (by simp)
    have h2 : ∀ e ∈ p, e.seq < x.seq := fun e he => (List.pairwise_append.1 h.srt).2.2 e he x (by simp)
    have h3 : ∀ (l : List Ev) (a : Int), a ≤ x.seq + 1 → (∀ e ∈ l, e.seq < x.seq) → l.foldl (fun a e => max a (e.seq + 1)) a ≤ x.seq + 1 := by
      intro l
      induction l with
      | nil => intro a ha _; exact ha
      | cons y l ih =>
        intro a ha hl
        have := hl y (by simp)
        exact ih _ (show max a (y.seq + 1) ≤ x.seq + 1 by omega) (fun e he => hl e (by simp [he]))
    have h4 := h3 p 1 (by omega) h2
    rw [nxtS_snoc, h1]
    refine ⟨?_, by omega, fun e he => ?_⟩
    · unfold nxtS; omega
    · rcases List.mem_append.1 he with he | he
      · have := h2 e he; omega
      · simp only [List.mem_cons, List.not_mem_nil, or_false] at he
        subst he; exact Int.le_refl _
theorem can_len : ∀ {l : List (Int × Int)} {lo : Int}, Can lo l → (l.length : Int) ≤ cntR l
  | [], _, _ => by simp [cntR]
  | r :: l, lo, h => by
    obtain ⟨_, h2, h3⟩ := can_cons.1 h
    have := can_len h3
    have := rok_iff.1 h2
    simp only [cntR, List.length_cons]
    omega
/-- What is merged where all blocks are right, no number is there twice, and all numbers are small. -/
structure MgW (R : List Ev) (lost next : Int) (opn : Bool) (m : Mg) : Prop where
  eq : m = ⟨R, [], gapsOf R next, lost, next, opn⟩
  srt : Srt R (next - 1)
  can : Can 0 m.gaps
  has : ∀ n, hasR m.gaps n = decide (1 ≤ n ∧ n < next ∧ n ∉ seqsL R)
  cnt : cntR m.gaps + R.length = next - 1
  rng : 1 ≤ next ∧ next ≤ 1000
  len : R.length ≤ 1000 ∧ m.gaps.length ≤ 1000
  right : rightB m.gaps = true
theorem good_mrg {l : List Bck} {R : List Ev} (hl : l.length ≤ 4096) (hg : ∀ b ∈ l, chkB b = 0) (hp : (l.flatMap Bck.evs).Perm R) (hR : Srt R 900) (hn : R.length ≤ 900) (he : 0 ≤ endB l ∧ endB l ≤ 900) :
    ∃ M, MgW R (lostB l) (max (nxtS R) (endB l)) (decide (endB l ≠ max (nxtS R) (endB l))) M ∧ ∀ m c, MrgRes l m c → c = 0 ∧ m = M := by
  refine ⟨mgOf l R [], ?_, fun m c hm => mrg_of hm hl hg (join_perm hp.symm hR.srt (by rw [hp.length_eq]; omega))⟩
  obtain ⟨h1, h2, h3⟩ := hR.next
  have hle : lastS R ≤ 900 := by
    rcases List.eq_nil_or_concat R with rfl | ⟨p, x, rfl⟩
    · decide
    · rw [List.concat_eq_append] at *
      have : lastS (p ++ [x]) = x.seq := by unfold lastS; simp
      rw [this]; exact (hR.rng x (by simp)).2
  obtain ⟨N, hN⟩ : ∃ N, max (nxtS R) (endB l) = N := ⟨_, rfl⟩
  have hlo : ∀ e ∈ R, 1 ≤ e.seq ∧ e.seq < N := fun e he => by have := hR.rng e he; have := h3 e he; omega
  have g := gaps_ok hR.srt (fun e he => by have := hR.rng e he; omega) (by omega) (next := N) (by omega) (by omega)
  have c := gaps_cnt hR.srt hlo (by omega) (by omega) (by omega)
  have k := can_len g.2.1
  unfold mgOf
  rw [hN]
  exact ⟨rfl, ⟨hR.srt, fun e he => by have := hlo e he; omega⟩, g.2.1, g.2.2, c, by omega, ⟨by omega, by show (gapsOf R N).length ≤ 1000; omega⟩, right_iff.2 ⟨by show (gapsOf R N).length ≤ 65536; omega, g.2.1⟩⟩
theorem Tr.srt' {tr : List Ev} (h : Tr tr) : Srt tr 900 := by
  refine ⟨h.srt.imp fun {a b} h => h.1, fun e he => ?_⟩
  have := h.ok e he
  have := h.len
  omega
theorem bkE_good {n : Int} (h1 : 1 ≤ n) (h2 : n ≤ 900) : BlkOk (bkE n) ∧ chkB (bkE n) = 0 := bkE_ok h1 (by omega)
/-- The blocks of a cut trace, in any order. -/
theorem CutR.all {tr : List Ev} {bs : List Bck} {nx : Int} (ht : Tr tr) (h : CutR tr bs nx) {l : List Bck} (hl : ∀ b ∈ l, b ∈ bs ∨ b = bkE nx) : ∀ b ∈ l, BlkOk b ∧ chkB b = 0 ∧ b.evs.length ≤ 6 := fun b hb => by
  have hx := h.nx
  have hle := lastS_le ht
  rcases hl b hb with hb | rfl
  · have hc := h.blk b hb
    exact ⟨(hc.good ht).1, (hc.good ht).2, hc.len.2⟩
  · have := bkE_good (n := nx) (by omega) (by omega)
    exact ⟨this.1, this.2, Nat.zero_le _⟩
theorem CutR.mrg {tr : List Ev} {bs : List Bck} {nx : Int} (ht : Tr tr) (h : CutR tr bs nx) {l : List Bck} (hl : l.Perm (bs ++ [bkE nx])) : ∃ M, MgW tr (lostB l) nx false M ∧ ∀ m c, MrgRes l m c → c = 0 ∧ m = M := by
  have hx := h.nx
  have hle := lastS_le ht
  have hlen := h.len
  have htl := ht.len
  have hnx := ht.srt'.next
  have he : endB l = nx := by
    rw [endB_perm hl, endB_snoc, endB_zero fun b hb => (h.blk b hb).next]
    show max 0 nx = nx
    omega
  have hmem : ∀ b ∈ l, b ∈ bs ∨ b = bkE nx := fun b hb => by
    have := hl.mem_iff.1 hb
    simpa using this
  have hp : (l.flatMap Bck.evs).Perm tr := by
    refine (hl.flatMap_right _).trans ?_
    rw [List.flatMap_append]
    simpa [bkE] using h.perm
  obtain ⟨M, hM, hr⟩ := good_mrg (l := l) (R := tr) (by rw [hl.length_eq, List.length_append]; simp; omega) (fun b hb => (h.all ht hmem b hb).2.1) hp ht.srt' (by omega) (by omega)
  have hmax : max (nxtS tr) (endB l) = nx := by omega
  rw [hmax] at hM
  rw [show decide (endB l ≠ nx) = false by simp [he]] at hM
  exact ⟨M, hM, hr⟩
end Go.Proofs.YtalophngappkhaaGreatDoor
