/- How the arguments of chapter 21's laws read: keys, states; and how long their lists are where what is read is of bounded bulk | How the arguments of chapter 21's laws read where each slice is bounded by what it weighs | The walks of the laws EntityLess and EntityTells. -/
import Derived.Test.YtenngfkgfdogjaaRows
import Derived.Test.YtenngfkgfdogjaaZ1
import Derived.Test.YtenngfkgfdogjaaZ18
import Derived.SizedLaws
import Derived.Test.YtenngfkgfdogjaaZ21
set_option linter.unusedVariables false
set_option linter.unusedSimpArgs false
set_option linter.unusedSectionVars false
namespace Go.Proofs.Ytenngfkgfdogjaa
open Go Go.RowKit Go.Deep Go.ChangeShapes Go.WideShapes

section
variable {H : Type}
theorem bulk_pos (d : DataW H) : 1 ≤ Rows.uptoBulk d := by
  cases d with
  | lit l => cases l <;> simp [Rows.uptoBulk]
  | _ => simp [Rows.uptoBulk]
theorem bulkAll_len : ∀ l : List (DataW H), l.length ≤ Rows.uptoBulkAll l
  | [] => by simp
  | d :: r => by
    have := bulkAll_len r
    have := bulk_pos d
    simp only [Rows.uptoBulkAll, List.length_cons]; omega
theorem bulkAll_mem : ∀ {l : List (DataW H)} {d : DataW H}, d ∈ l → Rows.uptoBulk d ≤ Rows.uptoBulkAll l
  | [], _, h => by simp at h
  | e :: r, d, h => by
    simp only [Rows.uptoBulkAll]
    rcases List.mem_cons.1 h with rfl | h
    · omega
    · have := bulkAll_mem h; omega
variable {encd : TypeId × Value → H} {P : Program} {w : World} {base : Nat} {spare : Nat → Bool} {held : Bool}

/-- Rows of a slice, element by element, with the bound on what is read. -/
theorem open_rowsB {α : Type} {enc : α → List Value} {k : Nat} {Q : α → Prop} {t e : TypeId} {fuel : Nat} {cs : List Value} {x : DataW H × List MemPlace}
    (ht : P.underlying t = some (.slice e)) (ck : P.cellsOf e = k) (hk : 0 < k)
    (each : ∀ n cs y, Rows.uptoBulk y.1 ≤ Rows.uptoBulk x.1 → DataW.trod encd P w base spare held n e cs = some y → ∃ a, cs = enc a ∧ Q a)
    (h : DataW.trod encd P w base spare held fuel t cs = some x) :
    ∃ A len cap xs, cs = [.slice A len cap] ∧ EV enc k w (.slice A len cap) xs ∧ xs.length = len ∧ len ≤ Rows.uptoBulk x.1 ∧ ∀ a ∈ xs, Q a := by
  rcases open_slice ht h with ⟨hv, _⟩ | ⟨a, len, cap, m, n, D, Pl, hv, hb, hl, hm, hmm, hxx, hx⟩
  · exact ⟨_, _, _, [], hv, .inl ⟨rfl, _, _, rfl⟩, rfl, by omega, by simp⟩
  · have hlm : len ≤ m := by rw [hmm]; split <;> omega
    have hbk : ∀ i, i < len → Rows.uptoBulk (D i) ≤ Rows.uptoBulk x.1 := fun i hi => by
      have := bulkAll_mem (l := (List.range len).map D) (List.mem_map.2 ⟨i, List.mem_range.2 hi, rfl⟩)
      rw [hxx]; simp only [Rows.uptoBulk]; omega
    have hln : len ≤ Rows.uptoBulk x.1 := by
      have := bulkAll_len ((List.range len).map D)
      rw [List.length_map, List.length_range] at this
      rw [hxx]; simp only [Rows.uptoBulk]; omega
    have ex : ∀ i, i < len → ∃ z, (∀ j u, (enc z)[j]? = some u → w.cell? ((a.add (i * k)).add j) = some u) ∧ Q z := fun i hi => by
      obtain ⟨cs', h1, h2⟩ := hx i (by omega)
      rw [ck] at h1
      obtain ⟨_, hlen, hcell⟩ := World.cells?_some h1
      obtain ⟨z, rfl, hq⟩ := each _ _ _ (hbk i hi) h2
      refine ⟨z, fun j u hu => ?_, hq⟩
      have := (List.getElem?_eq_some_iff.1 hu).1
      exact (hcell j (by omega)).trans hu
    obtain ⟨f, hf⟩ : ∃ f : Nat → Option α, ∀ i, i < len → ∃ z, f i = some z ∧ (∀ j u, (enc z)[j]? = some u → w.cell? ((a.add (i * k)).add j) = some u) ∧ Q z :=
      ⟨fun i => if hi : i < len then some (Classical.choose (ex i hi)) else none, fun i hi => ⟨Classical.choose (ex i hi), by simp [hi], (Classical.choose_spec (ex i hi)).1, (Classical.choose_spec (ex i hi)).2⟩⟩
    obtain ⟨xs, hxl, hxs⟩ := pick_list f len (fun i hi => by obtain ⟨z, hz, _⟩ := hf i hi; exact ⟨z, hz⟩)
    have hq : ∀ z ∈ xs, Q z := fun z hz => by
      obtain ⟨i, hi⟩ := List.getElem?_of_mem hz
      have hil : i < len := by have := (List.getElem?_eq_some_iff.1 hi).1; omega
      obtain ⟨z', h1, _, h3⟩ := hf i hil
      rw [hxs i z hi] at h1; cases h1; exact h3
    refine ⟨some a, len, cap, xs, hv, ?_, hxl, hln, hq⟩
    rcases Nat.eq_zero_or_pos len with h0 | h0
    · exact .inl ⟨List.eq_nil_of_length_eq_zero (by omega), _, _, by rw [h0]⟩
    · have ha : a = ⟨a.block, a.off, none⟩ := by
        obtain ⟨cs', h1, _⟩ := hx 0 (by omega)
        rw [ck] at h1
        obtain ⟨_, hlen, hcell⟩ := World.cells?_some h1
        have h2 := hcell 0 hk
        rw [Nat.zero_mul, Addr.add_zero', Addr.add_zero', List.getElem?_eq_getElem (by omega)] at h2
        exact addr_of_cell h2
      rw [ha] at hf ⊢
      subst hxl
      refine EV.mk (fun i z hz j u hu => ?_) hl
      have hil : i < xs.length := (List.getElem?_eq_some_iff.1 hz).1
      obtain ⟨z', h1, h2, _⟩ := hf i hil
      rw [hxs i z hz] at h1; cases h1
      have := h2 j u hu
      rwa [Addr.add_lit, Addr.add_lit] at this

/-- A struct of one cell a field. -/
theorem flat_one {t : TypeId} {fs : Array Field} {n : Nat} {cs : List Value} {x : DataW H × List MemPlace} (ht : P.underlying t = some (.struct fs)) (ct : P.cellsOf t = fs.size)
    (hf : (fs.toList.zipIdx.all fun (f, i) => f.offset == i && P.cellsOf f.type == 1) = true)
    (h : DataW.trod encd P w base spare held n t cs = some x) : cs.length = fs.size ∧ ∃ m, ∀ (i : Nat) (f : Field) (c : Value), fs[i]? = some f → cs[i]? = some c → ∃ y, DataW.trod encd P w base spare held m f.type [c] = some y ∧ Rows.uptoBulk y.1 ≤ Rows.uptoBulk x.1 := by
  obtain ⟨xs, m, _, hx, hcl, hxl, he⟩ := DataW.trod_struct ht h
  refine ⟨by omega, m, fun i f c hi hc => ?_⟩
  have h1 := List.all_eq_true.1 hf (f, i) (by
    rw [List.mem_zipIdx_iff_getElem?]
    simpa using hi)
  simp only [Bool.and_eq_true, beq_iff_eq] at h1
  have h2 := he i f hi
  have hil := (List.getElem?_eq_some_iff.1 hc)
  obtain ⟨hil, hcv⟩ := hil
  have h3 : (cs.drop i).take 1 = [c] := by
    rw [List.drop_eq_getElem_cons hil, hcv]; rfl
  rw [h1.1, h1.2, h3, List.getElem?_eq_getElem (show i < xs.length by omega)] at h2
  refine ⟨_, h2, ?_⟩
  have := bulkAll_mem (l := xs.map (·.1)) (List.mem_map.2 ⟨xs[i]'(by omega), List.getElem_mem _, rfl⟩)
  rw [hx]; simp only [Rows.uptoBulk]; omega
end

section
variable {H : Type} {encd : TypeId × Value → H} {w : World} {base : Nat} {spare : Nat → Bool} {held : Bool}
theorem key_cells {n : Nat} {cs : List Value} {x : DataW H × List MemPlace} (h : DataW.trod encd Try.prog w base spare held n 24 cs = some x) : ∃ k : Ky, cs = encY k ∧ True := by
  obtain ⟨hl, m, hm⟩ := flat_one Try.underlying24 (by kernel_rfl) (by kernel_rfl) h
  match cs, hl with
  | [c0, c1, c2], _ =>
    obtain ⟨y0, t0, _⟩ := hm 0 _ _ rfl rfl
    obtain ⟨y1, t1, _⟩ := hm 1 _ _ rfl rfl
    obtain ⟨y2, t2, _⟩ := hm 2 _ _ rfl rfl
    obtain ⟨z0, e0, _, w0⟩ := DataW.trod_int Try.underlying22 t0
    obtain ⟨z1, e1, _⟩ := DataW.trod_bool Try.underlying4 t1
    obtain ⟨z2, e2, _, w2⟩ := DataW.trod_int Try.underlying3 t2
    cases e0; cases e1; cases e2
    exact ⟨⟨z0, z1, z2⟩, rfl, trivial⟩
def KeyArg (w : World) (v : Value) (k : Ky) : Prop := v = ValY k ∧ True
set_option maxRecDepth 100000 in
theorem key_open {b0 : Nat} {n : Nat} {v : Value} {x : DataW H × List MemPlace} (hv : Value.okWide Try.prog w .any b0 24 v) (h : DataW.trod encd Try.prog w base spare held n 24 v.cells.toList = some x) : ∃ k, KeyArg w v k := by
  obtain ⟨cs, rfl, hsz⟩ := okWide_struct Try.underlying24 hv
  obtain ⟨k, h1, h2⟩ := key_cells h
  refine ⟨k, ?_, h2⟩
  have : cs = #[.int .u64 k.v, .bool k.sp, .int .i64 k.id] := by
    apply Array.toList_inj.1
    exact h1
  rw [this]; rfl
set_option maxRecDepth 100000 in
theorem task_cells {n : Nat} {cs : List Value} {x : DataW H × List MemPlace} (h : DataW.trod encd Try.prog w base spare held n 61 cs = some x) : ∃ t : Tk, cs = encT t ∧ True := by
  obtain ⟨hl, m, hm⟩ := flat_one Try.underlying61 (by kernel_rfl) (by kernel_rfl) h
  match cs, hl with
  | [c0, c1, c2, c3, c4, c5, c6, c7], _ =>
    obtain ⟨y0, t0, _⟩ := hm 0 _ _ rfl rfl
    obtain ⟨y1, t1, _⟩ := hm 1 _ _ rfl rfl
    obtain ⟨y2, t2, _⟩ := hm 2 _ _ rfl rfl
    obtain ⟨y3, t3, _⟩ := hm 3 _ _ rfl rfl
    obtain ⟨y4, t4, _⟩ := hm 4 _ _ rfl rfl
    obtain ⟨y5, t5, _⟩ := hm 5 _ _ rfl rfl
    obtain ⟨y6, t6, _⟩ := hm 6 _ _ rfl rfl
    obtain ⟨y7, t7, _⟩ := hm 7 _ _ rfl rfl
    obtain ⟨z0, e0, _⟩ := DataW.trod_int Try.underlying3 t0
    obtain ⟨z1, e1, _⟩ := DataW.trod_int Try.underlying3 t1
    obtain ⟨z2, e2, _⟩ := DataW.trod_int Try.underlying3 t2
    obtain ⟨z3, e3, _⟩ := DataW.trod_int Try.underlying3 t3
    obtain ⟨z4, e4, _⟩ := DataW.trod_int Try.underlying22 t4
    obtain ⟨z5, e5, _⟩ := DataW.trod_bool Try.underlying4 t5
    obtain ⟨z6, e6, _⟩ := DataW.trod_int Try.underlying22 t6
    obtain ⟨z7, e7, _⟩ := DataW.trod_int Try.underlying49 t7
    cases e0; cases e1; cases e2; cases e3; cases e4; cases e5; cases e6; cases e7
    exact ⟨⟨z0, z1, z2, z3, z4, z5, z6, z7⟩, rfl, trivial⟩
theorem spot_cells {n : Nat} {cs : List Value} {x : DataW H × List MemPlace} (h : DataW.trod encd Try.prog w base spare held n 51 cs = some x) : ∃ s : Sp, cs = encS s ∧ True := by
  obtain ⟨hl, m, hm⟩ := flat_one Try.underlying51 (by kernel_rfl) (by kernel_rfl) h
  match cs, hl with
  | [c0, c1, c2], _ =>
    obtain ⟨y0, t0, _⟩ := hm 0 _ _ rfl rfl
    obtain ⟨y1, t1, _⟩ := hm 1 _ _ rfl rfl
    obtain ⟨y2, t2, _⟩ := hm 2 _ _ rfl rfl
    obtain ⟨z0, e0, _⟩ := DataW.trod_int Try.underlying22 t0
    obtain ⟨z1, e1, _⟩ := DataW.trod_int Try.underlying49 t1
    obtain ⟨z2, e2, _⟩ := DataW.trod_int Try.underlying22 t2
    cases e0; cases e1; cases e2
    exact ⟨⟨z0, z1, z2⟩, rfl, trivial⟩
theorem int_cells {n : Nat} {cs : List Value} {x : DataW H × List MemPlace} (h : DataW.trod encd Try.prog w base spare held n 3 cs = some x) : ∃ z : Int, cs = encI z ∧ True := by
  obtain ⟨z, e, _⟩ := DataW.trod_int Try.underlying3 h
  exact ⟨z, e, trivial⟩
theorem grp_cells {n : Nat} {cs : List Value} {x : DataW H × List MemPlace} (h : DataW.trod encd Try.prog w base spare held n 82 cs = some x) : ∃ g : Int × Int, cs = encG g ∧ True := by
  obtain ⟨g, e, _⟩ := flat_two Try.underlying82 (by kernel_rfl) rfl rfl (by kernel_rfl) (by kernel_rfl) Try.underlying3 Try.underlying3 h
  exact ⟨g, e, trivial⟩
theorem row_cells {n : Nat} {cs : List Value} {x : DataW H × List MemPlace} {B : Nat} (hB : Rows.uptoBulk x.1 ≤ B) (h : DataW.trod encd Try.prog w base spare held n 52 cs = some x) : ∃ a : Value × List Sp, cs = encR a ∧ (EV encS 3 w a.1 a.2 ∧ a.2.length ≤ B) := by
  obtain ⟨A, len, cap, xs, rfl, h1, h2, h3, _⟩ := open_rowsB (enc := encS) (k := 3) (Q := fun _ => True) Try.underlying52 (by kernel_rfl) (by omega) (fun n cs y _ hy => spot_cells hy) h
  exact ⟨(.slice A len cap, xs), rfl, h1, by show xs.length ≤ B; omega⟩

/-- How a state reads that came in, with all its lists at most B long. -/
def StArgB (B : Nat) (w : World) (v : Value) (s : St) : Prop := ∃ c, v = c.val s ∧ StAt w c s ∧ (-9223372036854775808 ≤ s.n ∧ s.n ≤ 9223372036854775807) ∧ s.gs.length ≤ B ∧ s.cl.length ≤ B ∧ s.cu.length ≤ B ∧ s.ts.length ≤ B ∧ s.ss.length ≤ B ∧ ∀ x ∈ s.ss, x.2.length ≤ B
set_option maxRecDepth 100000 in
theorem state_open {b0 : Nat} {n : Nat} {v : Value} {x : DataW H × List MemPlace} (hv : Value.okWide Try.prog w .any b0 38 v) (h : DataW.trod encd Try.prog w base spare held n 38 v.cells.toList = some x) : ∃ s, StArgB (Rows.uptoBulk x.1) w v s := by
  obtain ⟨cs, rfl, hsz⟩ := okWide_struct Try.underlying38 hv
  have hs7 : cs.toList.length = 7 := by rw [Array.length_toList, hsz]; kernel_rfl
  obtain ⟨xs, m, _, hx, hcl, hxl, he⟩ := DataW.trod_struct Try.underlying38 h
  have hbk : ∀ (i : Nat) (y : DataW H × List MemPlace), xs[i]? = some y → Rows.uptoBulk y.1 ≤ Rows.uptoBulk x.1 := fun i y hy => by
    have := bulkAll_mem (l := xs.map (·.1)) (List.mem_map.2 ⟨y, List.mem_of_getElem? hy, rfl⟩)
    rw [hx]; simp only [Rows.uptoBulk]; omega
  have hcs : cs = cs.toList.toArray := by simp
  obtain ⟨l, hlc⟩ : ∃ l, cs.toList = l := ⟨_, rfl⟩
  have hx5 : xs.length = 5 := hxl
  simp only [show (Value.agg cs).cells = cs from rfl] at he
  rw [hlc] at hcs hs7 he
  match l, hs7 with
  | [c0, c1, c2, c3, c4, c5, c6], _ =>
    have g0 : DataW.trod encd Try.prog w base spare held m 33 ((List.drop 0 [c0, c1, c2, c3, c4, c5, c6]).take (Try.prog.cellsOf 33)) = xs[0]? := he 0 _ rfl
    have g1 : DataW.trod encd Try.prog w base spare held m 34 ((List.drop 3 [c0, c1, c2, c3, c4, c5, c6]).take (Try.prog.cellsOf 34)) = xs[1]? := he 1 _ rfl
    have g2 : DataW.trod encd Try.prog w base spare held m 34 ((List.drop 4 [c0, c1, c2, c3, c4, c5, c6]).take (Try.prog.cellsOf 34)) = xs[2]? := he 2 _ rfl
    have g3 : DataW.trod encd Try.prog w base spare held m 35 ((List.drop 5 [c0, c1, c2, c3, c4, c5, c6]).take (Try.prog.cellsOf 35)) = xs[3]? := he 3 _ rfl
    have g4 : DataW.trod encd Try.prog w base spare held m 36 ((List.drop 6 [c0, c1, c2, c3, c4, c5, c6]).take (Try.prog.cellsOf 36)) = xs[4]? := he 4 _ rfl
    rw [show Try.prog.cellsOf 33 = 3 from by kernel_rfl, List.getElem?_eq_getElem (by omega)] at g0
    rw [show Try.prog.cellsOf 34 = 1 from by kernel_rfl, List.getElem?_eq_getElem (by omega)] at g1 g2
    rw [show Try.prog.cellsOf 35 = 1 from by kernel_rfl, List.getElem?_eq_getElem (by omega)] at g3
    rw [show Try.prog.cellsOf 36 = 1 from by kernel_rfl, List.getElem?_eq_getElem (by omega)] at g4
    have k0 := hbk 0 _ (List.getElem?_eq_getElem (by omega))
    have k1 := hbk 1 _ (List.getElem?_eq_getElem (by omega))
    have k2 := hbk 2 _ (List.getElem?_eq_getElem (by omega))
    have k3 := hbk 3 _ (List.getElem?_eq_getElem (by omega))
    have k4 := hbk 4 _ (List.getElem?_eq_getElem (by omega))
    simp only [List.drop_zero, List.take_succ_cons, List.take_zero, List.drop_succ_cons, List.drop_nil] at g0 g1 g2 g3 g4
    obtain ⟨_, m2, hm⟩ := flat_one Try.underlying33 (by kernel_rfl) (by kernel_rfl) g0
    obtain ⟨y0, t0, _⟩ := hm 0 _ _ rfl rfl
    obtain ⟨y1, t1, _⟩ := hm 1 _ _ rfl rfl
    obtain ⟨y2, t2, q2⟩ := hm 2 _ _ rfl rfl
    obtain ⟨z0, e0, _, w0⟩ := DataW.trod_int Try.underlying3 t0
    obtain ⟨z1, e1, _⟩ := DataW.trod_int Try.underlying22 t1
    obtain ⟨A2, n2, p2, gs, e2, o2, l2, b2, _⟩ := open_rowsB (enc := encG) (k := 2) (Q := fun _ => True) Try.underlying31 (by kernel_rfl) (by omega) (fun n cs y _ hy => grp_cells hy) t2
    obtain ⟨A3, n3, p3, cl, e3, o3, l3, b3, _⟩ := open_rowsB (enc := encI) (k := 1) (Q := fun _ => True) Try.underlying34 (by kernel_rfl) (by omega) (fun n cs y _ hy => int_cells hy) g1
    obtain ⟨A4, n4, p4, cu, e4, o4, l4, b4, _⟩ := open_rowsB (enc := encI) (k := 1) (Q := fun _ => True) Try.underlying34 (by kernel_rfl) (by omega) (fun n cs y _ hy => int_cells hy) g2
    obtain ⟨A5, n5, p5, ts, e5, o5, l5, b5, _⟩ := open_rowsB (enc := encT) (k := 8) (Q := fun _ => True) Try.underlying35 (by kernel_rfl) (by omega) (fun n cs y _ hy => task_cells hy) g3
    obtain ⟨A6, n6, p6, ss, e6, o6, l6, b6, q6⟩ := open_rowsB (enc := encR) (k := 1) (Q := fun a => EV encS 3 w a.1 a.2 ∧ a.2.length ≤ Rows.uptoBulk x.1) Try.underlying36 (by kernel_rfl) (by omega) (fun n cs y hb hy => row_cells (Nat.le_trans hb k4) hy) g4
    cases e0; cases e1; cases e2; cases e3; cases e4; cases e5; cases e6
    refine ⟨⟨z0, z1, gs, cl, cu, ts, ss⟩, ⟨.slice A2 n2 p2, .slice A3 n3 p3, .slice A4 n4 p4, .slice A5 n5 p5, .slice A6 n6 p6⟩, ?_, ⟨o2, o3, o4, o5, o6, fun x hx => (q6 x hx).1⟩, wf_i64 w0, ?_, ?_, ?_, ?_, ?_, fun x hx => (q6 x hx).2⟩
    · rw [hcs]; rfl
    all_goals dsimp only; omega
end
end Go.Proofs.Ytenngfkgfdogjaa
namespace Go.Proofs.Ytenngfkgfdogjaa
open Go Go.RowKit Go.Deep Go.ChangeShapes Go.WideShapes

theorem reach_le : reachBytes ≤ 140737488355328 := by decide
section
variable {H : Type} {P : Program}
/-- Each slice in it is within what an argument may weigh. -/
def Szd (P : Program) (t : TypeId) (d : DataW H) : Prop := ∀ n ∈ DataW.weights P t d, n ≤ reachBytes
theorem szd_agg {t : TypeId} {fs : Array Field} {xs : List (DataW H × List MemPlace)} {i : Nat} {f : Field} {y : DataW H × List MemPlace} (ht : P.underlying t = some (.struct fs)) (hz : Szd P t (.agg (xs.map (·.1)))) (hi : fs[i]? = some f) (hy : xs[i]? = some y) : Szd P f.type y.1 := fun n hn => by
  refine hz n ?_
  rw [DataW.weights, ht]
  exact DataW.weights_mem_each (j := i) (t := f.type) (d := y.1) (by simp [hi]) (by simp [hy]) n hn
theorem mem_weightsAll {e : TypeId} : ∀ {l : List (DataW H)} {d : DataW H}, d ∈ l → ∀ n ∈ DataW.weights P e d, n ∈ DataW.weightsAll P e l
  | [], _, h, _, _ => by simp at h
  | a :: r, d, h, n, hn => by
    rw [DataW.weightsAll, List.mem_append]
    rcases List.mem_cons.1 h with rfl | h
    · exact .inl hn
    · exact .inr (mem_weightsAll h n hn)
theorem szd_slice {t e : TypeId} {elems sp : List (DataW H)} (ht : P.underlying t = some (.slice e)) (hz : Szd P t (.slice elems sp)) : (elems.length + sp.length) * P.bytesOf e ≤ reachBytes ∧ ∀ d ∈ elems, Szd P e d := by
  unfold Szd at hz
  rw [DataW.weights, ht] at hz
  exact ⟨hz _ (by simp), fun d hd n hn => hz n (by simp only [List.mem_cons, List.mem_append]; exact .inr (.inl (mem_weightsAll hd n hn)))⟩
variable {encd : TypeId × Value → H} {w : World} {base : Nat} {spare : Nat → Bool} {held : Bool}

/-- Rows of a slice, element by element, with the bound on its bytes. -/
theorem open_rowsS {α : Type} {enc : α → List Value} {k by' : Nat} {Q : α → Prop} {t e : TypeId} {fuel : Nat} {cs : List Value} {x : DataW H × List MemPlace} (hz : Szd P t x.1) (hby : P.bytesOf e = by')
    (ht : P.underlying t = some (.slice e)) (ck : P.cellsOf e = k) (hk : 0 < k)
    (each : ∀ n cs y, Szd P e y.1 → DataW.trod encd P w base spare held n e cs = some y → ∃ a, cs = enc a ∧ Q a)
    (h : DataW.trod encd P w base spare held fuel t cs = some x) :
    ∃ A len cap xs, cs = [.slice A len cap] ∧ EV enc k w (.slice A len cap) xs ∧ xs.length = len ∧ len * by' ≤ reachBytes ∧ ∀ a ∈ xs, Q a := by
  rcases open_slice ht h with ⟨hv, _⟩ | ⟨a, len, cap, m, n, D, Pl, hv, hb, hl, hm, hmm, hxx, hx⟩
  · exact ⟨_, _, _, [], hv, .inl ⟨rfl, _, _, rfl⟩, rfl, by omega, by simp⟩
  · have hlm : len ≤ m := by rw [hmm]; split <;> omega
    rw [hxx] at hz
    obtain ⟨hz1, hz2⟩ := szd_slice ht hz
    have hbk : ∀ i, i < len → Szd P e (D i) := fun i hi => hz2 _ (List.mem_map.2 ⟨i, List.mem_range.2 hi, rfl⟩)
    have hln : len * by' ≤ reachBytes := by
      rw [List.length_map, List.length_range, hby] at hz1
      exact Nat.le_trans (Nat.mul_le_mul_right _ (Nat.le_add_right _ _)) hz1
    have ex : ∀ i, i < len → ∃ z, (∀ j u, (enc z)[j]? = some u → w.cell? ((a.add (i * k)).add j) = some u) ∧ Q z := fun i hi => by
      obtain ⟨cs', h1, h2⟩ := hx i (by omega)
      rw [ck] at h1
      obtain ⟨_, hlen, hcell⟩ := World.cells?_some h1
      obtain ⟨z, rfl, hq⟩ := each _ _ _ (hbk i hi) h2
      refine ⟨z, fun j u hu => ?_, hq⟩
      have := (List.getElem?_eq_some_iff.1 hu).1
      exact (hcell j (by omega)).trans hu
    obtain ⟨f, hf⟩ : ∃ f : Nat → Option α, ∀ i, i < len → ∃ z, f i = some z ∧ (∀ j u, (enc z)[j]? = some u → w.cell? ((a.add (i * k)).add j) = some u) ∧ Q z :=
      ⟨fun i => if hi : i < len then some (Classical.choose (ex i hi)) else none, fun i hi => ⟨Classical.choose (ex i hi), by simp [hi], (Classical.choose_spec (ex i hi)).1, (Classical.choose_spec (ex i hi)).2⟩⟩
    obtain ⟨xs, hxl, hxs⟩ := pick_list f len (fun i hi => by obtain ⟨z, hz, _⟩ := hf i hi; exact ⟨z, hz⟩)
    have hq : ∀ z ∈ xs, Q z := fun z hz => by
      obtain ⟨i, hi⟩ := List.getElem?_of_mem hz
      have hil : i < len := by have := (List.getElem?_eq_some_iff.1 hi).1; omega
      obtain ⟨z', h1, _, h3⟩ := hf i hil
      rw [hxs i z hi] at h1; cases h1; exact h3
    refine ⟨some a, len, cap, xs, hv, ?_, hxl, hln, hq⟩
    rcases Nat.eq_zero_or_pos len with h0 | h0
    · exact .inl ⟨List.eq_nil_of_length_eq_zero (by omega), _, _, by rw [h0]⟩
    · have ha : a = ⟨a.block, a.off, none⟩ := by
        obtain ⟨cs', h1, _⟩ := hx 0 (by omega)
        rw [ck] at h1
        obtain ⟨_, hlen, hcell⟩ := World.cells?_some h1
        have h2 := hcell 0 hk
        rw [Nat.zero_mul, Addr.add_zero', Addr.add_zero', List.getElem?_eq_getElem (by omega)] at h2
        exact addr_of_cell h2
      rw [ha] at hf ⊢
      subst hxl
      refine EV.mk (fun i z hz j u hu => ?_) hl
      have hil : i < xs.length := (List.getElem?_eq_some_iff.1 hz).1
      obtain ⟨z', h1, h2, _⟩ := hf i hil
      rw [hxs i z hz] at h1; cases h1
      have := h2 j u hu
      rwa [Addr.add_lit, Addr.add_lit] at this

/-- A struct of one cell a field, with the bounds. -/
theorem flat_oneS {t : TypeId} {fs : Array Field} {n : Nat} {cs : List Value} {x : DataW H × List MemPlace} (ht : P.underlying t = some (.struct fs)) (ct : P.cellsOf t = fs.size)
    (hf : (fs.toList.zipIdx.all fun (f, i) => f.offset == i && P.cellsOf f.type == 1) = true)
    (h : DataW.trod encd P w base spare held n t cs = some x) : cs.length = fs.size ∧ ∃ m, ∀ (i : Nat) (f : Field) (c : Value), fs[i]? = some f → cs[i]? = some c → ∃ y, DataW.trod encd P w base spare held m f.type [c] = some y ∧ (Szd P t x.1 → Szd P f.type y.1) := by
  obtain ⟨xs, m, _, hx, hcl, hxl, he⟩ := DataW.trod_struct ht h
  refine ⟨by omega, m, fun i f c hi hc => ?_⟩
  have h1 := List.all_eq_true.1 hf (f, i) (by
    rw [List.mem_zipIdx_iff_getElem?]
    simpa using hi)
  simp only [Bool.and_eq_true, beq_iff_eq] at h1
  have h2 := he i f hi
  have hil := (List.getElem?_eq_some_iff.1 hc)
  obtain ⟨hil, hcv⟩ := hil
  have h3 : (cs.drop i).take 1 = [c] := by
    rw [List.drop_eq_getElem_cons hil, hcv]; rfl
  rw [h1.1, h1.2, h3, List.getElem?_eq_getElem (show i < xs.length by omega)] at h2
  refine ⟨_, h2, ?_⟩
  exact fun hz => szd_agg ht (by rw [hx] at hz; exact hz) hi (List.getElem?_eq_getElem (by omega))
end

section
variable {H : Type} {encd : TypeId × Value → H} {w : World} {base : Nat} {spare : Nat → Bool} {held : Bool}
theorem row_cellsS {n : Nat} {cs : List Value} {x : DataW H × List MemPlace} (hz : Szd Try.prog 52 x.1) (h : DataW.trod encd Try.prog w base spare held n 52 cs = some x) : ∃ a : Value × List Sp, cs = encR a ∧ (EV encS 3 w a.1 a.2 ∧ a.2.length ≤ 5864062014805) := by
  obtain ⟨A, len, cap, xs, rfl, h1, h2, h3, _⟩ := open_rowsS (enc := encS) (k := 3) (by' := 24) (Q := fun _ => True) hz (by kernel_rfl) Try.underlying52 (by kernel_rfl) (by omega) (fun n cs y _ hy => spot_cells hy) h
  exact ⟨(.slice A len cap, xs), rfl, h1, by show xs.length ≤ _; have := reach_le; omega⟩
/-- How a state reads that came in, with lists within what an argument may weigh. -/
def StArg (w : World) (v : Value) (s : St) : Prop := ∃ c, v = c.val s ∧ StAt w c s ∧ (-9223372036854775808 ≤ s.n ∧ s.n ≤ 9223372036854775807) ∧ s.cl.length ≤ 17592186044416 ∧ s.cu.length ≤ 17592186044416 ∧ s.ss.length ≤ 5864062014805 ∧ ∀ x ∈ s.ss, x.2.length ≤ 5864062014805
set_option maxRecDepth 100000 in
theorem state_openS {b0 : Nat} {n : Nat} {v : Value} {x : DataW H × List MemPlace} (hv : Value.okWide Try.prog w .any b0 38 v) (hz : Szd Try.prog 38 x.1) (h : DataW.trod encd Try.prog w base spare held n 38 v.cells.toList = some x) : ∃ s, StArg w v s := by
  obtain ⟨cs, rfl, hsz⟩ := okWide_struct Try.underlying38 hv
  have hs7 : cs.toList.length = 7 := by rw [Array.length_toList, hsz]; kernel_rfl
  obtain ⟨xs, m, _, hx, hcl, hxl, he⟩ := DataW.trod_struct Try.underlying38 h
  have hbk : ∀ (i : Nat) (f : Field) (y : DataW H × List MemPlace) (fs : Array Field), Try.prog.underlying 38 = some (.struct fs) → fs[i]? = some f → xs[i]? = some y → Szd Try.prog f.type y.1 := fun i f y fs hu hf hy => szd_agg hu (by rw [hx] at hz; exact hz) hf hy
  have hcs : cs = cs.toList.toArray := by simp
  obtain ⟨l, hlc⟩ : ∃ l, cs.toList = l := ⟨_, rfl⟩
  have hx5 : xs.length = 5 := hxl
  simp only [show (Value.agg cs).cells = cs from rfl] at he
  rw [hlc] at hcs hs7 he
  match l, hs7 with
  | [c0, c1, c2, c3, c4, c5, c6], _ =>
    have g0 : DataW.trod encd Try.prog w base spare held m 33 ((List.drop 0 [c0, c1, c2, c3, c4, c5, c6]).take (Try.prog.cellsOf 33)) = xs[0]? := he 0 _ rfl
    have g1 : DataW.trod encd Try.prog w base spare held m 34 ((List.drop 3 [c0, c1, c2, c3, c4, c5, c6]).take (Try.prog.cellsOf 34)) = xs[1]? := he 1 _ rfl
    have g2 : DataW.trod encd Try.prog w base spare held m 34 ((List.drop 4 [c0, c1, c2, c3, c4, c5, c6]).take (Try.prog.cellsOf 34)) = xs[2]? := he 2 _ rfl
    have g3 : DataW.trod encd Try.prog w base spare held m 35 ((List.drop 5 [c0, c1, c2, c3, c4, c5, c6]).take (Try.prog.cellsOf 35)) = xs[3]? := he 3 _ rfl
    have g4 : DataW.trod encd Try.prog w base spare held m 36 ((List.drop 6 [c0, c1, c2, c3, c4, c5, c6]).take (Try.prog.cellsOf 36)) = xs[4]? := he 4 _ rfl
    rw [show Try.prog.cellsOf 33 = 3 from by kernel_rfl, List.getElem?_eq_getElem (by omega)] at g0
    rw [show Try.prog.cellsOf 34 = 1 from by kernel_rfl, List.getElem?_eq_getElem (by omega)] at g1 g2
    rw [show Try.prog.cellsOf 35 = 1 from by kernel_rfl, List.getElem?_eq_getElem (by omega)] at g3
    rw [show Try.prog.cellsOf 36 = 1 from by kernel_rfl, List.getElem?_eq_getElem (by omega)] at g4
    have k0 : Szd Try.prog 33 (xs[0]'(by omega)).1 := hbk 0 _ _ _ Try.underlying38 rfl (List.getElem?_eq_getElem (by omega))
    have k1 : Szd Try.prog 34 (xs[1]'(by omega)).1 := hbk 1 _ _ _ Try.underlying38 rfl (List.getElem?_eq_getElem (by omega))
    have k2 : Szd Try.prog 34 (xs[2]'(by omega)).1 := hbk 2 _ _ _ Try.underlying38 rfl (List.getElem?_eq_getElem (by omega))
    have k3 : Szd Try.prog 35 (xs[3]'(by omega)).1 := hbk 3 _ _ _ Try.underlying38 rfl (List.getElem?_eq_getElem (by omega))
    have k4 : Szd Try.prog 36 (xs[4]'(by omega)).1 := hbk 4 _ _ _ Try.underlying38 rfl (List.getElem?_eq_getElem (by omega))
    simp only [List.drop_zero, List.take_succ_cons, List.take_zero, List.drop_succ_cons, List.drop_nil] at g0 g1 g2 g3 g4
    obtain ⟨_, m2, hm⟩ := flat_oneS Try.underlying33 (by kernel_rfl) (by kernel_rfl) g0
    obtain ⟨y0, t0, _⟩ := hm 0 _ _ rfl rfl
    obtain ⟨y1, t1, _⟩ := hm 1 _ _ rfl rfl
    obtain ⟨y2, t2, q2⟩ := hm 2 _ _ rfl rfl
    obtain ⟨z0, e0, _, w0⟩ := DataW.trod_int Try.underlying3 t0
    obtain ⟨z1, e1, _⟩ := DataW.trod_int Try.underlying22 t1
    obtain ⟨A2, n2, p2, gs, e2, o2, l2, b2, _⟩ := open_rowsS (enc := encG) (k := 2) (by' := 16) (Q := fun _ => True) (q2 k0) (by kernel_rfl) Try.underlying31 (by kernel_rfl) (by omega) (fun n cs y _ hy => grp_cells hy) t2
    obtain ⟨A3, n3, p3, cl, e3, o3, l3, b3, _⟩ := open_rowsS (enc := encI) (k := 1) (by' := 8) (Q := fun _ => True) k1 (by kernel_rfl) Try.underlying34 (by kernel_rfl) (by omega) (fun n cs y _ hy => int_cells hy) g1
    obtain ⟨A4, n4, p4, cu, e4, o4, l4, b4, _⟩ := open_rowsS (enc := encI) (k := 1) (by' := 8) (Q := fun _ => True) k2 (by kernel_rfl) Try.underlying34 (by kernel_rfl) (by omega) (fun n cs y _ hy => int_cells hy) g2
    obtain ⟨A5, n5, p5, ts, e5, o5, l5, b5, _⟩ := open_rowsS (enc := encT) (k := 8) (by' := 64) (Q := fun _ => True) k3 (by kernel_rfl) Try.underlying35 (by kernel_rfl) (by omega) (fun n cs y _ hy => task_cells hy) g3
    obtain ⟨A6, n6, p6, ss, e6, o6, l6, b6, q6⟩ := open_rowsS (enc := encR) (k := 1) (by' := 24) (Q := fun a => EV encS 3 w a.1 a.2 ∧ a.2.length ≤ 5864062014805) k4 (by kernel_rfl) Try.underlying36 (by kernel_rfl) (by omega) (fun n cs y hb hy => row_cellsS hb hy) g4
    cases e0; cases e1; cases e2; cases e3; cases e4; cases e5; cases e6
    refine ⟨⟨z0, z1, gs, cl, cu, ts, ss⟩, ⟨.slice A2 n2 p2, .slice A3 n3 p3, .slice A4 n4 p4, .slice A5 n5 p5, .slice A6 n6 p6⟩, ?_, ⟨o2, o3, o4, o5, o6, fun x hx => (q6 x hx).1⟩, wf_i64 w0, ?_, ?_, ?_, fun x hx => (q6 x hx).2⟩
    · rw [hcs]; rfl
    all_goals (dsimp only; have := reach_le; omega)
end
end Go.Proofs.Ytenngfkgfdogjaa
namespace Go.Proofs.Ytenngfkgfdogjaa
open Go Go.RowKit Go.Shelf
attribute [local go_sem] Oper.semAt_some

theorem held6b {w wz wz' : World} {p0 p1 p2 p3 p4 p5 : Addr} {u0 u1 u2 u3 u4 u5 : Value} (h : wz.cell? p0 = some u0 ∧ wz.cell? p1 = some u1 ∧ wz.cell? p2 = some u2 ∧ wz.cell? p3 = some u3 ∧ wz.cell? p4 = some u4 ∧ wz.cell? p5 = some u5 ∧ Below w.heap.size w wz) (k : Below wz.heap.size wz wz') :
    wz'.cell? p0 = some u0 ∧ wz'.cell? p1 = some u1 ∧ wz'.cell? p2 = some u2 ∧ wz'.cell? p3 = some u3 ∧ wz'.cell? p4 = some u4 ∧ wz'.cell? p5 = some u5 ∧ Below w.heap.size w wz' :=
  ⟨below_cell k h.1, below_cell k h.2.1, below_cell k h.2.2.1, below_cell k h.2.2.2.1, below_cell k h.2.2.2.2.1, below_cell k h.2.2.2.2.2.1, below_step h.2.2.2.2.2.2 k⟩

set_option maxRecDepth 100000 in
set_option maxHeartbeats 3200000 in
theorem lessLaw_walk (w : World) (v0 v1 : Value) (a b : Ky) (h0 : KeyArg w v0 a) (h1 : KeyArg w v1 b) :
    Calls Try.prog 3 #[v0, v1] w fun e w' => e = .returned (.bool true) ∧ Below w.heap.size w w' := by
  obtain ⟨rfl, _⟩ := h0
  obtain ⟨rfl, _⟩ := h1
  have r1 := ((EV.newL (w := w) (e := 24) (xs := [a]) (n := 1) (c := 1) (cs := #[.int .u64 a.v, .bool a.sp, .int .i64 a.id]) encY_len rfl rfl (Nat.le_refl _)).row3 (by simp))
  have r2 := ((EV.newL (w := w.alloc (.cells #[.int .u64 a.v, .bool a.sp, .int .i64 a.id] 24)) (e := 24) (xs := [b]) (n := 1) (c := 1) (cs := #[.int .u64 b.v, .bool b.sp, .int .i64 b.id]) encY_len rfl rfl (Nat.le_refl _)).row3 (by simp))
  have B2 := bel_alloc (w.alloc (.cells #[.int .u64 a.v, .bool a.sp, .int .i64 a.id] 24)) (.cells #[.int .u64 b.v, .bool b.sp, .int .i64 b.id] 24)
  obtain ⟨a0, a1, a2⟩ := (r1.below B2).ky (i := 0) rfl
  obtain ⟨b0, b1, b2⟩ := r2.ky (i := 0) rfl
  have BB := below_step (bel_alloc w (.cells #[.int .u64 a.v, .bool a.sp, .int .i64 a.id] 24)) B2
  simp only [Nat.zero_mul, Nat.zero_add, World.size_alloc] at a0 a1 a2 b0 b1 b2
  have LV := Lib.hid (fun W (av : Int) (az : Bool) (ai bv : Int) (bz : Bool) (bi : Int) => less_ok W ⟨av, az, ai⟩ ⟨bv, bz, bi⟩)
  have RV := Lib.hid (fun W (av : Int) (az : Bool) (ai bv : Int) (bz : Bool) (bi : Int) => rless_ok W ⟨av, az, ai⟩ ⟨bv, bz, bi⟩)
  dsimp only at LV RV
  unfold ValY
  clear r1 r2 B2
  obtain ⟨av, az, ai⟩ := a
  obtain ⟨bv, bz, bi⟩ := b
  dsimp only at a0 a1 a2 b0 b1 b2 BB ⊢
  go_enter Try.func3, Try.ntmps3
  go_wp2_with fail
  generalize (w.alloc (.cells #[.int .u64 av, .bool az, .int .i64 ai] 24)).alloc (.cells #[.int .u64 bv, .bool bz, .int .i64 bi] 24) = w1 at a0 a1 a2 b0 b1 b2 BB ⊢
  obtain ⟨X, hX⟩ : ∃ X, w.heap.size = X := ⟨_, rfl⟩
  obtain ⟨Y, hY⟩ : ∃ Y, X + 1 = Y := ⟨_, rfl⟩
  have HX := Lib.hid hX
  simp only [hX, hY] at a0 a1 a2 b0 b1 b2 ⊢
  clear hX hY
  go_region_held3 (fun wz => wz.cell? ⟨X, 0, none⟩ = some (.int .u64 av) ∧ wz.cell? ⟨X, 1, none⟩ = some (.bool az) ∧ wz.cell? ⟨X, 2, none⟩ = some (.int .i64 ai) ∧ wz.cell? ⟨Y, 0, none⟩ = some (.int .u64 bv) ∧ wz.cell? ⟨Y, 1, none⟩ = some (.bool bz) ∧ wz.cell? ⟨Y, 2, none⟩ = some (.int .i64 bi) ∧ Below w.heap.size w wz)
    (first
      | exact held6b (by assumption) hbz
      | assumption
      | exact ⟨a0, a1, a2, b0, b1, b2, below_drew BB⟩)
    (first
      | (go_at_call 12; refine (LV.out _ _ _ _ _ _ _).mono ?_; rintro e wz ⟨rfl, hbz⟩)
      | (go_at_call 13; refine (RV.out _ _ _ _ _ _ _).mono ?_; rintro e wz ⟨rfl, hbz⟩)
      | (go_at_call 14; refine (awake_ok _).mono ?_; rintro e wz ⟨rfl, hbz⟩))
  all_goals
    rename_i hh
    have BF := Lib.hid hh.2.2.2.2.2.2
    go_wp2
    go_ret
    exact ⟨rfl, BF.out⟩

set_option maxRecDepth 100000 in
set_option maxHeartbeats 3200000 in
theorem tellsLaw_walk (w : World) (v : Value) (s : St) (g cpu id : Int) (h : StArg w v s) :
    Calls Try.prog 9 #[v, .int .i64 g, .int .i64 cpu, .int .i64 id] w fun e w' => e = .returned (.bool true) ∧ Below w.heap.size w w' := by
  obtain ⟨c, rfl, hat, hn, b2, b3, b5, b6⟩ := h
  have CC := Lib.hid (show c.cells s = #[.int .i64 s.n, .int .u64 s.cr, c.vg, c.vc, c.vu, c.vt, c.vs] from rfl)
  have a1 := bel_alloc w (.cells (c.cells s) 38)
  have BX := StBox.new w c s
  have F : Facts (w.alloc (.cells (c.cells s) 38)) [sSA c s, sSB w.heap.size c s, sB w] := ⟨hat.below a1, BX, a1, trivial⟩
  have SM := Lib.hid (fun W (hW : StAt W c s) => small_ok W c s hW)
  have TE := Lib.hid (fun W (hW : StAt W c s) (hs : smallB s = true) => by
    unfold smallB at hs
    simp only [Bool.and_eq_true, decide_eq_true_eq] at hs
    exact tells_ok W c s g cpu id hW ⟨by omega, b2, b3, by omega, b5, b6⟩ ⟨by omega, by omega, hn.1, hn.2⟩)
  unfold StC.val at SM TE ⊢
  simp only [CC.out] at SM TE F ⊢
  clear hat a1 BX hn b2 b3 b5 b6
  go_enter Try.func9, Try.ntmps9
  go_upto_region 1 with fail
  generalize w.alloc (.cells #[.int .i64 s.n, .int .u64 s.cr, c.vg, c.vc, c.vu, c.vt, c.vs] 38) = w1 at F ⊢
  obtain ⟨X, hX⟩ : ∃ X, w.heap.size = X := ⟨_, rfl⟩
  rw [hX] at F
  simp only [hX]
  have HX := Lib.hid hX
  clear hX
  obtain ⟨b0, b1, b2, b3, b4, b5, b6⟩ := (F.get 1 : StBox w1 X c s).cell
  go_wp2_with fail
  refine (SM.out w1 (F.get 0)).mono ?_
  rintro e w2 ⟨rfl, bb⟩
  replace F := F.below bb
  clear bb b0 b1 b2 b3 b4 b5 b6
  cases hs : smallB s with
  | false =>
    go_wp2_with fail
    refine (awake_ok w2).mono ?_
    rintro e w3 ⟨rfl, bb⟩
    have hfin := Lib.hid ((F.below bb).get 2 : Below w.heap.size w w3)
    clear F bb
    go_wp2
    go_ret
    exact ⟨rfl, hfin.out⟩
  | true =>
    have TE2 := Lib.hid (TE.out w2 (F.get 0) hs)
    obtain ⟨b0, b1, b2, b3, b4, b5, b6⟩ := (F.get 1 : StBox w2 X c s).cell
    clear TE SM
    go_wp2_with fail
    refine TE2.out.mono ?_
    rintro e w3 ⟨rfl, bb⟩
    replace F := F.below bb
    clear bb b0 b1 b2 b3 b4 b5 b6
    go_wp2_with fail
    refine (awake_ok w3).mono ?_
    rintro e w4 ⟨rfl, bb⟩
    have hfin := Lib.hid ((F.below bb).get 2 : Below w.heap.size w w4)
    clear F bb
    go_wp2
    go_ret
    exact ⟨rfl, hfin.out⟩
end Go.Proofs.Ytenngfkgfdogjaa
