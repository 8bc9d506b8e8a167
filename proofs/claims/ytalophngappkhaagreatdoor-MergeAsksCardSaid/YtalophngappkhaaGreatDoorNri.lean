/- MergeAsks: the argument, and the walk. -/
import Derived.Test.YtalophngappkhaaGreatDoorSzd
import Derived.Test.YtalophngappkhaaGreatDoorNrh
set_option linter.unusedVariables false
set_option linter.unusedSimpArgs false
set_option linter.unusedSectionVars false
namespace Go.Proofs.YtalophngappkhaaGreatDoor
open Go Go.RowKit Go.Shelf Go.Deep Go.ChangeShapes Go.WideShapes
attribute [local go_sem] Oper.semAt_some

section
variable {H : Type} {encd : TypeId × Value → H} {w : World} {base : Nat} {spare : Nat → Bool} {held : Bool}
set_option maxRecDepth 100000 in
theorem ev_cells {n : Nat} {cs : List Value} {x : DataW H × List MemPlace} (h : DataW.trod encd Tryz.prog w base spare held n 28 cs = some x) : ∃ t : Ev, cs = encE t ∧ EvOk t := by
  obtain ⟨hl, m, hm⟩ := flat_one Tryz.underlying28 (by kernel_rfl) (by kernel_rfl) h
  match cs, hl with
  | [c0, c1, c2, c3, c4, c5, c6, c7, c8, c9, c10], _ =>
    obtain ⟨y0, t0⟩ := hm 0 _ _ rfl rfl
    obtain ⟨y1, t1⟩ := hm 1 _ _ rfl rfl
    obtain ⟨y2, t2⟩ := hm 2 _ _ rfl rfl
    obtain ⟨y3, t3⟩ := hm 3 _ _ rfl rfl
    obtain ⟨y4, t4⟩ := hm 4 _ _ rfl rfl
    obtain ⟨y5, t5⟩ := hm 5 _ _ rfl rfl
    obtain ⟨y6, t6⟩ := hm 6 _ _ rfl rfl
    obtain ⟨y7, t7⟩ := hm 7 _ _ rfl rfl
    obtain ⟨y8, t8⟩ := hm 8 _ _ rfl rfl
    obtain ⟨y9, t9⟩ := hm 9 _ _ rfl rfl
    obtain ⟨y10, t10⟩ := hm 10 _ _ rfl rfl
    obtain ⟨z0, e0, _, w0⟩ := DataW.trod_int Tryz.underlying3 t0
    obtain ⟨z1, e1, _, w1⟩ := DataW.trod_int Tryz.underlying3 t1
    obtain ⟨z2, e2, _, w2⟩ := DataW.trod_int Tryz.underlying5 t2
    obtain ⟨z3, e3, _, w3⟩ := DataW.trod_int Tryz.underlying5 t3
    obtain ⟨z4, e4, _, w4⟩ := DataW.trod_int Tryz.underlying3 t4
    obtain ⟨z5, e5, _, w5⟩ := DataW.trod_int Tryz.underlying3 t5
    obtain ⟨z6, e6, _, w6⟩ := DataW.trod_int Tryz.underlying3 t6
    obtain ⟨z7, e7, _, w7⟩ := DataW.trod_int Tryz.underlying3 t7
    obtain ⟨z8, e8, _, w8⟩ := DataW.trod_int Tryz.underlying3 t8
    obtain ⟨z9, e9, _, w9⟩ := DataW.trod_int Tryz.underlying26 t9
    obtain ⟨z10, e10, _, w10⟩ := DataW.trod_int Tryz.underlying3 t10
    cases e0; cases e1; cases e2; cases e3; cases e4; cases e5; cases e6; cases e7; cases e8; cases e9; cases e10
    exact ⟨⟨z0, z1, z2, z3, z4, z5, z6, z7, z8, z9, z10⟩, rfl, ⟨wf_u8_ w2, wf_u8_ w3, wf_u64_ w9, wf_i64_ w0, wf_i64_ w1, wf_i64_ w4, wf_i64_ w5, wf_i64_ w6, wf_i64_ w7, wf_i64_ w8, wf_i64_ w10⟩⟩
theorem int_cells {n : Nat} {cs : List Value} {x : DataW H × List MemPlace} (h : DataW.trod encd Tryz.prog w base spare held n 3 cs = some x) : ∃ z : Int, cs = encI z ∧ True := by
  obtain ⟨z, e, _⟩ := DataW.trod_int Tryz.underlying3 h
  exact ⟨z, e, trivial⟩
theorem run_cells {n : Nat} {cs : List Value} {x : DataW H × List MemPlace} (h : DataW.trod encd Tryz.prog w base spare held n 34 cs = some x) : ∃ g : Int × Int, cs = encP g ∧ True := by
  obtain ⟨g, e, _⟩ := flat_two Tryz.underlying34 (by kernel_rfl) rfl rfl (by kernel_rfl) (by kernel_rfl) Tryz.underlying3 Tryz.underlying3 h
  exact ⟨g, e, trivial⟩
/-- How what is merged reads that came in. -/
def MgArg (w : World) (v : Value) (m : Mg) : Prop := ∃ ve vt vg, v = mgA ve vt vg m.lost m.next m.opn ∧ EV encE 11 w ve m.evs ∧ EV encI 1 w vt m.tw ∧ EV encP 2 w vg m.gaps ∧ m.tw.length * 8 ≤ 140737488355328
set_option maxRecDepth 100000 in
theorem mg_openS {b0 : Nat} {n : Nat} {v : Value} {x : DataW H × List MemPlace} (hv : Value.okWide Tryz.prog w .any b0 39 v) (hz : Szd Tryz.prog 39 x.1) (h : DataW.trod encd Tryz.prog w base spare held n 39 v.cells.toList = some x) : ∃ m, MgArg w v m := by
  obtain ⟨cs, rfl, hsz⟩ := okWide_struct Tryz.underlying39 hv
  simp only [show (Value.agg cs).cells = cs from rfl] at h
  obtain ⟨hl, m, hm⟩ := flat_oneS Tryz.underlying39 (by kernel_rfl) (by kernel_rfl) h
  have hcs : cs = cs.toList.toArray := by simp
  obtain ⟨l, hlc⟩ : ∃ l, cs.toList = l := ⟨_, rfl⟩
  rw [hlc] at hcs hl hm
  match l, hl with
  | [c0, c1, c2, c3, c4, c5], _ =>
    obtain ⟨y0, t0, q0⟩ := hm 0 _ _ rfl rfl
    obtain ⟨y1, t1, q1⟩ := hm 1 _ _ rfl rfl
    obtain ⟨y2, t2, q2⟩ := hm 2 _ _ rfl rfl
    obtain ⟨y3, t3, _⟩ := hm 3 _ _ rfl rfl
    obtain ⟨y4, t4, _⟩ := hm 4 _ _ rfl rfl
    obtain ⟨y5, t5, _⟩ := hm 5 _ _ rfl rfl
    obtain ⟨A0, n0, p0, es, e0, o0, l0, b0, _⟩ := open_rowsS (enc := encE) (k := 11) (by' := 80) (Q := fun _ => True) (q0 hz) (by kernel_rfl) Tryz.underlying22 (by kernel_rfl) (by omega) (fun n cs y _ hy => (by obtain ⟨a, ha, _⟩ := ev_cells hy; exact ⟨a, ha, trivial⟩)) t0
    obtain ⟨A1, n1, p1, ts, e1, o1, l1, b1, _⟩ := open_rowsS (enc := encI) (k := 1) (by' := 8) (Q := fun _ => True) (q1 hz) (by kernel_rfl) Tryz.underlying32 (by kernel_rfl) (by omega) (fun n cs y _ hy => int_cells hy) t1
    obtain ⟨A2, n2, p2, gs, e2, o2, l2, b2, _⟩ := open_rowsS (enc := encP) (k := 2) (by' := 16) (Q := fun _ => True) (q2 hz) (by kernel_rfl) Tryz.underlying35 (by kernel_rfl) (by omega) (fun n cs y _ hy => run_cells hy) t2
    obtain ⟨z3, e3, _⟩ := DataW.trod_int Tryz.underlying3 t3
    obtain ⟨z4, e4, _⟩ := DataW.trod_int Tryz.underlying3 t4
    obtain ⟨z5, e5, _⟩ := DataW.trod_bool Tryz.underlying4 t5
    cases e0; cases e1; cases e2; cases e3; cases e4; cases e5
    refine ⟨⟨es, ts, gs, z3, z4, z5⟩, .slice A0 n0 p0, .slice A1 n1 p1, .slice A2 n2 p2, ?_, o0, o1, o2, ?_⟩
    · rw [hcs]; rfl
    · dsimp only; have := reach_le; omega
end
set_option maxRecDepth 100000 in
set_option maxHeartbeats 6400000 in
theorem asks_walk (w : World) (v : Value) (m : Mg) (fr : Int) (h : MgArg w v m) (hU : LaidAt w) :
    Calls Tryz.prog 9 #[v, .int .i64 fr] w fun r w' => r = .returned (.bool true) ∧ Below w.heap.size w w' := by
  obtain ⟨ve, vt, vg, rfl, h1, h2, h3, h4⟩ := h
  obtain ⟨A1, c1, e1⟩ := h1.shape
  obtain ⟨A3, c3, e3⟩ := h3.shape
  subst e1 e3
  obtain ⟨n1, hn1⟩ : ∃ n, m.evs.length = n := ⟨_, rfl⟩
  obtain ⟨n3, hn3⟩ : ∃ n, m.gaps.length = n := ⟨_, rfl⟩
  have HN := Lib.hid (And.intro hn1 hn3)
  rw [hn1] at h1 ⊢
  rw [hn3] at h3 ⊢
  have HB := Lib.hid (bel_alloc w (.cells #[.slice A1 n1 c1, vt, .slice A3 n3 c3, .int .i64 m.lost, .int .i64 m.next, .bool m.opn] 39))
  have HX := Lib.hid (MgBox.new w (.slice A1 n1 c1) vt (.slice A3 n3 c3) m.lost m.next m.opn)
  have HAW := Lib.hid (fun (W : World) (b : Below w.heap.size w W) => awake_ok W (hU.below b))
  have HO := Lib.hid (fun (W : World) (b : Below w.heap.size w W) (q1 : n1 ≤ 40) (q3 : n3 ≤ 40) => one_ok W (.slice A1 n1 c1) vt (.slice A3 n3 c3) m.evs m.tw m.gaps m.lost m.next fr m.opn (h1.below b) (h2.below b) (h3.below b) (by omega) h4 (by omega))
  obtain ⟨evs, tw, gaps, lost, next, opn⟩ := m
  dsimp only at HN HB HX HO
  unfold mgA at HO ⊢
  dsimp only at HO ⊢
  clear h1 h2 h3 h4 hn1 hn3 hU
  go_enter Tryz.func9, Tryz.ntmps9
  go_upto_region 1 with fail
  generalize w.alloc (.cells #[.slice A1 n1 c1, vt, .slice A3 n3 c3, .int .i64 lost, .int .i64 next, .bool opn] 39) = w1 at HX HB ⊢
  obtain ⟨X, hX⟩ : ∃ X, w.heap.size = X := ⟨_, rfl⟩
  rw [hX] at HX ⊢
  clear hX
  have a0 := HX.out.c0
  have a1 := HX.out.c1
  have a2 := HX.out.c2
  have a3 := HX.out.c3
  have a4 := HX.out.c4
  have a5 := HX.out.c5
  by_cases q1 : 40 < n1
  · have d1 : decide ((40 : Int) < (n1 : Int)) = true := by simp; omega
    clear q1
    go_wp2_with fail
    refine (HAW.out w1 HB.out).mono ?_
    rintro r w2 ⟨rfl, bb⟩
    have HB2 := Lib.hid (bstep HB.out bb)
    clear bb
    go_wp2
    go_ret
    exact ⟨rfl, HB2.out⟩
  · have d1 : decide ((40 : Int) < (n1 : Int)) = false := by simp; omega
    by_cases q3 : 40 < n3
    · have d3 : decide ((40 : Int) < (n3 : Int)) = true := by simp; omega
      clear q1 q3
      go_wp2_with fail
      refine (HAW.out w1 HB.out).mono ?_
      rintro r w2 ⟨rfl, bb⟩
      have HB2 := Lib.hid (bstep HB.out bb)
      clear bb
      go_wp2
      go_ret
      exact ⟨rfl, HB2.out⟩
    · have d3 : decide ((40 : Int) < (n3 : Int)) = false := by simp; omega
      have HON := Lib.hid (HO.out w1 HB.out (by omega) (by omega))
      clear q1 q3
      go_wp2_with fail
      refine HON.out.mono ?_
      rintro r w2 ⟨rfl, bb⟩
      have HB2 := Lib.hid (bstep HB.out bb)
      clear bb
      go_wp2_with fail
      refine (HAW.out w2 HB2.out).mono ?_
      rintro r w3 ⟨rfl, bb⟩
      have HB3 := Lib.hid (bstep HB2.out bb)
      clear bb
      go_wp2
      go_ret
      exact ⟨rfl, HB3.out⟩
end Go.Proofs.YtalophngappkhaaGreatDoor
