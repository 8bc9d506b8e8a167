/- Contracts of entity: Members, Filled, Ready | Contracts of entity: Filled, Ready | Contract of entity.Load | entity.Walk: the plain law | Contract of entity.Walk | entity.Find: the closure that compares | slices.BinarySearchFunc at tasks | Contract of entity.Find. -/
import Derived.Test.YtenngfkgfdogjaaZ9
set_option linter.unusedVariables false
set_option linter.unusedSimpArgs false
set_option linter.unusedSectionVars false
namespace Go.Proofs.Ytenngfkgfdogjaa
open Go Go.RowKit Go.Shelf
attribute [local go_sem] Oper.semAt_some

/-- Bounds that every state has that is met. -/
structure StB (s : St) : Prop where
  g : s.gs.length ≤ 100000
  t : s.ts.length ≤ 1000000
  n1 : -9223372036854775808 ≤ s.n
  n2 : s.n ≤ 9223372036854775807
theorem Shp.stb {s : St} (h : Shp s) : StB s := ⟨by have := (right_iff.1 h.right).many; omega, by have := h.len; omega, by have := h.n1; omega, by have := h.n2; omega⟩
theorem ret_vi {v : Value} {a b : Int} (h : a = b) : Ending.returned (.tuple #[v, .int .i64 a]) = .returned (.tuple #[v, .int .i64 b]) := by rw [h]
def memE (s : St) (g cpu : Int) : List Ky := if chkE s g cpu = 0 then memL s g cpu else []
theorem memE_pos {s : St} {g cpu : Int} (h : chkE s g cpu = 0) : memE s g cpu = memL s g cpu := if_pos h
theorem memE_neg {s : St} {g cpu : Int} (h : ¬ chkE s g cpu = 0) : memE s g cpu = [] := if_neg h
set_option maxRecDepth 100000 in
set_option maxHeartbeats 1600000 in
theorem members_pub (w : World) (c : StC) (s : St) (g cpu : Int) (h : StAt w c s) (hb : StB s) :
    Calls Try.prog 16 #[c.val s, .int .i64 g, .int .i64 cpu] w fun e w' => ∃ v, e = .returned (.tuple #[v, .int .i64 (chkE s g cpu)]) ∧ OV encY 3 24 w.heap.size w' v (memE s g cpu) ∧ Below w.heap.size w w' := by
  have ME := Lib.hid (fun W (hW : StAt W c s) (hz : chkE s g cpu = 0) => members_ok W c s g cpu hW (chk_zero.1 hz).1 (chk_zero.1 hz).2.2.1 (chk_zero.1 hz).2.2.2)
  unfold StC.val at ME
  have CC' := show c.cells s = #[.int .i64 s.n, .int .u64 s.cr, c.vg, c.vc, c.vu, c.vt, c.vs] from rfl
  simp only [CC'] at ME
  clear CC'
  have CC := Lib.hid (show c.cells s = #[.int .i64 s.n, .int .u64 s.cr, c.vg, c.vc, c.vu, c.vt, c.vs] from rfl)
  have a1 := bel_alloc w (.cells (c.cells s) 38)
  have BX := StBox.new w c s
  have CK := Lib.hid (check_ok' (w.alloc (.cells (c.cells s) 38)) c s g cpu (h.below a1) hb.g hb.t hb.n1 hb.n2)
  have F : Facts (w.alloc (.cells (c.cells s) 38)) [sSA c s, sSB w.heap.size c s, sB w] := ⟨h.below a1, BX, a1, trivial⟩
  unfold StC.val at CK ⊢
  simp only [CC.out] at CK F ⊢
  clear h a1 BX
  go_enter Try.func16, Try.ntmps16
  go_upto_region 1 with fail
  generalize w.alloc (.cells #[.int .i64 s.n, .int .u64 s.cr, c.vg, c.vc, c.vu, c.vt, c.vs] 38) = w1 at F CK ⊢
  obtain ⟨X0, hX0⟩ : ∃ X0, w.heap.size = X0 := ⟨_, rfl⟩
  rw [hX0] at F
  simp only [hX0]
  have HX0 := Lib.hid hX0
  clear hX0
  obtain ⟨b0, b1, b2, b3, b4, b5, b6⟩ := (F.get 1 : StBox w1 X0 c s).cell
  go_wp2_with fail
  refine CK.out.mono ?_
  rintro e w2 ⟨rfl, bb⟩
  replace F := F.below bb
  clear bb CK b0 b1 b2 b3 b4 b5 b6
  obtain ⟨b0, b1, b2, b3, b4, b5, b6⟩ := (F.get 1 : StBox w2 X0 c s).cell
  by_cases hz : chkE s g cpu = 0
  · have ME2 := Lib.hid (ME.out w2 (F.get 0) hz)
    have HZ := Lib.hid hz
    have HM := Lib.hid (memE_pos hz)
    generalize hE : chkE s g cpu = E at hz ⊢
    subst hz
    clear ME
    have HE := Lib.hid hE
    clear hE
    go_wp2_with fail
    refine ME2.out.mono ?_
    rintro e w3 ⟨v, rfl, o, bb⟩
    have hfin := Lib.hid ((F.below bb).get 2 : Below w.heap.size w w3)
    have ho := Lib.hid (o.base_le (F.get 2 : Below w.heap.size w w2).size)
    clear o bb F ME2 b0 b1 b2 b3 b4 b5 b6
    go_wp2
    go_ret2
    exact ⟨v, ret_vi HE.out.symm, by rw [HM.out]; exact ho.out, hfin.out⟩
  · have HZ := Lib.hid hz
    have hd : (chkE s g cpu != 0) = true := by simp [hz]
    have HM := Lib.hid (memE_neg hz)
    have hfin := Lib.hid (F.get 2 : Below w.heap.size w w2)
    clear hz ME F b0 b1 b2 b3 b4 b5 b6
    generalize hE : chkE s g cpu = E at HZ hd ⊢
    have HE := Lib.hid hE
    clear hE
    go_wp2
    go_ret2
    exact ⟨_, ret_vi HE.out.symm, by rw [HM.out]; exact OV.nil _ _, hfin.out⟩
end Go.Proofs.Ytenngfkgfdogjaa
namespace Go.Proofs.Ytenngfkgfdogjaa
open Go Go.RowKit Go.Shelf
attribute [local go_sem] Oper.semAt_some

theorem ret_bi' {a a' : Bool} {b b' : Int} (h : a = a') (h2 : b = b') : Ending.returned (.tuple #[.bool a, .int .i64 b]) = .returned (.tuple #[.bool a', .int .i64 b']) := by rw [h, h2]
def filE (s : St) (g cpu : Int) : Bool := if chkE s g cpu = 0 then fillB s.gs (rdyL s cpu) g.toNat else false
theorem filE_pos {s : St} {g cpu : Int} (h : chkE s g cpu = 0) : filE s g cpu = fillB s.gs (rdyL s cpu) g.toNat := if_pos h
theorem filE_neg {s : St} {g cpu : Int} (h : ¬ chkE s g cpu = 0) : filE s g cpu = false := if_neg h
set_option maxRecDepth 100000 in
set_option maxHeartbeats 1600000 in
theorem filled_pub (w : World) (c : StC) (s : St) (g cpu : Int) (h : StAt w c s) (hb : StB s) :
    Calls Try.prog 20 #[c.val s, .int .i64 g, .int .i64 cpu] w fun e w' => e = .returned (.tuple #[.bool (filE s g cpu), .int .i64 (chkE s g cpu)]) ∧ Below w.heap.size w w' := by
  have ME := Lib.hid (fun W (hW : StAt W c s) (hz : chkE s g cpu = 0) => of_in (filled_in W c s cpu hW (chk_zero.1 hz).1))
  unfold StC.val at ME
  have CC' := show c.cells s = #[.int .i64 s.n, .int .u64 s.cr, c.vg, c.vc, c.vu, c.vt, c.vs] from rfl
  simp only [CC'] at ME
  clear CC'
  have CC := Lib.hid (show c.cells s = #[.int .i64 s.n, .int .u64 s.cr, c.vg, c.vc, c.vu, c.vt, c.vs] from rfl)
  have a1 := bel_alloc w (.cells (c.cells s) 38)
  have BX := StBox.new w c s
  have CK := Lib.hid (check_ok' (w.alloc (.cells (c.cells s) 38)) c s g cpu (h.below a1) hb.g hb.t hb.n1 hb.n2)
  have F : Facts (w.alloc (.cells (c.cells s) 38)) [sSA c s, sSB w.heap.size c s, sB w] := ⟨h.below a1, BX, a1, trivial⟩
  unfold StC.val at CK ⊢
  simp only [CC.out] at CK F ⊢
  clear h a1 BX
  go_enter Try.func20, Try.ntmps20
  go_upto_region 1 with fail
  generalize w.alloc (.cells #[.int .i64 s.n, .int .u64 s.cr, c.vg, c.vc, c.vu, c.vt, c.vs] 38) = w1 at F CK ⊢
  obtain ⟨X0, hX0⟩ : ∃ X0, w.heap.size = X0 := ⟨_, rfl⟩
  rw [hX0] at F
  simp only [hX0]
  have HX0 := Lib.hid hX0
  clear hX0
  obtain ⟨b0, b1, b2, b3, b4, b5, b6⟩ := (F.get 1 : StBox w1 X0 c s).cell
  go_wp2_with fail
  refine CK.out.mono ?_
  rintro e w2 ⟨rfl, bb⟩
  replace F := F.below bb
  clear bb CK b0 b1 b2 b3 b4 b5 b6
  obtain ⟨b0, b1, b2, b3, b4, b5, b6⟩ := (F.get 1 : StBox w2 X0 c s).cell
  by_cases hz : chkE s g cpu = 0
  · have ME2 := Lib.hid (ME.out w2 (F.get 0) hz)
    have HM := Lib.hid (filE_pos hz)
    have HR := (chk_zero.1 hz).2.1
    generalize hE : chkE s g cpu = E at hz ⊢
    subst hz
    clear ME
    have HE := Lib.hid hE
    clear hE
    go_wp2_with fail
    refine ME2.out.mono ?_
    rintro e w3 ⟨v, rfl, o, bb⟩
    have hfin := Lib.hid ((F.below bb).get 2 : Below w.heap.size w w3)
    have hfl : (fillL s cpu).length = s.gs.length := by simp [fillL]
    obtain ⟨b, off, c', hv, _, rr⟩ := (o.ev encB1_len).row (by omega)
    subst hv
    have cb := rr.bool (i := g.toNat) (by omega)
    rw [show (fillL s cpu).getD g.toNat false = fillB s.gs (rdyL s cpu) g.toNat by rw [List.getD_eq_getElem?_getD]; simp [fillL, show g.toNat < s.gs.length by omega]] at cb
    rw [hfl]
    obtain ⟨hg0, hg1⟩ := HR
    clear o bb F ME2 b0 b1 b2 b3 b4 b5 b6 rr hfl
    go_wp2
    go_ret2
    exact ⟨ret_bi' HM.out.symm HE.out.symm, hfin.out⟩
  · have HZ := Lib.hid hz
    have hd : (chkE s g cpu != 0) = true := by simp [hz]
    have HM := Lib.hid (filE_neg hz)
    have hfin := Lib.hid (F.get 2 : Below w.heap.size w w2)
    clear hz ME F b0 b1 b2 b3 b4 b5 b6
    generalize hE : chkE s g cpu = E at HZ hd ⊢
    have HE := Lib.hid hE
    clear hE
    go_wp2
    go_ret2
    exact ⟨ret_bi' HM.out.symm HE.out.symm, hfin.out⟩
def rdyE (s : St) (cpu : Int) : List Int := if chkE s 0 cpu = 0 then (rdyL s cpu).map Tk.id else []
theorem rdyE_pos {s : St} {cpu : Int} (h : chkE s 0 cpu = 0) : rdyE s cpu = (rdyL s cpu).map Tk.id := if_pos h
theorem rdyE_neg {s : St} {cpu : Int} (h : ¬ chkE s 0 cpu = 0) : rdyE s cpu = [] := if_neg h
theorem made_ids (l : List Tk) : made (fun k => ((l[k]?.getD tk0).id, true)) l.length = l.map Tk.id := by
  rw [made_filter l tk0 Tk.id (fun _ => true) _ (Nat.le_refl _), List.take_length]
  congr 1
  exact List.filter_eq_self.2 (fun _ _ => rfl)
set_option maxRecDepth 100000 in
set_option maxHeartbeats 1600000 in
theorem ready_pub (w : World) (c : StC) (s : St) (cpu : Int) (h : StAt w c s) (hb : StB s) :
    Calls Try.prog 25 #[c.val s, .int .i64 cpu] w fun e w' => ∃ v, e = .returned (.tuple #[v, .int .i64 (chkE s 0 cpu)]) ∧ OV encI 1 3 w.heap.size w' v (rdyE s cpu) ∧ Below w.heap.size w w' := by
  have hbt := hb.t
  have RM := Lib.hid (fun W => ready_mk W c s cpu)
  unfold StC.val at RM
  have CC' := show c.cells s = #[.int .i64 s.n, .int .u64 s.cr, c.vg, c.vc, c.vu, c.vt, c.vs] from rfl
  simp only [CC'] at RM
  clear CC'
  have CC := Lib.hid (show c.cells s = #[.int .i64 s.n, .int .u64 s.cr, c.vg, c.vc, c.vu, c.vt, c.vs] from rfl)
  have a1 := bel_alloc w (.cells (c.cells s) 38)
  have BX := StBox.new w c s
  have CK := Lib.hid (check_ok' (w.alloc (.cells (c.cells s) 38)) c s 0 cpu (h.below a1) hb.g hb.t hb.n1 hb.n2)
  have F : Facts (w.alloc (.cells (c.cells s) 38)) [sSA c s, sSB w.heap.size c s, sB w] := ⟨h.below a1, BX, a1, trivial⟩
  unfold StC.val at CK ⊢
  simp only [CC.out] at CK F ⊢
  clear h a1 BX
  go_enter Try.func25, Try.ntmps25
  go_upto_region 1 with fail
  generalize w.alloc (.cells #[.int .i64 s.n, .int .u64 s.cr, c.vg, c.vc, c.vu, c.vt, c.vs] 38) = w1 at F CK ⊢
  obtain ⟨X0, hX0⟩ : ∃ X0, w.heap.size = X0 := ⟨_, rfl⟩
  rw [hX0] at F
  simp only [hX0]
  have HX0 := Lib.hid hX0
  clear hX0
  obtain ⟨b0, b1, b2, b3, b4, b5, b6⟩ := (F.get 1 : StBox w1 X0 c s).cell
  go_wp2_with fail
  refine CK.out.mono ?_
  rintro e w2 ⟨rfl, bb⟩
  replace F := F.below bb
  clear bb CK b0 b1 b2 b3 b4 b5 b6
  obtain ⟨b0, b1, b2, b3, b4, b5, b6⟩ := (F.get 1 : StBox w2 X0 c s).cell
  by_cases hz : chkE s 0 cpu = 0
  · have HM := Lib.hid (rdyE_pos hz)
    generalize hE : chkE s 0 cpu = E at hz ⊢
    subst hz
    have HE := Lib.hid hE
    clear hE
    go_wp2_with fail
    refine (RM.out w2).mono ?_
    rintro e w4' ⟨rfl, rfl⟩
    have B5 := below_step (bel_alloc w2 (.cells (c.cells s) 38)) (bel_alloc (w2.alloc (.cells (c.cells s) 38)) (.cells #[.int .i64 cpu] 3))
    have S5 : StBox ((w2.alloc (.cells (c.cells s) 38)).alloc (.cells #[.int .i64 cpu] 3)) w2.heap.size c s := (StBox.new w2 c s).below (bel_alloc _ _)
    have C5 : Boxed ((w2.alloc (.cells (c.cells s) 38)).alloc (.cells #[.int .i64 cpu] 3)) (w2.heap.size + 1) 3 (.int .i64 cpu) := by
      have := Boxed.new (w2.alloc (.cells (c.cells s) 38)) 3 (.int .i64 cpu)
      rwa [World.size_alloc] at this
    rw [CC.out] at B5 S5 C5
    generalize (w2.alloc (.cells #[.int .i64 s.n, .int .u64 s.cr, c.vg, c.vc, c.vu, c.vt, c.vs] 38)).alloc (.cells #[.int .i64 cpu] 3) = w5 at B5 S5 C5 ⊢
    replace F := F.below B5
    have hw5 := (F.get 2 : Below w.heap.size w w5).size
    have IT := ready1_iter w5 w2.heap.size (w2.heap.size + 1) c s cpu S5 C5 (F.get 0 : StAt w5 c s).et hbt
    have EA := of_in (eachTI_ok w5 89 #[.pointer (some ⟨w2.heap.size, 0, none⟩), .pointer (some ⟨w2.heap.size + 1, 0, none⟩)] (fun k => (rdyL s cpu)[k]?.getD tk0) (rdyL s cpu).length _ 50 #[]
      (fun k => (((rdyL s cpu)[k]?.getD tk0).id, true))
      (enters_of Try.func89 (by kernel_rfl) rfl) (enters_of Try.func50 (by kernel_rfl) rfl) IT (rdS_lt (F.get 0 : StAt w5 c s).et S5.lt C5.lt) (by have := rdyL_len s cpu; omega)
      (fun W k _ hb => rdy1_ok W _))
    rw [made_ids] at EA
    have EAH := Lib.hid EA
    clear IT S5 C5 B5 EA b0 b1 b2 b3 b4 b5 b6 RM
    go_wp2_with fail
    refine EAH.out.mono ?_
    rintro e w6 ⟨v6, rfl, o6, bb⟩
    have hfin := Lib.hid ((F.below bb).get 2 : Below w.heap.size w w6)
    have ho := Lib.hid (o6.base_le hw5)
    clear o6 bb F EAH
    go_wp2
    go_ret2
    exact ⟨v6, ret_vi HE.out.symm, by rw [HM.out]; exact ho.out, hfin.out⟩
  · have HZ := Lib.hid hz
    have hd : (chkE s 0 cpu != 0) = true := by simp [hz]
    have HM := Lib.hid (rdyE_neg hz)
    have hfin := Lib.hid (F.get 2 : Below w.heap.size w w2)
    clear hz RM F b0 b1 b2 b3 b4 b5 b6
    generalize hE : chkE s 0 cpu = E at HZ hd ⊢
    have HE := Lib.hid hE
    clear hE
    go_wp2
    go_ret2
    exact ⟨_, ret_vi HE.out.symm, by rw [HM.out]; exact OV.nil _ _, hfin.out⟩
end Go.Proofs.Ytenngfkgfdogjaa
namespace Go.Proofs.Ytenngfkgfdogjaa
open Go Go.RowKit Go.Shelf
attribute [local go_sem] Oper.semAt_some

def loadE (s : St) (cpu : Int) : Int := if chkE s 0 cpu = 0 then loadL (rdyL s cpu) else 0
theorem loadE_pos {s : St} {cpu : Int} (h : chkE s 0 cpu = 0) : loadE s cpu = loadL (rdyL s cpu) := if_pos h
theorem loadE_neg {s : St} {cpu : Int} (h : ¬ chkE s 0 cpu = 0) : loadE s cpu = 0 := if_neg h
theorem loadL_take {l : List Tk} {k : Nat} {t : Tk} (h : l[k]? = some t) : loadL (l.take (k + 1)) = loadL (l.take k) + t.wt := by
  unfold loadL
  rw [List.take_add_one, h, Option.toList_some, List.map_append, List.sum_append]; simp
theorem loadL_le {l : List Tk} (h : ∀ t ∈ l, 1 ≤ t.wt ∧ t.wt ≤ 65536) : ∀ k, k ≤ l.length → 0 ≤ loadL (l.take k) ∧ loadL (l.take k) ≤ 65536 * k
  | 0, _ => by simp [loadL]
  | k + 1, hk => by
    obtain ⟨t, ht⟩ : ∃ t, l[k]? = some t := ⟨_, List.getElem?_eq_getElem (by omega)⟩
    rw [loadL_take ht]
    have := h t (List.mem_of_getElem? ht)
    have := loadL_le h k (by omega)
    omega
set_option maxRecDepth 100000 in
set_option maxHeartbeats 3200000 in
theorem load_pub (w : World) (c : StC) (s : St) (cpu : Int) (h : StAt w c s) (hb : StB s) :
    Calls Try.prog 29 #[c.val s, .int .i64 cpu] w fun e w' => e = .returned (.tuple #[.int .i64 (loadE s cpu), .int .i64 (chkE s 0 cpu)]) ∧ Below w.heap.size w w' := by
  refine of_in ?_
  have hbt := hb.t
  have CC := Lib.hid (show c.cells s = #[.int .i64 s.n, .int .u64 s.cr, c.vg, c.vc, c.vu, c.vt, c.vs] from rfl)
  have RM := Lib.hid (fun W => ready_mk W c s cpu)
  have a1 := bel_alloc w (.cells (c.cells s) 38)
  have BX := StBox.new w c s
  have CK := Lib.hid (check_ok' (w.alloc (.cells (c.cells s) 38)) c s 0 cpu (h.below a1) hb.g hb.t hb.n1 hb.n2)
  have F : Facts (w.alloc (.cells (c.cells s) 38)) [sSA c s, sSB w.heap.size c s, sB w] := ⟨h.below a1, BX, a1, trivial⟩
  obtain ⟨b0, b1, b2, b3, b4, b5, b6⟩ := BX.cell
  unfold StC.val at CK RM ⊢
  simp only [CC.out] at CK F RM b0 b1 b2 b3 b4 b5 b6 ⊢
  have HT := Lib.hid h.et
  clear h a1 BX
  have hfn : ∀ f, W0.fn f := fun _ => trivial
  have hd0 : W0.depth = none := rfl
  refine callsIn_of_wp_marks Try.func29 rfl trivial ?_ rfl
  simp only [Try.ntmps29, List.size_toArray, List.length_cons, List.length_nil, Nat.reduceAdd, Nat.reduceSub, Array.replicate_succ, Array.replicate_zero, List.push_toArray, List.append_toArray, List.nil_append, List.cons_append]
  gi_wp2_with fail
  refine (in_of CK.out).mono ?_
  rintro e w2 ⟨rfl, bb⟩
  replace F := F.below bb
  have hw2 := (F.get 2 : Below w.heap.size w w2).size
  clear bb CK b0 b1 b2 b3 b4 b5 b6
  obtain ⟨b0, b1, b2, b3, b4, b5, b6⟩ := (F.get 1 : StBox w2 w.heap.size c s).cell
  by_cases hz : chkE s 0 cpu = 0
  · have HM := Lib.hid (loadE_pos hz)
    have hSH := (chk_zero.1 hz).1
    have HRB := Lib.hid (fun t (ht : t ∈ rdyL s cpu) => tks_each hSH.tks t (List.mem_filter.1 ht).1)
    have hrl := rdyL_len s cpu
    have hsl := hSH.len
    generalize hE : chkE s 0 cpu = E at hz ⊢
    subst hz
    have HE := Lib.hid hE
    clear hE hSH
    have a3 := bel_alloc w2 (.cells #[.int .i64 0] 3)
    have x3 := Boxed.new w2 3 (.int .i64 0)
    replace F : Facts (w2.alloc (.cells #[.int .i64 0] 3)) (sBX w2.heap.size 3 (.int .i64 0) :: _) := ⟨x3, F.below a3⟩
    have d := (F.get 2 : StBox (w2.alloc (.cells #[.int .i64 0] 3)) w.heap.size c s).cell
    obtain ⟨d0, d1, d2, d3, d4, d5, d6⟩ := d
    gi_wp2_with fail
    refine (in_of (RM.out _)).mono ?_
    rintro e w4' ⟨rfl, rfl⟩
    generalize w2.alloc (.cells #[.int .i64 0] 3) = w3 at F ⊢
    obtain ⟨X3, hX3⟩ : ∃ X3, w2.heap.size = X3 := ⟨_, rfl⟩
    rw [hX3] at F
    have hw2' : w.heap.size ≤ X3 := by omega
    simp only [hX3]
    clear d0 d1 d2 d3 d4 d5 d6 b0 b1 b2 b3 b4 b5 b6 a3 x3
    have B5 := below_step (bel_alloc w3 (.cells (c.cells s) 38)) (bel_alloc (w3.alloc (.cells (c.cells s) 38)) (.cells #[.int .i64 cpu] 3))
    have S5 : StBox ((w3.alloc (.cells (c.cells s) 38)).alloc (.cells #[.int .i64 cpu] 3)) w3.heap.size c s := (StBox.new w3 c s).below (bel_alloc _ _)
    have C5 : Boxed ((w3.alloc (.cells (c.cells s) 38)).alloc (.cells #[.int .i64 cpu] 3)) (w3.heap.size + 1) 3 (.int .i64 cpu) := by
      have := Boxed.new (w3.alloc (.cells (c.cells s) 38)) 3 (.int .i64 cpu)
      rwa [World.size_alloc] at this
    rw [CC.out] at B5 S5 C5
    have hX3w : w.heap.size ≤ X3 ∧ X3 < w3.heap.size := ⟨hw2', (F.get 0 : Boxed w3 X3 3 (.int .i64 0)).lt⟩
    generalize (w3.alloc (.cells #[.int .i64 s.n, .int .u64 s.cr, c.vg, c.vc, c.vu, c.vt, c.vs] 38)).alloc (.cells #[.int .i64 cpu] 3) = w5 at B5 S5 C5 ⊢
    replace F := F.below B5
    have hw5 := (F.get 3 : Below w.heap.size w w5).size
    have IT := ready1_iter w5 w3.heap.size (w3.heap.size + 1) c s cpu S5 C5 (F.get 1 : StAt w5 c s).et hbt
    have hS := rdS_lt (F.get 1 : StAt w5 c s).et S5.lt C5.lt
    have hSX : ∀ k, RdS w3.heap.size (w3.heap.size + 1) c.vt s.ts k → k < w5.heap.size ∧ k ≠ X3 := by
      intro k hk
      refine ⟨hS k hk, ?_⟩
      rcases hk with rfl | rfl | ⟨hne, off, n, cap, hv⟩
      · omega
      · omega
      · obtain ⟨b, o, c2, hv2, _, hr⟩ := HT.out.row (List.length_pos_iff.2 hne)
        rw [hv] at hv2
        injection hv2 with e1; injection e1 with e1; injection e1 with e1
        have := hr.lt (List.length_pos_iff.2 hne) (fun x => by rw [encT_len]; omega)
        omega
    have J0 : Boxed w5 X3 3 (.int .i64 (loadL ((rdyL s cpu).take 0))) ∧ Below w.heap.size w w5 := ⟨F.get 0, F.get 3⟩
    have HSX := Lib.hid hSX
    have HIT := Lib.hid IT
    have HJ0 := Lib.hid J0
    clear IT hS hSX J0 F S5 C5 B5 RM
    obtain ⟨S, hSe⟩ : ∃ S, RdS w3.heap.size (w3.heap.size + 1) c.vt s.ts = S := ⟨_, rfl⟩
    obtain ⟨Q1, hQ1⟩ : ∃ Q1, w3.heap.size = Q1 := ⟨_, rfl⟩
    rw [hSe] at HSX HIT
    rw [hQ1] at HIT hX3w ⊢
    clear hSe hQ1
    gi_wp2
    refine wp_range (xs := fun k => #[ValT ((rdyL s cpu)[k]?.getD tk0)]) rfl (enters_of Try.func89 (by kernel_rfl) rfl) HIT.out
      (fun k e => e.elim) (fun k e => (HSX.out k e).1) (fun k => rfl)
      (fun k W => Boxed W X3 3 (.int .i64 (loadL ((rdyL s cpu).take k))) ∧ Below w.heap.size w W) (fun _ _ => False)
      (fun k W1 W2 h hc => ⟨h.1.chg hc (fun t => t), h.2.trans ⟨hc.os, hc.tape, hc.output, hc.size, fun q hq => ?stab⟩⟩)
      (fun _ _ _ h _ => h) HJ0.out ?round ?done (fun _ _ _ h => h.elim)
    case stab =>
      have h1 := hc.block q _ (Array.getElem?_eq_getElem (show q < W1.heap.size by have := h.2.size; omega)) (fun t => t) (.inl (by omega))
      rw [h1, ← Array.getElem?_eq_getElem]
    case round =>
      rintro l k W hk hl hl2 ⟨h1, h2⟩
      obtain ⟨t, ht⟩ : ∃ t, (rdyL s cpu)[k]? = some t := ⟨_, List.getElem?_eq_getElem hk⟩
      have htb := HRB.out t (List.mem_of_getElem? ht)
      have hll := loadL_le (fun t ht => by have := HRB.out t ht; exact ⟨this.2.2.2.2.1, this.2.2.2.2.2.1⟩) k (Nat.le_of_lt hk)
      have hls := loadL_take ht
      simp only [ht, Option.getD_some, ValT]
      gi_wp2
      refine ⟨BK.alloc _, fun W2 hc hq => ?_⟩
      clear hq
      have bA := bel_alloc W (.cells #[.int .i64 t.id, .int .i64 t.g, .int .i64 t.wt, .int .i64 t.cpu, .int .u64 t.mask, .bool t.rdy, .int .u64 t.v, .int .u32 t.r] 61)
      have g1 := (h1.below bA).chg hc (fun t => t)
      have g2 : Below w.heap.size w W2 := (h2.trans (bA.mono h2.size)).trans ⟨hc.os, hc.tape, hc.output, hc.size, fun q hq => by
        have h := hc.block q _ (Array.getElem?_eq_getElem (show q < (W.alloc (.cells #[.int .i64 t.id, .int .i64 t.g, .int .i64 t.wt, .int .i64 t.cpu, .int .u64 t.mask, .bool t.rdy, .int .u64 t.v, .int .u32 t.r] 61)).heap.size by have := h2.size; simp; omega)) (fun t => t) (.inl (by omega))
        rw [h, ← Array.getElem?_eq_getElem]⟩
      have rt := ((EV.newL (w := W) (e := 61) (xs := [t]) (n := 1) (c := 1) (cs := #[.int .i64 t.id, .int .i64 t.g, .int .i64 t.wt, .int .i64 t.cpu, .int .u64 t.mask, .bool t.rdy, .int .u64 t.v, .int .u32 t.r]) encT_len rfl rfl (Nat.le_refl _)).row3 (by simp))
      have rt2 : ER encT 8 W2 W.heap.size 0 [t] := rt.keep fun p u _ hcc => hc.cell hcc (fun t => t)
      obtain ⟨d0, d1, d2, d3, d4, d5, d6, d7⟩ := rt2.tk (i := 0) rfl
      simp only [Nat.zero_mul, Nat.zero_add] at d0 d1 d2 d3 d4 d5 d6 d7
      obtain ⟨P, hP⟩ : ∃ P, W.heap.size = P := ⟨_, rfl⟩
      rw [hP] at d0 d1 d2 d3 d4 d5 d6 d7 ⊢
      obtain ⟨z, hz⟩ : ∃ z, loadL ((rdyL s cpu).take k) = z := ⟨_, rfl⟩
      rw [hz] at g1 hll hls
      have g1c := g1.cell
      have g1f := g1.frozen
      have hw : IntKind.i64.wrap (z + t.wt) = z + t.wt := IntWalk.i64_in _ (by omega)
      have G2 := Lib.hid (show Boxed (W2.setCell ⟨X3, 0, none⟩ (.int .i64 (z + t.wt))) X3 3 (.int .i64 (loadL ((rdyL s cpu).take (k + 1)))) ∧ Below w.heap.size w (W2.setCell ⟨X3, 0, none⟩ (.int .i64 (z + t.wt))) from ⟨by rw [hls]; exact g1.set _, g2.setCell (p := ⟨X3, 0, none⟩) hw2' _⟩)
      have G3 := Lib.hid (BK.setCell (S := S) (.int .i64 (z + t.wt)) g1c (fun h => (HSX.out X3 h).2 rfl))
      clear rt rt2 bA hc h1 h2 ht htb hll hls hz hP g1 g2 HIT HJ0
      gi_wp2
      exact ⟨G3.out, G2.out⟩
    case done =>
      rintro D W ⟨h1, h2⟩ hD hK
      have h1c := h1.cell
      rw [List.take_length] at h1c
      have HB2 := Lib.hid h2
      clear h1 h2
      generalize hLL : loadL (rdyL s cpu) = LL at h1c
      have HLL := Lib.hid hLL
      clear hLL
      gi_wp2
      refine post_mark hK (fun w' => results_tmp2 rfl _ _ w') ⟨by show Ending.returned (.tuple #[.int .i64 LL, .int .i64 0]) = _; exact ret_two (by rw [HM.out, HLL.out]) HE.out.symm, HB2.out.trans (below_putObj (Below.refl _ _) (by have := HJ0.out.2.size; omega) _)⟩
  · have HZ := Lib.hid hz
    have hd : (chkE s 0 cpu != 0) = true := by simp [hz]
    have HM := Lib.hid (loadE_neg hz)
    have hfin := Lib.hid (F.get 2 : Below w.heap.size w w2)
    clear hz RM F b0 b1 b2 b3 b4 b5 b6
    generalize hE : chkE s 0 cpu = E at HZ hd ⊢
    have HE := Lib.hid hE
    clear hE
    gi_wp2
    refine post_mark0 (results_tmp2 rfl _ _ _) ⟨by show Ending.returned (.tuple #[.int .i64 0, .int .i64 E]) = _; exact ret_two HM.out.symm HE.out.symm, hfin.out⟩
end Go.Proofs.Ytenngfkgfdogjaa
namespace Go.Proofs.Ytenngfkgfdogjaa
open Go Go.RowKit Go.Shelf
attribute [local go_sem] Oper.semAt_some

/-- What a walk has yet to tell at a queue l with f steps left. -/
def nextW (s : St) (cpu : Int) (l : List Ky) (f : Nat) : List Ky := match l with
  | [] => []
  | k :: _ => if k.sp then k :: walkF s cpu f k.id else [k]
theorem walkF_succ (s : St) (cpu : Int) (f : Nat) (g : Int) : walkF s cpu (f + 1) g = nextW s cpu (memL s g cpu) f := rfl
/-- A queue's spots are deep enough for the steps left. -/
def WOk (s : St) (l : List Ky) (f : Nat) : Prop := ∀ k ∈ l, k.sp = true → 0 ≤ k.id ∧ k.id < s.gs.length ∧ (s.gs.length : Int) ≤ f + k.id
theorem mem_memL {s : St} {g cpu : Int} {k : Ky} (h : k ∈ memL s g cpu) (hs : k.sp = true) : ∃ x : Nat, k.id = x ∧ 0 < x ∧ x < s.gs.length ∧ par s.gs x = g := by
  unfold memL srtK at h
  rw [List.mem_mergeSort, List.mem_append] at h
  rcases h with h | h
  · unfold tksK at h
    obtain ⟨t, _, rfl⟩ := List.mem_map.1 h
    cases hs
  · unfold grpK at h
    obtain ⟨x, hx, rfl⟩ := List.mem_map.1 h
    obtain ⟨h1, h2⟩ := List.mem_filter.1 hx
    unfold isCh at h2
    simp only [Bool.and_eq_true, decide_eq_true_eq] at h2
    exact ⟨x, rfl, h2.1.1, List.mem_range.1 h1, h2.1.2⟩
theorem wok_start {s : St} (cpu : Int) : WOk s (memL s 0 cpu) s.gs.length := by
  intro k hk hs
  obtain ⟨x, e, h1, h2, _⟩ := mem_memL hk hs
  omega
theorem wok_next {s : St} (h : Shp s) {cpu : Int} {k : Ky} {l : List Ky} {f : Nat} (hw : WOk s (k :: l) f) (hs : k.sp = true) :
    ∃ f', f = f' + 1 ∧ WOk s (memL s k.id cpu) f' ∧ nextW s cpu (k :: l) f = k :: nextW s cpu (memL s k.id cpu) f' := by
  obtain ⟨h1, h2, h3⟩ := hw k (List.mem_cons_self ..) hs
  obtain ⟨f', rfl⟩ : ∃ f', f = f' + 1 := ⟨f - 1, by omega⟩
  refine ⟨f', rfl, fun k2 hk2 hs2 => ?_, by unfold nextW; simp only [hs, if_true]; rfl⟩
  obtain ⟨x, e, e1, e2, e3⟩ := mem_memL hk2 hs2
  have := (right_iff.1 h.right).each x e1 e2
  obtain ⟨_, h5, _⟩ := this
  omega
theorem nextW_task {s : St} {cpu : Int} {k : Ky} {l : List Ky} {f : Nat} (hs : k.sp = false) : nextW s cpu (k :: l) f = [k] := by
  unfold nextW; simp [hs]
theorem nextW_nil {s : St} {cpu : Int} {f : Nat} : nextW s cpu [] f = [] := rfl
theorem walkL_eq (s : St) (cpu : Int) : walkL s cpu = nextW s cpu (memL s 0 cpu) s.gs.length := rfl
def walE (s : St) (cpu : Int) : List Ky := if chkE s 0 cpu = 0 then walkL s cpu else []
theorem walE_pos {s : St} {cpu : Int} (h : chkE s 0 cpu = 0) : walE s cpu = walkL s cpu := if_pos h
theorem walE_neg {s : St} {cpu : Int} (h : ¬ chkE s 0 cpu = 0) : walE s cpu = [] := if_neg h
theorem memL_len (s : St) (g cpu : Int) : (memL s g cpu).length ≤ s.ts.length + s.gs.length := by
  have l1 := tksK_len s g cpu
  have l2 := grpK_len s g cpu
  unfold memL
  rw [srtK_len, List.length_append]; omega
end Go.Proofs.Ytenngfkgfdogjaa
namespace Go.Proofs.Ytenngfkgfdogjaa
open Go Go.RowKit Go.Shelf
attribute [local go_sem] Oper.semAt_some

theorem held8 {w wz wz' : World} {p0 p1 p2 p3 p4 p5 p6 p7 : Addr} {u0 u1 u2 u3 u4 u5 u6 u7 : Value}
    (h : wz.cell? p0 = some u0 ∧ wz.cell? p1 = some u1 ∧ wz.cell? p2 = some u2 ∧ wz.cell? p3 = some u3 ∧ wz.cell? p4 = some u4 ∧ wz.cell? p5 = some u5 ∧ wz.cell? p6 = some u6 ∧ wz.cell? p7 = some u7 ∧ Below w.heap.size w wz) (k : Below wz.heap.size wz wz') :
    wz'.cell? p0 = some u0 ∧ wz'.cell? p1 = some u1 ∧ wz'.cell? p2 = some u2 ∧ wz'.cell? p3 = some u3 ∧ wz'.cell? p4 = some u4 ∧ wz'.cell? p5 = some u5 ∧ wz'.cell? p6 = some u6 ∧ wz'.cell? p7 = some u7 ∧ Below w.heap.size w wz' :=
  ⟨below_cell k h.1, below_cell k h.2.1, below_cell k h.2.2.1, below_cell k h.2.2.2.1, below_cell k h.2.2.2.2.1, below_cell k h.2.2.2.2.2.1, below_cell k h.2.2.2.2.2.2.1, below_cell k h.2.2.2.2.2.2.2.1, below_step h.2.2.2.2.2.2.2.2 k⟩
set_option maxRecDepth 100000 in
set_option maxHeartbeats 3200000 in
theorem walk_pub (w : World) (c : StC) (s : St) (cpu : Int) (h : StAt w c s) (hb : StB s) :
    Calls Try.prog 24 #[c.val s, .int .i64 cpu] w fun e w' => ∃ v, e = .returned (.tuple #[v, .int .i64 (chkE s 0 cpu)]) ∧ OV encY 3 24 w.heap.size w' v (walE s cpu) ∧ Below w.heap.size w w' := by
  have ME := Lib.hid (fun W g (hW : StAt W c s) (hz : chkE s 0 cpu = 0) => members_ok W c s g cpu hW (chk_zero.1 hz).1 (chk_zero.1 hz).2.2.1 (chk_zero.1 hz).2.2.2)
  unfold StC.val at ME
  have CC' := show c.cells s = #[.int .i64 s.n, .int .u64 s.cr, c.vg, c.vc, c.vu, c.vt, c.vs] from rfl
  simp only [CC'] at ME
  clear CC'
  have CC := Lib.hid (show c.cells s = #[.int .i64 s.n, .int .u64 s.cr, c.vg, c.vc, c.vu, c.vt, c.vs] from rfl)
  have a1 := bel_alloc w (.cells (c.cells s) 38)
  have BX := StBox.new w c s
  have CK := Lib.hid (check_ok' (w.alloc (.cells (c.cells s) 38)) c s 0 cpu (h.below a1) hb.g hb.t hb.n1 hb.n2)
  have F : Facts (w.alloc (.cells (c.cells s) 38)) [sSA c s, sSB w.heap.size c s, sB w] := ⟨h.below a1, BX, a1, trivial⟩
  unfold StC.val at CK ⊢
  simp only [CC.out] at CK F ⊢
  clear h a1 BX
  go_enter Try.func24, Try.ntmps24
  go_upto_region 1 with fail
  generalize w.alloc (.cells #[.int .i64 s.n, .int .u64 s.cr, c.vg, c.vc, c.vu, c.vt, c.vs] 38) = w1 at F CK ⊢
  obtain ⟨X0, hX0⟩ : ∃ X0, w.heap.size = X0 := ⟨_, rfl⟩
  rw [hX0] at F
  simp only [hX0]
  have HX0 := Lib.hid hX0
  clear hX0
  obtain ⟨b0, b1, b2, b3, b4, b5, b6⟩ := (F.get 1 : StBox w1 X0 c s).cell
  go_wp2_with fail
  refine CK.out.mono ?_
  rintro e w2 ⟨rfl, bb⟩
  replace F := F.below bb
  clear bb CK b0 b1 b2 b3 b4 b5 b6
  obtain ⟨b0, b1, b2, b3, b4, b5, b6⟩ := (F.get 1 : StBox w2 X0 c s).cell
  by_cases hz : chkE s 0 cpu = 0
  · have ME2 := Lib.hid (fun W g (hW : StAt W c s) => ME.out W g hW hz)
    have HSH := Lib.hid (chk_zero.1 hz).1
    have HM := Lib.hid (walE_pos hz)
    have hgl := (right_iff.1 HSH.out.right).many
    generalize hE : chkE s 0 cpu = E at hz ⊢
    subst hz
    clear ME
    have HE := Lib.hid hE
    clear hE
    go_wp2_with fail
    refine (ME2.out w2 0 (F.get 0)).mono ?_
    rintro e w3 ⟨v3, rfl, o3, bb⟩
    replace F := F.below bb
    have s3 := bb.size
    have HF := Lib.hid F
    have hw3 := (F.get 2 : Below w.heap.size w w3).size
    clear bb b0 b1 b2 b3 b4 b5 b6 F
    go_wp2
    go_loopg [7, 8] s.gs.length (fun k v l wr => ∃ (pre L : List Ky), pre.length + k ≤ s.gs.length ∧ OV encY 3 24 w3.heap.size wr v pre ∧ EV encY 3 wr l L ∧ Below w3.heap.size w3 wr ∧ L.length ≤ 1000000 ∧ WOk s L k ∧ (∀ b o n c', l = .slice (some ⟨b, o, none⟩) n c' → v.ownBlock ≠ some b) ∧ pre ++ nextW s cpu L k = walE s cpu)
    case atStart => exact ⟨[], memL s 0 cpu, by simp, OV.nil _ _, o3.ev encY_len, Below.refl _ _, by have := memL_len s 0 cpu; have := HSH.out.len; omega, wok_start cpu, by intros; simp [Value.ownBlock], by rw [HM.out, walkL_eq]; rfl⟩
    case round =>
      obtain ⟨pre, L, hk, ho, hl, hbl, hL, hw, hne, he⟩ := hrel
      cases L with
      | nil =>
        obtain ⟨A, cl, rfl⟩ := hl.shape
        have hfin := Lib.hid ((HF.out.below hbl).get 2)
        have HO := Lib.hid (ho.base_le hw3)
        rw [nextW_nil, List.append_nil] at he
        have HEQ := Lib.hid he
        clear hl ho he hw hL hk hbl hne
        go_wp2
        go_ret2
        exact ⟨_, ret_vi HE.out.symm, by rw [← HEQ.out]; exact HO.out, hfin.out⟩
      | cons k L' =>
        obtain ⟨bl, ol, cl, rfl, hcl, hrl⟩ := hl.row (by simp)
        obtain ⟨k0, k1, k2⟩ := hrl.ky (i := 0) rfl
        simp only [Nat.zero_mul, Nat.add_zero] at k0 k1 k2
        have ba := bel_alloc wr (.cells #[.int .u64 k.v, .bool k.sp, .int .i64 k.id] 24)
        have HRT := Lib.hid (EV.newL (w := wr) (e := 24) (xs := [k]) (n := 1) (c := 1) (cs := #[.int .u64 k.v, .bool k.sp, .int .i64 k.id]) encY_len rfl rfl (Nat.le_refl _))
        have HOA := Lib.hid (ho.alloc (.cells #[.int .u64 k.v, .bool k.sp, .int .i64 k.id] 24))
        have HLA := Lib.hid (hl.below ba)
        have HNE := Lib.hid hne
        have HW := Lib.hid hw
        have HEQ := Lib.hid he
        have HK := Lib.hid hk
        have hbA := below_step hbl ba
        have HBA := Lib.hid hbA
        have FA := Lib.hid ((HF.out.below hbl).below ba)
        have hsz := hbA.size
        clear hl ho hne hw he hrl ba hbl hbA hcl hL
        go_wp2_with (at_builtin; refine wpList_app elemY encY_len encY_one rfl (.tmp 21) (.tmp 25) rfl _ _ rfl rfl HOA.out HRT.out ?q1 ?q2 ?_)
        case q1 => rw [List.length_singleton]; omega
        case q2 => exact hsz
        intro v9 w9 o9 g9
        have HL9 := Lib.hid (HLA.out.grown g9 HNE.out)
        have B9 := Lib.hid (HBA.out.grown g9 hsz (fun q hq => (HOA.out.block q hq).1))
        have HO9 := Lib.hid o9
        have hs9 := B9.out.size
        have F9 := Lib.hid (HF.out.below B9.out)
        obtain ⟨j0, j1, j2⟩ := (HL9.out.row3 (by simp)).ky (i := 0) rfl
        simp only [Nat.zero_mul, Nat.add_zero] at j0 j1 j2
        obtain ⟨b0, b1, b2, b3, b4, b5, b6⟩ := (F9.out.get 1 : StBox w9 X0 c s).cell
        clear o9 g9 HOA HLA HRT HNE HBA FA k0 k1 k2 hsz
        cases hks : k.sp with
        | false =>
          rw [hks] at j1
          have hfin := Lib.hid (F9.out.get 2)
          have HFE := Lib.hid (show pre ++ [k] = walE s cpu by rw [← HEQ.out, nextW_task hks])
          clear HEQ HW hks b0 b1 b2 b3 b4 b5 b6
          go_wp2
          go_ret2
          exact ⟨_, ret_vi HE.out.symm, by rw [← HFE.out]; exact HO9.out.base_le hw3, hfin.out⟩
        | true =>
          rw [hks] at j1
          obtain ⟨f', hf, hw', hn'⟩ := wok_next HSH.out (cpu := cpu) HW.out hks
          have HW2 := Lib.hid hw'
          have HEQ2 := Lib.hid (show (pre ++ [k]) ++ nextW s cpu (memL s k.id cpu) f' = walE s cpu by rw [← HEQ.out, hn', List.append_assoc]; rfl)
          have SA9 := Lib.hid (fun (wz : World) (hq : wz.cell? ⟨X0, 0, none⟩ = some (.int .i64 s.n) ∧ wz.cell? ⟨X0, 1, none⟩ = some (.int .u64 s.cr) ∧ wz.cell? ⟨X0, 2, none⟩ = some c.vg ∧ wz.cell? ⟨X0, 3, none⟩ = some c.vc ∧ wz.cell? ⟨X0, 4, none⟩ = some c.vu ∧ wz.cell? ⟨X0, 5, none⟩ = some c.vt ∧ wz.cell? ⟨X0, 6, none⟩ = some c.vs ∧ wz.cell? ⟨bl, ol + 2, none⟩ = some (.int .i64 k.id) ∧ Below w9.heap.size w9 wz) => (F9.out.below hq.2.2.2.2.2.2.2.2).get 0)
          have SZ9 := Lib.hid (fun (wz : World) (hq : wz.cell? ⟨X0, 0, none⟩ = some (.int .i64 s.n) ∧ wz.cell? ⟨X0, 1, none⟩ = some (.int .u64 s.cr) ∧ wz.cell? ⟨X0, 2, none⟩ = some c.vg ∧ wz.cell? ⟨X0, 3, none⟩ = some c.vc ∧ wz.cell? ⟨X0, 4, none⟩ = some c.vu ∧ wz.cell? ⟨X0, 5, none⟩ = some c.vt ∧ wz.cell? ⟨X0, 6, none⟩ = some c.vs ∧ wz.cell? ⟨bl, ol + 2, none⟩ = some (.int .i64 k.id) ∧ Below w9.heap.size w9 wz) => hq.2.2.2.2.2.2.2.2.size)
          clear HEQ HW hks hw' hn'
          go_wp2_with fail
          go_region_held3 (fun wz => wz.cell? ⟨X0, 0, none⟩ = some (.int .i64 s.n) ∧ wz.cell? ⟨X0, 1, none⟩ = some (.int .u64 s.cr) ∧ wz.cell? ⟨X0, 2, none⟩ = some c.vg ∧ wz.cell? ⟨X0, 3, none⟩ = some c.vc ∧ wz.cell? ⟨X0, 4, none⟩ = some c.vu ∧ wz.cell? ⟨X0, 5, none⟩ = some c.vt ∧ wz.cell? ⟨X0, 6, none⟩ = some c.vs ∧ wz.cell? ⟨bl, ol + 2, none⟩ = some (.int .i64 k.id) ∧ Below w9.heap.size w9 wz)
            (first
              | exact held8 (by assumption) hbz
              | assumption
              | exact ⟨b0, b1, b2, b3, b4, b5, b6, j2, below_drew (Below.refl _ _)⟩)
            ((go_at_call 42; refine (ME2.out _ _ (SA9.out _ (by assumption))).mono ?_; rintro e wz ⟨v4, rfl, o4, hbz⟩; replace o4 := o4.base_le (SZ9.out _ (by assumption))))
          all_goals
            rename_i hh
            have hB := Lib.hid hh.2.2.2.2.2.2.2.2
            have HNE4 := Lib.hid (fun (b o n c' : Nat) (hv : v4 = .slice (some ⟨b, o, none⟩) n c') (hg : v9.ownBlock = some b) => by
              have h1 := (o4.block b (by rw [hv]; rfl)).1
              have h2 := (HO9.out.block b hg).2
              omega : ∀ (b o n c' : Nat), v4 = .slice (some ⟨b, o, none⟩) n c' → v9.ownBlock ≠ some b)
            have HE4 := Lib.hid (o4.ev encY_len)
            clear hh o4 hbz b0 b1 b2 b3 b4 b5 b6 j0 j1 j2
            go_wp2
            go_roundg f'
            case measure => omega
            case rel => exact ⟨pre ++ [k], memL s k.id cpu, by rw [List.length_append, List.length_singleton]; omega, HO9.out.below hB.out, HE4.out, B9.out.trans (hB.out.mono hs9), by have := memL_len s k.id cpu; have := HSH.out.len; omega, HW2.out, HNE4.out, HEQ2.out⟩
  · have HZ := Lib.hid hz
    have hd : (chkE s 0 cpu != 0) = true := by simp [hz]
    have HM := Lib.hid (walE_neg hz)
    have hfin := Lib.hid (F.get 2 : Below w.heap.size w w2)
    clear hz ME F b0 b1 b2 b3 b4 b5 b6
    generalize hE : chkE s 0 cpu = E at HZ hd ⊢
    have HE := Lib.hid hE
    clear hE
    go_wp2
    go_ret2
    exact ⟨_, ret_vi HE.out.symm, by rw [HM.out]; exact OV.nil _ _, hfin.out⟩
end Go.Proofs.Ytenngfkgfdogjaa
namespace Go.Proofs.Ytenngfkgfdogjaa
open Go Go.RowKit Go.Shelf
attribute [local go_sem] Oper.semAt_some

set_option maxRecDepth 100000 in
set_option maxHeartbeats 1600000 in
theorem find1_ok (w : World) (t : Tk) (id : Int) : Calls Try.prog 59 #[ValT t, .int .i64 id] w fun e w' => e = .returned (.int .i64 (cmpI t.id id)) ∧ Below w.heap.size w w' := by
  have bA := bel_alloc w (.cells #[.int .i64 t.id, .int .i64 t.g, .int .i64 t.wt, .int .i64 t.cpu, .int .u64 t.mask, .bool t.rdy, .int .u64 t.v, .int .u32 t.r] 61)
  have rt := ((EV.newL (w := w) (e := 61) (xs := [t]) (n := 1) (c := 1) (cs := #[.int .i64 t.id, .int .i64 t.g, .int .i64 t.wt, .int .i64 t.cpu, .int .u64 t.mask, .bool t.rdy, .int .u64 t.v, .int .u32 t.r]) encT_len rfl rfl (Nat.le_refl _)).row3 (by simp))
  obtain ⟨d0, _, _, _, _, _, _, _⟩ := rt.tk (i := 0) rfl
  simp only [Nat.zero_mul, Nat.zero_add] at d0
  unfold ValT
  go_enter Try.func59, Try.ntmps59
  go_wp2_with (go_at_call 60; refine (cmpI_ok _ _ _).mono ?_; rintro e wz ⟨rfl, rfl⟩)
  go_ret
  exact ⟨rfl, bA⟩
end Go.Proofs.Ytenngfkgfdogjaa
namespace Go.Proofs.Ytenngfkgfdogjaa
open Go Go.RowKit Go.Shelf
attribute [local go_sem] Oper.semAt_some

theorem pw_take {ts : List Tk} (hp : ts.Pairwise (fun a b => a.id < b.id)) {m : Nat} {t : Tk} (ht : ts[m]? = some t) : ∀ x ∈ ts.take (m + 1), x.id ≤ t.id := by
  intro x hx
  obtain ⟨i, hi, rfl⟩ := List.getElem_of_mem hx
  rw [List.length_take] at hi
  obtain ⟨hm, rfl⟩ := List.getElem?_eq_some_iff.1 ht
  rw [List.getElem_take]
  by_cases h : i = m
  · subst h; exact Int.le_refl _
  · exact Int.le_of_lt (List.pairwise_iff_getElem.1 hp i m (by omega) hm (by omega))
theorem pw_drop {ts : List Tk} (hp : ts.Pairwise (fun a b => a.id < b.id)) {m : Nat} {t : Tk} (ht : ts[m]? = some t) : ∀ x ∈ ts.drop m, t.id ≤ x.id := by
  intro x hx
  obtain ⟨i, hi, rfl⟩ := List.getElem_of_mem hx
  rw [List.length_drop] at hi
  obtain ⟨hm, rfl⟩ := List.getElem?_eq_some_iff.1 ht
  rw [List.getElem_drop]
  by_cases h : i = 0
  · subst h; exact Int.le_refl _
  · exact Int.le_of_lt (List.pairwise_iff_getElem.1 hp m (m + i) hm (by omega) (by omega))
theorem cmpI_neg {a b : Int} : cmpI a b < 0 ↔ a < b := by unfold cmpI; split <;> (try split) <;> omega
theorem cmpI_zero {a b : Int} : cmpI a b = 0 ↔ a = b := by unfold cmpI; split <;> (try split) <;> omega
set_option maxRecDepth 100000 in
set_option maxHeartbeats 1600000 in
theorem bsf_ok (w : World) (v : Value) (ts : List Tk) (id : Int) (h : EV encT 8 w v ts) (hp : ts.Pairwise (fun a b => a.id < b.id)) (hlen : ts.length ≤ 1000000) :
    Calls Try.prog 58 #[v, .int .i64 id, .func (.func 59) #[] #[]] w fun e w' => ∃ i : Nat, e = .returned (.tuple #[.int .i64 i, .bool ((ts[i]?).any fun t => t.id == id)]) ∧ (∀ t ∈ ts.take i, t.id < id) ∧ (∀ t ∈ ts.drop i, id ≤ t.id) ∧ i ≤ ts.length ∧ Below w.heap.size w w' := by
  obtain ⟨A, c, rfl⟩ := h.shape
  have H := Lib.hid h
  have HP := Lib.hid hp
  clear h hp
  go_enter Try.func58, Try.ntmps58
  go_wp2
  go_loopg [9, 10] ts.length (fun k i j wr => ∃ a b : Nat, b - a ≤ k ∧ a ≤ b ∧ b ≤ ts.length ∧ i = .int .i64 a ∧ j = .int .i64 b ∧ (∀ t ∈ ts.take a, t.id < id) ∧ (∀ t ∈ ts.drop b, id ≤ t.id) ∧ Below w.heap.size w wr)
  case atStart => exact ⟨0, ts.length, by omega, by omega, Nat.le_refl _, rfl, rfl, by simp, by simp, Below.refl _ _⟩
  case round =>
    obtain ⟨a, b, hk, hab, hbn, rfl, rfl, h1, h2, hb⟩ := hrel
    have H1 := Lib.hid h1
    have H2 := Lib.hid h2
    clear h1 h2
    by_cases hlt : a < b
    · have dl : decide ((a : Int) < (b : Int)) = true := by simp; omega
      obtain ⟨m, hm⟩ : ∃ m, (a + b) / 2 = m := ⟨_, rfl⟩
      have e1 : ((a : Int) + (b : Int)) / 2 = (m : Int) := by omega
      have hm1 : m < ts.length := by omega
      obtain ⟨t, ht⟩ : ∃ t, ts[m]? = some t := ⟨_, List.getElem?_eq_getElem hm1⟩
      obtain ⟨br, off, c', hv, hcc, hr⟩ := (H.out.below hb).row (by omega)
      injection hv with ev1 ev2 ev3
      subst ev1
      subst ev3
      obtain ⟨d0, d1, d2, d3, d4, d5, d6, d7⟩ := hr.tk (i := m) ht
      have HM := Lib.hid hm
      have HT := Lib.hid ht
      clear hr hm ht ev2
      have HB := Lib.hid hb
      clear hb
      go_wp2_with fail
      refine (find1_ok wr t id).mono ?_
      rintro e w2 ⟨rfl, bb⟩
      have B2 := Lib.hid (HB.out.trans (bb.mono HB.out.size))
      clear bb HB d0 d1 d2 d3 d4 d5 d6 d7
      by_cases hq : cmpI t.id id < 0
      · have dq : decide (cmpI t.id id < 0) = true := by simp; omega
        go_wp2
        go_roundg (gk - 1)
        case measure => have := HM.out; omega
        case rel => exact ⟨m + 1, b, by have := HM.out; omega, by have := HM.out; omega, hbn, by go_num, rfl, fun x hx => by have := pw_take HP.out HT.out x hx; have := cmpI_neg.1 hq; omega, H2.out, B2.out⟩
      · have dq : decide (cmpI t.id id < 0) = false := by simp; omega
        go_wp2
        go_roundg (gk - 1)
        case measure => have := HM.out; omega
        case rel => exact ⟨a, m, by have := HM.out; omega, by have := HM.out; omega, by omega, rfl, rfl, H1.out, fun x hx => by have := pw_drop HP.out HT.out x hx; have := mt cmpI_neg.2 (Int.not_lt.2 hq); omega, B2.out⟩
    · obtain rfl : a = b := by omega
      clear hlt hk hab
      by_cases hn : a < ts.length
      · obtain ⟨t, ht⟩ : ∃ t, ts[a]? = some t := ⟨_, List.getElem?_eq_getElem hn⟩
        have dn : decide ((a : Int) < (ts.length : Int)) = true := by simp; omega
        obtain ⟨br, off, c', hv, hcc, hr⟩ := (H.out.below hb).row (by omega)
        injection hv with ev1 ev2 ev3
        subst ev1
        subst ev3
        obtain ⟨d0, d1, d2, d3, d4, d5, d6, d7⟩ := hr.tk (i := a) ht
        have HT := Lib.hid ht
        have HB := Lib.hid hb
        clear hr ht ev2 hb
        go_wp2_with (go_at_call 59; refine (find1_ok wr t id).mono ?_; rintro e w2 ⟨rfl, bb⟩)
        have B2 := Lib.hid (HB.out.trans (bb.mono HB.out.size))
        clear bb HB d0 d1 d2 d3 d4 d5 d6 d7
        go_wp2
        go_ret2
        refine ⟨a, ?_, H1.out, H2.out, hbn, B2.out⟩
        rw [HT.out]
        have : (cmpI t.id id == 0) = (t.id == id) := by
          rw [Bool.eq_iff_iff, beq_iff_eq, beq_iff_eq]; exact cmpI_zero
        simp [this]
      · have dn : decide ((a : Int) < (ts.length : Int)) = false := by simp; omega
        have HB := Lib.hid hb
        clear hb
        go_wp2
        go_ret2
        refine ⟨a, ?_, H1.out, H2.out, hbn, HB.out⟩
        rw [List.getElem?_eq_none (by omega)]; rfl
end Go.Proofs.Ytenngfkgfdogjaa
namespace Go.Proofs.Ytenngfkgfdogjaa
open Go Go.RowKit Go.Shelf
attribute [local go_sem] Oper.semAt_some

set_option maxRecDepth 100000 in
set_option maxHeartbeats 1600000 in
theorem find_pub (w : World) (c : StC) (s : St) (id : Int) (h : StAt w c s) (hb : StB s) :
    Calls Try.prog 30 #[c.val s, .int .i64 id] w fun e w' => Below w.heap.size w w' ∧ ((shapedB s = false ∧ e = .returned (.tuple #[.int .i64 0, .int .i64 210])) ∨
      (shapedB s = true ∧ ∃ i : Nat, (∀ t ∈ s.ts.take i, t.id < id) ∧ (∀ t ∈ s.ts.drop i, id ≤ t.id) ∧ i ≤ s.ts.length ∧
        ((((s.ts[i]?).any fun t => t.id == id) = true ∧ e = .returned (.tuple #[.int .i64 i, .int .i64 0])) ∨ (((s.ts[i]?).any fun t => t.id == id) = false ∧ e = .returned (.tuple #[.int .i64 0, .int .i64 6]))))) := by
  have CC := Lib.hid (show c.cells s = #[.int .i64 s.n, .int .u64 s.cr, c.vg, c.vc, c.vu, c.vt, c.vs] from rfl)
  have a1 := bel_alloc w (.cells (c.cells s) 38)
  have BX := StBox.new w c s
  have CK := Lib.hid (shaped_ok (w.alloc (.cells (c.cells s) 38)) c s (h.below a1) hb.g hb.t)
  have F : Facts (w.alloc (.cells (c.cells s) 38)) [sSA c s, sSB w.heap.size c s, sB w] := ⟨h.below a1, BX, a1, trivial⟩
  have hbt := hb.t
  unfold StC.val at CK ⊢
  simp only [CC.out] at CK F ⊢
  clear h a1 BX
  go_enter Try.func30, Try.ntmps30
  go_upto_region 1 with fail
  generalize w.alloc (.cells #[.int .i64 s.n, .int .u64 s.cr, c.vg, c.vc, c.vu, c.vt, c.vs] 38) = w1 at F CK ⊢
  obtain ⟨X0, hX0⟩ : ∃ X0, w.heap.size = X0 := ⟨_, rfl⟩
  rw [hX0] at F
  simp only [hX0]
  have HX0 := Lib.hid hX0
  clear hX0
  obtain ⟨b0, b1, b2, b3, b4, b5, b6⟩ := (F.get 1 : StBox w1 X0 c s).cell
  go_wp2_with fail
  refine CK.out.mono ?_
  rintro e w2 ⟨rfl, bb⟩
  replace F := F.below bb
  clear bb CK b0 b1 b2 b3 b4 b5 b6
  obtain ⟨b0, b1, b2, b3, b4, b5, b6⟩ := (F.get 1 : StBox w2 X0 c s).cell
  have HF := Lib.hid F
  cases hs : shapedB s with
  | false =>
    have hfin := Lib.hid (F.get 2 : Below w.heap.size w w2)
    clear F
    go_wp2
    go_ret2
    exact ⟨hfin.out, .inl ⟨hs, rfl⟩⟩
  | true =>
    have BS := Lib.hid (bsf_ok w2 c.vt s.ts id (F.get 0 : StAt w2 c s).et (tks_pw (shp_iff.1 hs).tks) hbt)
    clear F
    go_wp2_with fail
    refine BS.out.mono ?_
    rintro e w3 ⟨i, rfl, h1, h2, h3, bb⟩
    have hfin := Lib.hid ((HF.out.below bb).get 2 : Below w.heap.size w w3)
    cases ha : ((s.ts[i]?).any fun t => t.id == id) with
    | true =>
      go_wp2
      go_ret2
      exact ⟨hfin.out, .inr ⟨hs, i, h1, h2, h3, .inl ⟨ha, rfl⟩⟩⟩
    | false =>
      go_wp2
      go_ret2
      exact ⟨hfin.out, .inr ⟨hs, i, h1, h2, h3, .inr ⟨ha, rfl⟩⟩⟩
end Go.Proofs.Ytenngfkgfdogjaa
