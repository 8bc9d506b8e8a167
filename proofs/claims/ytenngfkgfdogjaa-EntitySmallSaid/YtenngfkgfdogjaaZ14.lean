/- The reference of layer 21: Shaped, whole; wrong; Less | The reference of layer 21: Ready, Load, Find | The reference of layer 21: Find, under, Filled | The reference of layer 21: Filled. -/
import Derived.Test.YtenngfkgfdogjaaZ11
import Derived.Test.YtenngfkgfdogjaaZ10
import Derived.Test.YtenngfkgfdogjaaZ13
set_option linter.unusedVariables false
set_option linter.unusedSimpArgs false
set_option linter.unusedSectionVars false
namespace Go.Proofs.Ytenngfkgfdogjaa
open Go Go.RowKit Go.Shelf
attribute [local go_sem] Oper.semAt_some

set_option maxRecDepth 100000 in
set_option maxHeartbeats 3200000 in
theorem rshaped_t6 (w wc : World) (B : Nat) (c : StC) (s : St) {u0 u2 u4 u5 u6 u7 u8 u9 u10 u11 u12 u13 u14 u15 u16 u17 u18 u19 u20 u21 u22 u23 u24 u25 u26 u27 u28 u29 u30 u31 u32 u33 u34 u35 u36 u37 u38 u39 u40 u41 u42 u43 u44 u45 u46 u47 u48 u49 u50 u51 u52 u53 u54 u55 u56 u57 u58 u59 u60 u61 u62 u63 u64 u65 u66 u67 u68 u69 u70 u71 u72 u73 u74 u75 u76 u77 u78 u79 u80 u81 u82 u83 u84 u85 u86 u87 u88 u89 u90 u91 u92 u93 u94 u95 u96 u97 u98 u99 u100 u101 u102 u103 u104 u105 u106 u107 u108 u109 u110 u111 u112 u113 u114 u115 u116 u117 u118 u119 u120 u121 u122 u123 u124 u125 u126 u127 u128 : Value} (h : StAt wc c s) (hB : StBox wc B c s) (hb : Below w.heap.size w wc) (n1 : 1 ≤ s.n) (n2 : s.n ≤ 64) (hg : s.gs.length ≤ 256) (ht : s.ts.length ≤ 1000000) (hss : s.ss.length = s.gs.length)
    (hE : shapedB s = (s.ss.all (fun x => decide ((x.2.length : Int) = s.n)) && tksOk s.n s.gs.length 0 s.ts)) :
    Code.wp Try.prog (tailR Try.f69 6) (bodyPost Try.prog Try.f69 fun e w' => e = .returned (.bool (shapedB s)) ∧ Below w.heap.size w w')
      ⟨#[u0, .pointer (some ⟨B, 0, none⟩), u2, .int .i64 s.n, u4, u5, u6, u7, u8, u9, u10, u11, u12, u13, u14, u15, u16, u17, u18, u19, u20, u21, u22, u23, u24, u25, u26, u27, u28, u29, u30, u31, u32, u33, u34, u35, u36, u37, u38, u39, u40, u41, u42, u43, u44, u45, u46, u47, u48, u49, u50, u51, u52, u53, u54, u55, u56, u57, u58, u59, u60, u61, u62, u63, u64, u65, u66, u67, u68, u69, u70, u71, u72, u73, u74, u75, u76, u77, u78, u79, u80, u81, u82, u83, u84, u85, u86, u87, u88, u89, u90, u91, u92, u93, u94, u95, u96, u97, u98, u99, u100, u101, u102, u103, u104, u105, u106, u107, u108, u109, u110, u111, u112, u113, u114, u115, u116, u117, u118, u119, u120, u121, u122, u123, u124, u125, u126, u127, u128], []⟩ wc := by
  conv => arg 2; whnf
  conv => arg 4; dsimp only
  have HH := Lib.hid h
  have HBX := Lib.hid hB
  have HB := Lib.hid hb
  have HE := Lib.hid hE
  obtain ⟨_, _, _, _, _, _, b6⟩ := hB.cell
  obtain ⟨As, cs, hvs⟩ := h.es.1.shape
  rw [hss] at hvs
  rw [hvs] at b6
  have HR := Lib.hid h.es
  have HVS := Lib.hid hvs
  clear h hB hb hE hvs
  apply wp_seq_k; intro K0 hK0
  go_cut [] (fun wx => wx = wc ∧ s.ss.all (fun x => decide ((x.2.length : Int) = s.n)) = true)
  case first =>
    go_wp2
    go_loopg [4] s.gs.length (fun k i wr => ∃ j : Nat, j + k = s.gs.length ∧ i = .int .i64 j ∧ wr = wc ∧ (s.ss.take j).all (fun x => decide ((x.2.length : Int) = s.n)) = true)
    case atStart => exact ⟨0, by omega, rfl, rfl, by simp⟩
    case round =>
      obtain ⟨j, hj, rfl, rfl, ha⟩ := hrel
      have HJ := Lib.hid hj
      have HA := Lib.hid ha
      clear hj ha
      by_cases hlt : j < s.gs.length
      · have hd : decide ((j : Int) < (s.gs.length : Int)) = true := by rw [decide_eq_true_eq]; omega
        obtain ⟨x, hx⟩ : ∃ x, s.ss[j]? = some x := ⟨_, List.getElem?_eq_getElem (by omega)⟩
        obtain ⟨b, off, c', hv, _, hr⟩ := HR.out.1.row (by omega)
        rw [HVS.out, ← hss] at hv
        simp only [Value.slice.injEq] at hv
        obtain ⟨rfl, hz, rfl⟩ := hv
        clear hz
        have cj := hr j x hx 0 _ rfl
        simp only [Nat.mul_one, Nat.add_zero] at cj
        obtain ⟨Ax, cx, hsx⟩ := (HR.out.2 x (List.mem_of_getElem? hx)).shape
        rw [hsx] at cj
        have TK := Lib.hid (show (s.ss.take (j + 1)) = s.ss.take j ++ [x] by rw [List.take_add_one, hx, Option.toList_some])
        have XM := Lib.hid (List.mem_of_getElem? hx)
        clear hr hx hsx
        by_cases he : (x.2.length : Int) = s.n
        · have hq : ((x.2.length : Int) != s.n) = false := by simp [he]
          have HQ := Lib.hid he
          clear he
          go_wp2
          go_roundg (gk - 1)
          case measure => have := HJ.out; omega
          case rel => exact ⟨j + 1, by have := HJ.out; omega, by go_num, rfl, by rw [TK.out, List.all_append, HA.out]; simp [HQ.out]⟩
        · have hq : ((x.2.length : Int) != s.n) = true := by simp [he]
          have X := Lib.hid (show shapedB s = false by
            rw [HE.out]
            have : s.ss.all (fun x => decide ((x.2.length : Int) = s.n)) = false := by
              rw [List.all_eq_false]; exact ⟨x, XM.out, by simp [he]⟩
            rw [this]; rfl)
          clear he
          go_wp2
          go_ret
          exact ⟨ret_bool X.out.symm, HB.out⟩
      · have hd : decide ((j : Int) < (s.gs.length : Int)) = false := by rw [decide_eq_false_iff_not]; omega
        have X := Lib.hid (show s.ss.all (fun x => decide ((x.2.length : Int) = s.n)) = true by have := HA.out; rwa [List.take_of_length_le (by omega)] at this)
        go_wp2
        go_meet
        exact ⟨rfl, X.out⟩
  case rest =>
    obtain ⟨rfl, ha⟩ := hcut
    exact hK0 _ _ (rshaped_t11 w _ B c s HH.out HBX.out HB.out n1 n2 hg ht (by rw [HE.out, ha]; rfl))
set_option maxRecDepth 100000 in
set_option maxHeartbeats 3200000 in
theorem rshaped_ok (w : World) (c : StC) (s : St) (h : StAt w c s) (hb : StB s) :
    Calls Try.prog 69 #[c.val s] w fun e w' => e = .returned (.bool (shapedB s)) ∧ Below w.heap.size w w' := by
  have CC := Lib.hid (show c.cells s = #[.int .i64 s.n, .int .u64 s.cr, c.vg, c.vc, c.vu, c.vt, c.vs] from rfl)
  have a1 := bel_alloc w (.cells (c.cells s) 38)
  have BX := StBox.new w c s
  have HH := Lib.hid (h.below a1)
  have HBX := Lib.hid BX
  have HB := Lib.hid a1
  obtain ⟨Ag, cg, hvg⟩ := h.eg.shape
  obtain ⟨Ac, cc, hvc⟩ := h.ec.shape
  obtain ⟨Au, cu, hvu⟩ := h.eu.shape
  obtain ⟨As, cs, hvs⟩ := h.es.1.shape
  have hE : shapedB s = (inB s.n 1 64 && rightB s.gs && decide ((s.cl.length : Int) = s.n) && decide ((s.cu.length : Int) = s.n) && decide (s.ss.length = s.gs.length) && s.ss.all (fun x => decide ((x.2.length : Int) = s.n)) && tksOk s.n s.gs.length 0 s.ts) := rfl
  have hbg := hb.g
  have hbt := hb.t
  have HVG := Lib.hid hvg
  have HVC := Lib.hid hvc
  have HVU := Lib.hid hvu
  have HVS := Lib.hid hvs
  unfold StC.val
  simp only [CC.out] at HB HH HBX ⊢
  clear a1 BX h hb hvg hvc hvu hvs
  go_enter Try.func69, Try.ntmps69
  go_upto_region 1 with fail
  generalize w.alloc (.cells #[.int .i64 s.n, .int .u64 s.cr, c.vg, c.vc, c.vu, c.vt, c.vs] 38) = w1 at HB HH HBX ⊢
  obtain ⟨X0, hX0⟩ : ∃ X0, w.heap.size = X0 := ⟨_, rfl⟩
  rw [hX0] at HBX
  simp only [hX0]
  have HX0 := Lib.hid hX0
  clear hX0
  have sc := HB.out.size
  obtain ⟨b0, b1, b2, b3, b4, b5, b6⟩ := (HBX.out : StBox w1 X0 c s).cell
  rw [HVG.out] at b2
  have RT := Lib.hid (rright_ok w1 (.slice Ag s.gs.length cg) s.gs (HVG.out ▸ HH.out.eg) hbg)
  clear b1 b3 b4 b5 b6
  by_cases q1 : s.n < 1
  · have X := Lib.hid (show shapedB s = false by rw [hE, show inB s.n 1 64 = false by (rw [Bool.eq_false_iff, ne_eq, inB_iff]; omega)]; rfl)
    clear hE
    go_wp2
    go_ret
    exact ⟨ret_bool X.out.symm, HB.out⟩
  by_cases q2 : 64 < s.n
  · have X := Lib.hid (show shapedB s = false by rw [hE, show inB s.n 1 64 = false by (rw [Bool.eq_false_iff, ne_eq, inB_iff]; omega)]; rfl)
    clear hE
    go_wp2
    go_ret
    exact ⟨ret_bool X.out.symm, HB.out⟩
  have k1 : inB s.n 1 64 = true := inB_iff.2 (by omega)
  have HE := Lib.hid hE
  have K1 := Lib.hid k1
  clear hE k1
  go_wp2_with fail
  refine RT.out.mono ?_
  rintro e w2 ⟨rfl, bb⟩
  have HB2 := Lib.hid (below_step HB.out bb)
  have HH2 := Lib.hid (HH.out.below bb)
  have HBX2 := Lib.hid (HBX.out.below bb : StBox w2 X0 c s)
  clear b0 b2 RT HB HH HBX bb sc
  obtain ⟨b0, b1, b2, b3, b4, b5, b6⟩ := HBX2.out.cell
  rw [HVG.out] at b2
  rw [HVC.out] at b3
  rw [HVU.out] at b4
  rw [HVS.out] at b6
  clear b0 b1 b5
  cases k2 : rightB s.gs with
  | false =>
    have X := Lib.hid (show shapedB s = false by rw [HE.out, K1.out, k2]; rfl)
    clear HE k2
    go_wp2
    go_ret
    exact ⟨ret_bool X.out.symm, HB2.out⟩
  | true =>
  have hgl := Lib.hid (right_iff.1 k2).many
  have K2 := Lib.hid k2
  clear k2
  by_cases k3 : (s.cl.length : Int) = s.n
  case neg =>
    have X := Lib.hid (show shapedB s = false by rw [HE.out, K1.out, K2.out, decide_eq_false k3]; rfl)
    have hq : ((s.cl.length : Int) != s.n) = true := by simp [k3]
    clear HE k3
    go_wp2
    go_ret
    exact ⟨ret_bool X.out.symm, HB2.out⟩
  by_cases k4 : (s.cu.length : Int) = s.n
  case neg =>
    have X := Lib.hid (show shapedB s = false by rw [HE.out, K1.out, K2.out, decide_eq_true k3, decide_eq_false k4]; rfl)
    have hq : ((s.cl.length : Int) != s.n) = false := by simp [k3]
    have hq2 : ((s.cu.length : Int) != s.n) = true := by simp [k4]
    clear HE k3 k4
    go_wp2
    go_ret
    exact ⟨ret_bool X.out.symm, HB2.out⟩
  by_cases k5 : s.ss.length = s.gs.length
  case neg =>
    have X := Lib.hid (show shapedB s = false by rw [HE.out, K1.out, K2.out, decide_eq_true k3, decide_eq_true k4, decide_eq_false k5]; rfl)
    have hq : ((s.cl.length : Int) != s.n) = false := by simp [k3]
    have hq2 : ((s.cu.length : Int) != s.n) = false := by simp [k4]
    have hq3 : ((s.ss.length : Int) != (s.gs.length : Int)) = true := by simp; omega
    clear HE k3 k4 k5
    go_wp2
    go_ret
    exact ⟨ret_bool X.out.symm, HB2.out⟩
  have X := Lib.hid (show shapedB s = (s.ss.all (fun x => decide ((x.2.length : Int) = s.n)) && tksOk s.n s.gs.length 0 s.ts) by rw [HE.out, K1.out, K2.out, decide_eq_true k3, decide_eq_true k4, decide_eq_true k5]; rfl)
  have hq : ((s.cl.length : Int) != s.n) = false := by simp [k3]
  have hq2 : ((s.cu.length : Int) != s.n) = false := by simp [k4]
  have hq3 : ((s.ss.length : Int) != (s.gs.length : Int)) = false := by simp [k5]
  have K5 := Lib.hid k5
  clear HE k3 k4 k5
  go_upto_if 44 with fail
  go_cut [] (fun wx => wx = w2)
  case first =>
    go_wp2_with fail
    go_meet
    rfl
  case rest =>
    subst hcut
    refine (‹∀ (a : Act) (w : World), Code.wp _ _ _ a w → _› : ∀ (a : Act) (w : World), _ → _) _ _ (rshaped_t6 w _ X0 c s HH2.out HBX2.out HB2.out (by omega) (by omega) hgl.out hbt K5.out X.out)
theorem rwrong_ok (w : World) (c : StC) (s : St) (g cpu : Int) (h : StAt w c s) (hb : StB s) :
    Calls Try.prog 95 #[c.val s, .int .i64 g, .int .i64 cpu] w fun e w' => e = .returned (.int .i64 (chkE s g cpu)) ∧ Below w.heap.size w w' := by
  have CC := Lib.hid (show c.cells s = #[.int .i64 s.n, .int .u64 s.cr, c.vg, c.vc, c.vu, c.vt, c.vs] from rfl)
  have a1 := bel_alloc w (.cells (c.cells s) 38)
  have BX := StBox.new w c s
  have CK := Lib.hid (rshaped_ok (w.alloc (.cells (c.cells s) 38)) c s (h.below a1) hb)
  obtain ⟨Ag, cg, hvg⟩ := h.eg.shape
  have HBX := Lib.hid BX
  have HB := Lib.hid a1
  have HVG := Lib.hid hvg
  have hE := Lib.hid (show chkE s g cpu = if shapedB s = false then 210 else if inB g 0 ((s.gs.length : Int) - 1) && inB cpu 0 (s.n - 1) then 0 else 2 from rfl)
  unfold StC.val at CK ⊢
  simp only [CC.out] at CK HB HBX ⊢
  clear a1 BX h hvg
  go_enter Try.func95, Try.ntmps95
  go_upto_region 1 with fail
  generalize w.alloc (.cells #[.int .i64 s.n, .int .u64 s.cr, c.vg, c.vc, c.vu, c.vt, c.vs] 38) = w1 at HB CK HBX ⊢
  obtain ⟨X0, hX0⟩ : ∃ X0, w.heap.size = X0 := ⟨_, rfl⟩
  rw [hX0] at HBX
  simp only [hX0]
  have HX0 := Lib.hid hX0
  clear hX0
  obtain ⟨b0, b1, b2, b3, b4, b5, b6⟩ := (HBX.out : StBox w1 X0 c s).cell
  go_wp2_with fail
  refine CK.out.mono ?_
  rintro e w2 ⟨rfl, bb⟩
  have HB2 := Lib.hid (below_step HB.out bb)
  clear b0 b1 b2 b3 b4 b5 b6 CK
  obtain ⟨b0, b1, b2, b3, b4, b5, b6⟩ := (HBX.out.below bb : StBox w2 X0 c s).cell
  rw [HVG.out] at b2
  clear bb b1 b3 b4 b5 b6
  cases hs : shapedB s with
  | false =>
    have X := Lib.hid (show chkE s g cpu = 210 by rw [hE.out, hs]; rfl)
    clear hE hs
    go_wp2
    go_ret
    exact ⟨ret_int X.out.symm, HB2.out⟩
  | true =>
    have hs1 := hs
    have hE2 := Lib.hid (show chkE s g cpu = if inB g 0 ((s.gs.length : Int) - 1) && inB cpu 0 (s.n - 1) then 0 else 2 by rw [hE.out, hs]; rfl)
    have bad : ¬ (0 ≤ g ∧ g < s.gs.length ∧ 0 ≤ cpu ∧ cpu < s.n) → chkE s g cpu = 2 := fun hn => by
      rw [hE2.out, if_neg]
      rw [Bool.and_eq_true, inB_iff, inB_iff]; omega
    have BAD := Lib.hid bad
    clear hE hs bad hs1
    by_cases q1 : g < 0
    · have X := Lib.hid (BAD.out (by omega))
      go_wp2
      go_ret
      exact ⟨ret_int X.out.symm, HB2.out⟩
    by_cases q2 : (s.gs.length : Int) ≤ g
    · have X := Lib.hid (BAD.out (by omega))
      go_wp2
      go_ret
      exact ⟨ret_int X.out.symm, HB2.out⟩
    by_cases q3 : cpu < 0
    · have X := Lib.hid (BAD.out (by omega))
      go_wp2
      go_ret
      exact ⟨ret_int X.out.symm, HB2.out⟩
    by_cases q4 : s.n ≤ cpu
    · have X := Lib.hid (BAD.out (by omega))
      go_wp2
      go_ret
      exact ⟨ret_int X.out.symm, HB2.out⟩
    have X := Lib.hid (show chkE s g cpu = 0 by rw [hE2.out, if_pos]; rw [Bool.and_eq_true, inB_iff, inB_iff]; omega)
    go_wp2
    go_ret
    exact ⟨ret_int X.out.symm, HB2.out⟩
set_option maxRecDepth 100000 in
set_option maxHeartbeats 1600000 in
theorem rless_ok (w : World) (a b : Ky) : Calls Try.prog 13 #[.agg #[.int .u64 a.v, .bool a.sp, .int .i64 a.id], .agg #[.int .u64 b.v, .bool b.sp, .int .i64 b.id]] w fun e w' => e = .returned (.bool (keyLt a b)) ∧ Below w.heap.size w w' := by
  obtain ⟨av, as', ai⟩ := a
  obtain ⟨bv, bs, bi⟩ := b
  have bA := below_step (bel_alloc w (.cells #[.int .u64 av, .bool as', .int .i64 ai] 27)) (bel_alloc _ (.cells #[.int .u64 bv, .bool bs, .int .i64 bi] 27))
  dsimp only
  by_cases h1 : av = bv
  · subst h1
    cases as' <;> cases bs
    all_goals
      go_enter Try.func13, Try.ntmps13
      go_wp2
      go_ret
      exact ⟨ret_bool (by simp [keyLt]), bA⟩
  · by_cases h2 : av < bv
    · go_enter Try.func13, Try.ntmps13
      go_wp2
      go_ret
      exact ⟨ret_bool (by simp [keyLt, h1, h2]), bA⟩
    · go_enter Try.func13, Try.ntmps13
      go_wp2
      go_ret
      exact ⟨ret_bool (by simp [keyLt, h1, h2]), bA⟩
end Go.Proofs.Ytenngfkgfdogjaa
namespace Go.Proofs.Ytenngfkgfdogjaa
open Go Go.RowKit Go.Shelf
attribute [local go_sem] Oper.semAt_some

theorem ftake_pos {p : Tk → Bool} {ts : List Tk} {j : Nat} {t : Tk} (h : ts[j]? = some t) (hp : p t = true) : (ts.take (j + 1)).filter p = (ts.take j).filter p ++ [t] := by
  rw [List.take_add_one, h, Option.toList_some, List.filter_append]; simp [hp]
theorem ftake_neg {p : Tk → Bool} {ts : List Tk} {j : Nat} {t : Tk} (h : ts[j]? = some t) (hp : p t = false) : (ts.take (j + 1)).filter p = (ts.take j).filter p := by
  rw [List.take_add_one, h, Option.toList_some, List.filter_append]; simp [hp]
theorem rdyL_take (s : St) (cpu : Int) : rdyL s cpu = (s.ts.take s.ts.length).filter (rdyB cpu) := by rw [List.take_length]; rfl
set_option maxRecDepth 100000 in
set_option maxHeartbeats 3200000 in
theorem rready_ok (w : World) (c : StC) (s : St) (cpu : Int) (h : StAt w c s) (hb : StB s) :
    Calls Try.prog 65 #[c.val s, .int .i64 cpu] w fun e w' => ∃ v, e = .returned (.tuple #[v, .int .i64 (chkE s 0 cpu)]) ∧ OV encI 1 3 w.heap.size w' v (rdyE s cpu) ∧ Below w.heap.size w w' := by
  have CC := Lib.hid (show c.cells s = #[.int .i64 s.n, .int .u64 s.cr, c.vg, c.vc, c.vu, c.vt, c.vs] from rfl)
  have a1 := bel_alloc w (.cells (c.cells s) 38)
  have BX := StBox.new w c s
  have CK := Lib.hid (rwrong_ok (w.alloc (.cells (c.cells s) 38)) c s 0 cpu (h.below a1) hb)
  have F : Facts (w.alloc (.cells (c.cells s) 38)) [sSA c s, sSB w.heap.size c s, sB w] := ⟨h.below a1, BX, a1, trivial⟩
  unfold StC.val at CK ⊢
  simp only [CC.out] at CK F ⊢
  clear h a1 BX
  go_enter Try.func65, Try.ntmps65
  go_upto_region 1 with fail
  generalize w.alloc (.cells #[.int .i64 s.n, .int .u64 s.cr, c.vg, c.vc, c.vu, c.vt, c.vs] 38) = w1 at F CK ⊢
  obtain ⟨X0, hX0⟩ : ∃ X0, w.heap.size = X0 := ⟨_, rfl⟩
  rw [hX0] at F
  simp only [hX0]
  have HX0 := Lib.hid hX0
  clear hX0
  obtain ⟨b0, b1, b2, b3, b4, b5, b6⟩ := (F.get 1 : StBox w1 X0 c s).cell
  go_wp2_with fail
  refine CK.out.mono ?_
  rintro e w2 ⟨rfl, bb⟩
  replace F := F.below bb
  clear bb CK b0 b1 b2 b3 b4 b5 b6
  by_cases hz : chkE s 0 cpu = 0
  · have HM := Lib.hid (show rdyE s cpu = ((s.ts.take s.ts.length).filter (rdyB cpu)).map Tk.id by rw [rdyE_pos hz, rdyL_take])
    have hsl := (chk_zero.1 hz).1.len
    have HSH := Lib.hid (chk_zero.1 hz).1
    generalize hE : chkE s 0 cpu = E at hz ⊢
    subst hz
    have HE := Lib.hid hE
    clear hE
    obtain ⟨At, ct, hvt⟩ := (F.get 0 : StAt w2 c s).et.shape
    have HT := Lib.hid (F.get 0 : StAt w2 c s).et
    have HBX := Lib.hid (F.get 1 : StBox w2 X0 c s)
    have HBW := Lib.hid (F.get 2 : Below w.heap.size w w2)
    have hw2 := HBW.out.size
    obtain ⟨L, hL⟩ : ∃ L, s.ts.length = L := ⟨_, rfl⟩
    have HL := Lib.hid hL
    rw [hL] at hvt
    have HVT := Lib.hid hvt
    have hLb : L ≤ 65535 := by omega
    clear hL hvt F
    go_wp2
    go_loopg [7, 8] L (fun k v i wr => ∃ j : Nat, j + k = L ∧ i = .int .i64 j ∧ OV encI 1 3 w2.heap.size wr v (((s.ts.take j).filter (rdyB cpu)).map Tk.id) ∧ Below w2.heap.size w2 wr)
    case atStart => exact ⟨0, by omega, rfl, OV.nil _ _, Below.refl _ _⟩
    case round =>
    obtain ⟨j, hj, rfl, ho, hbr⟩ := hrel
    have HO := Lib.hid ho
    clear ho
    have HJ := Lib.hid hj
    have HBR := Lib.hid hbr
    have sr := hbr.size
    obtain ⟨_, _, _, _, _, b5, _⟩ := (HBX.out.below hbr).cell
    rw [HVT.out] at b5
    clear hj hbr
    by_cases hlt : j < L
    · have hd : decide ((j : Int) < (L : Int)) = true := by rw [decide_eq_true_eq]; omega
      obtain ⟨t, ht⟩ : ∃ t, s.ts[j]? = some t := ⟨_, List.getElem?_eq_getElem (by rw [HL.out]; omega)⟩
      obtain ⟨b, off, c', hv, _, hr⟩ := (HT.out.below HBR.out).row (by rw [HL.out]; omega)
      rw [HVT.out] at hv
      simp only [Value.slice.injEq] at hv
      obtain ⟨rfl, hz, rfl⟩ := hv
      clear hz
      obtain ⟨c0, c1, c2, c3, c4, c5, c6, c7⟩ := hr.tk ht
      have HR := Lib.hid hr
      have HTT := Lib.hid ht
      clear hr ht
      cases hrd : t.rdy with
      | false =>
        rw [hrd] at c5
        have HP := Lib.hid (ftake_neg (p := rdyB cpu) HTT.out (by simp [rdyB, hrd]))
        clear hrd
        go_wp2
        go_roundg (gk - 1)
        case measure => have := HJ.out; omega
        case rel => exact ⟨j + 1, by have := HJ.out; omega, by go_num, by rw [HP.out]; exact HO.out, HBR.out⟩
      | true =>
        rw [hrd] at c5
        by_cases hc : t.cpu = cpu
        · have hcq : (t.cpu == cpu) = true := by simp [hc]
          have HP := Lib.hid (ftake_pos (p := rdyB cpu) HTT.out (by simp [rdyB, hrd, hc]))
          clear hrd hc
          go_wp2_with (at_builtin; refine wpList_app elemI encI_len encI_one rfl (.tmp 38) (.tmp 45) rfl _ _ rfl rfl (HO.out.alloc _) (new_one (z := t.id)) ?q1 ?q2 ?_)
          case q1 => have := List.length_filter_le (rdyB cpu) (s.ts.take j); simp at this; simp; omega
          case q2 => simp; omega
          intro v9 w9 o9 g9
          have HB9 := Lib.hid ((below_step HBR.out (bel_alloc wr (.cells #[.int .i64 t.id] 3))).grown g9 (by simp; omega) (fun q hq => (HO.out.block q hq).1))
          have HO9 := Lib.hid o9
          clear o9 g9
          go_wp2
          go_roundg (gk - 1)
          case measure => have := HJ.out; omega
          case rel => exact ⟨j + 1, by have := HJ.out; omega, by go_num, by rw [HP.out, List.map_append]; exact HO9.out, HB9.out⟩
        · have hcq : (t.cpu == cpu) = false := by simp [hc]
          have HP := Lib.hid (ftake_neg (p := rdyB cpu) HTT.out (by simp [rdyB, hrd, hc]))
          clear hrd hc
          go_wp2
          go_roundg (gk - 1)
          case measure => have := HJ.out; omega
          case rel => exact ⟨j + 1, by have := HJ.out; omega, by go_num, by rw [HP.out]; exact HO.out, HBR.out⟩
    · have hd : decide ((j : Int) < (L : Int)) = false := by rw [decide_eq_false_iff_not]; omega
      have X := Lib.hid (show j = s.ts.length by rw [HL.out]; have := HJ.out; omega)
      go_wp2
      go_ret2
      exact ⟨_, ret_vi HE.out.symm, by rw [HM.out, ← X.out]; exact HO.out.base_le hw2, HBW.out.trans (HBR.out.mono hw2)⟩
  · have HZ := Lib.hid hz
    have hd : (chkE s 0 cpu != 0) = true := by simp [hz]
    have HM := Lib.hid (rdyE_neg hz)
    have hfin := Lib.hid (F.get 2 : Below w.heap.size w w2)
    clear hz F
    generalize hE : chkE s 0 cpu = E at HZ hd ⊢
    have HE := Lib.hid hE
    clear hE
    go_wp2
    go_ret2
    exact ⟨_, ret_vi HE.out.symm, by rw [HM.out]; exact OV.nil _ _, hfin.out⟩
set_option maxRecDepth 100000 in
set_option maxHeartbeats 3200000 in
theorem rload_ok (w : World) (c : StC) (s : St) (cpu : Int) (h : StAt w c s) (hb : StB s) :
    Calls Try.prog 71 #[c.val s, .int .i64 cpu] w fun e w' => e = .returned (.tuple #[.int .i64 (loadE s cpu), .int .i64 (chkE s 0 cpu)]) ∧ Below w.heap.size w w' := by
  have CC := Lib.hid (show c.cells s = #[.int .i64 s.n, .int .u64 s.cr, c.vg, c.vc, c.vu, c.vt, c.vs] from rfl)
  have a1 := bel_alloc w (.cells (c.cells s) 38)
  have BX := StBox.new w c s
  have CK := Lib.hid (rwrong_ok (w.alloc (.cells (c.cells s) 38)) c s 0 cpu (h.below a1) hb)
  have F : Facts (w.alloc (.cells (c.cells s) 38)) [sSA c s, sSB w.heap.size c s, sB w] := ⟨h.below a1, BX, a1, trivial⟩
  unfold StC.val at CK ⊢
  simp only [CC.out] at CK F ⊢
  clear h a1 BX
  go_enter Try.func71, Try.ntmps71
  go_upto_region 1 with fail
  generalize w.alloc (.cells #[.int .i64 s.n, .int .u64 s.cr, c.vg, c.vc, c.vu, c.vt, c.vs] 38) = w1 at F CK ⊢
  obtain ⟨X0, hX0⟩ : ∃ X0, w.heap.size = X0 := ⟨_, rfl⟩
  rw [hX0] at F
  simp only [hX0]
  have HX0 := Lib.hid hX0
  clear hX0
  obtain ⟨b0, b1, b2, b3, b4, b5, b6⟩ := (F.get 1 : StBox w1 X0 c s).cell
  go_wp2_with fail
  refine CK.out.mono ?_
  rintro e w2 ⟨rfl, bb⟩
  replace F := F.below bb
  clear bb CK b0 b1 b2 b3 b4 b5 b6
  by_cases hz : chkE s 0 cpu = 0
  · have HM := Lib.hid (show loadE s cpu = loadL ((s.ts.take s.ts.length).filter (rdyB cpu)) by rw [loadE_pos hz, rdyL_take])
    have hsl := (chk_zero.1 hz).1.len
    have HSH := Lib.hid (chk_zero.1 hz).1
    generalize hE : chkE s 0 cpu = E at hz ⊢
    subst hz
    have HE := Lib.hid hE
    clear hE
    obtain ⟨At, ct, hvt⟩ := (F.get 0 : StAt w2 c s).et.shape
    have HT := Lib.hid (F.get 0 : StAt w2 c s).et
    have HBX := Lib.hid (F.get 1 : StBox w2 X0 c s)
    have HBW := Lib.hid (F.get 2 : Below w.heap.size w w2)
    have hw2 := HBW.out.size
    obtain ⟨L, hL⟩ : ∃ L, s.ts.length = L := ⟨_, rfl⟩
    have HL := Lib.hid hL
    rw [hL] at hvt
    have HVT := Lib.hid hvt
    have hLb : L ≤ 65535 := by omega
    clear hL hvt F
    have HWT := Lib.hid (fun t (ht : t ∈ s.ts) => tks_each HSH.out.tks t ht)
    go_wp2
    go_loopg [7, 8] L (fun k v i wr => ∃ (j : Nat) (z : Int), j + k = L ∧ i = .int .i64 j ∧ v = .int .i64 z ∧ z = loadL ((s.ts.take j).filter (rdyB cpu)) ∧ 0 ≤ z ∧ z ≤ 65536 * j ∧ Below w2.heap.size w2 wr)
    case atStart => exact ⟨0, 0, by omega, rfl, rfl, by simp [loadL], by omega, by omega, Below.refl _ _⟩
    case round =>
    obtain ⟨j, z, hj, rfl, rfl, hzz, hz0, hz1, hbr⟩ := hrel
    have HZZ := Lib.hid hzz
    clear hzz
    have HJ := Lib.hid hj
    have HBR := Lib.hid hbr
    have sr := hbr.size
    obtain ⟨_, _, _, _, _, b5, _⟩ := (HBX.out.below hbr).cell
    rw [HVT.out] at b5
    clear hj hbr
    by_cases hlt : j < L
    · have hd : decide ((j : Int) < (L : Int)) = true := by rw [decide_eq_true_eq]; omega
      obtain ⟨t, ht⟩ : ∃ t, s.ts[j]? = some t := ⟨_, List.getElem?_eq_getElem (by rw [HL.out]; omega)⟩
      obtain ⟨b, off, c', hv, _, hr⟩ := (HT.out.below HBR.out).row (by rw [HL.out]; omega)
      rw [HVT.out] at hv
      simp only [Value.slice.injEq] at hv
      obtain ⟨rfl, hz, rfl⟩ := hv
      clear hz
      obtain ⟨c0, c1, c2, c3, c4, c5, c6, c7⟩ := hr.tk ht
      have HR := Lib.hid hr
      have HTT := Lib.hid ht
      clear hr ht
      cases hrd : t.rdy with
      | false =>
        rw [hrd] at c5
        have HP := Lib.hid (ftake_neg (p := rdyB cpu) HTT.out (by simp [rdyB, hrd]))
        clear hrd
        go_wp2
        go_roundg (gk - 1)
        case measure => have := HJ.out; omega
        case rel => exact ⟨j + 1, z, by have := HJ.out; omega, by go_num, rfl, by rw [HP.out]; exact HZZ.out, hz0, by omega, HBR.out⟩
      | true =>
        rw [hrd] at c5
        by_cases hc : t.cpu = cpu
        · have hcq : (t.cpu == cpu) = true := by simp [hc]
          have HP := Lib.hid (ftake_pos (p := rdyB cpu) HTT.out (by simp [rdyB, hrd, hc]))
          clear hrd hc
          have htb := HWT.out t (List.mem_of_getElem? HTT.out)
          have hw : IntKind.i64.wrap (z + t.wt) = z + t.wt := IntWalk.i64_in _ (by omega)
          go_wp2
          go_roundg (gk - 1)
          case measure => have := HJ.out; omega
          case rel => exact ⟨j + 1, z + t.wt, by have := HJ.out; omega, by go_num, rfl, by rw [HP.out, HZZ.out]; simp [loadL], by omega, by omega, HBR.out⟩
        · have hcq : (t.cpu == cpu) = false := by simp [hc]
          have HP := Lib.hid (ftake_neg (p := rdyB cpu) HTT.out (by simp [rdyB, hrd, hc]))
          clear hrd hc
          go_wp2
          go_roundg (gk - 1)
          case measure => have := HJ.out; omega
          case rel => exact ⟨j + 1, z, by have := HJ.out; omega, by go_num, rfl, by rw [HP.out]; exact HZZ.out, hz0, by omega, HBR.out⟩
    · have hd : decide ((j : Int) < (L : Int)) = false := by rw [decide_eq_false_iff_not]; omega
      have X := Lib.hid (show j = s.ts.length by rw [HL.out]; have := HJ.out; omega)
      go_wp2
      go_ret2
      exact ⟨ret_two (by rw [HM.out, ← X.out, HZZ.out]) HE.out.symm, HBW.out.trans (HBR.out.mono hw2)⟩
  · have HZ := Lib.hid hz
    have hd : (chkE s 0 cpu != 0) = true := by simp [hz]
    have HM := Lib.hid (loadE_neg hz)
    have hfin := Lib.hid (F.get 2 : Below w.heap.size w w2)
    clear hz F
    generalize hE : chkE s 0 cpu = E at HZ hd ⊢
    have HE := Lib.hid hE
    clear hE
    go_wp2
    go_ret2
    exact ⟨ret_two HM.out.symm HE.out.symm, hfin.out⟩
end Go.Proofs.Ytenngfkgfdogjaa
namespace Go.Proofs.Ytenngfkgfdogjaa
open Go Go.RowKit Go.Shelf
attribute [local go_sem] Oper.semAt_some

def findR (s : St) (id : Int) : Int × Int := if shapedB s then (match s.ts.findIdx? (fun t => t.id == id) with
  | some i => ((i : Int), 0)
  | none => (0, 6)) else (0, 210)
theorem findR_some {s : St} {id : Int} (hs : shapedB s = true) {i : Nat} {t : Tk} (ht : s.ts[i]? = some t) (hid : t.id = id) (h : ∀ x ∈ s.ts.take i, ¬ x.id = id) : findR s id = ((i : Int), 0) := by
  have hi := (List.getElem?_eq_some_iff.1 ht).1
  have : s.ts.findIdx? (fun t => t.id == id) = some i := by
    rw [List.findIdx?_eq_some_iff_getElem]
    refine ⟨hi, ?_, fun j hj => ?_⟩
    · rw [(List.getElem?_eq_some_iff.1 ht).2]; simp [hid]
    · have := h s.ts[j] (by rw [List.mem_take_iff_getElem]; exact ⟨j, by omega, rfl⟩)
      simpa using this
  unfold findR; rw [hs, this]; rfl
theorem findR_none {s : St} {id : Int} (hs : shapedB s = true) (h : ∀ x ∈ s.ts, ¬ x.id = id) : findR s id = (0, 6) := by
  have : s.ts.findIdx? (fun t => t.id == id) = none := by
    rw [List.findIdx?_eq_none_iff]; intro x hx; simpa using h x hx
  unfold findR; rw [hs, this]; rfl
theorem findR_bad {s : St} {id : Int} (hs : shapedB s = false) : findR s id = (0, 210) := by unfold findR; rw [hs]; rfl
theorem find_pub2 (w : World) (c : StC) (s : St) (id : Int) (h : StAt w c s) (hb : StB s) :
    Calls Try.prog 30 #[c.val s, .int .i64 id] w fun e w' => e = .returned (.tuple #[.int .i64 (findR s id).1, .int .i64 (findR s id).2]) ∧ Below w.heap.size w w' := by
  refine (find_pub w c s id h hb).mono ?_
  rintro e w' ⟨hbl, ⟨hs, rfl⟩ | ⟨hs, i, h1, h2, h3, ⟨h4, rfl⟩ | ⟨h4, rfl⟩⟩⟩
  · exact ⟨by rw [findR_bad hs], hbl⟩
  · cases ht : s.ts[i]? with
    | none => rw [ht] at h4; cases h4
    | some t =>
      rw [ht] at h4
      exact ⟨by rw [findR_some hs ht (by simpa using h4) (fun x hx => by have := h1 x hx; omega)], hbl⟩
  · refine (fun key : ∀ x ∈ s.ts, ¬ x.id = id => ⟨by rw [findR_none hs key], hbl⟩) fun x hx => ?_
    rw [← List.take_append_drop i s.ts, List.mem_append] at hx
    rcases hx with hx | hx
    · have := h1 x hx; omega
    · intro he
      obtain ⟨j, hj, rfl⟩ := List.getElem_of_mem hx
      rw [List.length_drop] at hj
      rw [List.getElem_drop] at he
      have hpw := tks_pw (shp_iff.1 hs).tks
      have hi : i < s.ts.length := by omega
      rw [List.getElem?_eq_getElem hi] at h4
      have h5 : ¬ s.ts[i].id = id := by simpa using h4
      have h6 := h2 s.ts[i] (by rw [List.mem_drop_iff_getElem]; exact ⟨0, by omega, by simp⟩)
      by_cases hj0 : j = 0
      · subst hj0; exact h5 he
      · have := List.pairwise_iff_getElem.1 hpw i (i + j) hi (by omega) (by omega)
        omega
set_option maxRecDepth 100000 in
set_option maxHeartbeats 3200000 in
theorem rfind_ok (w : World) (c : StC) (s : St) (id : Int) (h : StAt w c s) (hb : StB s) :
    Calls Try.prog 73 #[c.val s, .int .i64 id] w fun e w' => e = .returned (.tuple #[.int .i64 (findR s id).1, .int .i64 (findR s id).2]) ∧ Below w.heap.size w w' := by
  have CC := Lib.hid (show c.cells s = #[.int .i64 s.n, .int .u64 s.cr, c.vg, c.vc, c.vu, c.vt, c.vs] from rfl)
  have a1 := bel_alloc w (.cells (c.cells s) 38)
  have BX := StBox.new w c s
  have CK := Lib.hid (rshaped_ok (w.alloc (.cells (c.cells s) 38)) c s (h.below a1) hb)
  have F : Facts (w.alloc (.cells (c.cells s) 38)) [sSA c s, sSB w.heap.size c s, sB w] := ⟨h.below a1, BX, a1, trivial⟩
  have hbt := hb.t
  unfold StC.val at CK ⊢
  simp only [CC.out] at CK F ⊢
  clear h a1 BX
  go_enter Try.func73, Try.ntmps73
  go_upto_region 1 with fail
  generalize w.alloc (.cells #[.int .i64 s.n, .int .u64 s.cr, c.vg, c.vc, c.vu, c.vt, c.vs] 38) = w1 at F CK ⊢
  obtain ⟨X0, hX0⟩ : ∃ X0, w.heap.size = X0 := ⟨_, rfl⟩
  rw [hX0] at F
  simp only [hX0]
  have HX0 := Lib.hid hX0
  clear hX0
  obtain ⟨b0, b1, b2, b3, b4, b5, b6⟩ := (F.get 1 : StBox w1 X0 c s).cell
  go_wp2_with fail
  refine CK.out.mono ?_
  rintro e w2 ⟨rfl, bb⟩
  replace F := F.below bb
  clear bb CK b0 b1 b2 b3 b4 b5 b6
  cases hs : shapedB s with
  | false =>
    have hfin := Lib.hid (F.get 2 : Below w.heap.size w w2)
    have HS := Lib.hid (findR_bad (id := id) hs)
    clear F hs
    go_wp2
    go_ret2
    exact ⟨ret_two (by rw [HS.out]) (by rw [HS.out]), hfin.out⟩
  | true =>
    have HS := Lib.hid hs
    obtain ⟨At, ct, hvt⟩ := (F.get 0 : StAt w2 c s).et.shape
    have HT := Lib.hid (F.get 0 : StAt w2 c s).et
    have HBX := Lib.hid (F.get 1 : StBox w2 X0 c s)
    have HBW := Lib.hid (F.get 2 : Below w.heap.size w w2)
    have hw2 := HBW.out.size
    obtain ⟨L, hL⟩ : ∃ L, s.ts.length = L := ⟨_, rfl⟩
    have HL := Lib.hid hL
    rw [hL] at hvt hbt
    have HVT := Lib.hid hvt
    clear hL hvt F hs
    go_wp2
    go_loopg [6] L (fun k i wr => ∃ j : Nat, j + k = L ∧ i = .int .i64 j ∧ (∀ x ∈ s.ts.take j, ¬ x.id = id) ∧ wr = w2)
    case atStart => exact ⟨0, by omega, rfl, by simp, rfl⟩
    case round =>
      obtain ⟨j, hj, rfl, hne, rfl⟩ := hrel
      have HNE := Lib.hid hne
      have HJ := Lib.hid hj
      obtain ⟨_, _, _, _, _, b5, _⟩ := HBX.out.cell
      rw [HVT.out] at b5
      clear hne hj
      by_cases hlt : j < L
      · have hd : decide ((j : Int) < (L : Int)) = true := by rw [decide_eq_true_eq]; omega
        obtain ⟨t, ht⟩ : ∃ t, s.ts[j]? = some t := ⟨_, List.getElem?_eq_getElem (by rw [HL.out]; omega)⟩
        obtain ⟨b, off, c', hv, _, hr⟩ := HT.out.row (by rw [HL.out]; omega)
        rw [HVT.out] at hv
        simp only [Value.slice.injEq] at hv
        obtain ⟨rfl, hz, rfl⟩ := hv
        clear hz
        obtain ⟨c0, c1, c2, c3, c4, c5, c6, c7⟩ := hr.tk ht
        have HTT := Lib.hid ht
        clear hr ht
        by_cases he : t.id = id
        · have hq : (t.id == id) = true := by simp [he]
          have X := Lib.hid (findR_some HS.out HTT.out he HNE.out)
          clear he
          go_wp2
          go_ret2
          exact ⟨ret_two (by rw [X.out]) (by rw [X.out]), HBW.out⟩
        · have hq : (t.id == id) = false := by simp [he]
          have HEE := Lib.hid he
          clear he
          go_wp2
          go_roundg (gk - 1)
          case measure => have := HJ.out; omega
          case rel => exact ⟨j + 1, by have := HJ.out; omega, by go_num, fun x hx => by
            rw [List.take_add_one, HTT.out, List.mem_append] at hx
            rcases hx with hx | hx
            · exact HNE.out x hx
            · simp at hx; subst hx; exact HEE.out, rfl⟩
      · have hd : decide ((j : Int) < (L : Int)) = false := by rw [decide_eq_false_iff_not]; omega
        have X := Lib.hid (findR_none (id := id) HS.out (fun x hx => HNE.out x (by rwa [List.take_of_length_le (by rw [HL.out]; have := HJ.out; omega)])))
        go_wp2
        go_ret2
        exact ⟨ret_two (by rw [X.out]) (by rw [X.out]), HBW.out⟩
theorem ints_has {l : List Nat} {g : Int} (hg : 0 ≤ g) : (ints l).contains g = l.contains g.toNat := by
  rw [Bool.eq_iff_iff]
  simp only [List.contains_iff_mem, ints, List.mem_map]
  constructor
  · rintro ⟨x, hx, rfl⟩; simpa using hx
  · intro h; exact ⟨g.toNat, h, by omega⟩
set_option maxRecDepth 100000 in
set_option maxHeartbeats 3200000 in
theorem under_ok (w : World) (c : StC) (s : St) (g a : Int) (h : StAt w c s) (hs : Shp s) (hg0 : 0 ≤ g) (hg1 : g < s.gs.length) (ha : 0 ≤ a) :
    Calls Try.prog 96 #[c.val s, .int .i64 g, .int .i64 a] w fun e w' => e = .returned (.bool ((path s.gs g.toNat).contains a.toNat)) ∧ Below w.heap.size w w' := by
  have hgl := (right_iff.1 hs.right).many
  have HP := Lib.hid (rpath_ok (w.alloc (.cells (c.cells s) 38)) c.vg s.gs g (h.eg.below (bel_alloc _ _)) (by omega))
  have ht : thereZ s.gs [g] = 0 := there_zero.2 ⟨right_iff.1 hs.right, fun z hz => by simp at hz; subst hz; omega⟩
  have hpl : pathL s.gs g = ints (path s.gs g.toNat) := if_pos ht
  rw [ht, hpl] at HP
  have HR := Lib.hid (ints_has (l := path s.gs g.toNat) ha)
  obtain ⟨p, hp⟩ : ∃ p, ints (path s.gs g.toNat) = p := ⟨_, rfl⟩
  have hplen : p.length ≤ 100000 := by
    have := path_le (right_iff.1 hs.right).bef g.toNat (by omega)
    rw [← hp]; simp [ints]; omega
  rw [hp] at HP HR
  have b2 := (StBox.new w c s).cell.2.2.1
  have a1 := bel_alloc w (.cells (c.cells s) 38)
  have CC := Lib.hid (show c.cells s = #[.int .i64 s.n, .int .u64 s.cr, c.vg, c.vc, c.vu, c.vt, c.vs] from rfl)
  unfold StC.val
  simp only [CC.out] at HP b2 a1 ⊢
  clear ht hpl hp h
  go_enter Try.func96, Try.ntmps96
  go_wp2_with fail
  refine HP.out.mono ?_
  rintro e w2 ⟨r, rfl, o2, bb⟩
  have HB := Lib.hid (below_step a1 bb)
  have HO := Lib.hid (o2.ev encI_len)
  obtain ⟨A, cp, rfl⟩ := HO.out.shape
  clear HP b2 a1 bb o2
  obtain ⟨L, hL⟩ : ∃ L, p.length = L := ⟨_, rfl⟩
  have HL := Lib.hid hL
  rw [hL] at hplen HO ⊢
  clear hL
  go_wp2
  go_loopg [9] L (fun k i wr => ∃ j : Nat, j + k = L ∧ i = .int .i64 j ∧ a ∉ p.take j ∧ wr = w2)
  case atStart => exact ⟨0, by omega, rfl, by simp, rfl⟩
  case round =>
    obtain ⟨j, hj, rfl, hne, rfl⟩ := hrel
    have HNE := Lib.hid hne
    have HJ := Lib.hid hj
    clear hne hj
    by_cases hlt : j < L
    · have hd : decide ((j : Int) < (L : Int)) = true := by rw [decide_eq_true_eq]; omega
      obtain ⟨b, off, c', hv, _, hr⟩ := HO.out.row (by rw [HL.out]; omega)
      rw [HL.out] at hv
      simp only [Value.slice.injEq] at hv
      obtain ⟨rfl, hz, rfl⟩ := hv
      clear hz
      obtain ⟨z, hz, cz⟩ := hr.get1 (i := j) (by rw [HL.out]; omega)
      have HZ := Lib.hid hz
      clear hr hz
      by_cases he : z = a
      · have hq : (z == a) = true := by simp [he]
        have X := Lib.hid (show (path s.gs g.toNat).contains a.toNat = true by rw [← HR.out, List.contains_iff_mem, ← he]; exact List.mem_of_getElem? HZ.out)
        clear he
        go_wp2
        go_ret
        exact ⟨ret_bool X.out.symm, HB.out⟩
      · have hq : (z == a) = false := by simp [he]
        have HE := Lib.hid he
        clear he
        go_wp2
        go_roundg (gk - 1)
        case measure => have := HJ.out; omega
        case rel => exact ⟨j + 1, by have := HJ.out; omega, by go_num, notin_step HNE.out HZ.out (fun e => HE.out e.symm), rfl⟩
    · have hd : decide ((j : Int) < (L : Int)) = false := by rw [decide_eq_false_iff_not]; omega
      have X := Lib.hid (show (path s.gs g.toNat).contains a.toNat = false by
        rw [← HR.out]
        have := HNE.out
        rw [List.take_of_length_le (by rw [HL.out]; have := HJ.out; omega)] at this
        simpa using this)
      go_wp2
      go_ret
      exact ⟨ret_bool X.out.symm, HB.out⟩
end Go.Proofs.Ytenngfkgfdogjaa
namespace Go.Proofs.Ytenngfkgfdogjaa
open Go Go.RowKit Go.Shelf
attribute [local go_sem] Oper.semAt_some

set_option maxRecDepth 100000 in
set_option maxHeartbeats 3200000 in
theorem rfilled_ok (w : World) (c : StC) (s : St) (g cpu : Int) (h : StAt w c s) (hb : StB s) :
    Calls Try.prog 66 #[c.val s, .int .i64 g, .int .i64 cpu] w fun e w' => e = .returned (.tuple #[.bool (filE s g cpu), .int .i64 (chkE s g cpu)]) ∧ Below w.heap.size w w' := by
  have UN := Lib.hid (fun W (z : Int) (hW : StAt W c s) (hs : Shp s) (h0 : 0 ≤ z) (h1 : z < s.gs.length) (ha : 0 ≤ g) => under_ok W c s z g hW hs h0 h1 ha)
  unfold StC.val at UN
  have CC' := show c.cells s = #[.int .i64 s.n, .int .u64 s.cr, c.vg, c.vc, c.vu, c.vt, c.vs] from rfl
  simp only [CC'] at UN
  clear CC'
  have CC := Lib.hid (show c.cells s = #[.int .i64 s.n, .int .u64 s.cr, c.vg, c.vc, c.vu, c.vt, c.vs] from rfl)
  have a1 := bel_alloc w (.cells (c.cells s) 38)
  have BX := StBox.new w c s
  have CK := Lib.hid (rwrong_ok (w.alloc (.cells (c.cells s) 38)) c s g cpu (h.below a1) hb)
  have F : Facts (w.alloc (.cells (c.cells s) 38)) [sSA c s, sSB w.heap.size c s, sB w] := ⟨h.below a1, BX, a1, trivial⟩
  unfold StC.val at CK ⊢
  simp only [CC.out] at CK F ⊢
  clear h a1 BX
  go_enter Try.func66, Try.ntmps66
  go_upto_region 1 with fail
  generalize w.alloc (.cells #[.int .i64 s.n, .int .u64 s.cr, c.vg, c.vc, c.vu, c.vt, c.vs] 38) = w1 at F CK ⊢
  obtain ⟨X0, hX0⟩ : ∃ X0, w.heap.size = X0 := ⟨_, rfl⟩
  rw [hX0] at F
  simp only [hX0]
  have HX0 := Lib.hid hX0
  clear hX0
  obtain ⟨b0, b1, b2, b3, b4, b5, b6⟩ := (F.get 1 : StBox w1 X0 c s).cell
  go_wp2_with fail
  refine CK.out.mono ?_
  rintro e w2 ⟨rfl, bb⟩
  replace F := F.below bb
  clear bb CK b0 b1 b2 b3 b4 b5 b6
  by_cases hz : chkE s g cpu = 0
  · have HM := Lib.hid (show filE s g cpu = ((s.ts.take s.ts.length).filter (rdyB cpu)).any (fun t => (path s.gs t.g.toNat).contains g.toNat) by rw [filE_pos hz, rdyL_take]; rfl)
    have hsl := (chk_zero.1 hz).1.len
    have HSH := Lib.hid (chk_zero.1 hz).1
    have hg0 := (chk_zero.1 hz).2.1.1
    have HEQ := Lib.hid (filE_pos hz)
    generalize hE : chkE s g cpu = E at hz ⊢
    subst hz
    have HE := Lib.hid hE
    clear hE
    obtain ⟨At, ct, hvt⟩ := (F.get 0 : StAt w2 c s).et.shape
    have HT := Lib.hid (F.get 0 : StAt w2 c s).et
    have HSA := Lib.hid (F.get 0 : StAt w2 c s)
    have HBX := Lib.hid (F.get 1 : StBox w2 X0 c s)
    have HBW := Lib.hid (F.get 2 : Below w.heap.size w w2)
    have hw2 := HBW.out.size
    obtain ⟨L, hL⟩ : ∃ L, s.ts.length = L := ⟨_, rfl⟩
    have HL := Lib.hid hL
    rw [hL] at hvt
    have HVT := Lib.hid hvt
    have hLb : L ≤ 65535 := by omega
    have HWT := Lib.hid (fun t (ht : t ∈ s.ts) => tks_each HSH.out.tks t ht)
    clear hL hvt F
    go_wp2
    go_loopg [9] L (fun k i wr => ∃ j : Nat, j + k = L ∧ i = .int .i64 j ∧ ((s.ts.take j).filter (rdyB cpu)).any (fun t => (path s.gs t.g.toNat).contains g.toNat) = false ∧ Below w2.heap.size w2 wr)
    case atStart => exact ⟨0, by omega, rfl, by simp, Below.refl _ _⟩
    case round =>
    obtain ⟨j, hj, rfl, hno, hbr⟩ := hrel
    have HNO := Lib.hid hno
    clear hno
    have HJ := Lib.hid hj
    have HBR := Lib.hid hbr
    have sr := hbr.size
    obtain ⟨_, _, _, _, _, b5, _⟩ := (HBX.out.below hbr).cell
    rw [HVT.out] at b5
    clear hj hbr
    by_cases hlt : j < L
    · 
      have hd : decide ((j : Int) < (L : Int)) = true := by rw [decide_eq_true_eq]; omega
      obtain ⟨t, ht⟩ : ∃ t, s.ts[j]? = some t := ⟨_, List.getElem?_eq_getElem (by rw [HL.out]; omega)⟩
      obtain ⟨b, off, c', hv, _, hr⟩ := (HT.out.below HBR.out).row (by rw [HL.out]; omega)
      rw [HVT.out] at hv
      simp only [Value.slice.injEq] at hv
      obtain ⟨rfl, hz, rfl⟩ := hv
      clear hz
      obtain ⟨c0, c1, c2, c3, c4, c5, c6, c7⟩ := hr.tk ht
      have HTT := Lib.hid ht
      clear hr ht
      go_upto_region 8 with fail
      obtain ⟨d0, d1, d2, d3, d4, d5, d6, d7⟩ := (show ER encT 8 (wr.alloc (.cells #[.int .i64 t.id, .int .i64 t.g, .int .i64 t.wt, .int .i64 t.cpu, .int .u64 t.mask, .bool t.rdy, .int .u64 t.v, .int .u32 t.r] 61)) wr.heap.size 0 [t] from ((EV.newL (xs := [t]) (n := 1) (c := 1) encT_len rfl rfl (Nat.le_refl _)).row3 (by simp))).tk (i := 0) rfl
      simp only [Nat.zero_mul, Nat.zero_add] at d0 d1 d2 d3 d4 d5 d6 d7
      have HBA := Lib.hid (bel_alloc wr (.cells #[.int .i64 t.id, .int .i64 t.g, .int .i64 t.wt, .int .i64 t.cpu, .int .u64 t.mask, .bool t.rdy, .int .u64 t.v, .int .u32 t.r] 61))
      have HB2 := Lib.hid (below_step HBR.out HBA.out)
      obtain ⟨e0, e1, e2, e3, e4, e5, e6⟩ := (HBX.out.below HB2.out).cell
      have SA := Lib.hid (HSA.out.below HB2.out)
      clear b5 c0 c1 c2 c3 c4 c5 c6 c7
      generalize wr.alloc (.cells #[.int .i64 t.id, .int .i64 t.g, .int .i64 t.wt, .int .i64 t.cpu, .int .u64 t.mask, .bool t.rdy, .int .u64 t.v, .int .u32 t.r] 61) = wa at d0 d1 d2 d3 d4 d5 d6 d7 HB2 HBA e0 e1 e2 e3 e4 e5 e6 SA ⊢
      obtain ⟨P, hP⟩ : ∃ P, wr.heap.size = P := ⟨_, rfl⟩
      rw [hP] at d0 d1 d2 d3 d4 d5 d6 d7 ⊢
      clear hP
      cases hrd : t.rdy with
      | false =>
        rw [hrd] at d5
        have HP := Lib.hid (ftake_neg (p := rdyB cpu) HTT.out (by simp [rdyB, hrd]))
        clear hrd
        go_wp2
        go_roundg (gk - 1)
        case measure => have := HJ.out; omega
        case rel => exact ⟨j + 1, by have := HJ.out; omega, by go_num, by rw [HP.out]; exact HNO.out, HB2.out⟩
      | true =>
        rw [hrd] at d5
        by_cases hc : t.cpu = cpu
        · have hcq : (t.cpu == cpu) = true := by simp [hc]
          have HP := Lib.hid (ftake_pos (p := rdyB cpu) HTT.out (by simp [rdyB, hrd, hc]))
          have HTM := Lib.hid (show t ∈ rdyL s cpu from List.mem_filter.2 ⟨List.mem_of_getElem? HTT.out, by simp [rdyB, hrd, hc]⟩)
          have htb := HWT.out t (List.mem_of_getElem? HTT.out)
          have hwa := HBA.out.size
          clear hrd hc
          go_wp2_with fail
          refine (UN.out _ t.g SA.out HSH.out htb.2.2.1 htb.2.2.2.1 hg0).mono ?_
          rintro e w4 ⟨rfl, bb⟩
          have HB4 := Lib.hid (HB2.out.trans (bb.mono HB2.out.size))
          clear bb d0 d1 d2 d3 d4 d5 d6 d7 e0 e1 e2 e3 e4 e5 e6
          cases hu : (path s.gs t.g.toNat).contains g.toNat with
          | true =>
            have X := Lib.hid (show filE s g cpu = true by rw [HEQ.out]; unfold fillB; rw [List.any_eq_true]; exact ⟨t, HTM.out, hu⟩)
            clear hu
            go_wp2
            go_ret2
            exact ⟨ret_bi' X.out.symm HE.out.symm, HBW.out.trans (HB4.out.mono hw2)⟩
          | false =>
            have HU := Lib.hid hu
            clear hu
            go_wp2
            go_roundg (gk - 1)
            case measure => have := HJ.out; omega
            case rel => exact ⟨j + 1, by have := HJ.out; omega, by go_num, by rw [HP.out, List.any_append, HNO.out]; simpa using HU.out, HB4.out⟩
        · have hcq : (t.cpu == cpu) = false := by simp [hc]
          have HP := Lib.hid (ftake_neg (p := rdyB cpu) HTT.out (by simp [rdyB, hrd, hc]))
          clear hrd hc
          go_wp2
          go_roundg (gk - 1)
          case measure => have := HJ.out; omega
          case rel => exact ⟨j + 1, by have := HJ.out; omega, by go_num, by rw [HP.out]; exact HNO.out, HB2.out⟩
    · have hd : decide ((j : Int) < (L : Int)) = false := by rw [decide_eq_false_iff_not]; omega
      have X := Lib.hid (show filE s g cpu = false by rw [HM.out, show s.ts.length = j by rw [HL.out]; have := HJ.out; omega]; exact HNO.out)
      go_wp2
      go_ret2
      exact ⟨ret_bi' X.out.symm HE.out.symm, HBW.out.trans (HBR.out.mono hw2)⟩
  · have HZ := Lib.hid hz
    have hd : (chkE s g cpu != 0) = true := by simp [hz]
    have HM := Lib.hid (filE_neg hz)
    have hfin := Lib.hid (F.get 2 : Below w.heap.size w w2)
    clear hz F
    generalize hE : chkE s g cpu = E at HZ hd ⊢
    have HE := Lib.hid hE
    clear hE
    go_wp2
    go_ret2
    exact ⟨ret_bi' HM.out.symm HE.out.symm, hfin.out⟩
end Go.Proofs.Ytenngfkgfdogjaa
