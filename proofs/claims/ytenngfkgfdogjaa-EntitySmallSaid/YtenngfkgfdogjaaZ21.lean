/- quantumlaw21.tells, from its beginning | The chapter's example | The law's own check of the chapter's examples (awake): it returns true. -/
import Derived.Test.YtenngfkgfdogjaaZ20
import Derived.Test.YtenngfkgfdogjaaZ13
import Derived.Test.YtenngfkgfdogjaaZ17
import Derived.Test.YtenngfkgfdogjaaZ18
set_option linter.unusedVariables false
set_option linter.unusedSimpArgs false
set_option linter.unusedSectionVars false
namespace Go.Proofs.Ytenngfkgfdogjaa
open Go Go.RowKit Go.Shelf
attribute [local go_sem] Oper.semAt_some

set_option maxRecDepth 100000 in
set_option maxHeartbeats 6400000 in
theorem tells_t2 (w w3 : World) (c c' : StC) (s s' : St) (X4 X9 : Nat) (g cpu id : Int) {u0 u5 u6 u7 u8 u10 u11 u12 u13 u14 u15 u16 u17 u18 u19 u20 u21 u22 u23 u24 u25 u26 u27 u28 u29 u30 u31 u32 u33 u34 u35 u36 u37 u38 u39 u40 u41 u42 u43 u44 u45 u46 u47 u48 u49 u50 u51 u52 u53 u54 u55 u56 u57 u58 u59 u60 u61 u62 u63 u64 u65 u66 u67 u68 u69 u70 u71 u72 u73 u74 u75 u76 u77 u78 u79 u80 u81 u82 u83 u84 u85 u86 u87 u88 u89 u90 u91 u92 u93 u94 u95 u96 u97 u98 u99 u100 u101 u102 u103 u104 u105 u106 u107 u108 u109 u110 u111 u112 u113 u114 u115 u116 u117 u118 u119 u120 u121 u122 u123 u124 u125 u126 u127 u128 u129 u130 u131 u132 u133 u134 u135 u136 u137 u138 u139 u140 u141 u142 u143 u144 u145 u146 u147 u148 u149 u150 u151 u152 u153 u154 u155 u156 u157 u158 u159 u160 u161 u162 u163 u164 u165 u166 u167 u168 u169 u170 u171 u172 u173 u174 u175 u176 u177 u178 u179 u180 u181 u182 u183 u184 u185 u186 u187 u188 u189 u190 u191 u192 u193 u194 u195 u196 u197 u198 u199 u200 u201 u202 u203 u204 u205 u206 u207 u208 u209 u210 u211 u212 u213 u214 u215 u216 u217 u218 u219 u220 u221 u222 u223 u224 u225 u226 u227 u228 u229 u230 u231 : Value}
    (hw : Below w.heap.size w w3) (h : StAt w3 c s) (h' : StAt w3 c' s') (b4 : StBox w3 X4 c s) (b9 : StBox w3 X9 c' s') (sim : Sim s s') (hl : StL s) (hb : StB s) :
    Code.wp Try.prog (tailR Try.f33 2) (bodyPost Try.prog Try.f33 fun e w' => e = .returned (.bool true) ∧ Below w.heap.size w w')
      ⟨#[u0, .int .i64 g, .int .i64 cpu, .int .i64 id, .pointer (some ⟨X4, 0, none⟩), u5, u6, u7, u8, .pointer (some ⟨X9, 0, none⟩), u10, u11, u12, u13, u14, u15, u16, u17, u18, u19, u20, u21, u22, u23, u24, u25, u26, u27, u28, u29, u30, u31, u32, u33, u34, u35, u36, u37, u38, u39, u40, u41, u42, u43, u44, u45, u46, u47, u48, u49, u50, u51, u52, u53, u54, u55, u56, u57, u58, u59, u60, u61, u62, u63, u64, u65, u66, u67, u68, u69, u70, u71, u72, u73, u74, u75, u76, u77, u78, u79, u80, u81, u82, u83, u84, u85, u86, u87, u88, u89, u90, u91, u92, u93, u94, u95, u96, u97, u98, u99, u100, u101, u102, u103, u104, u105, u106, u107, u108, u109, u110, u111, u112, u113, u114, u115, u116, u117, u118, u119, u120, u121, u122, u123, u124, u125, u126, u127, u128, u129, u130, u131, u132, u133, u134, u135, u136, u137, u138, u139, u140, u141, u142, u143, u144, u145, u146, u147, u148, u149, u150, u151, u152, u153, u154, u155, u156, u157, u158, u159, u160, u161, u162, u163, u164, u165, u166, u167, u168, u169, u170, u171, u172, u173, u174, u175, u176, u177, u178, u179, u180, u181, u182, u183, u184, u185, u186, u187, u188, u189, u190, u191, u192, u193, u194, u195, u196, u197, u198, u199, u200, u201, u202, u203, u204, u205, u206, u207, u208, u209, u210, u211, u212, u213, u214, u215, u216, u217, u218, u219, u220, u221, u222, u223, u224, u225, u226, u227, u228, u229, u230, u231], []⟩ w3 := by
  conv => arg 2; whnf
  conv => arg 4; dsimp only
  have F : Facts w3 [sSA c' s', sSB X9 c' s', sSA c s, sSB X4 c s, sB w3] := ⟨h', b9, h, b4, Below.refl _ _, trivial⟩
  have G : Facts w3 [] := trivial
  have H := Lib.hid h
  have H' := Lib.hid h'
  have HB4 := Lib.hid b4
  have HB9 := Lib.hid b9
  have HS := Lib.hid sim
  have HL := Lib.hid hl
  have HB := Lib.hid hb
  have HW := Lib.hid hw
  have hlt := hl.lt
  have hbg := hb.g
  have hbt := hb.t
  clear h h' b4 b9 sim hl hb hw
  obtain ⟨b0, b1, b2, b3, b4, b5, b6⟩ := (F.get 1 : StBox w3 X9 c' s').cell
  go_wp2_with fail
  refine (o_ready HS.out HB.out w3 cpu (F.get 0)).mono ?_
  rintro e w4 ⟨v1, rfl, o, bb⟩
  replace F := F.below bb
  replace G : Facts w4 (sOV encI 1 3 w3.heap.size v1 (rdyE s cpu) :: _) := ⟨o, G.below bb⟩
  clear bb b0 b1 b2 b3 b4 b5 b6 o
  obtain ⟨b0, b1, b2, b3, b4, b5, b6⟩ := (F.get 3 : StBox w4 X4 c s).cell
  go_wp2_with fail
  refine (rready_ok w4 c s cpu (F.get 2) HB.out).mono ?_
  rintro e w5 ⟨r1, rfl, o, bb⟩
  replace F := F.below bb
  replace G : Facts w5 (sOV encI 1 3 w4.heap.size r1 (rdyE s cpu) :: _) := ⟨o, G.below bb⟩
  clear bb b0 b1 b2 b3 b4 b5 b6 o
  obtain ⟨b0, b1, b2, b3, b4, b5, b6⟩ := (F.get 1 : StBox w5 X9 c' s').cell
  go_wp2_with fail
  refine (o_filled HS.out HB.out w5 g cpu (F.get 0)).mono ?_
  rintro e w6 ⟨rfl, bb⟩
  replace F := F.below bb
  replace G := G.below bb
  clear bb b0 b1 b2 b3 b4 b5 b6
  obtain ⟨b0, b1, b2, b3, b4, b5, b6⟩ := (F.get 3 : StBox w6 X4 c s).cell
  go_wp2_with fail
  refine (rfilled_ok w6 c s g cpu (F.get 2) HB.out).mono ?_
  rintro e w7 ⟨rfl, bb⟩
  replace F := F.below bb
  replace G := G.below bb
  clear bb b0 b1 b2 b3 b4 b5 b6
  obtain ⟨b0, b1, b2, b3, b4, b5, b6⟩ := (F.get 1 : StBox w7 X9 c' s').cell
  go_wp2_with fail
  refine (o_members HS.out HB.out w7 g cpu (F.get 0)).mono ?_
  rintro e w8 ⟨v3, rfl, o, bb⟩
  replace F := F.below bb
  replace G : Facts w8 (sOV encY 3 24 w7.heap.size v3 (memE s g cpu) :: _) := ⟨o, G.below bb⟩
  clear bb b0 b1 b2 b3 b4 b5 b6 o
  obtain ⟨b0, b1, b2, b3, b4, b5, b6⟩ := (F.get 3 : StBox w8 X4 c s).cell
  go_wp2_with fail
  refine (rmembers_ok w8 c s g cpu (F.get 2) HB.out).mono ?_
  rintro e w9 ⟨r3, rfl, o, bb⟩
  replace F := F.below bb
  replace G : Facts w9 (sOV encY 3 27 w8.heap.size r3 (memE s g cpu) :: _) := ⟨o, G.below bb⟩
  clear bb b0 b1 b2 b3 b4 b5 b6 o
  obtain ⟨b0, b1, b2, b3, b4, b5, b6⟩ := (F.get 1 : StBox w9 X9 c' s').cell
  go_wp2_with fail
  refine (o_walk HS.out HB.out w9 cpu (F.get 0)).mono ?_
  rintro e w10 ⟨v4, rfl, o, bb⟩
  replace F := F.below bb
  replace G : Facts w10 (sOV encY 3 24 w9.heap.size v4 (walE s cpu) :: _) := ⟨o, G.below bb⟩
  clear bb b0 b1 b2 b3 b4 b5 b6 o
  go_upto_region 9 with fail
  go_cut [24, 25] (fun v u wx => u = .int .i64 (chkE s 0 cpu) ∧ OV encY 3 27 w10.heap.size wx v (walE s cpu) ∧ Facts wx [sSA c' s', sSB X9 c' s', sSA c s, sSB X4 c s, sB w3] ∧ Facts wx [sOV encY 3 24 w9.heap.size v4 (walE s cpu), sOV encY 3 27 w8.heap.size r3 (memE s g cpu), sOV encY 3 24 w7.heap.size v3 (memE s g cpu), sOV encI 1 3 w4.heap.size r1 (rdyE s cpu), sOV encI 1 3 w3.heap.size v1 (rdyE s cpu)])
  case first =>
    obtain ⟨b0, b1, b2, b3, b4, b5, b6⟩ := (F.get 3 : StBox w10 X4 c s).cell
    go_wp2_with fail
    refine (rwalk_ok w10 c s cpu (F.get 2) HB.out).mono ?_
    rintro e w11 ⟨r4, rfl, o, bb⟩
    have F2 := Lib.hid (F.below bb)
    have G2 := Lib.hid (G.below bb)
    have O2 := Lib.hid o
    clear F G bb o b0 b1 b2 b3 b4 b5 b6
    go_wp2_with fail
    go_meet
    exact ⟨rfl, O2.out, F2.out, G2.out⟩
  case rest =>
    obtain ⟨rfl, o, F2, G2⟩ := hcut
    refine (‹∀ (a : Act) (w : World), Code.wp _ _ _ a w → _› : ∀ (a : Act) (w : World), _ → _) _ _ (tells_t10 w w3 _ c c' s s' X4 X9 0 w4.heap.size w7.heap.size w8.heap.size w9.heap.size w10.heap.size v1 r1 v3 r3 v4 _ g cpu id HW.out H.out H'.out HB4.out HB9.out HS.out HL.out HB.out (F2.get 4) (G2.get 4) (G2.get 3) (G2.get 2) (G2.get 1) (G2.get 0) o)
set_option maxRecDepth 100000 in
set_option maxHeartbeats 3200000 in
theorem tells_ok (w : World) (c : StC) (s : St) (g cpu id : Int) (h : StAt w c s) (hl : StL s) (hb : StB s) :
    Calls Try.prog 33 #[c.val s, .int .i64 g, .int .i64 cpu, .int .i64 id] w fun e w' => e = .returned (.bool true) ∧ Below w.heap.size w w' := by
  have CC := Lib.hid (show c.cells s = #[.int .i64 s.n, .int .u64 s.cr, c.vg, c.vc, c.vu, c.vt, c.vs] from rfl)
  have a1 := bel_alloc w (.cells (c.cells s) 38)
  have BX := StBox.new w c s
  have h1 := h.below a1
  unfold StC.val
  simp only [CC.out] at a1 BX h1 ⊢
  go_enter Try.func33, Try.ntmps33
  go_upto_region 1 with fail
  generalize w.alloc (.cells #[.int .i64 s.n, .int .u64 s.cr, c.vg, c.vc, c.vu, c.vt, c.vs] 38) = w1 at a1 BX h1 ⊢
  obtain ⟨X4, hX4⟩ : ∃ X4, w.heap.size = X4 := ⟨_, rfl⟩
  have HX4 := Lib.hid hX4
  have A1 := Lib.hid a1
  rw [hX4] at BX
  simp only [hX4]
  have hs1 := a1.size
  have H1 := Lib.hid h1
  have BX1 := Lib.hid BX
  clear hX4 h a1
  obtain ⟨b0, b1, b2, b3, b4, b5, b6⟩ := BX.cell
  clear BX
  go_cut [9] (fun v wx => ∃ c' s' X9, v = .pointer (some ⟨X9, 0, none⟩) ∧ StAt wx c' s' ∧ StBox wx X9 c' s' ∧ Sim s s' ∧ Below w1.heap.size w1 wx)
  case first =>
    go_wp2_with fail
    refine (copy_ok w1 c s h1 hl).mono ?_
    rintro e w2 ⟨⟨vg, vc, vu, vt, vs⟩, s', rfl, o, sim, bb⟩
    obtain ⟨A1, c1, h1⟩ := (o.og.ev encG_len).shape
    obtain ⟨A2, c2, h2⟩ := (o.oc.ev encI_len).shape
    obtain ⟨A3, c3, h3⟩ := (o.ou.ev encI_len).shape
    obtain ⟨A4, c4, h4⟩ := (o.ot.ev encT_len).shape
    obtain ⟨A5, c5, h5⟩ := (o.os.ev encR_len).shape
    dsimp only at h1 h2 h3 h4 h5
    subst h1 h2 h3 h4 h5
    have O := Lib.hid o
    have S := Lib.hid sim
    have B := Lib.hid bb
    clear o sim bb b0 b1 b2 b3 b4 b5 b6
    unfold StC.val StC.cells
    dsimp only
    go_wp2_with fail
    go_meet
    have B2 := below_step B.out (bel_alloc w2 (.cells #[.int .i64 s'.n, .int .u64 s'.cr, .slice A1 s'.gs.length c1, .slice A2 s'.cl.length c2, .slice A3 s'.cu.length c3, .slice A4 s'.ts.length c4, .slice A5 s'.ss.length c5] 38))
    exact ⟨⟨.slice A1 s'.gs.length c1, .slice A2 s'.cl.length c2, .slice A3 s'.cu.length c3, .slice A4 s'.ts.length c4, .slice A5 s'.ss.length c5⟩, s', _, rfl, O.out.at.below (bel_alloc _ _), StBox.new w2 ⟨.slice A1 s'.gs.length c1, .slice A2 s'.cl.length c2, .slice A3 s'.cu.length c3, .slice A4 s'.ts.length c4, .slice A5 s'.ss.length c5⟩ s', S.out, B2⟩
  case rest =>
    obtain ⟨c', s', X9, rfl, h', b9, sim, bb⟩ := hcut
    refine (‹∀ (a : Act) (w : World), Code.wp _ _ _ a w → _› : ∀ (a : Act) (w : World), _ → _) _ _ (tells_t2 w _ c c' s s' X4 X9 g cpu id (A1.out.trans (bb.mono hs1)) (H1.out.below bb) h' (BX1.out.below bb) b9 sim hl hb)
end Go.Proofs.Ytenngfkgfdogjaa
namespace Go.Proofs.Ytenngfkgfdogjaa
open Go Go.RowKit Go.Shelf
attribute [local go_sem] Oper.semAt_some

def exSt : St := ⟨1, 0, [(0, 1), (0, 9)], [0], [0], [⟨5, 0, 1, 0, 1, true, 10, 0⟩, ⟨6, 1, 1, 0, 1, true, 3, 0⟩], [(.slice none 0 0, [⟨0, 0, 4⟩]), (.slice none 0 0, [⟨10, 0, 4⟩])]⟩
def exSt1 : St := { exSt with ts := [⟨5, 0, 1, 0, 1, true, 11, 0⟩, ⟨6, 1, 1, 0, 1, true, 3, 0⟩] }
def exSt2 : St := { exSt with ts := [⟨5, 0, 1, 0, 1, true, 11, 0⟩, ⟨6, 1, 1, 0, 1, false, 3, 0⟩] }
theorem ex_shp : shapedB exSt = true := by decide
theorem ex1_shp : shapedB exSt1 = true := by decide
theorem ex2_shp : shapedB exSt2 = true := by decide
theorem ex_mem : memE exSt 0 0 = [⟨10, false, 5⟩, ⟨10, true, 1⟩] := by
  rw [memE_pos (by decide), memL_fold (shp_iff.1 ex_shp)]; decide
theorem ex_walk : walE exSt 0 = [⟨10, false, 5⟩] := by
  have h0 := memL_fold (shp_iff.1 ex_shp) 0 0
  rw [show foldK (tksK exSt 0 0 ++ grpK exSt 0 0) = [⟨10, false, 5⟩, ⟨10, true, 1⟩] by decide] at h0
  rw [walE_pos (by decide), walkL_eq, h0]; rfl
theorem ex1_walk : walE exSt1 0 = [⟨10, true, 1⟩, ⟨3, false, 6⟩] := by
  have h0 := memL_fold (shp_iff.1 ex1_shp) 0 0
  rw [show foldK (tksK exSt1 0 0 ++ grpK exSt1 0 0) = [⟨10, true, 1⟩, ⟨11, false, 5⟩] by decide] at h0
  have h1 := memL_fold (shp_iff.1 ex1_shp) 1 0
  rw [show foldK (tksK exSt1 1 0 ++ grpK exSt1 1 0) = [⟨3, false, 6⟩] by decide] at h1
  rw [walE_pos (by decide), walkL_eq, h0]
  show (⟨10, true, 1⟩ : Ky) :: walkF exSt1 0 2 1 = _
  rw [walkF_succ, h1]; rfl
theorem ex2_walk : walE exSt2 0 = [⟨11, false, 5⟩] := by
  have h0 := memL_fold (shp_iff.1 ex2_shp) 0 0
  rw [show foldK (tksK exSt2 0 0 ++ grpK exSt2 0 0) = [⟨11, false, 5⟩] by decide] at h0
  rw [walE_pos (by decide), walkL_eq, h0]; rfl
theorem ex2_fil : filE exSt2 1 0 = false := by decide
theorem ex_chk : chkE exSt 0 0 = 0 ∧ chkE exSt1 0 0 = 0 ∧ chkE exSt2 1 0 = 0 ∧ chkE exSt2 0 0 = 0 := by decide
theorem ex_fl : flE exSt = [[10], [4]] := by
  have h0 := memL_fold (shp_iff.1 ex_shp) 0 0
  rw [show foldK (tksK exSt 0 0 ++ grpK exSt 0 0) = [⟨10, false, 5⟩, ⟨10, true, 1⟩] by decide] at h0
  have h1 := memL_fold (shp_iff.1 ex_shp) 1 0
  rw [show foldK (tksK exSt 1 0 ++ grpK exSt 1 0) = [⟨3, false, 6⟩] by decide] at h1
  rw [flE_pos ex_shp]
  show [[floorV exSt 0 (0 : Nat)], [floorV exSt 1 (0 : Nat)]] = _
  rw [floorV_eq, floorV_eq]
  show [[match memL exSt 0 0 with | [] => _ | k :: _ => _], [match memL exSt 1 0 with | [] => _ | k :: _ => _]] = _
  rw [h0, h1]; rfl

theorem OV.litM {α : Type} {enc : α → List Value} {k base n m : Nat} {e : TypeId} {w : World} {cs : Array Value} {xs : List α} (hm : w.heap.size = m) (hb : base ≤ m) (hs : cs.size = n * k) (hx : cs.toList = xs.flatMap enc) (hn : xs.length = n) (hml : n ≤ 100) :
    OV enc k e base (w.alloc (.cells cs e)) (.slice (some ⟨m, 0, none⟩) n n) xs := by
  subst hm; exact OV.lit w cs n hb (by unfold maxLen; omega) hs hx hn
set_option maxRecDepth 100000 in
set_option maxHeartbeats 3200000 in
theorem example_ok2 (w : World) : Calls Try.prog 39 #[] w fun e w' => ∃ c s, e = .returned (c.val s) ∧ StO w.heap.size w' c s ∧ Sim exSt s ∧ Below w.heap.size w w' ∧ c.vc.ownBlock ≠ c.vu.ownBlock := by
  go_enter Try.func39, Try.ntmps39
  go_wp2
  generalize hw1 : w.alloc _ = w1
  generalize hw2 : w1.alloc _ = w2
  generalize hw3 : w2.alloc _ = w3
  generalize hw4 : w3.alloc _ = w4
  generalize hw5 : w4.alloc _ = w5
  generalize hw6 : w5.alloc _ = w6
  generalize hw7 : w6.alloc _ = w7
  generalize hw8 : w7.alloc _ = w8
  have s1 : w1.heap.size = w.heap.size + 1 := by rw [← hw1]; simp
  have s2 : w2.heap.size = w.heap.size + 1 + 1 := by rw [← hw2]; simp [s1]
  have s3 : w3.heap.size = w.heap.size + 1 + 1 + 1 := by rw [← hw3]; simp [s2]
  have s4 : w4.heap.size = w.heap.size + 1 + 1 + 1 + 1 := by rw [← hw4]; simp [s3]
  have s5 : w5.heap.size = w.heap.size + 1 + 1 + 1 + 1 + 1 := by rw [← hw5]; simp [s4]
  have s6 : w6.heap.size = w.heap.size + 1 + 1 + 1 + 1 + 1 + 1 := by rw [← hw6]; simp [s5]
  have s7 : w7.heap.size = w.heap.size + 1 + 1 + 1 + 1 + 1 + 1 + 1 := by rw [← hw7]; simp [s6]
  have b8 : Below w7.heap.size w7 w8 := by rw [← hw8]; exact bel_alloc _ _
  have b7 : Below w6.heap.size w6 w8 := below_step (by rw [← hw7]; exact bel_alloc _ _) b8
  have b6 : Below w5.heap.size w5 w8 := below_step (by rw [← hw6]; exact bel_alloc _ _) b7
  have b5 : Below w4.heap.size w4 w8 := below_step (by rw [← hw5]; exact bel_alloc _ _) b6
  have b4 : Below w3.heap.size w3 w8 := below_step (by rw [← hw4]; exact bel_alloc _ _) b5
  have b3 : Below w2.heap.size w2 w8 := below_step (by rw [← hw3]; exact bel_alloc _ _) b4
  have b2 : Below w1.heap.size w1 w8 := below_step (by rw [← hw2]; exact bel_alloc _ _) b3
  have b1 : Below w.heap.size w w8 := below_step (by rw [← hw1]; exact bel_alloc _ _) b2
  have og : OV encG 2 82 w.heap.size w2 (.slice (some ⟨w.heap.size + 1, 0, none⟩) 2 2) [(0, 1), (0, 9)] := by rw [← hw2]; exact OV.litM s1 (by omega) rfl rfl rfl (by omega)
  have oc : OV encI 1 3 w.heap.size w3 (.slice (some ⟨w.heap.size + 1 + 1, 0, none⟩) 1 1) [0] := by rw [← hw3]; exact OV.litM s2 (by omega) rfl rfl rfl (by omega)
  have ou : OV encI 1 3 w.heap.size w4 (.slice (some ⟨w.heap.size + 1 + 1 + 1, 0, none⟩) 1 1) [0] := by rw [← hw4]; exact OV.litM s3 (by omega) rfl rfl rfl (by omega)
  have ot : OV encT 8 61 w.heap.size w5 (.slice (some ⟨w.heap.size + 1 + 1 + 1 + 1, 0, none⟩) 2 2) [⟨5, 0, 1, 0, 1, true, 10, 0⟩, ⟨6, 1, 1, 0, 1, true, 3, 0⟩] := by rw [← hw5]; exact OV.litM s4 (by omega) rfl rfl rfl (by omega)
  have o0 : OV encS 3 51 w.heap.size w6 (.slice (some ⟨w.heap.size + 1 + 1 + 1 + 1 + 1, 0, none⟩) 1 1) [⟨0, 0, 4⟩] := by rw [← hw6]; exact OV.litM s5 (by omega) rfl rfl rfl (by omega)
  have o1 : OV encS 3 51 w.heap.size w7 (.slice (some ⟨w.heap.size + 1 + 1 + 1 + 1 + 1 + 1, 0, none⟩) 1 1) [⟨10, 0, 4⟩] := by rw [← hw7]; exact OV.litM s6 (by omega) rfl rfl rfl (by omega)
  have os : OV encR 1 52 w.heap.size w8 (.slice (some ⟨w.heap.size + 1 + 1 + 1 + 1 + 1 + 1 + 1, 0, none⟩) 2 2) [(.slice (some ⟨w.heap.size + 1 + 1 + 1 + 1 + 1, 0, none⟩) 1 1, [⟨0, 0, 4⟩]), (.slice (some ⟨w.heap.size + 1 + 1 + 1 + 1 + 1 + 1, 0, none⟩) 1 1, [⟨10, 0, 4⟩])] := by rw [← hw8]; exact OV.litM s7 (by omega) rfl rfl rfl (by omega)
  have hx := heap_alloc_new w (.cells #[.int .i64 1, .int .u64 0, .slice (some ⟨w.heap.size + 1, 0, none⟩) 2 2, .slice (some ⟨w.heap.size + 1 + 1, 0, none⟩) 1 1, .slice (some ⟨w.heap.size + 1 + 1 + 1, 0, none⟩) 1 1, .slice (some ⟨w.heap.size + 1 + 1 + 1 + 1, 0, none⟩) 2 2, .slice (some ⟨w.heap.size + 1 + 1 + 1 + 1 + 1 + 1 + 1, 0, none⟩) 2 2] 38)
  rw [hw1] at hx
  have hx8 := (b2.block w.heap.size (by omega)).trans hx
  refine bodyPost_ret (results_cell_row rfl _ _ w.heap.size _ _ _ _ rfl hx8 Try.underlying38 rfl (by kernel_rfl)) rfl ?_
  refine ⟨⟨_, _, _, _, _⟩, { exSt with ss := [(.slice (some ⟨w.heap.size + 1 + 1 + 1 + 1 + 1, 0, none⟩) 1 1, [⟨0, 0, 4⟩]), (.slice (some ⟨w.heap.size + 1 + 1 + 1 + 1 + 1 + 1, 0, none⟩) 1 1, [⟨10, 0, 4⟩])] }, rfl, ⟨og.below b3, oc.below b4, ou.below b5, ot.below b6, os, fun x hx => ?_⟩, ⟨rfl, rfl, rfl, rfl, rfl, rfl, rfl⟩, b1, by simp [Value.ownBlock]⟩
  simp at hx
  rcases hx with rfl | rfl
  · exact o0.below b7
  · exact o1.below b8
theorem example_ok (w : World) : Calls Try.prog 39 #[] w fun e w' => ∃ c s, e = .returned (c.val s) ∧ StO w.heap.size w' c s ∧ Sim exSt s ∧ Below w.heap.size w w' :=
  (example_ok2 w).mono fun _ _ ⟨c, s, e, o, m, b, _⟩ => ⟨c, s, e, o, m, b⟩
end Go.Proofs.Ytenngfkgfdogjaa
namespace Go.Proofs.Ytenngfkgfdogjaa
open Go Go.RowKit Go.Shelf
attribute [local go_sem] Oper.semAt_some

section
variable {base g n cap i j : Nat} {w : World} {c : StC} {s : St}
theorem OV.ne_box {α : Type} {enc : α → List Value} {k : Nat} {e : TypeId} {xs : List α} {X : Nat} (h : OV enc k e base w (.slice (some ⟨g, 0, none⟩) n cap) xs) (hb : StBox w X c s) (he : e ≠ 38) : g ≠ X := by
  rintro rfl
  rcases h.2 with ⟨hn, _⟩ | ⟨g', cap', cur, hv, _, hg, _⟩
  · cases hn
  · simp only [Value.slice.injEq, Option.some.injEq, Addr.mk.injEq, and_true] at hv
    obtain ⟨rfl, _⟩ := hv
    unfold StBox at hb
    rw [hb] at hg
    simp at hg
    exact he hg.2.symm
/-- A cell of a task written. -/
theorem StO.setT {t t' : Tk} {u : Value} (h : StO base w c s) (hv : c.vt = .slice (some ⟨g, 0, none⟩) n cap) (hi : s.ts[i]? = some t) (hj : j < 8) (he : encT t' = (encT t).set j u) :
    StO base (w.setCell ⟨g, i * 8 + j, none⟩ u) c { s with ts := s.ts.set i t' } ∧ w.grownBy (w.setCell ⟨g, i * 8 + j, none⟩ u) (some g) := by
  have ht := h.ot
  rw [hv] at ht
  have hn : s.ts.length = n := by
    obtain ⟨A, c9, h9⟩ := (ht.ev encT_len).shape
    simp only [Value.slice.injEq] at h9
    exact h9.2.1.symm
  obtain ⟨o, gr⟩ := ht.setF encT_len hn hi hj t' u he
  refine ⟨⟨h.og.keep gr (h.og.ne ht (by decide)), h.oc.keep gr (h.oc.ne ht (by decide)), h.ou.keep gr (h.ou.ne ht (by decide)), by rw [hv]; exact o, h.os.keep gr (h.os.ne ht (by decide)), fun x hx => (h.orr x hx).keep gr ((h.orr x hx).ne ht (by decide))⟩, gr⟩
theorem StO.tcell {t : Tk} (h : StO base w c s) (hv : c.vt = .slice (some ⟨g, 0, none⟩) n cap) (hi : s.ts[i]? = some t) (hj : j < 8) : (∃ u, w.cell? ⟨g, i * 8 + j, none⟩ = some u) ∧ w.frozen? ⟨g, i * 8 + j, none⟩ = false := by
  have ht := h.ot
  rw [hv] at ht
  have hil := (List.getElem?_eq_some_iff.1 hi).1
  have hn : s.ts.length = n := by
    obtain ⟨A, c9, h9⟩ := (ht.ev encT_len).shape
    simp only [Value.slice.injEq] at h9
    exact h9.2.1.symm
  have hr := ((ht.ev encT_len).row3 (by omega)) i t hi j _ (List.getElem?_eq_getElem (by rw [encT_len]; exact hj))
  rw [Nat.zero_add] at hr
  unfold OV at ht
  rw [hn] at ht
  exact ⟨⟨_, hr⟩, World.ownsRow.frozenAt ht _⟩
theorem StBox.oth {X : Nat} {p : Addr} {u : Value} {s' : St} (h : StBox w X c s) (hp : p.block ≠ X) (hn : s.n = s'.n) (hc : s.cr = s'.cr) : StBox (w.setCell p u) X c s' := by
  unfold StBox at *
  rw [show c.cells s' = c.cells s by unfold StC.cells; rw [hn, hc]]
  exact (Below.heap_setCell _ _ _ _ (fun e => hp e.symm)).trans h
theorem RowsU.keep {base' : Nat} {w' : World} {v : Value} {rows : List (SV × List Int)} {α : Type} {enc : α → List Value} {k : Nat} {e : TypeId} {v' : Value} {xs : List α} (h : RowsU base w v rows) (o : OV enc k e base' w v' xs) (he1 : 22 ≠ e) (he2 : 48 ≠ e) (hg : w.grownBy w' v'.ownBlock) : RowsU base w' v rows :=
  ⟨h.1.keep hg (h.1.ne2 o he2), fun y hy => (h.2 y hy).keep hg ((h.2 y hy).ne2 o he1)⟩
end
def sSO (base : Nat) (c : StC) (s : St) : SP := ⟨fun w => StO base w c s, fun _ _ b h => h.below b⟩
/-- A box for a state that the call has been handed. -/
theorem box_state (w : World) (c : StC) (s : St) (v0 v1 v2 v3 v4 v5 v6 : Value) (hv : #[v0, v1, v2, v3, v4, v5, v6] = c.cells s) :
    StBox (set7 (w.alloc (.cells #[.int .i64 0, .int .u64 0, .slice none 0 0, .slice none 0 0, .slice none 0 0, .slice none 0 0, .slice none 0 0] 38)) w.heap.size v0 v1 v2 v3 v4 v5 v6) w.heap.size c s ∧
    Below w.heap.size w (set7 (w.alloc (.cells #[.int .i64 0, .int .u64 0, .slice none 0 0, .slice none 0 0, .slice none 0 0, .slice none 0 0, .slice none 0 0] 38)) w.heap.size v0 v1 v2 v3 v4 v5 v6) := by
  refine ⟨?_, ?_⟩
  · unfold StBox; rw [← hv]; exact fill7 (heap_alloc_new w _) _ _ _ _ _ _ _
  · have h := bel_alloc w (.cells #[.int .i64 0, .int .u64 0, .slice none 0 0, .slice none 0 0, .slice none 0 0, .slice none 0 0, .slice none 0 0] 38)
    exact ((((((h.setCell (p := ⟨w.heap.size, 0, none⟩) (Nat.le_refl _) v0).setCell (p := ⟨w.heap.size, 1, none⟩) (Nat.le_refl _) v1).setCell (p := ⟨w.heap.size, 2, none⟩) (Nat.le_refl _) v2).setCell (p := ⟨w.heap.size, 3, none⟩) (Nat.le_refl _) v3).setCell (p := ⟨w.heap.size, 4, none⟩) (Nat.le_refl _) v4).setCell (p := ⟨w.heap.size, 5, none⟩) (Nat.le_refl _) v5).setCell (p := ⟨w.heap.size, 6, none⟩) (Nat.le_refl _) v6
set_option maxRecDepth 100000 in
set_option maxHeartbeats 3200000 in
theorem awake_ok (w : World) : Calls Try.prog 14 #[] w fun e w' => e = .returned (.bool true) ∧ Below w.heap.size w w' := by
  go_enter Try.func14, Try.ntmps14
  go_upto_region 1 with fail
  go_cut [1] (fun v wx => ∃ c s X, v = .pointer (some ⟨X, 0, none⟩) ∧ StO w.heap.size wx c s ∧ StBox wx X c s ∧ Sim exSt s ∧ Below w.heap.size w wx)
  case first =>
    go_wp2_with fail
    refine (example_ok w).mono ?_
    rintro e w1 ⟨⟨vg, vc, vu, vt, vs⟩, s, rfl, o, sim, bb⟩
    obtain ⟨A1, c1, h1⟩ := (o.og.ev encG_len).shape
    obtain ⟨A2, c2, h2⟩ := (o.oc.ev encI_len).shape
    obtain ⟨A3, c3, h3⟩ := (o.ou.ev encI_len).shape
    obtain ⟨A4, c4, h4⟩ := (o.ot.ev encT_len).shape
    obtain ⟨A5, c5, h5⟩ := (o.os.ev encR_len).shape
    dsimp only at h1 h2 h3 h4 h5
    subst h1 h2 h3 h4 h5
    have O := Lib.hid o
    have S := Lib.hid sim
    have B := Lib.hid bb
    clear o sim bb
    unfold StC.val StC.cells
    dsimp only
    go_wp2_with fail
    go_meet
    have B2 := below_step B.out (bel_alloc w1 (.cells #[.int .i64 s.n, .int .u64 s.cr, .slice A1 s.gs.length c1, .slice A2 s.cl.length c2, .slice A3 s.cu.length c3, .slice A4 s.ts.length c4, .slice A5 s.ss.length c5] 38))
    exact ⟨⟨.slice A1 s.gs.length c1, .slice A2 s.cl.length c2, .slice A3 s.cu.length c3, .slice A4 s.ts.length c4, .slice A5 s.ss.length c5⟩, s, _, rfl, O.out.below (bel_alloc _ _), StBox.new w1 ⟨.slice A1 s.gs.length c1, .slice A2 s.cl.length c2, .slice A3 s.cu.length c3, .slice A4 s.ts.length c4, .slice A5 s.ss.length c5⟩ s, S.out, B2⟩
  case rest =>
  obtain ⟨c, s, X, rfl, o, bx, sim, bb⟩ := hcut
  have hb0 : StB exSt := ⟨by decide, by decide, by decide, by decide⟩
  have F : Facts wc [sSA c s, sSB X c s, sSO w.heap.size c s, sB w] := ⟨o.at, bx, o, bb, trivial⟩
  have G : Facts wc [] := trivial
  have S := Lib.hid sim
  have S1 := Lib.hid (show Sim exSt1 { s with ts := s.ts.set 0 ⟨5, 0, 1, 0, 1, true, 11, 0⟩ } from ⟨sim.n, sim.cr, sim.gs, sim.cl, sim.cu, by rw [show s.ts = exSt.ts from sim.ts.symm]; rfl, sim.ss⟩)
  have S2 := Lib.hid (show Sim exSt2 { s with ts := (s.ts.set 0 ⟨5, 0, 1, 0, 1, true, 11, 0⟩).set 1 ⟨6, 1, 1, 0, 1, false, 3, 0⟩ } from ⟨sim.n, sim.cr, sim.gs, sim.cl, sim.cu, by rw [show s.ts = exSt.ts from sim.ts.symm]; rfl, sim.ss⟩)
  have T0 := Lib.hid (show s.ts[0]? = some ⟨5, 0, 1, 0, 1, true, 10, 0⟩ by rw [← sim.ts]; rfl)
  have T1 := Lib.hid (show (s.ts.set 0 ⟨5, 0, 1, 0, 1, true, 11, 0⟩)[1]? = some ⟨6, 1, 1, 0, 1, true, 3, 0⟩ by rw [← sim.ts]; rfl)
  have hwc := bb.size
  have B0 := Lib.hid hb0
  have HTL := Lib.hid (show s.ts.length = 2 by rw [← sim.ts]; rfl)
  obtain ⟨g, cap, hvt, _, _⟩ := o.ot.form (by rw [← sim.ts]; decide)
  rw [HTL.out] at hvt
  have HVT := Lib.hid hvt
  clear o bx sim bb hb0 hvt
  obtain ⟨b0, b1, b2, b3, b4, b5, b6⟩ := (F.get 1 : StBox wc X c s).cell
  go_wp2_with fail
  have CM := o_members S.out B0.out wc 0 0 (F.get 0)
  rw [ex_chk.1, ex_mem] at CM
  refine CM.mono ?_
  rintro e w2 ⟨vm, rfl, om, bb⟩
  replace F := F.below bb
  replace G : Facts w2 (sOV encY 3 24 wc.heap.size vm [⟨10, false, 5⟩, ⟨10, true, 1⟩] :: _) := ⟨om, G.below bb⟩
  clear bb b0 b1 b2 b3 b4 b5 b6 om CM
  obtain ⟨b0, b1, b2, b3, b4, b5, b6⟩ := (F.get 1 : StBox w2 X c s).cell
  go_wp2_with fail
  have CM := o_walk S.out B0.out w2 0 (F.get 0)
  rw [ex_chk.1, ex_walk] at CM
  refine CM.mono ?_
  rintro e w3 ⟨va, rfl, om, bb⟩
  replace F := F.below bb
  replace G : Facts w3 (sOV encY 3 24 w2.heap.size va [⟨10, false, 5⟩] :: _) := ⟨om, G.below bb⟩
  clear bb b0 b1 b2 b3 b4 b5 b6 om CM
  obtain ⟨b0, b1, b2, b3, b4, b5, b6⟩ := (F.get 1 : StBox w3 X c s).cell
  go_wp2_with fail
  have CM := o_floors S.out B0.out w3 (F.get 0)
  rw [show shE exSt = 0 by decide, ex_fl] at CM
  refine CM.mono ?_
  rintro e w4 ⟨vf, rows, rfl, om, hrows, bb⟩
  replace F := F.below bb
  replace G : Facts w4 (sRU w3.heap.size vf rows :: _) := ⟨om, G.below bb⟩
  have HR := Lib.hid hrows
  clear bb b0 b1 b2 b3 b4 b5 b6 om CM hrows
  -- the first task's V
  obtain ⟨b0, b1, b2, b3, b4, b5, b6⟩ := (F.get 1 : StBox w4 X c s).cell
  have o4 : StO w.heap.size w4 c s := F.get 2
  have gX := (HVT.out ▸ o4.ot).ne_box (F.get 1 : StBox w4 X c s) (by decide)
  rw [HVT.out] at b5
  obtain ⟨⟨u, hu⟩, hf⟩ := o4.tcell HVT.out T0.out (j := 6) (by omega)
  obtain ⟨o5, gr⟩ := o4.setT HVT.out T0.out (j := 6) (t' := ⟨5, 0, 1, 0, 1, true, 11, 0⟩) (u := .int .u64 11) (by omega) rfl
  simp only [Nat.zero_mul, Nat.zero_add] at hu hf o5 gr
  have BX5 := (F.get 1 : StBox w4 X c s).oth (s' := { s with ts := s.ts.set 0 ⟨5, 0, 1, 0, 1, true, 11, 0⟩ }) (p := ⟨g, 6, none⟩) (u := .int .u64 11) gX rfl rfl
  have BB5 : Below w.heap.size w (w4.setCell ⟨g, 6, none⟩ (.int .u64 11)) := (F.get 3 : Below w.heap.size w w4).setCell (p := ⟨g, 6, none⟩) (o4.ot.block g (by rw [HVT.out]; rfl)).1 _
  have ot4 : OV encT 8 61 w.heap.size w4 (.slice (some ⟨g, 0, none⟩) 2 cap) s.ts := HVT.out ▸ o4.ot
  have G5 : Facts (w4.setCell ⟨g, 6, none⟩ (.int .u64 11)) [sRU w3.heap.size vf rows, sOV encY 3 24 w2.heap.size va [⟨10, false, 5⟩], sOV encY 3 24 wc.heap.size vm [⟨10, false, 5⟩, ⟨10, true, 1⟩]] :=
    ⟨(G.get 0 : RowsU w3.heap.size w4 vf rows).keep ot4 (by decide) (by decide) gr, (G.get 1 : OV encY 3 24 w2.heap.size w4 va _).keep gr ((G.get 1 : OV encY 3 24 w2.heap.size w4 va _).ne2 ot4 (by decide)), (G.get 2 : OV encY 3 24 wc.heap.size w4 vm _).keep gr ((G.get 2 : OV encY 3 24 wc.heap.size w4 vm _).ne2 ot4 (by decide)), trivial⟩
  have F5 : Facts (w4.setCell ⟨g, 6, none⟩ (.int .u64 11)) [sSA c { s with ts := s.ts.set 0 ⟨5, 0, 1, 0, 1, true, 11, 0⟩ }, sSB X c { s with ts := s.ts.set 0 ⟨5, 0, 1, 0, 1, true, 11, 0⟩ }, sSO w.heap.size c { s with ts := s.ts.set 0 ⟨5, 0, 1, 0, 1, true, 11, 0⟩ }, sB w] := ⟨o5.at, BX5, o5, BB5, trivial⟩
  clear F G o4 o5 gr BX5 BB5 ot4
  go_upto_region 6 with fail
  generalize w4.setCell ⟨g, 6, none⟩ (.int .u64 11) = w5 at F5 G5 ⊢
  clear b0 b1 b2 b3 b4 b5 b6 hu hf
  obtain ⟨s1, hs1⟩ : ∃ s1, s1 = { s with ts := s.ts.set 0 ⟨5, 0, 1, 0, 1, true, 11, 0⟩ } := ⟨_, rfl⟩
  rw [← hs1] at F5 S1
  have T11 := Lib.hid (show s1.ts[1]? = some ⟨6, 1, 1, 0, 1, true, 3, 0⟩ by rw [hs1]; exact T1.out)
  have S22 := Lib.hid (show Sim exSt2 { s1 with ts := s1.ts.set 1 ⟨6, 1, 1, 0, 1, false, 3, 0⟩ } by rw [hs1]; exact S2.out)
  clear hs1 S2 T1
  obtain ⟨b0, b1, b2, b3, b4, b5, b6⟩ := (F5.get 1 : StBox w5 X c s1).cell
  go_wp2_with fail
  have CM := o_walk S1.out ⟨by decide, by decide, by decide, by decide⟩ w5 0 (F5.get 0)
  rw [ex_chk.2.1, ex1_walk] at CM
  refine CM.mono ?_
  rintro e w6 ⟨vb, rfl, om, bb⟩
  replace F := F5.below bb
  replace G : Facts w6 (sOV encY 3 24 w5.heap.size vb [⟨10, true, 1⟩, ⟨3, false, 6⟩] :: _) := ⟨om, G5.below bb⟩
  clear bb b0 b1 b2 b3 b4 b5 b6 om CM F5 G5
  -- the second task is not ready
  obtain ⟨b0, b1, b2, b3, b4, b5, b6⟩ := (F.get 1 : StBox w6 X c s1).cell
  have o4 : StO w.heap.size w6 c s1 := F.get 2
  have gX := (HVT.out ▸ o4.ot).ne_box (F.get 1 : StBox w6 X c s1) (by decide)
  rw [HVT.out] at b5
  obtain ⟨⟨u, hu⟩, hf⟩ := o4.tcell HVT.out T11.out (j := 5) (by omega)
  obtain ⟨o5, gr⟩ := o4.setT HVT.out T11.out (j := 5) (t' := ⟨6, 1, 1, 0, 1, false, 3, 0⟩) (u := .bool false) (by omega) rfl
  simp only [Nat.one_mul, Nat.reduceAdd] at hu hf o5 gr
  have BX5 := (F.get 1 : StBox w6 X c s1).oth (s' := { s1 with ts := s1.ts.set 1 ⟨6, 1, 1, 0, 1, false, 3, 0⟩ }) (p := ⟨g, 13, none⟩) (u := .bool false) gX rfl rfl
  have BB5 : Below w.heap.size w (w6.setCell ⟨g, 13, none⟩ (.bool false)) := (F.get 3 : Below w.heap.size w w6).setCell (p := ⟨g, 13, none⟩) (o4.ot.block g (by rw [HVT.out]; rfl)).1 _
  have ot4 : OV encT 8 61 w.heap.size w6 (.slice (some ⟨g, 0, none⟩) 2 cap) s1.ts := HVT.out ▸ o4.ot
  have G7 : Facts (w6.setCell ⟨g, 13, none⟩ (.bool false)) [sOV encY 3 24 w5.heap.size vb [⟨10, true, 1⟩, ⟨3, false, 6⟩], sRU w3.heap.size vf rows, sOV encY 3 24 w2.heap.size va [⟨10, false, 5⟩], sOV encY 3 24 wc.heap.size vm [⟨10, false, 5⟩, ⟨10, true, 1⟩]] :=
    ⟨(G.get 0 : OV encY 3 24 w5.heap.size w6 vb _).keep gr ((G.get 0 : OV encY 3 24 w5.heap.size w6 vb _).ne2 ot4 (by decide)), (G.get 1 : RowsU w3.heap.size w6 vf rows).keep ot4 (by decide) (by decide) gr, (G.get 2 : OV encY 3 24 w2.heap.size w6 va _).keep gr ((G.get 2 : OV encY 3 24 w2.heap.size w6 va _).ne2 ot4 (by decide)), (G.get 3 : OV encY 3 24 wc.heap.size w6 vm _).keep gr ((G.get 3 : OV encY 3 24 wc.heap.size w6 vm _).ne2 ot4 (by decide)), trivial⟩
  have F7 : Facts (w6.setCell ⟨g, 13, none⟩ (.bool false)) [sSA c { s1 with ts := s1.ts.set 1 ⟨6, 1, 1, 0, 1, false, 3, 0⟩ }, sSB X c { s1 with ts := s1.ts.set 1 ⟨6, 1, 1, 0, 1, false, 3, 0⟩ }, sB w] := ⟨o5.at, BX5, BB5, trivial⟩
  clear F G o4 o5 gr BX5 BB5 ot4
  go_upto_region 8 with fail
  generalize w6.setCell ⟨g, 13, none⟩ (.bool false) = w7 at F7 G7 ⊢
  clear b0 b1 b2 b3 b4 b5 b6 hu hf
  obtain ⟨s2, hs2⟩ : ∃ s2, s2 = { s1 with ts := s1.ts.set 1 ⟨6, 1, 1, 0, 1, false, 3, 0⟩ } := ⟨_, rfl⟩
  rw [← hs2] at F7 S22
  clear hs2
  obtain ⟨b0, b1, b2, b3, b4, b5, b6⟩ := (F7.get 1 : StBox w7 X c s2).cell
  go_wp2_with fail
  have CM := o_filled S22.out ⟨by decide, by decide, by decide, by decide⟩ w7 1 0 (F7.get 0)
  rw [ex_chk.2.2.1, ex2_fil] at CM
  refine CM.mono ?_
  rintro e w8 ⟨rfl, bb⟩
  replace F := F7.below bb
  replace G := G7.below bb
  clear bb b0 b1 b2 b3 b4 b5 b6 CM F7 G7
  obtain ⟨b0, b1, b2, b3, b4, b5, b6⟩ := (F.get 1 : StBox w8 X c s2).cell
  go_wp2_with fail
  have CM := o_walk S22.out ⟨by decide, by decide, by decide, by decide⟩ w8 0 (F.get 0)
  rw [ex_chk.2.2.2, ex2_walk] at CM
  refine CM.mono ?_
  rintro e w9 ⟨vc, rfl, om, bb⟩
  replace F := F.below bb
  replace G : Facts w9 (sOV encY 3 24 w8.heap.size vc [⟨11, false, 5⟩] :: _) := ⟨om, G.below bb⟩
  clear bb b0 b1 b2 b3 b4 b5 b6 om CM S S1 S22 T0 T11 HVT HTL B0
  -- what the floors hold
  obtain ⟨p0, p1, rfl⟩ : ∃ p0 p1, rows = [(p0, [10]), (p1, [4])] := by
    have := HR.out
    rcases rows with _ | ⟨⟨p0, l0⟩, _ | ⟨⟨p1, l1⟩, _ | ⟨x, r⟩⟩⟩ <;> simp at this
    exact ⟨p0, p1, by rw [this.1, this.2]⟩
  clear HR
  have hrf : RowsU w3.heap.size w9 vf [(p0, [10]), (p1, [4])] := G.get 2
  obtain ⟨bf, of, cf, rfl, _, rf⟩ := (hrf.1.ev encV_len).row (by simp)
  have f0 := rf 0 _ rfl 0 _ rfl
  have f1 := rf 1 _ rfl 0 _ rfl
  have e0 := (hrf.2 (p0, [10]) (by simp)).ev encU_len
  have e1 := (hrf.2 (p1, [4]) (by simp)).ev encU_len
  simp only [Nat.zero_mul, Nat.add_zero, Nat.mul_one, Nat.one_mul, Nat.zero_add] at f0 f1
  have E1 := Lib.hid e1
  have RF := Lib.hid rf
  clear hrf rf e1
  have HF := Lib.hid (F.get 2 : Below w.heap.size w w9)
  have HG := Lib.hid G
  have hsw := (F.get 2 : Below w.heap.size w w9).size
  clear F G
  have A1 := bel_alloc w9 (.cells #[.int .u64 10] 22)
  go_wp2_with fail
  refine (eq_u64 (w9.alloc (.cells #[.int .u64 10] 22)) p0.v _ [10] (e0.below A1) (EV.new1 rfl (Nat.le_refl _)) (by simp)).mono ?_
  rintro e w10 ⟨rfl, bb⟩
  have B10 := below_step A1 bb
  replace f1 := below_cell B10 f1
  have e1 := E1.out.below B10
  have HB10 := Lib.hid B10
  clear A1 bb f0 e0 B10
  have A2 := bel_alloc w10 (.cells #[.int .u64 4] 22)
  go_wp2_with fail
  refine (eq_u64 (w10.alloc (.cells #[.int .u64 4] 22)) p1.v _ [4] (e1.below A2) (EV.new1 rfl (Nat.le_refl _)) (by simp)).mono ?_
  rintro e w11 ⟨rfl, bb⟩
  have HB11 := Lib.hid (below_step HB10.out (below_step A2 bb))
  clear A2 bb f1 e1 HB10
  have em := (((HG.out.get 4 : OV encY 3 24 wc.heap.size w9 vm _).ev encY_len).below HB11.out)
  have A3 := bel_alloc w11 (.cells #[.int .u64 10, .bool false, .int .i64 5, .int .u64 10, .bool true, .int .i64 1] 24)
  go_wp2_with fail
  refine (eq_key (w11.alloc (.cells #[.int .u64 10, .bool false, .int .i64 5, .int .u64 10, .bool true, .int .i64 1] 24)) vm _ [⟨10, false, 5⟩, ⟨10, true, 1⟩] (em.below A3) (EV.newL encY_len rfl rfl (Nat.le_refl _)) (by simp)).mono ?_
  rintro e w12 ⟨rfl, bb⟩
  have HB12 := Lib.hid (below_step HB11.out (below_step A3 bb))
  clear A3 bb em HB11
  have em := (((HG.out.get 3 : OV encY 3 24 w2.heap.size w9 va _).ev encY_len).below HB12.out)
  have A3 := bel_alloc w12 (.cells #[.int .u64 10, .bool false, .int .i64 5] 24)
  go_wp2_with fail
  refine (eq_key (w12.alloc (.cells #[.int .u64 10, .bool false, .int .i64 5] 24)) va _ [⟨10, false, 5⟩] (em.below A3) (EV.newL encY_len rfl rfl (Nat.le_refl _)) (by simp)).mono ?_
  rintro e w13 ⟨rfl, bb⟩
  have HB13 := Lib.hid (below_step HB12.out (below_step A3 bb))
  clear A3 bb em HB12
  have em := (((HG.out.get 1 : OV encY 3 24 w5.heap.size w9 vb _).ev encY_len).below HB13.out)
  have A3 := bel_alloc w13 (.cells #[.int .u64 10, .bool true, .int .i64 1, .int .u64 3, .bool false, .int .i64 6] 24)
  go_wp2_with fail
  refine (eq_key (w13.alloc (.cells #[.int .u64 10, .bool true, .int .i64 1, .int .u64 3, .bool false, .int .i64 6] 24)) vb _ [⟨10, true, 1⟩, ⟨3, false, 6⟩] (em.below A3) (EV.newL encY_len rfl rfl (Nat.le_refl _)) (by simp)).mono ?_
  rintro e w14 ⟨rfl, bb⟩
  have HB14 := Lib.hid (below_step HB13.out (below_step A3 bb))
  clear A3 bb em HB13
  have em := (((HG.out.get 0 : OV encY 3 24 w8.heap.size w9 vc _).ev encY_len).below HB14.out)
  have A3 := bel_alloc w14 (.cells #[.int .u64 11, .bool false, .int .i64 5] 24)
  go_wp2_with fail
  refine (eq_key (w14.alloc (.cells #[.int .u64 11, .bool false, .int .i64 5] 24)) vc _ [⟨11, false, 5⟩] (em.below A3) (EV.newL encY_len rfl rfl (Nat.le_refl _)) (by simp)).mono ?_
  rintro e w15 ⟨rfl, bb⟩
  have HB15 := Lib.hid (below_step HB14.out (below_step A3 bb))
  clear A3 bb em HB14
  go_wp2
  go_ret
  exact ⟨rfl, HF.out.trans (HB15.out.mono hsw)⟩
end Go.Proofs.Ytenngfkgfdogjaa
