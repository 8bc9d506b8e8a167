/- The contract of quantumlaw21.Copy, from its beginning | quantumlaw21.tells, whole. -/
import Derived.Test.YtenngfkgfdogjaaZ19
import Derived.Test.YtenngfkgfdogjaaZ18
set_option linter.unusedVariables false
set_option linter.unusedSimpArgs false
set_option linter.unusedSectionVars false
namespace Go.Proofs.Ytenngfkgfdogjaa
open Go Go.RowKit Go.Shelf
attribute [local go_sem] Oper.semAt_some

set_option maxRecDepth 100000 in
set_option maxHeartbeats 3200000 in
theorem copy_ok (w : World) (c : StC) (s : St) (h : StAt w c s) (hl : StL s) :
    Calls Try.prog 28 #[c.val s] w fun e w' => ∃ c' s', e = .returned (c'.val s') ∧ StO w.heap.size w' c' s' ∧ Sim s s' ∧ Below w.heap.size w w' := by
  have CC := Lib.hid (show c.cells s = #[.int .i64 s.n, .int .u64 s.cr, c.vg, c.vc, c.vu, c.vt, c.vs] from rfl)
  have a1 := bel_alloc w (.cells (c.cells s) 38)
  unfold StC.val
  simp only [CC.out]
  go_enter Try.func28, Try.ntmps28
  go_upto_region 1 with fail
  have P1 : Cp w w.heap.size c s ((w.alloc (.cells #[.int .i64 s.n, .int .u64 s.cr, c.vg, c.vc, c.vu, c.vt, c.vs] 38)).alloc (.cells #[.int .i64 0, .int .u64 0, .slice none 0 0, .slice none 0 0, .slice none 0 0, .slice none 0 0, .slice none 0 0] 38)) := ⟨(StBox.new w c s).below (bel_alloc _ _), by
    have := heap_alloc_new (w.alloc (.cells #[.int .i64 s.n, .int .u64 s.cr, c.vg, c.vc, c.vu, c.vt, c.vs] 38)) (.cells #[.int .i64 0, .int .u64 0, .slice none 0 0, .slice none 0 0, .slice none 0 0, .slice none 0 0, .slice none 0 0] 38)
    rwa [World.size_alloc] at this, below_step (bel_alloc w _) (bel_alloc _ _), by simp⟩
  generalize ((w.alloc (.cells #[.int .i64 s.n, .int .u64 s.cr, c.vg, c.vc, c.vu, c.vt, c.vs] 38)).alloc (.cells #[.int .i64 0, .int .u64 0, .slice none 0 0, .slice none 0 0, .slice none 0 0, .slice none 0 0, .slice none 0 0] 38)) = w1 at P1 ⊢
  have HH := Lib.hid h
  have HL := Lib.hid hl
  obtain ⟨X, hX⟩ : ∃ X, w.heap.size = X := ⟨_, rfl⟩
  have HX := Lib.hid hX
  have P1' : Cp w X c s w1 := hX ▸ P1
  simp only [hX]
  clear h hl a1 hX P1
  obtain ⟨b0, b1, b2, b3, b4, b5, b6⟩ := P1'.bx.cell
  go_cut [] (fun wx => ∃ A2 n2 c2, Cp w X { c with vg := .slice A2 n2 c2 } s wx ∧ OV encG 2 82 (X + 2) wx (.slice A2 n2 c2) s.gs)
  case first =>
    go_wp2_with fail
    refine (clone_grp w1 c.vg s.gs (HH.out.below (HX.out ▸ P1'.bel)).eg (by have := HL.out.lg; omega)).mono ?_
    rintro e w2 ⟨v2, rfl, o2, bb⟩
    obtain ⟨A2, c2, rfl⟩ := (o2.ev encG_len).shape
    replace o2 := Lib.hid (o2.base_le P1'.sz)
    have P2 := P1'.below bb
    obtain ⟨b0, b1, b2, b3, b4, b5, b6⟩ := P2.bx.cell
    have fr := P2.bx.frz 2
    have HP2 := Lib.hid P2
    clear P2 P1' bb
    go_wp2_with fail
    go_meet
    exact ⟨A2, s.gs.length, c2, HP2.out.set rfl, o2.out.other (by simp) _⟩
  case rest =>
    obtain ⟨A2, n2, c2, hp, ho⟩ := hcut
    refine (‹∀ (a : Act) (w : World), Code.wp _ _ _ a w → _› : ∀ (a : Act) (w : World), _ → _) _ _ (copy_t2 w _ X c { c with vg := .slice A2 n2 c2 } s HX.out HH.out HL.out hp rfl ho)
end Go.Proofs.Ytenngfkgfdogjaa
namespace Go.Proofs.Ytenngfkgfdogjaa
open Go Go.RowKit Go.Shelf
attribute [local go_sem] Oper.semAt_some

theorem bel_set7 {B P : Nat} {a w : World} (h : Below B a w) (hP : B ≤ P) (v0 v1 v2 v3 v4 v5 v6 : Value) : Below B a (set7 w P v0 v1 v2 v3 v4 v5 v6) :=
  ((((((h.setCell (p := ⟨P, 0, none⟩) hP v0).setCell (p := ⟨P, 1, none⟩) hP v1).setCell (p := ⟨P, 2, none⟩) hP v2).setCell (p := ⟨P, 3, none⟩) hP v3).setCell (p := ⟨P, 4, none⟩) hP v4).setCell (p := ⟨P, 5, none⟩) hP v5).setCell (p := ⟨P, 6, none⟩) hP v6
theorem held14 {w wz wz' : World} {p0 p1 p2 p3 p4 p5 p6 q0 q1 q2 q3 q4 q5 q6 : Addr} {u0 u1 u2 u3 u4 u5 u6 v0 v1 v2 v3 v4 v5 v6 : Value}
    (h : wz.cell? p0 = some u0 ∧ wz.cell? p1 = some u1 ∧ wz.cell? p2 = some u2 ∧ wz.cell? p3 = some u3 ∧ wz.cell? p4 = some u4 ∧ wz.cell? p5 = some u5 ∧ wz.cell? p6 = some u6 ∧ wz.cell? q0 = some v0 ∧ wz.cell? q1 = some v1 ∧ wz.cell? q2 = some v2 ∧ wz.cell? q3 = some v3 ∧ wz.cell? q4 = some v4 ∧ wz.cell? q5 = some v5 ∧ wz.cell? q6 = some v6 ∧ Below w.heap.size w wz) (k : Below wz.heap.size wz wz') :
    wz'.cell? p0 = some u0 ∧ wz'.cell? p1 = some u1 ∧ wz'.cell? p2 = some u2 ∧ wz'.cell? p3 = some u3 ∧ wz'.cell? p4 = some u4 ∧ wz'.cell? p5 = some u5 ∧ wz'.cell? p6 = some u6 ∧ wz'.cell? q0 = some v0 ∧ wz'.cell? q1 = some v1 ∧ wz'.cell? q2 = some v2 ∧ wz'.cell? q3 = some v3 ∧ wz'.cell? q4 = some v4 ∧ wz'.cell? q5 = some v5 ∧ wz'.cell? q6 = some v6 ∧ Below w.heap.size w wz' :=
  ⟨below_cell k h.1, below_cell k h.2.1, below_cell k h.2.2.1, below_cell k h.2.2.2.1, below_cell k h.2.2.2.2.1, below_cell k h.2.2.2.2.2.1, below_cell k h.2.2.2.2.2.2.1, below_cell k h.2.2.2.2.2.2.2.1, below_cell k h.2.2.2.2.2.2.2.2.1, below_cell k h.2.2.2.2.2.2.2.2.2.1, below_cell k h.2.2.2.2.2.2.2.2.2.2.1, below_cell k h.2.2.2.2.2.2.2.2.2.2.2.1, below_cell k h.2.2.2.2.2.2.2.2.2.2.2.2.1, below_cell k h.2.2.2.2.2.2.2.2.2.2.2.2.2.1, below_step h.2.2.2.2.2.2.2.2.2.2.2.2.2.2 k⟩
theorem rdyE_len (s : St) (cpu : Int) : (rdyE s cpu).length ≤ s.ts.length := by
  unfold rdyE
  split
  · have := rdyL_len s cpu; simp; omega
  · simp
theorem memE_len (s : St) (g cpu : Int) : (memE s g cpu).length ≤ s.ts.length + s.gs.length := by
  unfold memE
  split
  · exact memL_len s g cpu
  · simp
theorem walE_len (s : St) (cpu : Int) : (walE s cpu).length ≤ s.gs.length + 1 := by
  have hf : ∀ (f : Nat) (g : Int), (walkF s cpu f g).length ≤ f := by
    intro f
    induction f with
    | zero => intro _; simp [walkF]
    | succ f ih =>
      intro g
      unfold walkF
      cases memL s g cpu with
      | nil => simp
      | cons k l =>
        dsimp only
        split
        · have := ih k.id; simp; omega
        · simp
  unfold walE
  split
  · exact hf _ _
  · simp
set_option maxRecDepth 100000 in
set_option maxHeartbeats 6400000 in
theorem tells_t10 (w w3 w11 : World) (c c' : StC) (s s' : St) (X4 X9 b1 b2 b3 b4' b5' b6' : Nat) (v1 r1 v3 r3 v4 r4 : Value) (g cpu id : Int) {u0 u5 u6 u7 u8 u26 u27 u28 u29 u30 u31 u32 u33 u34 u35 u36 u37 u38 u39 u40 u41 u42 u43 u44 u45 u46 u47 u48 u49 u50 u51 u52 u53 u54 u55 u56 u57 u58 u59 u60 u61 u62 u63 u64 u65 u66 u67 u68 u69 u70 u71 u72 u73 u74 u75 u76 u77 u78 u79 u80 u81 u82 u83 u84 u85 u86 u87 u88 u89 u90 u91 u92 u93 u94 u95 u96 u97 u98 u99 u100 u101 u102 u103 u104 u105 u106 u107 u108 u109 u110 u111 u112 u113 u114 u115 u116 u117 u118 u119 u120 u121 u122 u123 u124 u125 u126 u127 u128 u129 u130 u131 u132 u133 u134 u135 u136 u137 u138 u139 u140 u141 u142 u143 u144 u145 u146 u147 u148 u149 u150 u151 u152 u153 u154 u155 u156 u157 u158 u159 u160 u161 u162 u163 u164 u165 u166 u167 u168 u169 u170 u171 u172 u173 u174 u175 u176 u177 u178 u179 u180 u181 u182 u183 u184 u185 u186 u187 u188 u189 u190 u191 u192 u193 u194 u195 u196 u197 u198 u199 u200 u201 u202 u203 u204 u205 u206 u207 u208 u209 u210 u211 u212 u213 u214 u215 u216 u217 u218 u219 u220 u221 u222 u223 u224 u225 u226 u227 u228 u229 u230 u231 : Value}
    (hw : Below w.heap.size w w3) (h : StAt w3 c s) (h' : StAt w3 c' s') (b4 : StBox w3 X4 c s) (b9 : StBox w3 X9 c' s') (sim : Sim s s') (hl : StL s) (hb : StB s) (hB : Below w3.heap.size w3 w11)
    (o1 : OV encI 1 3 w3.heap.size w11 v1 (rdyE s cpu)) (p1 : OV encI 1 3 b2 w11 r1 (rdyE s cpu)) (o3 : OV encY 3 24 b3 w11 v3 (memE s g cpu)) (p3 : OV encY 3 27 b4' w11 r3 (memE s g cpu)) (o4 : OV encY 3 24 b5' w11 v4 (walE s cpu)) (p4 : OV encY 3 27 b6' w11 r4 (walE s cpu)) :
    Code.wp Try.prog (tailR Try.f33 10) (bodyPost Try.prog Try.f33 fun e w' => e = .returned (.bool true) ∧ Below w.heap.size w w')
      ⟨#[u0, .int .i64 g, .int .i64 cpu, .int .i64 id, .pointer (some ⟨X4, 0, none⟩), u5, u6, u7, u8, .pointer (some ⟨X9, 0, none⟩), v1, .int .i64 (chkE s 0 cpu), r1, .int .i64 (chkE s 0 cpu), .bool (filE s g cpu), .int .i64 (chkE s g cpu), .bool (filE s g cpu), .int .i64 (chkE s g cpu), v3, .int .i64 (chkE s g cpu), r3, .int .i64 (chkE s g cpu), v4, .int .i64 (chkE s 0 cpu), r4, .int .i64 (chkE s 0 cpu), u26, u27, u28, u29, u30, u31, u32, u33, u34, u35, u36, u37, u38, u39, u40, u41, u42, u43, u44, u45, u46, u47, u48, u49, u50, u51, u52, u53, u54, u55, u56, u57, u58, u59, u60, u61, u62, u63, u64, u65, u66, u67, u68, u69, u70, u71, u72, u73, u74, u75, u76, u77, u78, u79, u80, u81, u82, u83, u84, u85, u86, u87, u88, u89, u90, u91, u92, u93, u94, u95, u96, u97, u98, u99, u100, u101, u102, u103, u104, u105, u106, u107, u108, u109, u110, u111, u112, u113, u114, u115, u116, u117, u118, u119, u120, u121, u122, u123, u124, u125, u126, u127, u128, u129, u130, u131, u132, u133, u134, u135, u136, u137, u138, u139, u140, u141, u142, u143, u144, u145, u146, u147, u148, u149, u150, u151, u152, u153, u154, u155, u156, u157, u158, u159, u160, u161, u162, u163, u164, u165, u166, u167, u168, u169, u170, u171, u172, u173, u174, u175, u176, u177, u178, u179, u180, u181, u182, u183, u184, u185, u186, u187, u188, u189, u190, u191, u192, u193, u194, u195, u196, u197, u198, u199, u200, u201, u202, u203, u204, u205, u206, u207, u208, u209, u210, u211, u212, u213, u214, u215, u216, u217, u218, u219, u220, u221, u222, u223, u224, u225, u226, u227, u228, u229, u230, u231], []⟩ w11 := by
  obtain ⟨b0, b1, b2, b3, b4c, b5, b6⟩ := (b9.below hB).cell
  obtain ⟨d0, d1, d2, d3, d4, d5, d6⟩ := (b4.below hB).cell
  have H := Lib.hid h
  have H' := Lib.hid h'
  have HB4 := Lib.hid b4
  have HB9 := Lib.hid b9
  have HS := Lib.hid sim
  have HL := Lib.hid hl
  have HB := Lib.hid hb
  have HW := Lib.hid hw
  have hrl := rdyE_len s cpu
  have hml := memE_len s g cpu
  have hwl := walE_len s cpu
  have hbg := hb.g
  have hbt := hb.t
  have HO := Lib.hid o1
  have HBB := Lib.hid hB
  have K1 := Lib.hid (fun wz (hq : wz.cell? ⟨X9, 0, none⟩ = some (.int .i64 s'.n) ∧ wz.cell? ⟨X9, 1, none⟩ = some (.int .u64 s'.cr) ∧ wz.cell? ⟨X9, 2, none⟩ = some (c'.vg) ∧ wz.cell? ⟨X9, 3, none⟩ = some (c'.vc) ∧ wz.cell? ⟨X9, 4, none⟩ = some (c'.vu) ∧ wz.cell? ⟨X9, 5, none⟩ = some (c'.vt) ∧ wz.cell? ⟨X9, 6, none⟩ = some (c'.vs) ∧ wz.cell? ⟨X4, 0, none⟩ = some (.int .i64 s.n) ∧ wz.cell? ⟨X4, 1, none⟩ = some (.int .u64 s.cr) ∧ wz.cell? ⟨X4, 2, none⟩ = some (c.vg) ∧ wz.cell? ⟨X4, 3, none⟩ = some (c.vc) ∧ wz.cell? ⟨X4, 4, none⟩ = some (c.vu) ∧ wz.cell? ⟨X4, 5, none⟩ = some (c.vt) ∧ wz.cell? ⟨X4, 6, none⟩ = some (c.vs) ∧ Below w11.heap.size w11 wz) => o_shaped sim hb wz ((h'.below hB).below hq.2.2.2.2.2.2.2.2.2.2.2.2.2.2))
  have K2 := Lib.hid (fun wz (hq : wz.cell? ⟨X9, 0, none⟩ = some (.int .i64 s'.n) ∧ wz.cell? ⟨X9, 1, none⟩ = some (.int .u64 s'.cr) ∧ wz.cell? ⟨X9, 2, none⟩ = some (c'.vg) ∧ wz.cell? ⟨X9, 3, none⟩ = some (c'.vc) ∧ wz.cell? ⟨X9, 4, none⟩ = some (c'.vu) ∧ wz.cell? ⟨X9, 5, none⟩ = some (c'.vt) ∧ wz.cell? ⟨X9, 6, none⟩ = some (c'.vs) ∧ wz.cell? ⟨X4, 0, none⟩ = some (.int .i64 s.n) ∧ wz.cell? ⟨X4, 1, none⟩ = some (.int .u64 s.cr) ∧ wz.cell? ⟨X4, 2, none⟩ = some (c.vg) ∧ wz.cell? ⟨X4, 3, none⟩ = some (c.vc) ∧ wz.cell? ⟨X4, 4, none⟩ = some (c.vu) ∧ wz.cell? ⟨X4, 5, none⟩ = some (c.vt) ∧ wz.cell? ⟨X4, 6, none⟩ = some (c.vs) ∧ Below w11.heap.size w11 wz) => rshaped_ok wz c s ((h.below hB).below hq.2.2.2.2.2.2.2.2.2.2.2.2.2.2) hb)
  have K3 := Lib.hid (fun wz (hq : wz.cell? ⟨X9, 0, none⟩ = some (.int .i64 s'.n) ∧ wz.cell? ⟨X9, 1, none⟩ = some (.int .u64 s'.cr) ∧ wz.cell? ⟨X9, 2, none⟩ = some (c'.vg) ∧ wz.cell? ⟨X9, 3, none⟩ = some (c'.vc) ∧ wz.cell? ⟨X9, 4, none⟩ = some (c'.vu) ∧ wz.cell? ⟨X9, 5, none⟩ = some (c'.vt) ∧ wz.cell? ⟨X9, 6, none⟩ = some (c'.vs) ∧ wz.cell? ⟨X4, 0, none⟩ = some (.int .i64 s.n) ∧ wz.cell? ⟨X4, 1, none⟩ = some (.int .u64 s.cr) ∧ wz.cell? ⟨X4, 2, none⟩ = some (c.vg) ∧ wz.cell? ⟨X4, 3, none⟩ = some (c.vc) ∧ wz.cell? ⟨X4, 4, none⟩ = some (c.vu) ∧ wz.cell? ⟨X4, 5, none⟩ = some (c.vt) ∧ wz.cell? ⟨X4, 6, none⟩ = some (c.vs) ∧ Below w11.heap.size w11 wz) => eq_int wz v1 r1 (rdyE s cpu) ((o1.ev encI_len).below hq.2.2.2.2.2.2.2.2.2.2.2.2.2.2) ((p1.ev encI_len).below hq.2.2.2.2.2.2.2.2.2.2.2.2.2.2) (by omega))
  have K4 := Lib.hid (fun wz (hq : wz.cell? ⟨X9, 0, none⟩ = some (.int .i64 s'.n) ∧ wz.cell? ⟨X9, 1, none⟩ = some (.int .u64 s'.cr) ∧ wz.cell? ⟨X9, 2, none⟩ = some (c'.vg) ∧ wz.cell? ⟨X9, 3, none⟩ = some (c'.vc) ∧ wz.cell? ⟨X9, 4, none⟩ = some (c'.vu) ∧ wz.cell? ⟨X9, 5, none⟩ = some (c'.vt) ∧ wz.cell? ⟨X9, 6, none⟩ = some (c'.vs) ∧ wz.cell? ⟨X4, 0, none⟩ = some (.int .i64 s.n) ∧ wz.cell? ⟨X4, 1, none⟩ = some (.int .u64 s.cr) ∧ wz.cell? ⟨X4, 2, none⟩ = some (c.vg) ∧ wz.cell? ⟨X4, 3, none⟩ = some (c.vc) ∧ wz.cell? ⟨X4, 4, none⟩ = some (c.vu) ∧ wz.cell? ⟨X4, 5, none⟩ = some (c.vt) ∧ wz.cell? ⟨X4, 6, none⟩ = some (c.vs) ∧ Below w11.heap.size w11 wz) => keys_ok wz v3 r3 (memE s g cpu) ((o3.ev encY_len).below hq.2.2.2.2.2.2.2.2.2.2.2.2.2.2) ((p3.ev encY_len).below hq.2.2.2.2.2.2.2.2.2.2.2.2.2.2) (by omega))
  have K5 := Lib.hid (fun wz (hq : wz.cell? ⟨X9, 0, none⟩ = some (.int .i64 s'.n) ∧ wz.cell? ⟨X9, 1, none⟩ = some (.int .u64 s'.cr) ∧ wz.cell? ⟨X9, 2, none⟩ = some (c'.vg) ∧ wz.cell? ⟨X9, 3, none⟩ = some (c'.vc) ∧ wz.cell? ⟨X9, 4, none⟩ = some (c'.vu) ∧ wz.cell? ⟨X9, 5, none⟩ = some (c'.vt) ∧ wz.cell? ⟨X9, 6, none⟩ = some (c'.vs) ∧ wz.cell? ⟨X4, 0, none⟩ = some (.int .i64 s.n) ∧ wz.cell? ⟨X4, 1, none⟩ = some (.int .u64 s.cr) ∧ wz.cell? ⟨X4, 2, none⟩ = some (c.vg) ∧ wz.cell? ⟨X4, 3, none⟩ = some (c.vc) ∧ wz.cell? ⟨X4, 4, none⟩ = some (c.vu) ∧ wz.cell? ⟨X4, 5, none⟩ = some (c.vt) ∧ wz.cell? ⟨X4, 6, none⟩ = some (c.vs) ∧ Below w11.heap.size w11 wz) => keys_ok wz v4 r4 (walE s cpu) ((o4.ev encY_len).below hq.2.2.2.2.2.2.2.2.2.2.2.2.2.2) ((p4.ev encY_len).below hq.2.2.2.2.2.2.2.2.2.2.2.2.2.2) (by omega))
  have HRL := Lib.hid (show (rdyE s cpu).length ≤ 1000000000 by omega)
  clear h h' b4 b9 sim hl hb hw hrl hml hwl hbg hbt o1 p1 o3 p3 o4 p4 hB
  unfold StC.val at K1 K2
  have CC := (show c.cells s = #[.int .i64 s.n, .int .u64 s.cr, c.vg, c.vc, c.vu, c.vt, c.vs] from rfl)
  have CD := (show c'.cells s' = #[.int .i64 s'.n, .int .u64 s'.cr, c'.vg, c'.vc, c'.vu, c'.vt, c'.vs] from rfl)
  simp only [CC, CD] at K1 K2
  clear CC CD
  generalize chkE s 0 cpu = z1
  generalize chkE s g cpu = z2
  generalize filE s g cpu = z3
  generalize hZ4 : shapedB s = z4 at K1 K2
  clear hZ4
  conv => arg 2; whnf
  conv => arg 4; dsimp only
  go_wp2_with fail
  go_region_held3 (fun wz => wz.cell? ⟨X9, 0, none⟩ = some (.int .i64 s'.n) ∧ wz.cell? ⟨X9, 1, none⟩ = some (.int .u64 s'.cr) ∧ wz.cell? ⟨X9, 2, none⟩ = some (c'.vg) ∧ wz.cell? ⟨X9, 3, none⟩ = some (c'.vc) ∧ wz.cell? ⟨X9, 4, none⟩ = some (c'.vu) ∧ wz.cell? ⟨X9, 5, none⟩ = some (c'.vt) ∧ wz.cell? ⟨X9, 6, none⟩ = some (c'.vs) ∧ wz.cell? ⟨X4, 0, none⟩ = some (.int .i64 s.n) ∧ wz.cell? ⟨X4, 1, none⟩ = some (.int .u64 s.cr) ∧ wz.cell? ⟨X4, 2, none⟩ = some (c.vg) ∧ wz.cell? ⟨X4, 3, none⟩ = some (c.vc) ∧ wz.cell? ⟨X4, 4, none⟩ = some (c.vu) ∧ wz.cell? ⟨X4, 5, none⟩ = some (c.vt) ∧ wz.cell? ⟨X4, 6, none⟩ = some (c.vs) ∧ Below w11.heap.size w11 wz)
    (first
      | exact held14 (by assumption) hbz
      | assumption
      | exact ⟨b0, b1, b2, b3, b4c, b5, b6, d0, d1, d2, d3, d4, d5, d6, below_drew (Below.refl _ _)⟩)
    (first
      | (go_at_call 31; refine (K1.out _ (by assumption)).mono ?_; rintro e wz ⟨rfl, hbz⟩)
      | (go_at_call 69; refine (K2.out _ (by assumption)).mono ?_; rintro e wz ⟨rfl, hbz⟩)
      | (go_at_call 36; refine (K3.out _ (by assumption)).mono ?_; rintro e wz ⟨rfl, hbz⟩)
      | (go_at_call_of 70 v3; refine (K4.out _ (by assumption)).mono ?_; rintro e wz ⟨rfl, hbz⟩)
      | (go_at_call_of 70 v4; refine (K5.out _ (by assumption)).mono ?_; rintro e wz ⟨rfl, hbz⟩))
  all_goals
    rename_i wz hh
    have HBZ := Lib.hid hh.2.2.2.2.2.2.2.2.2.2.2.2.2.2
    have HO9 := Lib.hid (HO.out.below HBZ.out)
    have HB9z := Lib.hid (HBB.out.trans (HBZ.out.mono HBB.out.size))
    clear hh K1 K2 K3 K4 K5 b0 b1 b2 b3 b4c b5 b6 d0 d1 d2 d3 d4 d5 d6
    go_upto_if 137 with fail
    go_cut [] (fun wx => wx = wz)
    case first =>
      go_wp2_with fail
      go_meet
      rfl
    case rest =>
      subst hcut
      refine (‹∀ (a : Act) (w : World), Code.wp _ _ _ a w → _› : ∀ (a : Act) (w : World), _ → _) _ _ (tells_t12 w w3 _ c c' s s' X4 X9 v1 cpu id HW.out H.out H'.out HB4.out HB9.out HS.out HL.out HB.out HB9z.out HO9.out HRL.out)
end Go.Proofs.Ytenngfkgfdogjaa
