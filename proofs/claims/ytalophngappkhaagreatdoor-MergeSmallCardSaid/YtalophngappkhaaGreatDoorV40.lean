/- MergeSmall: the loops over all lists of three blocks of the pool. -/
import Derived.Test.YtalophngappkhaaGreatDoorV37
import Derived.Test.YtalophngappkhaaGreatDoorV39
set_option linter.unusedVariables false
set_option linter.unusedSimpArgs false
set_option linter.unusedSectionVars false
namespace Go.Proofs.YtalophngappkhaaGreatDoor
open Go Go.RowKit Go.Shelf
attribute [local go_sem] Oper.semAt_some
set_option maxRecDepth 100000 in
set_option maxHeartbeats 3200000 in
theorem small_t5 (w wA : World) (g : Nat) (pool : List (Sl3 × Bck)) {u0 u1 u2 u4 u5 u6 u7 u8 u9 u10 u11 u12 u13 u14 u15 u16 u17 u18 u19 u20 u21 u22 u23 u24 u25 u26 u27 u28 u29 u30 u31 u32 u33 u34 u35 u36 u37 u38 u39 u40 u41 u42 u43 u44 u45 u46 u47 u48 u49 u50 u51 u52 u53 u54 u55 u56 u57 u58 u59 u60 u61 u62 u63 u64 u65 u66 u67 u68 u69 u70 u71 u72 u73 u74 u75 u76 u77 u78 u79 u80 u81 u82 u83 u84 u85 u86 u87 u88 u89 u90 u91 u92 u93 u94 u95 u96 u97 u98 u99 u100 u101 u102 u103 u104 u105 u106 u107 u108 u109 u110 u111 u112 u113 u114 u115 u116 u117 u118 u119 u120 u121 u122 u123 u124 u125 u126 u127 u128 u129 u130 u131 u132 u133 u134 u135 u136 u137 u138 u139 u140 u141 u142 u143 u144 u145 u146 u147 u148 u149 u150 u151 u152 u153 u154 u155 u156 u157 u158 u159 u160 u161 u162 u163 u164 u165 u166 u167 u168 u169 u170 u171 u172 u173 u174 : Value} (hb : Below w.heap.size w wA) (hU : LaidAt w)
  (hP : LsB wA (.slice (some ⟨g, 0, none⟩) 12 12) pool) (hn : pool.length = 12) (hok : ∀ x ∈ pool, BlkOk x.2 ∧ x.2.evs.length ≤ 1000) :
  Code.wp Tryz.prog (tailR Tryz.f3 5) (bodyPost Tryz.prog Tryz.f3 fun r w' => r = .returned (.bool true) ∧ Below w.heap.size w w')
   ⟨#[u0, u1, u2, .slice (some ⟨g, 0, none⟩) 12 12, u4, u5, u6, u7, u8, u9, u10, u11, u12, u13, u14, u15, u16, u17, u18, u19, u20, u21, u22, u23, u24, u25, u26, u27, u28, u29, u30, u31, u32, u33, u34, u35, u36, u37, u38, u39, u40, u41, u42, u43, u44, u45, u46, u47, u48, u49, u50, u51, u52, u53, u54, u55, u56, u57, u58, u59, u60, u61, u62, u63, u64, u65, u66, u67, u68, u69, u70, u71, u72, u73, u74, u75, u76, u77, u78, u79, u80, u81, u82, u83, u84, u85, u86, u87, u88, u89, u90, u91, u92, u93, u94, u95, u96, u97, u98, u99, u100, u101, u102, u103, u104, u105, u106, u107, u108, u109, u110, u111, u112, u113, u114, u115, u116, u117, u118, u119, u120, u121, u122, u123, u124, u125, u126, u127, u128, u129, u130, u131, u132, u133, u134, u135, u136, u137, u138, u139, u140, u141, u142, u143, u144, u145, u146, u147, u148, u149, u150, u151, u152, u153, u154, u155, u156, u157, u158, u159, u160, u161, u162, u163, u164, u165, u166, u167, u168, u169, u170, u171, u172, u173, u174], []⟩ wA := by
 conv => arg 2; whnf
 conv => arg 4; dsimp only
 have HB := Lib.hid hb
 have HU := Lib.hid hU
 have HP := Lib.hid hP
 have HN := Lib.hid hn
 have HK := Lib.hid hok
 clear hb hU hP hn hok
 go_upto_block 0 with fail
 go_cut [] (fun wz => ∃ wq, wq = wz ∧ Below wA.heap.size wA wq)
 case first =>
  go_wp2
  go_loopg [55] 12 (fun k i ws => ∃ j : Nat, j + k = 12 ∧ i = .int .i64 j ∧ Below wA.heap.size wA ws)
  case atStart => exact ⟨0, by omega, rfl, Below.refl _ _⟩
  case round =>
   obtain ⟨j, hj, rfl, hb⟩ := hrel
   have HJ0 := Lib.hid hj
   have HR0 := Lib.hid hb
   clear hj hb
   obtain ⟨w1, rfl⟩ : ∃ z, z = wr := ⟨_, rfl⟩
   by_cases hlt0 : j < 12
   ·obtain ⟨⟨⟨A1, n1, c1⟩, b1⟩, hx0⟩ : ∃ x, pool[j]? = some x := ⟨_, List.getElem?_eq_getElem (by rw [HN.out]; exact hlt0)⟩
    have HBW0 := Lib.hid (show Below wA.heap.size wA w1 from HR0.out)
    have HM0 := Lib.hid (show EV encE 11 w1 (.slice A1 n1 c1) b1.evs ∧ BlkOk b1 ∧ b1.evs.length ≤ 1000 from ⟨(HP.out.rows _ (List.mem_of_getElem? hx0)).below HBW0.out, HK.out _ (List.mem_of_getElem? hx0)⟩)
    obtain ⟨g0, g1, g2, g3, g4⟩ := ((HP.out.ev.below HBW0.out).row3 (by rw [HN.out]; omega)).sb5 hx0
    rw [Nat.zero_add] at g0 g1 g2 g3 g4
    dsimp only at g0 g1 g2 g3 g4
    unfold slV at g4
    dsimp only at g4
    go_upto_block 1 with fail
    generalize decide ((j : Int) < 12) = bj0
    go_cut [] (fun wz => ∃ wq, wq = wz ∧ Below w1.heap.size w1 wq)
    case first =>
     have hal := bel_alloc w1 (.cells #[.int .u8 b1.kind, .int .u8 b1.cpu, .int .i64 b1.lost, .int .i64 b1.next, .slice A1 n1 c1] 24)
     have HX0 := Lib.hid (BkBox.new w1 b1 (.slice A1 n1 c1))
     unfold blkC at HX0
     go_upto_block 2 with fail
     have HE0 := Lib.hid (HM0.out.1.below hal)
     have HA0 := Lib.hid (bstep HBW0.out hal)
     have HAL0 := Lib.hid hal
     clear hal g0 g1 g2 g3 g4
     generalize w1.alloc (.cells #[.int .u8 b1.kind, .int .u8 b1.cpu, .int .i64 b1.lost, .int .i64 b1.next, .slice A1 n1 c1] 24) = v1 at HX0 HE0 HA0 HAL0 ⊢
     generalize w1.heap.size = X0 at HX0 ⊢
     go_wp2
     go_loopg [61] 12 (fun k i ws => ∃ p : Nat, p + k = 12 ∧ i = .int .i64 p ∧ Below v1.heap.size v1 ws)
     case atStart => exact ⟨0, by omega, rfl, Below.refl _ _⟩
     case round =>
      obtain ⟨p, hj, rfl, hb⟩ := hrel
      have HJ1 := Lib.hid hj
      have HR1 := Lib.hid hb
      clear hj hb
      obtain ⟨w2, rfl⟩ : ∃ z, z = wr := ⟨_, rfl⟩
      by_cases hlt1 : p < 12
      ·obtain ⟨⟨⟨A2, n2, c2⟩, b2⟩, hx1⟩ : ∃ x, pool[p]? = some x := ⟨_, List.getElem?_eq_getElem (by rw [HN.out]; exact hlt1)⟩
       have HBW1 := Lib.hid (show Below wA.heap.size wA w2 from (bstep HA0.out HR1.out))
       have HM1 := Lib.hid (show EV encE 11 w2 (.slice A2 n2 c2) b2.evs ∧ BlkOk b2 ∧ b2.evs.length ≤ 1000 from ⟨(HP.out.rows _ (List.mem_of_getElem? hx1)).below HBW1.out, HK.out _ (List.mem_of_getElem? hx1)⟩)
       obtain ⟨g0, g1, g2, g3, g4⟩ := ((HP.out.ev.below HBW1.out).row3 (by rw [HN.out]; omega)).sb5 hx1
       rw [Nat.zero_add] at g0 g1 g2 g3 g4
       dsimp only at g0 g1 g2 g3 g4
       unfold slV at g4
       dsimp only at g4
       go_upto_block 3 with fail
       generalize decide ((p : Int) < 12) = bj1
       go_cut [] (fun wz => ∃ wq, wq = wz ∧ Below w2.heap.size w2 wq)
       case first =>
        have hal := bel_alloc w2 (.cells #[.int .u8 b2.kind, .int .u8 b2.cpu, .int .i64 b2.lost, .int .i64 b2.next, .slice A2 n2 c2] 24)
        have HX1 := Lib.hid (BkBox.new w2 b2 (.slice A2 n2 c2))
        unfold blkC at HX1
        go_upto_block 4 with fail
        have HE1 := Lib.hid (HM1.out.1.below hal)
        have HX0a := Lib.hid ((HX0.out.below HR1.out).below hal)
        have HE0a := Lib.hid ((HE0.out.below HR1.out).below hal)
        have HA1 := Lib.hid (bstep HBW1.out hal)
        have HAL1 := Lib.hid hal
        clear hal g0 g1 g2 g3 g4
        clear HX0 HE0
        generalize w2.alloc (.cells #[.int .u8 b2.kind, .int .u8 b2.cpu, .int .i64 b2.lost, .int .i64 b2.next, .slice A2 n2 c2] 24) = v2 at HX1 HE1 HA1 HAL1 HX0a HE0a ⊢
        generalize w2.heap.size = X1 at HX1 ⊢
        have HX0 := HX0a
        have HE0 := HE0a
        clear HX0a HE0a
        go_wp2
        go_loopg [67] 12 (fun k i ws => ∃ q : Nat, q + k = 12 ∧ i = .int .i64 q ∧ Below v2.heap.size v2 ws)
        case atStart => exact ⟨0, by omega, rfl, Below.refl _ _⟩
        case round =>
         obtain ⟨q, hj, rfl, hb⟩ := hrel
         have HJ2 := Lib.hid hj
         have HR2 := Lib.hid hb
         clear hj hb
         obtain ⟨w3, rfl⟩ : ∃ z, z = wr := ⟨_, rfl⟩
         by_cases hlt2 : q < 12
         ·obtain ⟨⟨⟨A3, n3, c3⟩, b3⟩, hx2⟩ : ∃ x, pool[q]? = some x := ⟨_, List.getElem?_eq_getElem (by rw [HN.out]; exact hlt2)⟩
          have HBW2 := Lib.hid (show Below wA.heap.size wA w3 from (bstep HA1.out HR2.out))
          have HM2 := Lib.hid (show EV encE 11 w3 (.slice A3 n3 c3) b3.evs ∧ BlkOk b3 ∧ b3.evs.length ≤ 1000 from ⟨(HP.out.rows _ (List.mem_of_getElem? hx2)).below HBW2.out, HK.out _ (List.mem_of_getElem? hx2)⟩)
          obtain ⟨g0, g1, g2, g3, g4⟩ := ((HP.out.ev.below HBW2.out).row3 (by rw [HN.out]; omega)).sb5 hx2
          rw [Nat.zero_add] at g0 g1 g2 g3 g4
          dsimp only at g0 g1 g2 g3 g4
          unfold slV at g4
          dsimp only at g4
          have hal := bel_alloc w3 (.cells #[.int .u8 b3.kind, .int .u8 b3.cpu, .int .i64 b3.lost, .int .i64 b3.next, .slice A3 n3 c3] 24)
          have HX2 := Lib.hid (BkBox.new w3 b3 (.slice A3 n3 c3))
          unfold blkC at HX2
          go_upto_region 14 with fail
          have HE2 := Lib.hid (HM2.out.1.below hal)
          have HX0a := Lib.hid ((HX0.out.below HR2.out).below hal)
          have HE0a := Lib.hid ((HE0.out.below HR2.out).below hal)
          have HX1a := Lib.hid ((HX1.out.below HR2.out).below hal)
          have HE1a := Lib.hid ((HE1.out.below HR2.out).below hal)
          have HA2 := Lib.hid (bstep HBW2.out hal)
          have HAL2 := Lib.hid hal
          clear hal g0 g1 g2 g3 g4
          clear HX0 HE0
          clear HX1 HE1
          generalize w3.alloc (.cells #[.int .u8 b3.kind, .int .u8 b3.cpu, .int .i64 b3.lost, .int .i64 b3.next, .slice A3 n3 c3] 24) = v3 at HX2 HE2 HA2 HAL2 HX0a HE0a HX1a HE1a ⊢
          generalize w3.heap.size = X2 at HX2 ⊢
          have x00 := HX0a.out.c0
          have x01 := HX0a.out.c1
          have x02 := HX0a.out.c2
          have x03 := HX0a.out.c3
          have x04 := HX0a.out.c4
          have x10 := HX1a.out.c0
          have x11 := HX1a.out.c1
          have x12 := HX1a.out.c2
          have x13 := HX1a.out.c3
          have x14 := HX1a.out.c4
          have x20 := HX2.out.c0
          have x21 := HX2.out.c1
          have x22 := HX2.out.c2
          have x23 := HX2.out.c3
          have x24 := HX2.out.c4
          have HE0 := HE0a
          have HE1 := HE1a
          clear HE0a HE1a
          have hq0 : (0 : Int) ≤ (q : Int) := by omega
          have HL := Lib.hid (EV.newL (w := v3) (e := 24) (xs := [((A1, n1, c1), b1), ((A2, n2, c2), b2), ((A3, n3, c3), b3)]) (enc := encSb) (n := 3) (c := 3) (cs := #[.int .u8 b1.kind, .int .u8 b1.cpu, .int .i64 b1.lost, .int .i64 b1.next, .slice A1 n1 c1, .int .u8 b2.kind, .int .u8 b2.cpu, .int .i64 b2.lost, .int .i64 b2.next, .slice A2 n2 c2, .int .u8 b3.kind, .int .u8 b3.cpu, .int .i64 b3.lost, .int .i64 b3.next, .slice A3 n3 c3]) encSb_len rfl rfl (Nat.le_refl _))
          have HLB := Lib.hid (bel_alloc v3 (.cells #[.int .u8 b1.kind, .int .u8 b1.cpu, .int .i64 b1.lost, .int .i64 b1.next, .slice A1 n1 c1, .int .u8 b2.kind, .int .u8 b2.cpu, .int .i64 b2.lost, .int .i64 b2.next, .slice A2 n2 c2, .int .u8 b3.kind, .int .u8 b3.cpu, .int .i64 b3.lost, .int .i64 b3.next, .slice A3 n3 c3] 24))
          go_wp2_with fail
          refine (blaw_ok _ _ [((A1, n1, c1), b1), ((A2, n2, c2), b2), ((A3, n3, c3), b3)] _ ⟨HL.out, ?hr⟩ ?ho ?hl (by simp) (HU.out.below (HB.out.trans ((bstep HA2.out HLB.out).mono HB.out.size)))).mono ?_
          case hr =>
           intro x hx
           simp only [List.mem_cons, List.not_mem_nil, or_false] at hx
           rcases hx with rfl | rfl | rfl
           ·exact HE0.out.below HLB.out
           ·exact HE1.out.below HLB.out
           ·exact HE2.out.below HLB.out
          case ho =>
           intro x hx
           simp only [List.mem_cons, List.not_mem_nil, or_false] at hx
           rcases hx with rfl | rfl | rfl
           ·exact HM0.out.2.1
           ·exact HM1.out.2.1
           ·exact HM2.out.2.1
          case hl =>
           intro x hx
           simp only [List.mem_cons, List.not_mem_nil, or_false] at hx
           rcases hx with rfl | rfl | rfl
           ·exact HM0.out.2.2
           ·exact HM1.out.2.2
           ·exact HM2.out.2.2
          rintro r w5 ⟨rfl, b5⟩
          have HW5 := Lib.hid (bstep (bstep HAL2.out HLB.out) b5)
          clear b5 HL HLB HE0 HE1 HE2 HX0a HX1a HX2 x00 x01 x02 x03 x04 x10 x11 x12 x13 x14 x20 x21 x22 x23 x24
          go_wp2
          go_roundg (12 - (q + 1))
          case measure => have := HJ2.out; omega
          case rel => exact ⟨q + 1, by have := HJ2.out; omega, by go_num, bstep HR2.out HW5.out⟩
         ·obtain rfl : q = 12 := by have := HJ2.out; omega
          go_wp2
          go_meet
          exact ⟨_, rfl, bstep HAL1.out HR2.out⟩
       case rest =>
        obtain ⟨wq, rfl, hq⟩ := hcut
        clear g0 g1 g2 g3 g4
        have HQ := Lib.hid hq
        go_wp2
        go_roundg (12 - (p + 1))
        case measure => have := HJ1.out; omega
        case rel => exact ⟨p + 1, by have := HJ1.out; omega, by go_num, bstep HR1.out HQ.out⟩
      ·obtain rfl : p = 12 := by have := HJ1.out; omega
       go_wp2
       go_meet
       exact ⟨_, rfl, bstep HAL0.out HR1.out⟩
    case rest =>
     obtain ⟨wq, rfl, hq⟩ := hcut
     clear g0 g1 g2 g3 g4
     have HQ := Lib.hid hq
     go_wp2
     go_roundg (12 - (j + 1))
     case measure => have := HJ0.out; omega
     case rel => exact ⟨j + 1, by have := HJ0.out; omega, by go_num, bstep HR0.out HQ.out⟩
   ·obtain rfl : j = 12 := by have := HJ0.out; omega
    go_wp2
    go_meet
    exact ⟨_, rfl, HR0.out⟩
 case rest =>
  obtain ⟨wq, rfl, hq⟩ := hcut
  refine (‹∀ (a : Act) (w : World), Code.wp _ _ _ a w → _› : ∀ (a : Act) (w : World), _ → _) _ _ (small_t19 w _ (HB.out.trans (hq.mono HB.out.size)) HU.out)
end Go.Proofs.YtalophngappkhaaGreatDoor
