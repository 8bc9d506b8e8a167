/- MergeSplits: the end. -/
import Derived.Test.YtalophngappkhaaGreatDoorMsa
import Derived.Test.YtalophngappkhaaGreatDoorZ29
import Derived.BigQuiet
set_option linter.unusedVariables false
set_option linter.unusedSimpArgs false
set_option linter.unusedSectionVars false
namespace Go.Proofs.YtalophngappkhaaGreatDoor
open Go Go.RowKit Go.Shelf
attribute [local go_sem] Oper.semAt_some

set_option maxRecDepth 100000 in
set_option maxHeartbeats 6400000 in
theorem splits_t22 (w wc : World) (n m ct cr c1 c2 : Nat) (At Ar A1 A2 : Option Addr) (tr rest : List Ev) {u0 u1 u2 u3 u4 u5 u6 u8 u9 u11 u12 u13 u14 u15 u20 u21 u22 u23 u24 u25 u26 u27 u28 u29 u30 u31 u32 u33 u34 u35 u36 u37 u38 u39 u40 u41 u42 u43 u44 u45 u46 u47 u48 u49 u50 u51 u52 u53 u54 u55 u56 u57 u58 u59 u60 u61 u62 u63 u64 u65 u66 u67 u68 u69 u70 u71 u72 u73 u74 u75 u76 u77 u78 u79 u80 u81 u82 u83 u84 u85 u86 u87 u88 u89 u90 u91 u92 u93 u94 u95 u96 u97 u98 u99 u100 u101 u102 u103 u104 u105 u106 u107 u108 u109 u110 u111 u112 u113 u114 u115 u116 u117 u118 u119 u120 u121 u122 u123 u124 u125 u126 u127 u128 u129 u130 u131 u132 u133 u134 u135 u136 u137 u138 u139 u140 u141 u142 u143 u144 u145 u146 u147 : Value}
    (ht : EV encE 11 wc (.slice At n ct) tr) (hr : EV encE 11 wc (.slice Ar m cr) rest) (ha : EV encE 11 wc (.slice A1 n c1) tr) (h2 : EV encI 1 wc (.slice A2 m c2) (seqsL rest)) (hn : tr.length = n ∧ n ≤ 40) (hm : rest.length = m ∧ m ≤ 40) (hb : Below w.heap.size w wc) :
    Code.wp Tryz.prog (tailR Tryz.f11 22) (bodyPost Tryz.prog Tryz.f11 fun r w' => r = .returned (.bool true) ∧ Below w.heap.size w w')
      ⟨#[u0, u1, u2, u3, u4, u5, u6, .slice At n ct, u8, u9, .int .i64 (n : Nat), u11, u12, u13, u14, u15, .slice Ar m cr, .slice A1 n c1, .slice A2 m c2, .int .i64 0, u20, u21, u22, u23, u24, u25, u26, u27, u28, u29, u30, u31, u32, u33, u34, u35, u36, u37, u38, u39, u40, u41, u42, u43, u44, u45, u46, u47, u48, u49, u50, u51, u52, u53, u54, u55, u56, u57, u58, u59, u60, u61, u62, u63, u64, u65, u66, u67, u68, u69, u70, u71, u72, u73, u74, u75, u76, u77, u78, u79, u80, u81, u82, u83, u84, u85, u86, u87, u88, u89, u90, u91, u92, u93, u94, u95, u96, u97, u98, u99, u100, u101, u102, u103, u104, u105, u106, u107, u108, u109, u110, u111, u112, u113, u114, u115, u116, u117, u118, u119, u120, u121, u122, u123, u124, u125, u126, u127, u128, u129, u130, u131, u132, u133, u134, u135, u136, u137, u138, u139, u140, u141, u142, u143, u144, u145, u146, u147], []⟩ wc := by
  conv => arg 2; whnf
  conv => arg 4; dsimp only
  have HR := Lib.hid hr
  have H2 := Lib.hid h2
  have HM := Lib.hid hm
  have HB := Lib.hid hb
  have HE := Lib.hid (eq_ev wc (.slice A1 n c1) (.slice At n ct) tr ha ht (by omega))
  have hm40 := hm.2
  have hn40 := hn.2
  clear ht hr ha h2 hn hm hb
  go_wp2_with fail
  refine HE.out.mono ?_
  rintro r w1 ⟨rfl, b1⟩
  have HR1 := Lib.hid (HR.out.below b1)
  have H21 := Lib.hid (H2.out.below b1)
  have HB1 := Lib.hid (bstep HB.out b1)
  clear HE HR H2 HB b1
  go_wp2
  go_loopg [135] m (fun k i wr => ∃ j : Nat, j + k = m ∧ i = .int .i64 j ∧ Below w1.heap.size w1 wr)
  case atStart => exact ⟨0, by omega, rfl, Below.refl _ _⟩
  case round =>
    obtain ⟨j, hj, rfl, hb⟩ := hrel
    have HJ := Lib.hid hj
    have HBR := Lib.hid hb
    clear hj hb
    by_cases hlt : j < m
    · obtain ⟨b, off, c', hsl, hcc, hrr⟩ := (HR1.out.below HBR.out).row (by rw [HM.out.1]; omega)
      rw [HM.out.1] at hsl
      cases hsl
      obtain ⟨e, hev⟩ : ∃ e, rest[j]? = some e := ⟨_, List.getElem?_eq_getElem (by rw [HM.out.1]; exact hlt)⟩
      obtain ⟨g0, g1, g2, g3, g4, g5, g6, g7, g8, g9, g10⟩ := hrr.ev hev
      have hseq : (seqsL rest)[j]? = some e.seq := by unfold seqsL; rw [List.getElem?_map, hev]; rfl
      have hlen : (seqsL rest).length = m := by unfold seqsL; rw [List.length_map, HM.out.1]
      have HEV := Lib.hid (evp_new wr e)
      have HA := Lib.hid (bel_alloc wr (.cells #[.int .i64 e.seq, .int .i64 e.time, .int .u8 e.cpu, .int .u8 e.kind, .int .i64 e.task, .int .i64 e.grp, .int .i64 e.to, .int .i64 e.wt, .int .i64 e.ticks, .int .u64 e.mask, .int .i64 e.got] 28))
      obtain ⟨b2, off2, c2', hsl2, hcc2, hrr2⟩ := ((H21.out.below HBR.out).below HA.out).row (by rw [hlen]; omega)
      rw [hlen] at hsl2
      cases hsl2
      have hcs := hrr2.i1x hseq
      have HCS := Lib.hid hcs
      clear hrr hcc hev hseq hlen hrr2 hcc2 hcs
      go_upto_region 27 with fail
      have h1 := HEV.out
      clear HEV g0 g1 g2 g3 g4 g5 g6 g7 g8 g9 g10
      generalize wr.alloc (.cells #[.int .i64 e.seq, .int .i64 e.time, .int .u8 e.cpu, .int .u8 e.kind, .int .i64 e.task, .int .i64 e.grp, .int .i64 e.to, .int .i64 e.wt, .int .i64 e.ticks, .int .u64 e.mask, .int .i64 e.got] 28) = wa at h1 HA HCS ⊢
      generalize wr.heap.size = B at h1 ⊢
      have HB3 := Lib.hid (bstep HBR.out HA.out)
      have e0 := h1.c0
      have t0 := HCS.out
      clear h1 HBR HA
      go_wp2_with fail
      go_quiet (fail)
      have HB4 := Lib.hid (below_drewN HB3.out nq)
      clear e0 t0 HB3 HCS
      generalize wa.drewN nq = wn at HB4 ⊢
      go_wp2
      go_roundg (m - (j + 1))
      case measure => have := HJ.out; omega
      case rel => exact ⟨j + 1, by have := HJ.out; omega, by go_num, HB4.out⟩
    · obtain rfl : m = j := by have := HJ.out; omega
      go_wp2
      go_ret
      exact ⟨rfl, bstep HB1.out HBR.out⟩
end Go.Proofs.YtalophngappkhaaGreatDoor
