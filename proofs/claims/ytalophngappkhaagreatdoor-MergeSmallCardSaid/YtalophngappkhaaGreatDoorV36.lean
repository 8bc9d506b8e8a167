/- MergeSmall: the tests at its end. -/
import Derived.Test.YtalophngappkhaaGreatDoorV8
import Derived.Test.YtalophngappkhaaGreatDoorV23
import Derived.Test.YtalophngappkhaaGreatDoorV35
set_option linter.unusedVariables false
set_option linter.unusedSimpArgs false
set_option linter.unusedSectionVars false
namespace Go.Proofs.YtalophngappkhaaGreatDoor
open Go Go.RowKit Go.Shelf
attribute [local go_sem] Oper.semAt_some
/-- The event that is made wrong. -/
def badP : Ev := ⟨7, 0, 0, 6, 0, 0, 0, 0, 0, 0, -1⟩
instance evokDec : DecidablePred EvOk := fun e => decidable_of_iff ((0 ≤ e.cpu ∧ e.cpu ≤ 255) ∧ (0 ≤ e.kind ∧ e.kind ≤ 255) ∧ (0 ≤ e.mask ∧ e.mask ≤ 18446744073709551615) ∧ (-9223372036854775808 ≤ e.seq ∧ e.seq ≤ 9223372036854775807) ∧ (-9223372036854775808 ≤ e.time ∧ e.time ≤ 9223372036854775807) ∧ (-9223372036854775808 ≤ e.task ∧ e.task ≤ 9223372036854775807) ∧ (-9223372036854775808 ≤ e.grp ∧ e.grp ≤ 9223372036854775807) ∧ (-9223372036854775808 ≤ e.to ∧ e.to ≤ 9223372036854775807) ∧ (-9223372036854775808 ≤ e.wt ∧ e.wt ≤ 9223372036854775807) ∧ (-9223372036854775808 ≤ e.ticks ∧ e.ticks ≤ 9223372036854775807) ∧ (-9223372036854775808 ≤ e.got ∧ e.got ≤ 9223372036854775807))
 ⟨fun ⟨a, b, c, d, e, f, g, h, i, j, k⟩ => ⟨a, b, c, d, e, f, g, h, i, j, k⟩, fun h => ⟨h.cpu, h.kind, h.mask, h.seq, h.time, h.task, h.grp, h.to, h.wt, h.ticks, h.got⟩⟩
theorem lit_ok (L : List (Sl3 × List Ev)) (ls : List (List Ev)) (he : L.map Prod.snd = ls) (h : (ls.all fun l => decide (l.length ≤ 30) && l.all fun e => decide (EvOk e)) = true) : ∀ x ∈ L, (∀ e ∈ x.2, EvOk e) ∧ x.2.length ≤ 30 := by
 intro x hx
 have h1 := List.all_eq_true.1 h x.2 (by rw [← he]; exact List.mem_map_of_mem hx)
 rw [Bool.and_eq_true] at h1
 exact ⟨fun e he => of_decide_eq_true (List.all_eq_true.1 h1.2 e he), of_decide_eq_true h1.1⟩
set_option maxRecDepth 100000 in
set_option maxHeartbeats 3200000 in
theorem small_r35 (w wz : World) (X : Nat) {u0 u1 u2 u3 u4 u5 u6 u7 u8 u9 u10 u11 u12 u13 u14 u15 u17 u18 u19 u20 u21 u22 u23 u24 u25 u26 u27 u28 u29 u30 u31 u32 u33 u34 u35 u36 u37 u38 u39 u40 u41 u42 u43 u44 u45 u46 u47 u48 u49 u50 u51 u52 u53 u54 u55 u56 u57 u58 u59 u60 u61 u62 u63 u64 u65 u66 u67 u68 u69 u70 u71 u72 u73 u74 u75 u76 u77 u78 u79 u80 u81 u82 u83 u84 u85 u86 u87 u88 u89 u90 u91 u92 u93 u94 u95 u96 u97 u98 u99 u100 u101 u102 u103 u104 u105 u106 u107 u108 u109 u110 u111 u112 u113 u114 u115 u116 u117 u118 u119 u120 u121 u122 u123 u124 u125 u126 u127 u128 u129 u130 u131 u132 u133 u134 u135 u136 u137 u138 u139 u140 u141 u142 u143 u144 u145 u146 u147 u148 u149 u150 u151 u152 u153 u154 u155 u156 u157 u158 u159 u160 u161 u162 u163 u164 u165 u166 u167 u168 u169 u170 u171 u172 u173 u174 : Value} (hb : Below w.heap.size w wz) (hU : LaidAt w)
  (hX : wz.cell? ⟨X, 0, none⟩ = some (.int .i64 7) ∧ wz.cell? ⟨X, 1, none⟩ = some (.int .i64 0) ∧ wz.cell? ⟨X, 2, none⟩ = some (.int .u8 0) ∧ wz.cell? ⟨X, 3, none⟩ = some (.int .u8 6) ∧ wz.cell? ⟨X, 4, none⟩ = some (.int .i64 0) ∧ wz.cell? ⟨X, 5, none⟩ = some (.int .i64 0) ∧ wz.cell? ⟨X, 6, none⟩ = some (.int .i64 0) ∧ wz.cell? ⟨X, 7, none⟩ = some (.int .i64 0) ∧ wz.cell? ⟨X, 8, none⟩ = some (.int .i64 0) ∧ wz.cell? ⟨X, 9, none⟩ = some (.int .u64 0) ∧ wz.cell? ⟨X, 10, none⟩ = some (.int .i64 (-1))) :
  Code.wp Tryz.prog (tailR Tryz.f3 35) (bodyPost Tryz.prog Tryz.f3 fun r w' => r = .returned (.bool true) ∧ Below w.heap.size w w')
   ⟨#[u0, u1, u2, u3, u4, u5, u6, u7, u8, u9, u10, u11, u12, u13, u14, u15, .pointer (some ⟨X, 0, none⟩), u17, u18, u19, u20, u21, u22, u23, u24, u25, u26, u27, u28, u29, u30, u31, u32, u33, u34, u35, u36, u37, u38, u39, u40, u41, u42, u43, u44, u45, u46, u47, u48, u49, u50, u51, u52, u53, u54, u55, u56, u57, u58, u59, u60, u61, u62, u63, u64, u65, u66, u67, u68, u69, u70, u71, u72, u73, u74, u75, u76, u77, u78, u79, u80, u81, u82, u83, u84, u85, u86, u87, u88, u89, u90, u91, u92, u93, u94, u95, u96, u97, u98, u99, u100, u101, u102, u103, u104, u105, u106, u107, u108, u109, u110, u111, u112, u113, u114, u115, u116, u117, u118, u119, u120, u121, u122, u123, u124, u125, u126, u127, u128, u129, u130, u131, u132, u133, u134, u135, u136, u137, u138, u139, u140, u141, u142, u143, u144, u145, u146, u147, u148, u149, u150, u151, u152, u153, u154, u155, u156, u157, u158, u159, u160, u161, u162, u163, u164, u165, u166, u167, u168, u169, u170, u171, u172, u173, u174], []⟩ wz := by
 conv => arg 2; whnf
 conv => arg 4; dsimp only
 have HB := Lib.hid hb
 have HU := Lib.hid hU
 have HX := Lib.hid hX
 clear hb hU hX
 apply wp_seq_k
 intro K0 hK0
 refine wp_region_bel (by kernel_rfl) 50 rfl (fun i => i == 0 || i == 2 || i == 3 || i == 4 || i == 5 || i == 6 || i == 7 || i == 8 || i == 11 || i == 12 || i == 13 || i == 14 || i == 15 || i == 16 || i == 17 || i == 18 || i == 19 || i == 22 || i == 23 || i == 24 || i == 25 || i == 26 || i == 29 || i == 30 || i == 32 || i == 33 || i == 34 || i == 37 || i == 38 || i == 39 || i == 40 || i == 41 || i == 44 || i == 47) (fun i => !(false)) ?hMw (fun x => ⟨#[x 49, u1, u2, u3, u4, u5, u6, u7, u8, u9, u10, u11, u12, u13, u14, u15, .pointer (some ⟨X, 0, none⟩), u17, u18, u19, u20, u21, u22, u23, u24, u25, u26, u27, u28, u29, u30, u31, u32, u33, u34, u35, u36, u37, u38, u39, u40, u41, u42, u43, u44, u45, u46, u47, u48, u49, u50, u51, u52, u53, u54, u55, u56, u57, u58, u59, u60, u61, u62, u63, u64, u65, u66, u67, u68, u69, u70, u71, u72, u73, u74, u75, u76, u77, u78, u79, u80, u81, u82, u83, u84, u85, u86, u87, u88, u89, u90, u91, u92, u93, u94, u95, u96, u97, u98, u99, u100, u101, u102, u103, u104, u105, u106, u107, u108, u109, u110, u111, u112, u113, u114, u115, u116, u117, u118, u119, u120, u121, u122, u123, u124, u125, x 0, x 1, x 2, x 3, x 4, x 5, x 6, x 7, x 8, x 9, x 10, x 11, x 12, x 13, x 14, x 15, x 16, x 17, x 18, x 19, x 20, x 21, x 22, x 23, x 24, x 25, x 26, x 27, x 28, x 29, x 30, x 31, x 32, x 33, x 34, x 35, x 36, x 37, x 38, x 39, x 40, x 41, x 42, x 43, x 44, x 45, x 46, x 47, x 48], []⟩) (fun iF vF => match iF with | 1 => vF = .bool true | 9 => vF = .bool true | 10 => vF = .bool true | 20 => vF = .bool true | 21 => vF = .bool true | 27 => vF = .bool true | 28 => vF = .bool true | 31 => vF = .agg #[.int .i64 7, .int .i64 0, .int .u8 0, .int .u8 6, .int .i64 0, .int .i64 0, .int .i64 0, .int .i64 0, .int .i64 0, .int .u64 0, .int .i64 (-1)] | 35 => vF = .bool true | 36 => vF = .bool true | 42 => vF = .bool true | 43 => vF = .bool true | 45 => vF = .bool true | 46 => vF = .bool true | 48 => vF = .bool true | 49 => vF = .bool true | _ => True)
  (fun iG vG wG => match iG with | 0 => vG = .bool true | 2 => vG = .agg #[.int .i64 1, .int .i64 0, .int .u8 0, .int .u8 6, .int .i64 0, .int .i64 0, .int .i64 0, .int .i64 0, .int .i64 0, .int .u64 0, .int .i64 0] | 3 => vG = .agg #[.int .i64 2, .int .i64 0, .int .u8 63, .int .u8 6, .int .i64 0, .int .i64 0, .int .i64 0, .int .i64 0, .int .i64 0, .int .u64 0, .int .i64 0] | 4 => ∃ g, vG = .slice (some ⟨g, 0, none⟩) 2 2 ∧ EV encE 11 wG (.slice (some ⟨g, 0, none⟩) 2 2) [pickE 1 0, pickE 2 63] | 5 => vG = .agg #[.int .i64 2, .int .i64 0, .int .u8 63, .int .u8 6, .int .i64 0, .int .i64 0, .int .i64 0, .int .i64 0, .int .i64 0, .int .u64 0, .int .i64 0] | 6 => ∃ g, vG = .slice (some ⟨g, 0, none⟩) 1 1 ∧ EV encE 11 wG (.slice (some ⟨g, 0, none⟩) 1 1) [pickE 2 63] | 7 => ∃ g g130 g132, vG = .slice (some ⟨g, 0, none⟩) 3 3 ∧ LsE wG (.slice (some ⟨g, 0, none⟩) 3 3) ([((some ⟨g130, 0, none⟩, 2, 2), [pickE 1 0, pickE 2 63]), ((some ⟨g132, 0, none⟩, 1, 1), [pickE 2 63]), ((none, 0, 0), [])] : List (Sl3 × List Ev)) | 8 => vG = .bool true | 11 => vG = .agg #[.int .i64 1, .int .i64 0, .int .u8 0, .int .u8 6, .int .i64 0, .int .i64 0, .int .i64 0, .int .i64 0, .int .i64 0, .int .u64 0, .int .i64 0] | 12 => vG = .agg #[.int .i64 5, .int .i64 0, .int .u8 0, .int .u8 6, .int .i64 0, .int .i64 0, .int .i64 0, .int .i64 0, .int .i64 0, .int .u64 0, .int .i64 0] | 13 => ∃ g, vG = .slice (some ⟨g, 0, none⟩) 2 2 ∧ EV encE 11 wG (.slice (some ⟨g, 0, none⟩) 2 2) [pickE 1 0, pickE 5 0] | 14 => vG = .agg #[.int .i64 5, .int .i64 0, .int .u8 0, .int .u8 6, .int .i64 0, .int .i64 0, .int .i64 0, .int .i64 0, .int .i64 0, .int .u64 0, .int .i64 0] | 15 => ∃ g, vG = .slice (some ⟨g, 0, none⟩) 1 1 ∧ EV encE 11 wG (.slice (some ⟨g, 0, none⟩) 1 1) [pickE 5 0] | 16 => vG = .agg #[.int .i64 1, .int .i64 0, .int .u8 0, .int .u8 6, .int .i64 0, .int .i64 0, .int .i64 0, .int .i64 0, .int .i64 0, .int .u64 0, .int .i64 0] | 17 => ∃ g, vG = .slice (some ⟨g, 0, none⟩) 1 1 ∧ EV encE 11 wG (.slice (some ⟨g, 0, none⟩) 1 1) [pickE 1 0] | 18 => ∃ g g139 g141 g143, vG = .slice (some ⟨g, 0, none⟩) 3 3 ∧ LsE wG (.slice (some ⟨g, 0, none⟩) 3 3) ([((some ⟨g139, 0, none⟩, 2, 2), [pickE 1 0, pickE 5 0]), ((some ⟨g141, 0, none⟩, 1, 1), [pickE 5 0]), ((some ⟨g143, 0, none⟩, 1, 1), [pickE 1 0])] : List (Sl3 × List Ev)) | 19 => vG = .bool true | 22 => vG = .agg #[.int .i64 2, .int .i64 0, .int .u8 0, .int .u8 6, .int .i64 0, .int .i64 0, .int .i64 0, .int .i64 0, .int .i64 0, .int .u64 0, .int .i64 0] | 23 => vG = .agg #[.int .i64 2, .int .i64 0, .int .u8 0, .int .u8 6, .int .i64 0, .int .i64 0, .int .i64 0, .int .i64 0, .int .i64 0, .int .u64 0, .int .i64 0] | 24 => ∃ g, vG = .slice (some ⟨g, 0, none⟩) 2 2 ∧ EV encE 11 wG (.slice (some ⟨g, 0, none⟩) 2 2) [pickE 2 0, pickE 2 0] | 25 => ∃ g g150, vG = .slice (some ⟨g, 0, none⟩) 1 1 ∧ LsE wG (.slice (some ⟨g, 0, none⟩) 1 1) ([((some ⟨g150, 0, none⟩, 2, 2), [pickE 2 0, pickE 2 0])] : List (Sl3 × List Ev)) | 26 => vG = .bool true | 29 => vG = .agg #[.int .i64 1, .int .i64 0, .int .u8 0, .int .u8 6, .int .i64 0, .int .i64 0, .int .i64 0, .int .i64 0, .int .i64 0, .int .u64 0, .int .i64 0] | 30 => ∃ g, vG = .slice (some ⟨g, 0, none⟩) 1 1 ∧ EV encE 11 wG (.slice (some ⟨g, 0, none⟩) 1 1) [pickE 1 0] | 32 => ∃ g, vG = .slice (some ⟨g, 0, none⟩) 1 1 ∧ EV encE 11 wG (.slice (some ⟨g, 0, none⟩) 1 1) [badP] | 33 => ∃ g g156 g158, vG = .slice (some ⟨g, 0, none⟩) 2 2 ∧ LsE wG (.slice (some ⟨g, 0, none⟩) 2 2) ([((some ⟨g156, 0, none⟩, 1, 1), [pickE 1 0]), ((some ⟨g158, 0, none⟩, 1, 1), [badP])] : List (Sl3 × List Ev)) | 34 => vG = .bool true | 37 => vG = .agg #[.int .i64 2, .int .i64 0, .int .u8 0, .int .u8 6, .int .i64 0, .int .i64 0, .int .i64 0, .int .i64 0, .int .i64 0, .int .u64 0, .int .i64 0] | 38 => vG = .agg #[.int .i64 1, .int .i64 0, .int .u8 0, .int .u8 6, .int .i64 0, .int .i64 0, .int .i64 0, .int .i64 0, .int .i64 0, .int .u64 0, .int .i64 0] | 39 => ∃ g, vG = .slice (some ⟨g, 0, none⟩) 2 2 ∧ EV encE 11 wG (.slice (some ⟨g, 0, none⟩) 2 2) [pickE 2 0, pickE 1 0] | 40 => ∃ g g165, vG = .slice (some ⟨g, 0, none⟩) 1 1 ∧ LsE wG (.slice (some ⟨g, 0, none⟩) 1 1) ([((some ⟨g165, 0, none⟩, 2, 2), [pickE 2 0, pickE 1 0])] : List (Sl3 × List Ev)) | 41 => vG = .bool true | 44 => vG = .bool true | 47 => vG = .bool true | _ => True) wz ?hG ?hwant ?hoff (by kernel_rfl) ?hpure ?hmem ?hend (fun i => (#[u126, u127, u128, u129, u130, u131, u132, u133, u134, u135, u136, u137, u138, u139, u140, u141, u142, u143, u144, u145, u146, u147, u148, u149, u150, u151, u152, u153, u154, u155, u156, u157, u158, u159, u160, u161, u162, u163, u164, u165, u166, u167, u168, u169, u170, u171, u172, u173, u174, u0] : Array Value).getD i undef) rfl ?hstart
 case hstart =>
  exact below_drew (Below.refl _ _)
 case hMw =>
  intro i hi
  simp only [Bool.or_eq_true, beq_iff_eq] at hi
  rcases hi with ((((((((((((((((((((((((((((((((rfl | rfl) | rfl) | rfl) | rfl) | rfl) | rfl) | rfl) | rfl) | rfl) | rfl) | rfl) | rfl) | rfl) | rfl) | rfl) | rfl) | rfl) | rfl) | rfl) | rfl) | rfl) | rfl) | rfl) | rfl) | rfl) | rfl) | rfl) | rfl) | rfl) | rfl) | rfl) | rfl) | rfl
  all_goals rfl
 case hG =>
  intro i v W W' hi hg hb
  simp only [Bool.or_eq_true, beq_iff_eq] at hi
  rcases hi with ((((((((((((((((((((((((((((((((rfl | rfl) | rfl) | rfl) | rfl) | rfl) | rfl) | rfl) | rfl) | rfl) | rfl) | rfl) | rfl) | rfl) | rfl) | rfl) | rfl) | rfl) | rfl) | rfl) | rfl) | rfl) | rfl) | rfl) | rfl) | rfl) | rfl) | rfl) | rfl) | rfl) | rfl) | rfl) | rfl) | rfl
  ·have hg : v = .bool true := hg
   exact (show v = .bool true from hg)
  ·have hg : v = .agg #[.int .i64 1, .int .i64 0, .int .u8 0, .int .u8 6, .int .i64 0, .int .i64 0, .int .i64 0, .int .i64 0, .int .i64 0, .int .u64 0, .int .i64 0] := hg
   exact (show v = .agg #[.int .i64 1, .int .i64 0, .int .u8 0, .int .u8 6, .int .i64 0, .int .i64 0, .int .i64 0, .int .i64 0, .int .i64 0, .int .u64 0, .int .i64 0] from hg)
  ·have hg : v = .agg #[.int .i64 2, .int .i64 0, .int .u8 63, .int .u8 6, .int .i64 0, .int .i64 0, .int .i64 0, .int .i64 0, .int .i64 0, .int .u64 0, .int .i64 0] := hg
   exact (show v = .agg #[.int .i64 2, .int .i64 0, .int .u8 63, .int .u8 6, .int .i64 0, .int .i64 0, .int .i64 0, .int .i64 0, .int .i64 0, .int .u64 0, .int .i64 0] from hg)
  ·have hg : ∃ g, v = .slice (some ⟨g, 0, none⟩) 2 2 ∧ EV encE 11 W (.slice (some ⟨g, 0, none⟩) 2 2) [pickE 1 0, pickE 2 63] := hg
   exact (show ∃ g, v = .slice (some ⟨g, 0, none⟩) 2 2 ∧ EV encE 11 W' (.slice (some ⟨g, 0, none⟩) 2 2) [pickE 1 0, pickE 2 63] from (by obtain ⟨g, e1, e2⟩ := hg; exact ⟨g, e1, e2.below hb⟩))
  ·have hg : v = .agg #[.int .i64 2, .int .i64 0, .int .u8 63, .int .u8 6, .int .i64 0, .int .i64 0, .int .i64 0, .int .i64 0, .int .i64 0, .int .u64 0, .int .i64 0] := hg
   exact (show v = .agg #[.int .i64 2, .int .i64 0, .int .u8 63, .int .u8 6, .int .i64 0, .int .i64 0, .int .i64 0, .int .i64 0, .int .i64 0, .int .u64 0, .int .i64 0] from hg)
  ·have hg : ∃ g, v = .slice (some ⟨g, 0, none⟩) 1 1 ∧ EV encE 11 W (.slice (some ⟨g, 0, none⟩) 1 1) [pickE 2 63] := hg
   exact (show ∃ g, v = .slice (some ⟨g, 0, none⟩) 1 1 ∧ EV encE 11 W' (.slice (some ⟨g, 0, none⟩) 1 1) [pickE 2 63] from (by obtain ⟨g, e1, e2⟩ := hg; exact ⟨g, e1, e2.below hb⟩))
  ·have hg : ∃ g g130 g132, v = .slice (some ⟨g, 0, none⟩) 3 3 ∧ LsE W (.slice (some ⟨g, 0, none⟩) 3 3) ([((some ⟨g130, 0, none⟩, 2, 2), [pickE 1 0, pickE 2 63]), ((some ⟨g132, 0, none⟩, 1, 1), [pickE 2 63]), ((none, 0, 0), [])] : List (Sl3 × List Ev)) := hg
   exact (show ∃ g g130 g132, v = .slice (some ⟨g, 0, none⟩) 3 3 ∧ LsE W' (.slice (some ⟨g, 0, none⟩) 3 3) ([((some ⟨g130, 0, none⟩, 2, 2), [pickE 1 0, pickE 2 63]), ((some ⟨g132, 0, none⟩, 1, 1), [pickE 2 63]), ((none, 0, 0), [])] : List (Sl3 × List Ev)) from (by obtain ⟨g, g130, g132, e1, e2⟩ := hg; exact ⟨g, g130, g132, e1, e2.below hb⟩))
  ·have hg : v = .bool true := hg
   exact (show v = .bool true from hg)
  ·have hg : v = .agg #[.int .i64 1, .int .i64 0, .int .u8 0, .int .u8 6, .int .i64 0, .int .i64 0, .int .i64 0, .int .i64 0, .int .i64 0, .int .u64 0, .int .i64 0] := hg
   exact (show v = .agg #[.int .i64 1, .int .i64 0, .int .u8 0, .int .u8 6, .int .i64 0, .int .i64 0, .int .i64 0, .int .i64 0, .int .i64 0, .int .u64 0, .int .i64 0] from hg)
  ·have hg : v = .agg #[.int .i64 5, .int .i64 0, .int .u8 0, .int .u8 6, .int .i64 0, .int .i64 0, .int .i64 0, .int .i64 0, .int .i64 0, .int .u64 0, .int .i64 0] := hg
   exact (show v = .agg #[.int .i64 5, .int .i64 0, .int .u8 0, .int .u8 6, .int .i64 0, .int .i64 0, .int .i64 0, .int .i64 0, .int .i64 0, .int .u64 0, .int .i64 0] from hg)
  ·have hg : ∃ g, v = .slice (some ⟨g, 0, none⟩) 2 2 ∧ EV encE 11 W (.slice (some ⟨g, 0, none⟩) 2 2) [pickE 1 0, pickE 5 0] := hg
   exact (show ∃ g, v = .slice (some ⟨g, 0, none⟩) 2 2 ∧ EV encE 11 W' (.slice (some ⟨g, 0, none⟩) 2 2) [pickE 1 0, pickE 5 0] from (by obtain ⟨g, e1, e2⟩ := hg; exact ⟨g, e1, e2.below hb⟩))
  ·have hg : v = .agg #[.int .i64 5, .int .i64 0, .int .u8 0, .int .u8 6, .int .i64 0, .int .i64 0, .int .i64 0, .int .i64 0, .int .i64 0, .int .u64 0, .int .i64 0] := hg
   exact (show v = .agg #[.int .i64 5, .int .i64 0, .int .u8 0, .int .u8 6, .int .i64 0, .int .i64 0, .int .i64 0, .int .i64 0, .int .i64 0, .int .u64 0, .int .i64 0] from hg)
  ·have hg : ∃ g, v = .slice (some ⟨g, 0, none⟩) 1 1 ∧ EV encE 11 W (.slice (some ⟨g, 0, none⟩) 1 1) [pickE 5 0] := hg
   exact (show ∃ g, v = .slice (some ⟨g, 0, none⟩) 1 1 ∧ EV encE 11 W' (.slice (some ⟨g, 0, none⟩) 1 1) [pickE 5 0] from (by obtain ⟨g, e1, e2⟩ := hg; exact ⟨g, e1, e2.below hb⟩))
  ·have hg : v = .agg #[.int .i64 1, .int .i64 0, .int .u8 0, .int .u8 6, .int .i64 0, .int .i64 0, .int .i64 0, .int .i64 0, .int .i64 0, .int .u64 0, .int .i64 0] := hg
   exact (show v = .agg #[.int .i64 1, .int .i64 0, .int .u8 0, .int .u8 6, .int .i64 0, .int .i64 0, .int .i64 0, .int .i64 0, .int .i64 0, .int .u64 0, .int .i64 0] from hg)
  ·have hg : ∃ g, v = .slice (some ⟨g, 0, none⟩) 1 1 ∧ EV encE 11 W (.slice (some ⟨g, 0, none⟩) 1 1) [pickE 1 0] := hg
   exact (show ∃ g, v = .slice (some ⟨g, 0, none⟩) 1 1 ∧ EV encE 11 W' (.slice (some ⟨g, 0, none⟩) 1 1) [pickE 1 0] from (by obtain ⟨g, e1, e2⟩ := hg; exact ⟨g, e1, e2.below hb⟩))
  ·have hg : ∃ g g139 g141 g143, v = .slice (some ⟨g, 0, none⟩) 3 3 ∧ LsE W (.slice (some ⟨g, 0, none⟩) 3 3) ([((some ⟨g139, 0, none⟩, 2, 2), [pickE 1 0, pickE 5 0]), ((some ⟨g141, 0, none⟩, 1, 1), [pickE 5 0]), ((some ⟨g143, 0, none⟩, 1, 1), [pickE 1 0])] : List (Sl3 × List Ev)) := hg
   exact (show ∃ g g139 g141 g143, v = .slice (some ⟨g, 0, none⟩) 3 3 ∧ LsE W' (.slice (some ⟨g, 0, none⟩) 3 3) ([((some ⟨g139, 0, none⟩, 2, 2), [pickE 1 0, pickE 5 0]), ((some ⟨g141, 0, none⟩, 1, 1), [pickE 5 0]), ((some ⟨g143, 0, none⟩, 1, 1), [pickE 1 0])] : List (Sl3 × List Ev)) from (by obtain ⟨g, g139, g141, g143, e1, e2⟩ := hg; exact ⟨g, g139, g141, g143, e1, e2.below hb⟩))
  ·have hg : v = .bool true := hg
   exact (show v = .bool true from hg)
  ·have hg : v = .agg #[.int .i64 2, .int .i64 0, .int .u8 0, .int .u8 6, .int .i64 0, .int .i64 0, .int .i64 0, .int .i64 0, .int .i64 0, .int .u64 0, .int .i64 0] := hg
   exact (show v = .agg #[.int .i64 2, .int .i64 0, .int .u8 0, .int .u8 6, .int .i64 0, .int .i64 0, .int .i64 0, .int .i64 0, .int .i64 0, .int .u64 0, .int .i64 0] from hg)
  ·have hg : v = .agg #[.int .i64 2, .int .i64 0, .int .u8 0, .int .u8 6, .int .i64 0, .int .i64 0, .int .i64 0, .int .i64 0, .int .i64 0, .int .u64 0, .int .i64 0] := hg
   exact (show v = .agg #[.int .i64 2, .int .i64 0, .int .u8 0, .int .u8 6, .int .i64 0, .int .i64 0, .int .i64 0, .int .i64 0, .int .i64 0, .int .u64 0, .int .i64 0] from hg)
  ·have hg : ∃ g, v = .slice (some ⟨g, 0, none⟩) 2 2 ∧ EV encE 11 W (.slice (some ⟨g, 0, none⟩) 2 2) [pickE 2 0, pickE 2 0] := hg
   exact (show ∃ g, v = .slice (some ⟨g, 0, none⟩) 2 2 ∧ EV encE 11 W' (.slice (some ⟨g, 0, none⟩) 2 2) [pickE 2 0, pickE 2 0] from (by obtain ⟨g, e1, e2⟩ := hg; exact ⟨g, e1, e2.below hb⟩))
  ·have hg : ∃ g g150, v = .slice (some ⟨g, 0, none⟩) 1 1 ∧ LsE W (.slice (some ⟨g, 0, none⟩) 1 1) ([((some ⟨g150, 0, none⟩, 2, 2), [pickE 2 0, pickE 2 0])] : List (Sl3 × List Ev)) := hg
   exact (show ∃ g g150, v = .slice (some ⟨g, 0, none⟩) 1 1 ∧ LsE W' (.slice (some ⟨g, 0, none⟩) 1 1) ([((some ⟨g150, 0, none⟩, 2, 2), [pickE 2 0, pickE 2 0])] : List (Sl3 × List Ev)) from (by obtain ⟨g, g150, e1, e2⟩ := hg; exact ⟨g, g150, e1, e2.below hb⟩))
  ·have hg : v = .bool true := hg
   exact (show v = .bool true from hg)
  ·have hg : v = .agg #[.int .i64 1, .int .i64 0, .int .u8 0, .int .u8 6, .int .i64 0, .int .i64 0, .int .i64 0, .int .i64 0, .int .i64 0, .int .u64 0, .int .i64 0] := hg
   exact (show v = .agg #[.int .i64 1, .int .i64 0, .int .u8 0, .int .u8 6, .int .i64 0, .int .i64 0, .int .i64 0, .int .i64 0, .int .i64 0, .int .u64 0, .int .i64 0] from hg)
  ·have hg : ∃ g, v = .slice (some ⟨g, 0, none⟩) 1 1 ∧ EV encE 11 W (.slice (some ⟨g, 0, none⟩) 1 1) [pickE 1 0] := hg
   exact (show ∃ g, v = .slice (some ⟨g, 0, none⟩) 1 1 ∧ EV encE 11 W' (.slice (some ⟨g, 0, none⟩) 1 1) [pickE 1 0] from (by obtain ⟨g, e1, e2⟩ := hg; exact ⟨g, e1, e2.below hb⟩))
  ·have hg : ∃ g, v = .slice (some ⟨g, 0, none⟩) 1 1 ∧ EV encE 11 W (.slice (some ⟨g, 0, none⟩) 1 1) [badP] := hg
   exact (show ∃ g, v = .slice (some ⟨g, 0, none⟩) 1 1 ∧ EV encE 11 W' (.slice (some ⟨g, 0, none⟩) 1 1) [badP] from (by obtain ⟨g, e1, e2⟩ := hg; exact ⟨g, e1, e2.below hb⟩))
  ·have hg : ∃ g g156 g158, v = .slice (some ⟨g, 0, none⟩) 2 2 ∧ LsE W (.slice (some ⟨g, 0, none⟩) 2 2) ([((some ⟨g156, 0, none⟩, 1, 1), [pickE 1 0]), ((some ⟨g158, 0, none⟩, 1, 1), [badP])] : List (Sl3 × List Ev)) := hg
   exact (show ∃ g g156 g158, v = .slice (some ⟨g, 0, none⟩) 2 2 ∧ LsE W' (.slice (some ⟨g, 0, none⟩) 2 2) ([((some ⟨g156, 0, none⟩, 1, 1), [pickE 1 0]), ((some ⟨g158, 0, none⟩, 1, 1), [badP])] : List (Sl3 × List Ev)) from (by obtain ⟨g, g156, g158, e1, e2⟩ := hg; exact ⟨g, g156, g158, e1, e2.below hb⟩))
  ·have hg : v = .bool true := hg
   exact (show v = .bool true from hg)
  ·have hg : v = .agg #[.int .i64 2, .int .i64 0, .int .u8 0, .int .u8 6, .int .i64 0, .int .i64 0, .int .i64 0, .int .i64 0, .int .i64 0, .int .u64 0, .int .i64 0] := hg
   exact (show v = .agg #[.int .i64 2, .int .i64 0, .int .u8 0, .int .u8 6, .int .i64 0, .int .i64 0, .int .i64 0, .int .i64 0, .int .i64 0, .int .u64 0, .int .i64 0] from hg)
  ·have hg : v = .agg #[.int .i64 1, .int .i64 0, .int .u8 0, .int .u8 6, .int .i64 0, .int .i64 0, .int .i64 0, .int .i64 0, .int .i64 0, .int .u64 0, .int .i64 0] := hg
   exact (show v = .agg #[.int .i64 1, .int .i64 0, .int .u8 0, .int .u8 6, .int .i64 0, .int .i64 0, .int .i64 0, .int .i64 0, .int .i64 0, .int .u64 0, .int .i64 0] from hg)
  ·have hg : ∃ g, v = .slice (some ⟨g, 0, none⟩) 2 2 ∧ EV encE 11 W (.slice (some ⟨g, 0, none⟩) 2 2) [pickE 2 0, pickE 1 0] := hg
   exact (show ∃ g, v = .slice (some ⟨g, 0, none⟩) 2 2 ∧ EV encE 11 W' (.slice (some ⟨g, 0, none⟩) 2 2) [pickE 2 0, pickE 1 0] from (by obtain ⟨g, e1, e2⟩ := hg; exact ⟨g, e1, e2.below hb⟩))
  ·have hg : ∃ g g165, v = .slice (some ⟨g, 0, none⟩) 1 1 ∧ LsE W (.slice (some ⟨g, 0, none⟩) 1 1) ([((some ⟨g165, 0, none⟩, 2, 2), [pickE 2 0, pickE 1 0])] : List (Sl3 × List Ev)) := hg
   exact (show ∃ g g165, v = .slice (some ⟨g, 0, none⟩) 1 1 ∧ LsE W' (.slice (some ⟨g, 0, none⟩) 1 1) ([((some ⟨g165, 0, none⟩, 2, 2), [pickE 2 0, pickE 1 0])] : List (Sl3 × List Ev)) from (by obtain ⟨g, g165, e1, e2⟩ := hg; exact ⟨g, g165, e1, e2.below hb⟩))
  ·have hg : v = .bool true := hg
   exact (show v = .bool true from hg)
  ·have hg : v = .bool true := hg
   exact (show v = .bool true from hg)
  ·have hg : v = .bool true := hg
   exact (show v = .bool true from hg)
 case hwant =>
  intro iF o hi ho x hf
  rcases (show iF = 0 ∨ iF = 1 ∨ iF = 2 ∨ iF = 3 ∨ iF = 4 ∨ iF = 5 ∨ iF = 6 ∨ iF = 7 ∨ iF = 8 ∨ iF = 9 ∨ iF = 10 ∨ iF = 11 ∨ iF = 12 ∨ iF = 13 ∨ iF = 14 ∨ iF = 15 ∨ iF = 16 ∨ iF = 17 ∨ iF = 18 ∨ iF = 19 ∨ iF = 20 ∨ iF = 21 ∨ iF = 22 ∨ iF = 23 ∨ iF = 24 ∨ iF = 25 ∨ iF = 26 ∨ iF = 27 ∨ iF = 28 ∨ iF = 29 ∨ iF = 30 ∨ iF = 31 ∨ iF = 32 ∨ iF = 33 ∨ iF = 34 ∨ iF = 35 ∨ iF = 36 ∨ iF = 37 ∨ iF = 38 ∨ iF = 39 ∨ iF = 40 ∨ iF = 41 ∨ iF = 42 ∨ iF = 43 ∨ iF = 44 ∨ iF = 45 ∨ iF = 46 ∨ iF = 47 ∨ iF = 48 ∨ iF = 49 by omega) with rfl | rfl | rfl | rfl | rfl | rfl | rfl | rfl | rfl | rfl | rfl | rfl | rfl | rfl | rfl | rfl | rfl | rfl | rfl | rfl | rfl | rfl | rfl | rfl | rfl | rfl | rfl | rfl | rfl | rfl | rfl | rfl | rfl | rfl | rfl | rfl | rfl | rfl | rfl | rfl | rfl | rfl | rfl | rfl | rfl | rfl | rfl | rfl | rfl | rfl <;> obtain rfl := Option.some.inj ho
  ·rfl
  ·rfl
  ·exact want_v (v := x 1) (hf 1 (by kernel_rfl) (by kernel_rfl)) rfl
  ·exact want_v (v := x 1) (hf 1 (by kernel_rfl) (by kernel_rfl)) rfl
  ·exact want_v (v := x 1) (hf 1 (by kernel_rfl) (by kernel_rfl)) rfl
  ·exact want_v (v := x 1) (hf 1 (by kernel_rfl) (by kernel_rfl)) rfl
  ·exact want_v (v := x 1) (hf 1 (by kernel_rfl) (by kernel_rfl)) rfl
  ·exact want_v (v := x 1) (hf 1 (by kernel_rfl) (by kernel_rfl)) rfl
  ·exact want_v (v := x 1) (hf 1 (by kernel_rfl) (by kernel_rfl)) rfl
  ·rfl
  ·rfl
  ·exact want_v (v := x 10) (hf 10 (by kernel_rfl) (by kernel_rfl)) rfl
  ·exact want_v (v := x 10) (hf 10 (by kernel_rfl) (by kernel_rfl)) rfl
  ·exact want_v (v := x 10) (hf 10 (by kernel_rfl) (by kernel_rfl)) rfl
  ·exact want_v (v := x 10) (hf 10 (by kernel_rfl) (by kernel_rfl)) rfl
  ·exact want_v (v := x 10) (hf 10 (by kernel_rfl) (by kernel_rfl)) rfl
  ·exact want_v (v := x 10) (hf 10 (by kernel_rfl) (by kernel_rfl)) rfl
  ·exact want_v (v := x 10) (hf 10 (by kernel_rfl) (by kernel_rfl)) rfl
  ·exact want_v (v := x 10) (hf 10 (by kernel_rfl) (by kernel_rfl)) rfl
  ·exact want_v (v := x 10) (hf 10 (by kernel_rfl) (by kernel_rfl)) rfl
  ·rfl
  ·rfl
  ·exact want_v (v := x 21) (hf 21 (by kernel_rfl) (by kernel_rfl)) rfl
  ·exact want_v (v := x 21) (hf 21 (by kernel_rfl) (by kernel_rfl)) rfl
  ·exact want_v (v := x 21) (hf 21 (by kernel_rfl) (by kernel_rfl)) rfl
  ·exact want_v (v := x 21) (hf 21 (by kernel_rfl) (by kernel_rfl)) rfl
  ·exact want_v (v := x 21) (hf 21 (by kernel_rfl) (by kernel_rfl)) rfl
  ·rfl
  ·rfl
  ·exact want_v (v := x 28) (hf 28 (by kernel_rfl) (by kernel_rfl)) rfl
  ·exact want_v (v := x 28) (hf 28 (by kernel_rfl) (by kernel_rfl)) rfl
  ·exact want_v (v := x 28) (hf 28 (by kernel_rfl) (by kernel_rfl)) rfl
  ·exact want_v (v := x 28) (hf 28 (by kernel_rfl) (by kernel_rfl)) rfl
  ·exact want_v (v := x 28) (hf 28 (by kernel_rfl) (by kernel_rfl)) rfl
  ·exact want_v (v := x 28) (hf 28 (by kernel_rfl) (by kernel_rfl)) rfl
  ·rfl
  ·rfl
  ·exact want_v (v := x 36) (hf 36 (by kernel_rfl) (by kernel_rfl)) rfl
  ·exact want_v (v := x 36) (hf 36 (by kernel_rfl) (by kernel_rfl)) rfl
  ·exact want_v (v := x 36) (hf 36 (by kernel_rfl) (by kernel_rfl)) rfl
  ·exact want_v (v := x 36) (hf 36 (by kernel_rfl) (by kernel_rfl)) rfl
  ·exact want_v (v := x 36) (hf 36 (by kernel_rfl) (by kernel_rfl)) rfl
  ·rfl
  ·rfl
  ·exact want_v (v := x 43) (hf 43 (by kernel_rfl) (by kernel_rfl)) rfl
  ·rfl
  ·rfl
  ·exact want_v (v := x 46) (hf 46 (by kernel_rfl) (by kernel_rfl)) rfl
  ·rfl
  ·rfl
 case hoff =>
  intro iF o hi hw ho x
  rcases (show iF = 0 ∨ iF = 1 ∨ iF = 2 ∨ iF = 3 ∨ iF = 4 ∨ iF = 5 ∨ iF = 6 ∨ iF = 7 ∨ iF = 8 ∨ iF = 9 ∨ iF = 10 ∨ iF = 11 ∨ iF = 12 ∨ iF = 13 ∨ iF = 14 ∨ iF = 15 ∨ iF = 16 ∨ iF = 17 ∨ iF = 18 ∨ iF = 19 ∨ iF = 20 ∨ iF = 21 ∨ iF = 22 ∨ iF = 23 ∨ iF = 24 ∨ iF = 25 ∨ iF = 26 ∨ iF = 27 ∨ iF = 28 ∨ iF = 29 ∨ iF = 30 ∨ iF = 31 ∨ iF = 32 ∨ iF = 33 ∨ iF = 34 ∨ iF = 35 ∨ iF = 36 ∨ iF = 37 ∨ iF = 38 ∨ iF = 39 ∨ iF = 40 ∨ iF = 41 ∨ iF = 42 ∨ iF = 43 ∨ iF = 44 ∨ iF = 45 ∨ iF = 46 ∨ iF = 47 ∨ iF = 48 ∨ iF = 49 by omega) with rfl | rfl | rfl | rfl | rfl | rfl | rfl | rfl | rfl | rfl | rfl | rfl | rfl | rfl | rfl | rfl | rfl | rfl | rfl | rfl | rfl | rfl | rfl | rfl | rfl | rfl | rfl | rfl | rfl | rfl | rfl | rfl | rfl | rfl | rfl | rfl | rfl | rfl | rfl | rfl | rfl | rfl | rfl | rfl | rfl | rfl | rfl | rfl | rfl | rfl
  all_goals first | exact absurd (show true = false from hw) (by simp) | skip
 case hpure =>
  intro iF o hi hnm hww ho x W hb hd hg Kq hK
  rcases (show iF = 0 ∨ iF = 1 ∨ iF = 2 ∨ iF = 3 ∨ iF = 4 ∨ iF = 5 ∨ iF = 6 ∨ iF = 7 ∨ iF = 8 ∨ iF = 9 ∨ iF = 10 ∨ iF = 11 ∨ iF = 12 ∨ iF = 13 ∨ iF = 14 ∨ iF = 15 ∨ iF = 16 ∨ iF = 17 ∨ iF = 18 ∨ iF = 19 ∨ iF = 20 ∨ iF = 21 ∨ iF = 22 ∨ iF = 23 ∨ iF = 24 ∨ iF = 25 ∨ iF = 26 ∨ iF = 27 ∨ iF = 28 ∨ iF = 29 ∨ iF = 30 ∨ iF = 31 ∨ iF = 32 ∨ iF = 33 ∨ iF = 34 ∨ iF = 35 ∨ iF = 36 ∨ iF = 37 ∨ iF = 38 ∨ iF = 39 ∨ iF = 40 ∨ iF = 41 ∨ iF = 42 ∨ iF = 43 ∨ iF = 44 ∨ iF = 45 ∨ iF = 46 ∨ iF = 47 ∨ iF = 48 ∨ iF = 49 by omega) with rfl | rfl | rfl | rfl | rfl | rfl | rfl | rfl | rfl | rfl | rfl | rfl | rfl | rfl | rfl | rfl | rfl | rfl | rfl | rfl | rfl | rfl | rfl | rfl | rfl | rfl | rfl | rfl | rfl | rfl | rfl | rfl | rfl | rfl | rfl | rfl | rfl | rfl | rfl | rfl | rfl | rfl | rfl | rfl | rfl | rfl | rfl | rfl | rfl | rfl <;> obtain rfl := Option.some.inj ho
  all_goals first | exact absurd (show true = false from hnm) (by simp) | skip
  ·have e0 : x 0 = .bool true := hg 0 (by kernel_rfl) rfl
   clear ho hd hg hnm hi hww hb
   simp only [upd, reduceIte, Nat.reduceEqDiff, e0] at hK
   try dsimp only
   try rw [e0]
   go_simp
   exact hK _ rfl
  ·have e1 : x 1 = .bool true := hd 1 (by kernel_rfl) (by kernel_rfl)
   have e8 : x 8 = .bool true := hg 8 (by kernel_rfl) rfl
   clear ho hd hg hnm hi hww hb
   simp only [upd, reduceIte, Nat.reduceEqDiff, e1, e8] at hK
   try dsimp only
   try rw [e1]
   try rw [e8]
   go_simp
   exact hK _ rfl
  ·have e9 : x 9 = .bool true := hd 9 (by kernel_rfl) (by kernel_rfl)
   clear ho hd hg hnm hi hww hb
   simp only [upd, reduceIte, Nat.reduceEqDiff, e9] at hK
   try dsimp only
   try rw [e9]
   go_simp
   exact hK _ rfl
  ·have e10 : x 10 = .bool true := hd 10 (by kernel_rfl) (by kernel_rfl)
   have e19 : x 19 = .bool true := hg 19 (by kernel_rfl) rfl
   clear ho hd hg hnm hi hww hb
   simp only [upd, reduceIte, Nat.reduceEqDiff, e10, e19] at hK
   try dsimp only
   try rw [e10]
   try rw [e19]
   go_simp
   exact hK _ rfl
  ·have e20 : x 20 = .bool true := hd 20 (by kernel_rfl) (by kernel_rfl)
   clear ho hd hg hnm hi hww hb
   simp only [upd, reduceIte, Nat.reduceEqDiff, e20] at hK
   try dsimp only
   try rw [e20]
   go_simp
   exact hK _ rfl
  ·have e21 : x 21 = .bool true := hd 21 (by kernel_rfl) (by kernel_rfl)
   have e26 : x 26 = .bool true := hg 26 (by kernel_rfl) rfl
   clear ho hd hg hnm hi hww hb
   simp only [upd, reduceIte, Nat.reduceEqDiff, e21, e26] at hK
   try dsimp only
   try rw [e21]
   try rw [e26]
   go_simp
   exact hK _ rfl
  ·have e27 : x 27 = .bool true := hd 27 (by kernel_rfl) (by kernel_rfl)
   clear ho hd hg hnm hi hww hb
   simp only [upd, reduceIte, Nat.reduceEqDiff, e27] at hK
   try dsimp only
   try rw [e27]
   go_simp
   exact hK _ rfl
  ·have cz0 := below_cell hb HX.out.1
   have cz1 := below_cell hb HX.out.2.1
   have cz2 := below_cell hb HX.out.2.2.1
   have cz3 := below_cell hb HX.out.2.2.2.1
   have cz4 := below_cell hb HX.out.2.2.2.2.1
   have cz5 := below_cell hb HX.out.2.2.2.2.2.1
   have cz6 := below_cell hb HX.out.2.2.2.2.2.2.1
   have cz7 := below_cell hb HX.out.2.2.2.2.2.2.2.1
   have cz8 := below_cell hb HX.out.2.2.2.2.2.2.2.2.1
   have cz9 := below_cell hb HX.out.2.2.2.2.2.2.2.2.2.1
   have cz10 := below_cell hb HX.out.2.2.2.2.2.2.2.2.2.2
   clear ho hd hg hnm hi hww hb
   simp only [upd, reduceIte, Nat.reduceEqDiff] at hK
   try dsimp only
   go_simp
   exact hK _ rfl
  ·have e28 : x 28 = .bool true := hd 28 (by kernel_rfl) (by kernel_rfl)
   have e34 : x 34 = .bool true := hg 34 (by kernel_rfl) rfl
   clear ho hd hg hnm hi hww hb
   simp only [upd, reduceIte, Nat.reduceEqDiff, e28, e34] at hK
   try dsimp only
   try rw [e28]
   try rw [e34]
   go_simp
   exact hK _ rfl
  ·have e35 : x 35 = .bool true := hd 35 (by kernel_rfl) (by kernel_rfl)
   clear ho hd hg hnm hi hww hb
   simp only [upd, reduceIte, Nat.reduceEqDiff, e35] at hK
   try dsimp only
   try rw [e35]
   go_simp
   exact hK _ rfl
  ·have e36 : x 36 = .bool true := hd 36 (by kernel_rfl) (by kernel_rfl)
   have e41 : x 41 = .bool true := hg 41 (by kernel_rfl) rfl
   clear ho hd hg hnm hi hww hb
   simp only [upd, reduceIte, Nat.reduceEqDiff, e36, e41] at hK
   try dsimp only
   try rw [e36]
   try rw [e41]
   go_simp
   exact hK _ rfl
  ·have e42 : x 42 = .bool true := hd 42 (by kernel_rfl) (by kernel_rfl)
   clear ho hd hg hnm hi hww hb
   simp only [upd, reduceIte, Nat.reduceEqDiff, e42] at hK
   try dsimp only
   try rw [e42]
   go_simp
   exact hK _ rfl
  ·have e43 : x 43 = .bool true := hd 43 (by kernel_rfl) (by kernel_rfl)
   have e44 : x 44 = .bool true := hg 44 (by kernel_rfl) rfl
   clear ho hd hg hnm hi hww hb
   simp only [upd, reduceIte, Nat.reduceEqDiff, e43, e44] at hK
   try dsimp only
   try rw [e43]
   try rw [e44]
   go_simp
   exact hK _ rfl
  ·have e45 : x 45 = .bool true := hd 45 (by kernel_rfl) (by kernel_rfl)
   clear ho hd hg hnm hi hww hb
   simp only [upd, reduceIte, Nat.reduceEqDiff, e45] at hK
   try dsimp only
   try rw [e45]
   go_simp
   exact hK _ rfl
  ·have e46 : x 46 = .bool true := hd 46 (by kernel_rfl) (by kernel_rfl)
   have e47 : x 47 = .bool true := hg 47 (by kernel_rfl) rfl
   clear ho hd hg hnm hi hww hb
   simp only [upd, reduceIte, Nat.reduceEqDiff, e46, e47] at hK
   try dsimp only
   try rw [e46]
   try rw [e47]
   go_simp
   exact hK _ rfl
  ·have e48 : x 48 = .bool true := hd 48 (by kernel_rfl) (by kernel_rfl)
   clear ho hd hg hnm hi hww hb
   simp only [upd, reduceIte, Nat.reduceEqDiff, e48] at hK
   try dsimp only
   try rw [e48]
   go_simp
   exact hK _ rfl
 case hmem =>
  intro iF o hi hmm ho x W hb hd hg Kq hK
  rcases (show iF = 0 ∨ iF = 1 ∨ iF = 2 ∨ iF = 3 ∨ iF = 4 ∨ iF = 5 ∨ iF = 6 ∨ iF = 7 ∨ iF = 8 ∨ iF = 9 ∨ iF = 10 ∨ iF = 11 ∨ iF = 12 ∨ iF = 13 ∨ iF = 14 ∨ iF = 15 ∨ iF = 16 ∨ iF = 17 ∨ iF = 18 ∨ iF = 19 ∨ iF = 20 ∨ iF = 21 ∨ iF = 22 ∨ iF = 23 ∨ iF = 24 ∨ iF = 25 ∨ iF = 26 ∨ iF = 27 ∨ iF = 28 ∨ iF = 29 ∨ iF = 30 ∨ iF = 31 ∨ iF = 32 ∨ iF = 33 ∨ iF = 34 ∨ iF = 35 ∨ iF = 36 ∨ iF = 37 ∨ iF = 38 ∨ iF = 39 ∨ iF = 40 ∨ iF = 41 ∨ iF = 42 ∨ iF = 43 ∨ iF = 44 ∨ iF = 45 ∨ iF = 46 ∨ iF = 47 ∨ iF = 48 ∨ iF = 49 by omega) with rfl | rfl | rfl | rfl | rfl | rfl | rfl | rfl | rfl | rfl | rfl | rfl | rfl | rfl | rfl | rfl | rfl | rfl | rfl | rfl | rfl | rfl | rfl | rfl | rfl | rfl | rfl | rfl | rfl | rfl | rfl | rfl | rfl | rfl | rfl | rfl | rfl | rfl | rfl | rfl | rfl | rfl | rfl | rfl | rfl | rfl | rfl | rfl | rfl | rfl <;> obtain rfl := Option.some.inj ho
  all_goals first | exact absurd (show false = true from hmm) (by simp) | skip
  ·clear ho hd hg hmm hi
   simp only [upd, reduceIte, Nat.reduceEqDiff] at hK
   try dsimp only
   go_simp
   go_at_call 17
   refine (rows_ok W (.slice none 0 0) [] ⟨EV.nilv, fun x hx => (by cases hx)⟩ (fun x hx => (by cases hx)) (by simp) (HU.out.below (HB.out.trans (hb.mono HB.out.size)))).mono ?_
   rintro r W2 ⟨rfl, bb⟩
   go_simp
   exact hK _ _ bb (rfl)
  ·clear ho hd hg hmm hi
   simp only [upd, reduceIte, Nat.reduceEqDiff] at hK
   try dsimp only
   go_simp
   go_at_call 14
   refine (pick_ok W 1 0).mono ?_
   rintro r W2 ⟨rfl, bb⟩
   unfold evA pickE
   dsimp only
   go_simp
   exact hK _ _ bb (rfl)
  ·clear ho hd hg hmm hi
   simp only [upd, reduceIte, Nat.reduceEqDiff] at hK
   try dsimp only
   go_simp
   go_at_call 14
   refine (pick_ok W 2 63).mono ?_
   rintro r W2 ⟨rfl, bb⟩
   unfold evA pickE
   dsimp only
   go_simp
   exact hK _ _ bb (rfl)
  ·have e2 : x 2 = .agg #[.int .i64 1, .int .i64 0, .int .u8 0, .int .u8 6, .int .i64 0, .int .i64 0, .int .i64 0, .int .i64 0, .int .i64 0, .int .u64 0, .int .i64 0] := hg 2 (by kernel_rfl) rfl
   have e3 : x 3 = .agg #[.int .i64 2, .int .i64 0, .int .u8 63, .int .u8 6, .int .i64 0, .int .i64 0, .int .i64 0, .int .i64 0, .int .i64 0, .int .u64 0, .int .i64 0] := hg 3 (by kernel_rfl) rfl
   clear ho hd hg hmm hi
   simp only [upd, reduceIte, Nat.reduceEqDiff, e2, e3] at hK
   try dsimp only
   try rw [e2]
   try rw [e3]
   go_simp
   have bb := bel_alloc W (.cells #[.int .i64 1, .int .i64 0, .int .u8 0, .int .u8 6, .int .i64 0, .int .i64 0, .int .i64 0, .int .i64 0, .int .i64 0, .int .u64 0, .int .i64 0, .int .i64 2, .int .i64 0, .int .u8 63, .int .u8 6, .int .i64 0, .int .i64 0, .int .i64 0, .int .i64 0, .int .i64 0, .int .u64 0, .int .i64 0] 28)
   exact hK _ _ bb (⟨W.heap.size, rfl, EV.newL encE_len rfl rfl (Nat.le_refl _)⟩)
  ·clear ho hd hg hmm hi
   simp only [upd, reduceIte, Nat.reduceEqDiff] at hK
   try dsimp only
   go_simp
   go_at_call 14
   refine (pick_ok W 2 63).mono ?_
   rintro r W2 ⟨rfl, bb⟩
   unfold evA pickE
   dsimp only
   go_simp
   exact hK _ _ bb (rfl)
  ·have e5 : x 5 = .agg #[.int .i64 2, .int .i64 0, .int .u8 63, .int .u8 6, .int .i64 0, .int .i64 0, .int .i64 0, .int .i64 0, .int .i64 0, .int .u64 0, .int .i64 0] := hg 5 (by kernel_rfl) rfl
   clear ho hd hg hmm hi
   simp only [upd, reduceIte, Nat.reduceEqDiff, e5] at hK
   try dsimp only
   try rw [e5]
   go_simp
   have bb := bel_alloc W (.cells #[.int .i64 2, .int .i64 0, .int .u8 63, .int .u8 6, .int .i64 0, .int .i64 0, .int .i64 0, .int .i64 0, .int .i64 0, .int .u64 0, .int .i64 0] 28)
   exact hK _ _ bb (⟨W.heap.size, rfl, EV.newL encE_len rfl rfl (Nat.le_refl _)⟩)
  ·have q4 : ∃ g, (x 4) = .slice (some ⟨g, 0, none⟩) 2 2 ∧ EV encE 11 W (.slice (some ⟨g, 0, none⟩) 2 2) [pickE 1 0, pickE 2 63] := hg 4 (by kernel_rfl) rfl
   have q6 : ∃ g, (x 6) = .slice (some ⟨g, 0, none⟩) 1 1 ∧ EV encE 11 W (.slice (some ⟨g, 0, none⟩) 1 1) [pickE 2 63] := hg 6 (by kernel_rfl) rfl
   obtain ⟨g130, e130, w130⟩ := q4
   obtain ⟨g132, e132, w132⟩ := q6
   clear ho hd hg hmm hi
   simp only [upd, reduceIte, Nat.reduceEqDiff, e130, e132] at hK
   try dsimp only
   try rw [e130]
   try rw [e132]
   go_simp
   have bb := bel_alloc W (.cells #[.slice (some ⟨g130, 0, none⟩) 2 2, .slice (some ⟨g132, 0, none⟩) 1 1, .slice none 0 0] 22)
   exact hK _ _ bb (⟨W.heap.size, _, _, rfl, EV.newL encSe_len rfl rfl (Nat.le_refl _), fun y hy => (by simp only [List.mem_cons, List.not_mem_nil, or_false] at hy; rcases hy with rfl | rfl | rfl <;> first | exact (w130.below bb) | exact (w132.below bb) | exact EV.nilv)⟩)
  ·have q7 : ∃ g g130 g132, (x 7) = .slice (some ⟨g, 0, none⟩) 3 3 ∧ LsE W (.slice (some ⟨g, 0, none⟩) 3 3) ([((some ⟨g130, 0, none⟩, 2, 2), [pickE 1 0, pickE 2 63]), ((some ⟨g132, 0, none⟩, 1, 1), [pickE 2 63]), ((none, 0, 0), [])] : List (Sl3 × List Ev)) := hg 7 (by kernel_rfl) rfl
   obtain ⟨g, g130, g132, e1, e2⟩ := q7
   clear ho hd hg hmm hi
   simp only [upd, reduceIte, Nat.reduceEqDiff, e1] at hK
   try dsimp only
   try rw [e1]
   go_simp
   go_at_call 17
   refine (rows_ok W _ _ e2 ?h134 (by simp) (HU.out.below (HB.out.trans (hb.mono HB.out.size)))).mono ?_
   case h134 => exact lit_ok _ [[pickE 1 0, pickE 2 63], [pickE 2 63], []] rfl (by decide)
   rintro r W2 ⟨rfl, bb⟩
   go_simp
   exact hK _ _ bb (rfl)
  ·clear ho hd hg hmm hi
   simp only [upd, reduceIte, Nat.reduceEqDiff] at hK
   try dsimp only
   go_simp
   go_at_call 14
   refine (pick_ok W 1 0).mono ?_
   rintro r W2 ⟨rfl, bb⟩
   unfold evA pickE
   dsimp only
   go_simp
   exact hK _ _ bb (rfl)
  ·clear ho hd hg hmm hi
   simp only [upd, reduceIte, Nat.reduceEqDiff] at hK
   try dsimp only
   go_simp
   go_at_call 14
   refine (pick_ok W 5 0).mono ?_
   rintro r W2 ⟨rfl, bb⟩
   unfold evA pickE
   dsimp only
   go_simp
   exact hK _ _ bb (rfl)
  ·have e11 : x 11 = .agg #[.int .i64 1, .int .i64 0, .int .u8 0, .int .u8 6, .int .i64 0, .int .i64 0, .int .i64 0, .int .i64 0, .int .i64 0, .int .u64 0, .int .i64 0] := hg 11 (by kernel_rfl) rfl
   have e12 : x 12 = .agg #[.int .i64 5, .int .i64 0, .int .u8 0, .int .u8 6, .int .i64 0, .int .i64 0, .int .i64 0, .int .i64 0, .int .i64 0, .int .u64 0, .int .i64 0] := hg 12 (by kernel_rfl) rfl
   clear ho hd hg hmm hi
   simp only [upd, reduceIte, Nat.reduceEqDiff, e11, e12] at hK
   try dsimp only
   try rw [e11]
   try rw [e12]
   go_simp
   have bb := bel_alloc W (.cells #[.int .i64 1, .int .i64 0, .int .u8 0, .int .u8 6, .int .i64 0, .int .i64 0, .int .i64 0, .int .i64 0, .int .i64 0, .int .u64 0, .int .i64 0, .int .i64 5, .int .i64 0, .int .u8 0, .int .u8 6, .int .i64 0, .int .i64 0, .int .i64 0, .int .i64 0, .int .i64 0, .int .u64 0, .int .i64 0] 28)
   exact hK _ _ bb (⟨W.heap.size, rfl, EV.newL encE_len rfl rfl (Nat.le_refl _)⟩)
  ·clear ho hd hg hmm hi
   simp only [upd, reduceIte, Nat.reduceEqDiff] at hK
   try dsimp only
   go_simp
   go_at_call 14
   refine (pick_ok W 5 0).mono ?_
   rintro r W2 ⟨rfl, bb⟩
   unfold evA pickE
   dsimp only
   go_simp
   exact hK _ _ bb (rfl)
  ·have e14 : x 14 = .agg #[.int .i64 5, .int .i64 0, .int .u8 0, .int .u8 6, .int .i64 0, .int .i64 0, .int .i64 0, .int .i64 0, .int .i64 0, .int .u64 0, .int .i64 0] := hg 14 (by kernel_rfl) rfl
   clear ho hd hg hmm hi
   simp only [upd, reduceIte, Nat.reduceEqDiff, e14] at hK
   try dsimp only
   try rw [e14]
   go_simp
   have bb := bel_alloc W (.cells #[.int .i64 5, .int .i64 0, .int .u8 0, .int .u8 6, .int .i64 0, .int .i64 0, .int .i64 0, .int .i64 0, .int .i64 0, .int .u64 0, .int .i64 0] 28)
   exact hK _ _ bb (⟨W.heap.size, rfl, EV.newL encE_len rfl rfl (Nat.le_refl _)⟩)
  ·clear ho hd hg hmm hi
   simp only [upd, reduceIte, Nat.reduceEqDiff] at hK
   try dsimp only
   go_simp
   go_at_call 14
   refine (pick_ok W 1 0).mono ?_
   rintro r W2 ⟨rfl, bb⟩
   unfold evA pickE
   dsimp only
   go_simp
   exact hK _ _ bb (rfl)
  ·have e16 : x 16 = .agg #[.int .i64 1, .int .i64 0, .int .u8 0, .int .u8 6, .int .i64 0, .int .i64 0, .int .i64 0, .int .i64 0, .int .i64 0, .int .u64 0, .int .i64 0] := hg 16 (by kernel_rfl) rfl
   clear ho hd hg hmm hi
   simp only [upd, reduceIte, Nat.reduceEqDiff, e16] at hK
   try dsimp only
   try rw [e16]
   go_simp
   have bb := bel_alloc W (.cells #[.int .i64 1, .int .i64 0, .int .u8 0, .int .u8 6, .int .i64 0, .int .i64 0, .int .i64 0, .int .i64 0, .int .i64 0, .int .u64 0, .int .i64 0] 28)
   exact hK _ _ bb (⟨W.heap.size, rfl, EV.newL encE_len rfl rfl (Nat.le_refl _)⟩)
  ·have q13 : ∃ g, (x 13) = .slice (some ⟨g, 0, none⟩) 2 2 ∧ EV encE 11 W (.slice (some ⟨g, 0, none⟩) 2 2) [pickE 1 0, pickE 5 0] := hg 13 (by kernel_rfl) rfl
   have q15 : ∃ g, (x 15) = .slice (some ⟨g, 0, none⟩) 1 1 ∧ EV encE 11 W (.slice (some ⟨g, 0, none⟩) 1 1) [pickE 5 0] := hg 15 (by kernel_rfl) rfl
   have q17 : ∃ g, (x 17) = .slice (some ⟨g, 0, none⟩) 1 1 ∧ EV encE 11 W (.slice (some ⟨g, 0, none⟩) 1 1) [pickE 1 0] := hg 17 (by kernel_rfl) rfl
   obtain ⟨g139, e139, w139⟩ := q13
   obtain ⟨g141, e141, w141⟩ := q15
   obtain ⟨g143, e143, w143⟩ := q17
   clear ho hd hg hmm hi
   simp only [upd, reduceIte, Nat.reduceEqDiff, e139, e141, e143] at hK
   try dsimp only
   try rw [e139]
   try rw [e141]
   try rw [e143]
   go_simp
   have bb := bel_alloc W (.cells #[.slice (some ⟨g139, 0, none⟩) 2 2, .slice (some ⟨g141, 0, none⟩) 1 1, .slice (some ⟨g143, 0, none⟩) 1 1] 22)
   exact hK _ _ bb (⟨W.heap.size, _, _, _, rfl, EV.newL encSe_len rfl rfl (Nat.le_refl _), fun y hy => (by simp only [List.mem_cons, List.not_mem_nil, or_false] at hy; rcases hy with rfl | rfl | rfl <;> first | exact (w139.below bb) | exact (w141.below bb) | exact (w143.below bb))⟩)
  ·have q18 : ∃ g g139 g141 g143, (x 18) = .slice (some ⟨g, 0, none⟩) 3 3 ∧ LsE W (.slice (some ⟨g, 0, none⟩) 3 3) ([((some ⟨g139, 0, none⟩, 2, 2), [pickE 1 0, pickE 5 0]), ((some ⟨g141, 0, none⟩, 1, 1), [pickE 5 0]), ((some ⟨g143, 0, none⟩, 1, 1), [pickE 1 0])] : List (Sl3 × List Ev)) := hg 18 (by kernel_rfl) rfl
   obtain ⟨g, g139, g141, g143, e1, e2⟩ := q18
   clear ho hd hg hmm hi
   simp only [upd, reduceIte, Nat.reduceEqDiff, e1] at hK
   try dsimp only
   try rw [e1]
   go_simp
   go_at_call 17
   refine (rows_ok W _ _ e2 ?h145 (by simp) (HU.out.below (HB.out.trans (hb.mono HB.out.size)))).mono ?_
   case h145 => exact lit_ok _ [[pickE 1 0, pickE 5 0], [pickE 5 0], [pickE 1 0]] rfl (by decide)
   rintro r W2 ⟨rfl, bb⟩
   go_simp
   exact hK _ _ bb (rfl)
  ·clear ho hd hg hmm hi
   simp only [upd, reduceIte, Nat.reduceEqDiff] at hK
   try dsimp only
   go_simp
   go_at_call 14
   refine (pick_ok W 2 0).mono ?_
   rintro r W2 ⟨rfl, bb⟩
   unfold evA pickE
   dsimp only
   go_simp
   exact hK _ _ bb (rfl)
  ·clear ho hd hg hmm hi
   simp only [upd, reduceIte, Nat.reduceEqDiff] at hK
   try dsimp only
   go_simp
   go_at_call 14
   refine (pick_ok W 2 0).mono ?_
   rintro r W2 ⟨rfl, bb⟩
   unfold evA pickE
   dsimp only
   go_simp
   exact hK _ _ bb (rfl)
  ·have e22 : x 22 = .agg #[.int .i64 2, .int .i64 0, .int .u8 0, .int .u8 6, .int .i64 0, .int .i64 0, .int .i64 0, .int .i64 0, .int .i64 0, .int .u64 0, .int .i64 0] := hg 22 (by kernel_rfl) rfl
   have e23 : x 23 = .agg #[.int .i64 2, .int .i64 0, .int .u8 0, .int .u8 6, .int .i64 0, .int .i64 0, .int .i64 0, .int .i64 0, .int .i64 0, .int .u64 0, .int .i64 0] := hg 23 (by kernel_rfl) rfl
   clear ho hd hg hmm hi
   simp only [upd, reduceIte, Nat.reduceEqDiff, e22, e23] at hK
   try dsimp only
   try rw [e22]
   try rw [e23]
   go_simp
   have bb := bel_alloc W (.cells #[.int .i64 2, .int .i64 0, .int .u8 0, .int .u8 6, .int .i64 0, .int .i64 0, .int .i64 0, .int .i64 0, .int .i64 0, .int .u64 0, .int .i64 0, .int .i64 2, .int .i64 0, .int .u8 0, .int .u8 6, .int .i64 0, .int .i64 0, .int .i64 0, .int .i64 0, .int .i64 0, .int .u64 0, .int .i64 0] 28)
   exact hK _ _ bb (⟨W.heap.size, rfl, EV.newL encE_len rfl rfl (Nat.le_refl _)⟩)
  ·have q24 : ∃ g, (x 24) = .slice (some ⟨g, 0, none⟩) 2 2 ∧ EV encE 11 W (.slice (some ⟨g, 0, none⟩) 2 2) [pickE 2 0, pickE 2 0] := hg 24 (by kernel_rfl) rfl
   obtain ⟨g150, e150, w150⟩ := q24
   clear ho hd hg hmm hi
   simp only [upd, reduceIte, Nat.reduceEqDiff, e150] at hK
   try dsimp only
   try rw [e150]
   go_simp
   have bb := bel_alloc W (.cells #[.slice (some ⟨g150, 0, none⟩) 2 2] 22)
   exact hK _ _ bb (⟨W.heap.size, _, rfl, EV.newL encSe_len rfl rfl (Nat.le_refl _), fun y hy => (by simp only [List.mem_cons, List.not_mem_nil, or_false] at hy; rcases hy with rfl <;> first | exact (w150.below bb))⟩)
  ·have q25 : ∃ g g150, (x 25) = .slice (some ⟨g, 0, none⟩) 1 1 ∧ LsE W (.slice (some ⟨g, 0, none⟩) 1 1) ([((some ⟨g150, 0, none⟩, 2, 2), [pickE 2 0, pickE 2 0])] : List (Sl3 × List Ev)) := hg 25 (by kernel_rfl) rfl
   obtain ⟨g, g150, e1, e2⟩ := q25
   clear ho hd hg hmm hi
   simp only [upd, reduceIte, Nat.reduceEqDiff, e1] at hK
   try dsimp only
   try rw [e1]
   go_simp
   go_at_call 17
   refine (rows_ok W _ _ e2 ?h152 (by simp) (HU.out.below (HB.out.trans (hb.mono HB.out.size)))).mono ?_
   case h152 => exact lit_ok _ [[pickE 2 0, pickE 2 0]] rfl (by decide)
   rintro r W2 ⟨rfl, bb⟩
   go_simp
   exact hK _ _ bb (rfl)
  ·clear ho hd hg hmm hi
   simp only [upd, reduceIte, Nat.reduceEqDiff] at hK
   try dsimp only
   go_simp
   go_at_call 14
   refine (pick_ok W 1 0).mono ?_
   rintro r W2 ⟨rfl, bb⟩
   unfold evA pickE
   dsimp only
   go_simp
   exact hK _ _ bb (rfl)
  ·have e29 : x 29 = .agg #[.int .i64 1, .int .i64 0, .int .u8 0, .int .u8 6, .int .i64 0, .int .i64 0, .int .i64 0, .int .i64 0, .int .i64 0, .int .u64 0, .int .i64 0] := hg 29 (by kernel_rfl) rfl
   clear ho hd hg hmm hi
   simp only [upd, reduceIte, Nat.reduceEqDiff, e29] at hK
   try dsimp only
   try rw [e29]
   go_simp
   have bb := bel_alloc W (.cells #[.int .i64 1, .int .i64 0, .int .u8 0, .int .u8 6, .int .i64 0, .int .i64 0, .int .i64 0, .int .i64 0, .int .i64 0, .int .u64 0, .int .i64 0] 28)
   exact hK _ _ bb (⟨W.heap.size, rfl, EV.newL encE_len rfl rfl (Nat.le_refl _)⟩)
  ·have e31 : x 31 = .agg #[.int .i64 7, .int .i64 0, .int .u8 0, .int .u8 6, .int .i64 0, .int .i64 0, .int .i64 0, .int .i64 0, .int .i64 0, .int .u64 0, .int .i64 (-1)] := hd 31 (by kernel_rfl) (by kernel_rfl)
   clear ho hd hg hmm hi
   simp only [upd, reduceIte, Nat.reduceEqDiff, e31] at hK
   try dsimp only
   try rw [e31]
   go_simp
   have bb := bel_alloc W (.cells #[.int .i64 7, .int .i64 0, .int .u8 0, .int .u8 6, .int .i64 0, .int .i64 0, .int .i64 0, .int .i64 0, .int .i64 0, .int .u64 0, .int .i64 (-1)] 28)
   exact hK _ _ bb (⟨W.heap.size, rfl, EV.newL encE_len rfl rfl (Nat.le_refl _)⟩)
  ·have q30 : ∃ g, (x 30) = .slice (some ⟨g, 0, none⟩) 1 1 ∧ EV encE 11 W (.slice (some ⟨g, 0, none⟩) 1 1) [pickE 1 0] := hg 30 (by kernel_rfl) rfl
   have q32 : ∃ g, (x 32) = .slice (some ⟨g, 0, none⟩) 1 1 ∧ EV encE 11 W (.slice (some ⟨g, 0, none⟩) 1 1) [badP] := hg 32 (by kernel_rfl) rfl
   obtain ⟨g156, e156, w156⟩ := q30
   obtain ⟨g158, e158, w158⟩ := q32
   clear ho hd hg hmm hi
   simp only [upd, reduceIte, Nat.reduceEqDiff, e156, e158] at hK
   try dsimp only
   try rw [e156]
   try rw [e158]
   go_simp
   have bb := bel_alloc W (.cells #[.slice (some ⟨g156, 0, none⟩) 1 1, .slice (some ⟨g158, 0, none⟩) 1 1] 22)
   exact hK _ _ bb (⟨W.heap.size, _, _, rfl, EV.newL encSe_len rfl rfl (Nat.le_refl _), fun y hy => (by simp only [List.mem_cons, List.not_mem_nil, or_false] at hy; rcases hy with rfl | rfl <;> first | exact (w156.below bb) | exact (w158.below bb))⟩)
  ·have q33 : ∃ g g156 g158, (x 33) = .slice (some ⟨g, 0, none⟩) 2 2 ∧ LsE W (.slice (some ⟨g, 0, none⟩) 2 2) ([((some ⟨g156, 0, none⟩, 1, 1), [pickE 1 0]), ((some ⟨g158, 0, none⟩, 1, 1), [badP])] : List (Sl3 × List Ev)) := hg 33 (by kernel_rfl) rfl
   obtain ⟨g, g156, g158, e1, e2⟩ := q33
   clear ho hd hg hmm hi
   simp only [upd, reduceIte, Nat.reduceEqDiff, e1] at hK
   try dsimp only
   try rw [e1]
   go_simp
   go_at_call 17
   refine (rows_ok W _ _ e2 ?h160 (by simp) (HU.out.below (HB.out.trans (hb.mono HB.out.size)))).mono ?_
   case h160 => exact lit_ok _ [[pickE 1 0], [badP]] rfl (by decide)
   rintro r W2 ⟨rfl, bb⟩
   go_simp
   exact hK _ _ bb (rfl)
  ·clear ho hd hg hmm hi
   simp only [upd, reduceIte, Nat.reduceEqDiff] at hK
   try dsimp only
   go_simp
   go_at_call 14
   refine (pick_ok W 2 0).mono ?_
   rintro r W2 ⟨rfl, bb⟩
   unfold evA pickE
   dsimp only
   go_simp
   exact hK _ _ bb (rfl)
  ·clear ho hd hg hmm hi
   simp only [upd, reduceIte, Nat.reduceEqDiff] at hK
   try dsimp only
   go_simp
   go_at_call 14
   refine (pick_ok W 1 0).mono ?_
   rintro r W2 ⟨rfl, bb⟩
   unfold evA pickE
   dsimp only
   go_simp
   exact hK _ _ bb (rfl)
  ·have e37 : x 37 = .agg #[.int .i64 2, .int .i64 0, .int .u8 0, .int .u8 6, .int .i64 0, .int .i64 0, .int .i64 0, .int .i64 0, .int .i64 0, .int .u64 0, .int .i64 0] := hg 37 (by kernel_rfl) rfl
   have e38 : x 38 = .agg #[.int .i64 1, .int .i64 0, .int .u8 0, .int .u8 6, .int .i64 0, .int .i64 0, .int .i64 0, .int .i64 0, .int .i64 0, .int .u64 0, .int .i64 0] := hg 38 (by kernel_rfl) rfl
   clear ho hd hg hmm hi
   simp only [upd, reduceIte, Nat.reduceEqDiff, e37, e38] at hK
   try dsimp only
   try rw [e37]
   try rw [e38]
   go_simp
   have bb := bel_alloc W (.cells #[.int .i64 2, .int .i64 0, .int .u8 0, .int .u8 6, .int .i64 0, .int .i64 0, .int .i64 0, .int .i64 0, .int .i64 0, .int .u64 0, .int .i64 0, .int .i64 1, .int .i64 0, .int .u8 0, .int .u8 6, .int .i64 0, .int .i64 0, .int .i64 0, .int .i64 0, .int .i64 0, .int .u64 0, .int .i64 0] 28)
   exact hK _ _ bb (⟨W.heap.size, rfl, EV.newL encE_len rfl rfl (Nat.le_refl _)⟩)
  ·have q39 : ∃ g, (x 39) = .slice (some ⟨g, 0, none⟩) 2 2 ∧ EV encE 11 W (.slice (some ⟨g, 0, none⟩) 2 2) [pickE 2 0, pickE 1 0] := hg 39 (by kernel_rfl) rfl
   obtain ⟨g165, e165, w165⟩ := q39
   clear ho hd hg hmm hi
   simp only [upd, reduceIte, Nat.reduceEqDiff, e165] at hK
   try dsimp only
   try rw [e165]
   go_simp
   have bb := bel_alloc W (.cells #[.slice (some ⟨g165, 0, none⟩) 2 2] 22)
   exact hK _ _ bb (⟨W.heap.size, _, rfl, EV.newL encSe_len rfl rfl (Nat.le_refl _), fun y hy => (by simp only [List.mem_cons, List.not_mem_nil, or_false] at hy; rcases hy with rfl <;> first | exact (w165.below bb))⟩)
  ·have q40 : ∃ g g165, (x 40) = .slice (some ⟨g, 0, none⟩) 1 1 ∧ LsE W (.slice (some ⟨g, 0, none⟩) 1 1) ([((some ⟨g165, 0, none⟩, 2, 2), [pickE 2 0, pickE 1 0])] : List (Sl3 × List Ev)) := hg 40 (by kernel_rfl) rfl
   obtain ⟨g, g165, e1, e2⟩ := q40
   clear ho hd hg hmm hi
   simp only [upd, reduceIte, Nat.reduceEqDiff, e1] at hK
   try dsimp only
   try rw [e1]
   go_simp
   go_at_call 17
   refine (rows_ok W _ _ e2 ?h167 (by simp) (HU.out.below (HB.out.trans (hb.mono HB.out.size)))).mono ?_
   case h167 => exact lit_ok _ [[pickE 2 0, pickE 1 0]] rfl (by decide)
   rintro r W2 ⟨rfl, bb⟩
   go_simp
   exact hK _ _ bb (rfl)
  ·clear ho hd hg hmm hi
   simp only [upd, reduceIte, Nat.reduceEqDiff] at hK
   try dsimp only
   go_simp
   go_at_call 18
   refine (many_ok W (HU.out.below (HB.out.trans (hb.mono HB.out.size)))).mono ?_
   rintro r W2 ⟨rfl, bb⟩
   go_simp
   exact hK _ _ bb (rfl)
  ·clear ho hd hg hmm hi
   simp only [upd, reduceIte, Nat.reduceEqDiff] at hK
   try dsimp only
   go_simp
   go_at_call 19
   refine (awake_ok W (HU.out.below (HB.out.trans (hb.mono HB.out.size)))).mono ?_
   rintro r W2 ⟨rfl, bb⟩
   go_simp
   exact hK _ _ bb (rfl)
 case hend =>
  intro x W hb hd hg
  have ek := hd 49 (by omega) rfl
  clear hd hg
  try dsimp only
  rw [ek]
  clear ek
  generalize x 0 = y0
  generalize x 1 = y1
  generalize x 2 = y2
  generalize x 3 = y3
  generalize x 4 = y4
  generalize x 5 = y5
  generalize x 6 = y6
  generalize x 7 = y7
  generalize x 8 = y8
  generalize x 9 = y9
  generalize x 10 = y10
  generalize x 11 = y11
  generalize x 12 = y12
  generalize x 13 = y13
  generalize x 14 = y14
  generalize x 15 = y15
  generalize x 16 = y16
  generalize x 17 = y17
  generalize x 18 = y18
  generalize x 19 = y19
  generalize x 20 = y20
  generalize x 21 = y21
  generalize x 22 = y22
  generalize x 23 = y23
  generalize x 24 = y24
  generalize x 25 = y25
  generalize x 26 = y26
  generalize x 27 = y27
  generalize x 28 = y28
  generalize x 29 = y29
  generalize x 30 = y30
  generalize x 31 = y31
  generalize x 32 = y32
  generalize x 33 = y33
  generalize x 34 = y34
  generalize x 35 = y35
  generalize x 36 = y36
  generalize x 37 = y37
  generalize x 38 = y38
  generalize x 39 = y39
  generalize x 40 = y40
  generalize x 41 = y41
  generalize x 42 = y42
  generalize x 43 = y43
  generalize x 44 = y44
  generalize x 45 = y45
  generalize x 46 = y46
  generalize x 47 = y47
  generalize x 48 = y48
  have HC := Lib.hid (HB.out.trans (hb.mono HB.out.size))
  clear hb
  go_wp2
  go_ret
  exact ⟨rfl, HC.out⟩
end Go.Proofs.YtalophngappkhaaGreatDoor
