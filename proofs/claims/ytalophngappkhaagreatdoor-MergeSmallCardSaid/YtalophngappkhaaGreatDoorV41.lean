/- MergeSmall: the pool of twelve blocks | MergeSmall: the whole walk. -/
import Derived.Test.YtalophngappkhaaGreatDoorV40
import Derived.Test.YtalophngappkhaaGreatDoorV36
set_option linter.unusedVariables false
set_option linter.unusedSimpArgs false
set_option linter.unusedSectionVars false
namespace Go.Proofs.YtalophngappkhaaGreatDoor
open Go Go.RowKit Go.Shelf
attribute [local go_sem] Oper.semAt_some
/-- The event of a different time. -/
def othP : Ev := ⟨2, 5, 1, 6, 0, 0, 0, 0, 0, 0, 0⟩
def poolB : List Bck := [⟨1, 0, 0, 0, [pickE 1 0]⟩, ⟨1, 0, 1, 0, [pickE 1 0, pickE 3 0]⟩, ⟨1, 1, 0, 0, [pickE 2 1]⟩, ⟨1, 1, 2, 0, [othP]⟩, ⟨1, 2, 3, 0, []⟩, ⟨1, 0, 0, 0, [pickE 281474976710656 0]⟩, ⟨1, 0, 0, 0, []⟩, ⟨1, 9, 0, 0, [pickE 5 8]⟩, ⟨2, 0, 0, 1, []⟩, ⟨2, 0, 0, 4, []⟩, ⟨2, 0, 0, 281474976710657, []⟩, ⟨2, 0, 0, 0, []⟩]
def poolL (a b c d e f : Nat) : List (Sl3 × Bck) := [((some ⟨a, 0, none⟩, 1, 1), ⟨1, 0, 0, 0, [pickE 1 0]⟩), ((some ⟨b, 0, none⟩, 2, 2), ⟨1, 0, 1, 0, [pickE 1 0, pickE 3 0]⟩), ((some ⟨c, 0, none⟩, 1, 1), ⟨1, 1, 0, 0, [pickE 2 1]⟩), ((some ⟨d, 0, none⟩, 1, 1), ⟨1, 1, 2, 0, [othP]⟩), ((none, 0, 0), ⟨1, 2, 3, 0, []⟩), ((some ⟨e, 0, none⟩, 1, 1), ⟨1, 0, 0, 0, [pickE 281474976710656 0]⟩), ((none, 0, 0), ⟨1, 0, 0, 0, []⟩), ((some ⟨f, 0, none⟩, 1, 1), ⟨1, 9, 0, 0, [pickE 5 8]⟩), ((none, 0, 0), ⟨2, 0, 0, 1, []⟩), ((none, 0, 0), ⟨2, 0, 0, 4, []⟩), ((none, 0, 0), ⟨2, 0, 0, 281474976710657, []⟩), ((none, 0, 0), ⟨2, 0, 0, 0, []⟩)]
theorem pool_rows {W : World} {a b c d e f : Nat} (ha : EV encE 11 W (.slice (some ⟨a, 0, none⟩) 1 1) [pickE 1 0]) (hb : EV encE 11 W (.slice (some ⟨b, 0, none⟩) 2 2) [pickE 1 0, pickE 3 0]) (hc : EV encE 11 W (.slice (some ⟨c, 0, none⟩) 1 1) [pickE 2 1]) (hd : EV encE 11 W (.slice (some ⟨d, 0, none⟩) 1 1) [othP]) (he : EV encE 11 W (.slice (some ⟨e, 0, none⟩) 1 1) [pickE 281474976710656 0]) (hf : EV encE 11 W (.slice (some ⟨f, 0, none⟩) 1 1) [pickE 5 8]) :
  ∀ x ∈ poolL a b c d e f, EV encE 11 W (slV x.1) x.2.evs := by
 intro x hx
 simp only [poolL, List.mem_cons, List.not_mem_nil, or_false] at hx
 rcases hx with rfl | rfl | rfl | rfl | rfl | rfl | rfl | rfl | rfl | rfl | rfl | rfl
 all_goals first | exact ha | exact hb | exact hc | exact hd | exact he | exact hf | exact EV.nilv
instance blkokDec : DecidablePred BlkOk := fun b => decidable_of_iff ((0 ≤ b.kind ∧ b.kind ≤ 255) ∧ (0 ≤ b.cpu ∧ b.cpu ≤ 255) ∧ (-9223372036854775808 ≤ b.lost ∧ b.lost ≤ 9223372036854775807) ∧ (-9223372036854775808 ≤ b.next ∧ b.next ≤ 9223372036854775807) ∧ (∀ e ∈ b.evs, EvOk e)) ⟨fun ⟨a, b, c, d, e⟩ => ⟨a, b, c, d, e⟩, fun h => ⟨h.kind, h.cpu, h.lost, h.next, h.evs⟩⟩
theorem pool_ok (a b c d e f : Nat) : ∀ x ∈ poolL a b c d e f, BlkOk x.2 ∧ x.2.evs.length ≤ 1000 := by
 have h : ∀ y ∈ poolB, BlkOk y ∧ y.evs.length ≤ 1000 := by decide
 intro x hx
 exact h x.2 (show x.2 ∈ (poolL a b c d e f).map Prod.snd from List.mem_map_of_mem hx)
set_option maxRecDepth 100000 in
set_option maxHeartbeats 3200000 in
theorem small_t4 (w wz : World) (X : Nat) (fv : Value) (hfv : fv = .func (.func 13) #[] #[]) {u0 u3 u4 u5 u6 u7 u8 u9 u10 u11 u12 u13 u14 u15 u16 u17 u18 u19 u20 u21 u22 u23 u24 u25 u26 u27 u28 u29 u30 u31 u32 u33 u34 u35 u36 u37 u38 u39 u40 u41 u42 u43 u44 u45 u46 u47 u48 u49 u50 u51 u52 u53 u54 u55 u56 u57 u58 u59 u60 u61 u62 u63 u64 u65 u66 u67 u68 u69 u70 u71 u72 u73 u74 u75 u76 u77 u78 u79 u80 u81 u82 u83 u84 u85 u86 u87 u88 u89 u90 u91 u92 u93 u94 u95 u96 u97 u98 u99 u100 u101 u102 u103 u104 u105 u106 u107 u108 u109 u110 u111 u112 u113 u114 u115 u116 u117 u118 u119 u120 u121 u122 u123 u124 u125 u126 u127 u128 u129 u130 u131 u132 u133 u134 u135 u136 u137 u138 u139 u140 u141 u142 u143 u144 u145 u146 u147 u148 u149 u150 u151 u152 u153 u154 u155 u156 u157 u158 u159 u160 u161 u162 u163 u164 u165 u166 u167 u168 u169 u170 u171 u172 u173 u174 : Value} (hb : Below w.heap.size w wz) (hU : LaidAt w)
  (hX : wz.cell? ⟨X, 0, none⟩ = some (.int .i64 2) ∧ wz.cell? ⟨X, 1, none⟩ = some (.int .i64 5) ∧ wz.cell? ⟨X, 2, none⟩ = some (.int .u8 1) ∧ wz.cell? ⟨X, 3, none⟩ = some (.int .u8 6) ∧ wz.cell? ⟨X, 4, none⟩ = some (.int .i64 0) ∧ wz.cell? ⟨X, 5, none⟩ = some (.int .i64 0) ∧ wz.cell? ⟨X, 6, none⟩ = some (.int .i64 0) ∧ wz.cell? ⟨X, 7, none⟩ = some (.int .i64 0) ∧ wz.cell? ⟨X, 8, none⟩ = some (.int .i64 0) ∧ wz.cell? ⟨X, 9, none⟩ = some (.int .u64 0) ∧ wz.cell? ⟨X, 10, none⟩ = some (.int .i64 0)) :
  Code.wp Tryz.prog (tailR Tryz.f3 4) (bodyPost Tryz.prog Tryz.f3 fun r w' => r = .returned (.bool true) ∧ Below w.heap.size w w')
   ⟨#[u0, fv, .pointer (some ⟨X, 0, none⟩), u3, u4, u5, u6, u7, u8, u9, u10, u11, u12, u13, u14, u15, u16, u17, u18, u19, u20, u21, u22, u23, u24, u25, u26, u27, u28, u29, u30, u31, u32, u33, u34, u35, u36, u37, u38, u39, u40, u41, u42, u43, u44, u45, u46, u47, u48, u49, u50, u51, u52, u53, u54, u55, u56, u57, u58, u59, u60, u61, u62, u63, u64, u65, u66, u67, u68, u69, u70, u71, u72, u73, u74, u75, u76, u77, u78, u79, u80, u81, u82, u83, u84, u85, u86, u87, u88, u89, u90, u91, u92, u93, u94, u95, u96, u97, u98, u99, u100, u101, u102, u103, u104, u105, u106, u107, u108, u109, u110, u111, u112, u113, u114, u115, u116, u117, u118, u119, u120, u121, u122, u123, u124, u125, u126, u127, u128, u129, u130, u131, u132, u133, u134, u135, u136, u137, u138, u139, u140, u141, u142, u143, u144, u145, u146, u147, u148, u149, u150, u151, u152, u153, u154, u155, u156, u157, u158, u159, u160, u161, u162, u163, u164, u165, u166, u167, u168, u169, u170, u171, u172, u173, u174], []⟩ wz := by
 subst hfv
 conv => arg 2; whnf
 conv => arg 4; dsimp only
 have HB := Lib.hid hb
 have HU := Lib.hid hU
 have HX := Lib.hid hX
 clear hb hU hX
 apply wp_seq_k
 intro K0 hK0
 refine wp_region_bel (by kernel_rfl) 35 rfl (fun i => i == 1 || i == 2 || i == 3 || i == 5 || i == 6 || i == 7 || i == 8 || i == 10 || i == 11 || i == 12 || i == 15 || i == 16 || i == 18 || i == 20 || i == 21 || i == 22 || i == 24 || i == 26 || i == 27 || i == 28 || i == 33 || i == 34) (fun i => !(false)) ?hMw (fun x => ⟨#[u0, .func (.func 13) #[] #[], .pointer (some ⟨X, 0, none⟩), x 34, u4, u5, u6, u7, u8, u9, u10, u11, u12, u13, u14, u15, u16, u17, u18, x 0, x 1, x 2, x 3, x 4, x 5, x 6, x 7, x 8, x 9, x 10, x 11, x 12, x 13, x 14, x 15, x 16, x 17, x 18, x 19, x 20, x 21, x 22, x 23, x 24, x 25, x 26, x 27, x 28, x 29, x 30, x 31, x 32, x 33, u53, u54, u55, u56, u57, u58, u59, u60, u61, u62, u63, u64, u65, u66, u67, u68, u69, u70, u71, u72, u73, u74, u75, u76, u77, u78, u79, u80, u81, u82, u83, u84, u85, u86, u87, u88, u89, u90, u91, u92, u93, u94, u95, u96, u97, u98, u99, u100, u101, u102, u103, u104, u105, u106, u107, u108, u109, u110, u111, u112, u113, u114, u115, u116, u117, u118, u119, u120, u121, u122, u123, u124, u125, u126, u127, u128, u129, u130, u131, u132, u133, u134, u135, u136, u137, u138, u139, u140, u141, u142, u143, u144, u145, u146, u147, u148, u149, u150, u151, u152, u153, u154, u155, u156, u157, u158, u159, u160, u161, u162, u163, u164, u165, u166, u167, u168, u169, u170, u171, u172, u173, u174], []⟩) (fun iF vF => match iF with | 0 => vF = .func (.func 13) #[] #[] | 4 => vF = .func (.func 13) #[] #[] | 9 => vF = .func (.func 13) #[] #[] | 13 => vF = .func (.func 13) #[] #[] | 14 => vF = .agg #[.int .i64 2, .int .i64 5, .int .u8 1, .int .u8 6, .int .i64 0, .int .i64 0, .int .i64 0, .int .i64 0, .int .i64 0, .int .u64 0, .int .i64 0] | 17 => vF = .func (.func 13) #[] #[] | 19 => vF = .func (.func 13) #[] #[] | 23 => vF = .func (.func 13) #[] #[] | 25 => vF = .func (.func 13) #[] #[] | 29 => vF = .agg #[.int .u8 2, .int .u8 0, .int .i64 0, .int .i64 1, .slice none 0 0] | 30 => vF = .agg #[.int .u8 2, .int .u8 0, .int .i64 0, .int .i64 4, .slice none 0 0] | 31 => vF = .agg #[.int .u8 2, .int .u8 0, .int .i64 0, .int .i64 281474976710657, .slice none 0 0] | 32 => vF = .agg #[.int .u8 2, .int .u8 0, .int .i64 0, .int .i64 0, .slice none 0 0] | _ => True)
  (fun iG vG wG => match iG with | 1 => vG = .agg #[.int .i64 1, .int .i64 0, .int .u8 0, .int .u8 6, .int .i64 0, .int .i64 0, .int .i64 0, .int .i64 0, .int .i64 0, .int .u64 0, .int .i64 0] | 2 => ∃ g, vG = .slice (some ⟨g, 0, none⟩) 1 1 ∧ EV encE 11 wG (.slice (some ⟨g, 0, none⟩) 1 1) [pickE 1 0] | 3 => ∃ g, vG = .agg #[.int .u8 1, .int .u8 0, .int .i64 0, .int .i64 0, .slice (some ⟨g, 0, none⟩) 1 1] ∧ EV encE 11 wG (.slice (some ⟨g, 0, none⟩) 1 1) [pickE 1 0] | 5 => vG = .agg #[.int .i64 1, .int .i64 0, .int .u8 0, .int .u8 6, .int .i64 0, .int .i64 0, .int .i64 0, .int .i64 0, .int .i64 0, .int .u64 0, .int .i64 0] | 6 => vG = .agg #[.int .i64 3, .int .i64 0, .int .u8 0, .int .u8 6, .int .i64 0, .int .i64 0, .int .i64 0, .int .i64 0, .int .i64 0, .int .u64 0, .int .i64 0] | 7 => ∃ g, vG = .slice (some ⟨g, 0, none⟩) 2 2 ∧ EV encE 11 wG (.slice (some ⟨g, 0, none⟩) 2 2) [pickE 1 0, pickE 3 0] | 8 => ∃ g, vG = .agg #[.int .u8 1, .int .u8 0, .int .i64 1, .int .i64 0, .slice (some ⟨g, 0, none⟩) 2 2] ∧ EV encE 11 wG (.slice (some ⟨g, 0, none⟩) 2 2) [pickE 1 0, pickE 3 0] | 10 => vG = .agg #[.int .i64 2, .int .i64 0, .int .u8 1, .int .u8 6, .int .i64 0, .int .i64 0, .int .i64 0, .int .i64 0, .int .i64 0, .int .u64 0, .int .i64 0] | 11 => ∃ g, vG = .slice (some ⟨g, 0, none⟩) 1 1 ∧ EV encE 11 wG (.slice (some ⟨g, 0, none⟩) 1 1) [pickE 2 1] | 12 => ∃ g, vG = .agg #[.int .u8 1, .int .u8 1, .int .i64 0, .int .i64 0, .slice (some ⟨g, 0, none⟩) 1 1] ∧ EV encE 11 wG (.slice (some ⟨g, 0, none⟩) 1 1) [pickE 2 1] | 15 => ∃ g, vG = .slice (some ⟨g, 0, none⟩) 1 1 ∧ EV encE 11 wG (.slice (some ⟨g, 0, none⟩) 1 1) [othP] | 16 => ∃ g, vG = .agg #[.int .u8 1, .int .u8 1, .int .i64 2, .int .i64 0, .slice (some ⟨g, 0, none⟩) 1 1] ∧ EV encE 11 wG (.slice (some ⟨g, 0, none⟩) 1 1) [othP] | 18 => vG = .agg #[.int .u8 1, .int .u8 2, .int .i64 3, .int .i64 0, .slice none 0 0] | 20 => vG = .agg #[.int .i64 281474976710656, .int .i64 0, .int .u8 0, .int .u8 6, .int .i64 0, .int .i64 0, .int .i64 0, .int .i64 0, .int .i64 0, .int .u64 0, .int .i64 0] | 21 => ∃ g, vG = .slice (some ⟨g, 0, none⟩) 1 1 ∧ EV encE 11 wG (.slice (some ⟨g, 0, none⟩) 1 1) [pickE 281474976710656 0] | 22 => ∃ g, vG = .agg #[.int .u8 1, .int .u8 0, .int .i64 0, .int .i64 0, .slice (some ⟨g, 0, none⟩) 1 1] ∧ EV encE 11 wG (.slice (some ⟨g, 0, none⟩) 1 1) [pickE 281474976710656 0] | 24 => vG = .agg #[.int .u8 1, .int .u8 0, .int .i64 0, .int .i64 0, .slice none 0 0] | 26 => vG = .agg #[.int .i64 5, .int .i64 0, .int .u8 8, .int .u8 6, .int .i64 0, .int .i64 0, .int .i64 0, .int .i64 0, .int .i64 0, .int .u64 0, .int .i64 0] | 27 => ∃ g, vG = .slice (some ⟨g, 0, none⟩) 1 1 ∧ EV encE 11 wG (.slice (some ⟨g, 0, none⟩) 1 1) [pickE 5 8] | 28 => ∃ g, vG = .agg #[.int .u8 1, .int .u8 9, .int .i64 0, .int .i64 0, .slice (some ⟨g, 0, none⟩) 1 1] ∧ EV encE 11 wG (.slice (some ⟨g, 0, none⟩) 1 1) [pickE 5 8] | 33 => ∃ g g22 g27 g31 g35 g41 g47, vG = .slice (some ⟨g, 0, none⟩) 12 12 ∧ LsB wG (.slice (some ⟨g, 0, none⟩) 12 12) (poolL g22 g27 g31 g35 g41 g47) | 34 => ∃ g g22 g27 g31 g35 g41 g47, vG = .slice (some ⟨g, 0, none⟩) 12 12 ∧ LsB wG (.slice (some ⟨g, 0, none⟩) 12 12) (poolL g22 g27 g31 g35 g41 g47) | _ => True) wz ?hG ?hwant ?hoff (by kernel_rfl) ?hpure ?hmem ?hend (fun i => (#[u19, u20, u21, u22, u23, u24, u25, u26, u27, u28, u29, u30, u31, u32, u33, u34, u35, u36, u37, u38, u39, u40, u41, u42, u43, u44, u45, u46, u47, u48, u49, u50, u51, u52, u3] : Array Value).getD i undef) rfl ?hstart
 case hstart =>
  exact below_drew (Below.refl _ _)
 case hMw =>
  intro i hi
  simp only [Bool.or_eq_true, beq_iff_eq] at hi
  rcases hi with ((((((((((((((((((((rfl | rfl) | rfl) | rfl) | rfl) | rfl) | rfl) | rfl) | rfl) | rfl) | rfl) | rfl) | rfl) | rfl) | rfl) | rfl) | rfl) | rfl) | rfl) | rfl) | rfl) | rfl
  all_goals rfl
 case hG =>
  intro i v W W' hi hg hb
  simp only [Bool.or_eq_true, beq_iff_eq] at hi
  rcases hi with ((((((((((((((((((((rfl | rfl) | rfl) | rfl) | rfl) | rfl) | rfl) | rfl) | rfl) | rfl) | rfl) | rfl) | rfl) | rfl) | rfl) | rfl) | rfl) | rfl) | rfl) | rfl) | rfl) | rfl
  ·have hg : v = .agg #[.int .i64 1, .int .i64 0, .int .u8 0, .int .u8 6, .int .i64 0, .int .i64 0, .int .i64 0, .int .i64 0, .int .i64 0, .int .u64 0, .int .i64 0] := hg
   exact (show v = .agg #[.int .i64 1, .int .i64 0, .int .u8 0, .int .u8 6, .int .i64 0, .int .i64 0, .int .i64 0, .int .i64 0, .int .i64 0, .int .u64 0, .int .i64 0] from hg)
  ·have hg : ∃ g, v = .slice (some ⟨g, 0, none⟩) 1 1 ∧ EV encE 11 W (.slice (some ⟨g, 0, none⟩) 1 1) [pickE 1 0] := hg
   exact (show ∃ g, v = .slice (some ⟨g, 0, none⟩) 1 1 ∧ EV encE 11 W' (.slice (some ⟨g, 0, none⟩) 1 1) [pickE 1 0] from (by obtain ⟨g, e1, e2⟩ := hg; exact ⟨g, e1, e2.below hb⟩))
  ·have hg : ∃ g, v = .agg #[.int .u8 1, .int .u8 0, .int .i64 0, .int .i64 0, .slice (some ⟨g, 0, none⟩) 1 1] ∧ EV encE 11 W (.slice (some ⟨g, 0, none⟩) 1 1) [pickE 1 0] := hg
   exact (show ∃ g, v = .agg #[.int .u8 1, .int .u8 0, .int .i64 0, .int .i64 0, .slice (some ⟨g, 0, none⟩) 1 1] ∧ EV encE 11 W' (.slice (some ⟨g, 0, none⟩) 1 1) [pickE 1 0] from (by obtain ⟨g, e1, e2⟩ := hg; exact ⟨g, e1, e2.below hb⟩))
  ·have hg : v = .agg #[.int .i64 1, .int .i64 0, .int .u8 0, .int .u8 6, .int .i64 0, .int .i64 0, .int .i64 0, .int .i64 0, .int .i64 0, .int .u64 0, .int .i64 0] := hg
   exact (show v = .agg #[.int .i64 1, .int .i64 0, .int .u8 0, .int .u8 6, .int .i64 0, .int .i64 0, .int .i64 0, .int .i64 0, .int .i64 0, .int .u64 0, .int .i64 0] from hg)
  ·have hg : v = .agg #[.int .i64 3, .int .i64 0, .int .u8 0, .int .u8 6, .int .i64 0, .int .i64 0, .int .i64 0, .int .i64 0, .int .i64 0, .int .u64 0, .int .i64 0] := hg
   exact (show v = .agg #[.int .i64 3, .int .i64 0, .int .u8 0, .int .u8 6, .int .i64 0, .int .i64 0, .int .i64 0, .int .i64 0, .int .i64 0, .int .u64 0, .int .i64 0] from hg)
  ·have hg : ∃ g, v = .slice (some ⟨g, 0, none⟩) 2 2 ∧ EV encE 11 W (.slice (some ⟨g, 0, none⟩) 2 2) [pickE 1 0, pickE 3 0] := hg
   exact (show ∃ g, v = .slice (some ⟨g, 0, none⟩) 2 2 ∧ EV encE 11 W' (.slice (some ⟨g, 0, none⟩) 2 2) [pickE 1 0, pickE 3 0] from (by obtain ⟨g, e1, e2⟩ := hg; exact ⟨g, e1, e2.below hb⟩))
  ·have hg : ∃ g, v = .agg #[.int .u8 1, .int .u8 0, .int .i64 1, .int .i64 0, .slice (some ⟨g, 0, none⟩) 2 2] ∧ EV encE 11 W (.slice (some ⟨g, 0, none⟩) 2 2) [pickE 1 0, pickE 3 0] := hg
   exact (show ∃ g, v = .agg #[.int .u8 1, .int .u8 0, .int .i64 1, .int .i64 0, .slice (some ⟨g, 0, none⟩) 2 2] ∧ EV encE 11 W' (.slice (some ⟨g, 0, none⟩) 2 2) [pickE 1 0, pickE 3 0] from (by obtain ⟨g, e1, e2⟩ := hg; exact ⟨g, e1, e2.below hb⟩))
  ·have hg : v = .agg #[.int .i64 2, .int .i64 0, .int .u8 1, .int .u8 6, .int .i64 0, .int .i64 0, .int .i64 0, .int .i64 0, .int .i64 0, .int .u64 0, .int .i64 0] := hg
   exact (show v = .agg #[.int .i64 2, .int .i64 0, .int .u8 1, .int .u8 6, .int .i64 0, .int .i64 0, .int .i64 0, .int .i64 0, .int .i64 0, .int .u64 0, .int .i64 0] from hg)
  ·have hg : ∃ g, v = .slice (some ⟨g, 0, none⟩) 1 1 ∧ EV encE 11 W (.slice (some ⟨g, 0, none⟩) 1 1) [pickE 2 1] := hg
   exact (show ∃ g, v = .slice (some ⟨g, 0, none⟩) 1 1 ∧ EV encE 11 W' (.slice (some ⟨g, 0, none⟩) 1 1) [pickE 2 1] from (by obtain ⟨g, e1, e2⟩ := hg; exact ⟨g, e1, e2.below hb⟩))
  ·have hg : ∃ g, v = .agg #[.int .u8 1, .int .u8 1, .int .i64 0, .int .i64 0, .slice (some ⟨g, 0, none⟩) 1 1] ∧ EV encE 11 W (.slice (some ⟨g, 0, none⟩) 1 1) [pickE 2 1] := hg
   exact (show ∃ g, v = .agg #[.int .u8 1, .int .u8 1, .int .i64 0, .int .i64 0, .slice (some ⟨g, 0, none⟩) 1 1] ∧ EV encE 11 W' (.slice (some ⟨g, 0, none⟩) 1 1) [pickE 2 1] from (by obtain ⟨g, e1, e2⟩ := hg; exact ⟨g, e1, e2.below hb⟩))
  ·have hg : ∃ g, v = .slice (some ⟨g, 0, none⟩) 1 1 ∧ EV encE 11 W (.slice (some ⟨g, 0, none⟩) 1 1) [othP] := hg
   exact (show ∃ g, v = .slice (some ⟨g, 0, none⟩) 1 1 ∧ EV encE 11 W' (.slice (some ⟨g, 0, none⟩) 1 1) [othP] from (by obtain ⟨g, e1, e2⟩ := hg; exact ⟨g, e1, e2.below hb⟩))
  ·have hg : ∃ g, v = .agg #[.int .u8 1, .int .u8 1, .int .i64 2, .int .i64 0, .slice (some ⟨g, 0, none⟩) 1 1] ∧ EV encE 11 W (.slice (some ⟨g, 0, none⟩) 1 1) [othP] := hg
   exact (show ∃ g, v = .agg #[.int .u8 1, .int .u8 1, .int .i64 2, .int .i64 0, .slice (some ⟨g, 0, none⟩) 1 1] ∧ EV encE 11 W' (.slice (some ⟨g, 0, none⟩) 1 1) [othP] from (by obtain ⟨g, e1, e2⟩ := hg; exact ⟨g, e1, e2.below hb⟩))
  ·have hg : v = .agg #[.int .u8 1, .int .u8 2, .int .i64 3, .int .i64 0, .slice none 0 0] := hg
   exact (show v = .agg #[.int .u8 1, .int .u8 2, .int .i64 3, .int .i64 0, .slice none 0 0] from hg)
  ·have hg : v = .agg #[.int .i64 281474976710656, .int .i64 0, .int .u8 0, .int .u8 6, .int .i64 0, .int .i64 0, .int .i64 0, .int .i64 0, .int .i64 0, .int .u64 0, .int .i64 0] := hg
   exact (show v = .agg #[.int .i64 281474976710656, .int .i64 0, .int .u8 0, .int .u8 6, .int .i64 0, .int .i64 0, .int .i64 0, .int .i64 0, .int .i64 0, .int .u64 0, .int .i64 0] from hg)
  ·have hg : ∃ g, v = .slice (some ⟨g, 0, none⟩) 1 1 ∧ EV encE 11 W (.slice (some ⟨g, 0, none⟩) 1 1) [pickE 281474976710656 0] := hg
   exact (show ∃ g, v = .slice (some ⟨g, 0, none⟩) 1 1 ∧ EV encE 11 W' (.slice (some ⟨g, 0, none⟩) 1 1) [pickE 281474976710656 0] from (by obtain ⟨g, e1, e2⟩ := hg; exact ⟨g, e1, e2.below hb⟩))
  ·have hg : ∃ g, v = .agg #[.int .u8 1, .int .u8 0, .int .i64 0, .int .i64 0, .slice (some ⟨g, 0, none⟩) 1 1] ∧ EV encE 11 W (.slice (some ⟨g, 0, none⟩) 1 1) [pickE 281474976710656 0] := hg
   exact (show ∃ g, v = .agg #[.int .u8 1, .int .u8 0, .int .i64 0, .int .i64 0, .slice (some ⟨g, 0, none⟩) 1 1] ∧ EV encE 11 W' (.slice (some ⟨g, 0, none⟩) 1 1) [pickE 281474976710656 0] from (by obtain ⟨g, e1, e2⟩ := hg; exact ⟨g, e1, e2.below hb⟩))
  ·have hg : v = .agg #[.int .u8 1, .int .u8 0, .int .i64 0, .int .i64 0, .slice none 0 0] := hg
   exact (show v = .agg #[.int .u8 1, .int .u8 0, .int .i64 0, .int .i64 0, .slice none 0 0] from hg)
  ·have hg : v = .agg #[.int .i64 5, .int .i64 0, .int .u8 8, .int .u8 6, .int .i64 0, .int .i64 0, .int .i64 0, .int .i64 0, .int .i64 0, .int .u64 0, .int .i64 0] := hg
   exact (show v = .agg #[.int .i64 5, .int .i64 0, .int .u8 8, .int .u8 6, .int .i64 0, .int .i64 0, .int .i64 0, .int .i64 0, .int .i64 0, .int .u64 0, .int .i64 0] from hg)
  ·have hg : ∃ g, v = .slice (some ⟨g, 0, none⟩) 1 1 ∧ EV encE 11 W (.slice (some ⟨g, 0, none⟩) 1 1) [pickE 5 8] := hg
   exact (show ∃ g, v = .slice (some ⟨g, 0, none⟩) 1 1 ∧ EV encE 11 W' (.slice (some ⟨g, 0, none⟩) 1 1) [pickE 5 8] from (by obtain ⟨g, e1, e2⟩ := hg; exact ⟨g, e1, e2.below hb⟩))
  ·have hg : ∃ g, v = .agg #[.int .u8 1, .int .u8 9, .int .i64 0, .int .i64 0, .slice (some ⟨g, 0, none⟩) 1 1] ∧ EV encE 11 W (.slice (some ⟨g, 0, none⟩) 1 1) [pickE 5 8] := hg
   exact (show ∃ g, v = .agg #[.int .u8 1, .int .u8 9, .int .i64 0, .int .i64 0, .slice (some ⟨g, 0, none⟩) 1 1] ∧ EV encE 11 W' (.slice (some ⟨g, 0, none⟩) 1 1) [pickE 5 8] from (by obtain ⟨g, e1, e2⟩ := hg; exact ⟨g, e1, e2.below hb⟩))
  ·have hg : ∃ g g22 g27 g31 g35 g41 g47, v = .slice (some ⟨g, 0, none⟩) 12 12 ∧ LsB W (.slice (some ⟨g, 0, none⟩) 12 12) (poolL g22 g27 g31 g35 g41 g47) := hg
   exact (show ∃ g g22 g27 g31 g35 g41 g47, v = .slice (some ⟨g, 0, none⟩) 12 12 ∧ LsB W' (.slice (some ⟨g, 0, none⟩) 12 12) (poolL g22 g27 g31 g35 g41 g47) from (by obtain ⟨g, g22, g27, g31, g35, g41, g47, e1, e2⟩ := hg; exact ⟨g, g22, g27, g31, g35, g41, g47, e1, e2.below hb⟩))
  ·have hg : ∃ g g22 g27 g31 g35 g41 g47, v = .slice (some ⟨g, 0, none⟩) 12 12 ∧ LsB W (.slice (some ⟨g, 0, none⟩) 12 12) (poolL g22 g27 g31 g35 g41 g47) := hg
   exact (show ∃ g g22 g27 g31 g35 g41 g47, v = .slice (some ⟨g, 0, none⟩) 12 12 ∧ LsB W' (.slice (some ⟨g, 0, none⟩) 12 12) (poolL g22 g27 g31 g35 g41 g47) from (by obtain ⟨g, g22, g27, g31, g35, g41, g47, e1, e2⟩ := hg; exact ⟨g, g22, g27, g31, g35, g41, g47, e1, e2.below hb⟩))
 case hwant =>
  intro iF o hi ho x hf
  rcases (show iF = 0 ∨ iF = 1 ∨ iF = 2 ∨ iF = 3 ∨ iF = 4 ∨ iF = 5 ∨ iF = 6 ∨ iF = 7 ∨ iF = 8 ∨ iF = 9 ∨ iF = 10 ∨ iF = 11 ∨ iF = 12 ∨ iF = 13 ∨ iF = 14 ∨ iF = 15 ∨ iF = 16 ∨ iF = 17 ∨ iF = 18 ∨ iF = 19 ∨ iF = 20 ∨ iF = 21 ∨ iF = 22 ∨ iF = 23 ∨ iF = 24 ∨ iF = 25 ∨ iF = 26 ∨ iF = 27 ∨ iF = 28 ∨ iF = 29 ∨ iF = 30 ∨ iF = 31 ∨ iF = 32 ∨ iF = 33 ∨ iF = 34 by omega) with rfl | rfl | rfl | rfl | rfl | rfl | rfl | rfl | rfl | rfl | rfl | rfl | rfl | rfl | rfl | rfl | rfl | rfl | rfl | rfl | rfl | rfl | rfl | rfl | rfl | rfl | rfl | rfl | rfl | rfl | rfl | rfl | rfl | rfl | rfl <;> obtain rfl := Option.some.inj ho
  all_goals rfl
 case hoff =>
  intro iF o hi hw ho x
  rcases (show iF = 0 ∨ iF = 1 ∨ iF = 2 ∨ iF = 3 ∨ iF = 4 ∨ iF = 5 ∨ iF = 6 ∨ iF = 7 ∨ iF = 8 ∨ iF = 9 ∨ iF = 10 ∨ iF = 11 ∨ iF = 12 ∨ iF = 13 ∨ iF = 14 ∨ iF = 15 ∨ iF = 16 ∨ iF = 17 ∨ iF = 18 ∨ iF = 19 ∨ iF = 20 ∨ iF = 21 ∨ iF = 22 ∨ iF = 23 ∨ iF = 24 ∨ iF = 25 ∨ iF = 26 ∨ iF = 27 ∨ iF = 28 ∨ iF = 29 ∨ iF = 30 ∨ iF = 31 ∨ iF = 32 ∨ iF = 33 ∨ iF = 34 by omega) with rfl | rfl | rfl | rfl | rfl | rfl | rfl | rfl | rfl | rfl | rfl | rfl | rfl | rfl | rfl | rfl | rfl | rfl | rfl | rfl | rfl | rfl | rfl | rfl | rfl | rfl | rfl | rfl | rfl | rfl | rfl | rfl | rfl | rfl | rfl
  all_goals first | exact absurd (show true = false from hw) (by simp) | skip
 case hpure =>
  intro iF o hi hnm hww ho x W hb hd hg Kq hK
  rcases (show iF = 0 ∨ iF = 1 ∨ iF = 2 ∨ iF = 3 ∨ iF = 4 ∨ iF = 5 ∨ iF = 6 ∨ iF = 7 ∨ iF = 8 ∨ iF = 9 ∨ iF = 10 ∨ iF = 11 ∨ iF = 12 ∨ iF = 13 ∨ iF = 14 ∨ iF = 15 ∨ iF = 16 ∨ iF = 17 ∨ iF = 18 ∨ iF = 19 ∨ iF = 20 ∨ iF = 21 ∨ iF = 22 ∨ iF = 23 ∨ iF = 24 ∨ iF = 25 ∨ iF = 26 ∨ iF = 27 ∨ iF = 28 ∨ iF = 29 ∨ iF = 30 ∨ iF = 31 ∨ iF = 32 ∨ iF = 33 ∨ iF = 34 by omega) with rfl | rfl | rfl | rfl | rfl | rfl | rfl | rfl | rfl | rfl | rfl | rfl | rfl | rfl | rfl | rfl | rfl | rfl | rfl | rfl | rfl | rfl | rfl | rfl | rfl | rfl | rfl | rfl | rfl | rfl | rfl | rfl | rfl | rfl | rfl <;> obtain rfl := Option.some.inj ho
  all_goals first | exact absurd (show true = false from hnm) (by simp) | skip
  ·clear ho hd hg hnm hi hww hb
   simp only [upd, reduceIte, Nat.reduceEqDiff] at hK
   try dsimp only
   go_simp
   exact hK _ rfl
  ·clear ho hd hg hnm hi hww hb
   simp only [upd, reduceIte, Nat.reduceEqDiff] at hK
   try dsimp only
   go_simp
   exact hK _ rfl
  ·clear ho hd hg hnm hi hww hb
   simp only [upd, reduceIte, Nat.reduceEqDiff] at hK
   try dsimp only
   go_simp
   exact hK _ rfl
  ·clear ho hd hg hnm hi hww hb
   simp only [upd, reduceIte, Nat.reduceEqDiff] at hK
   try dsimp only
   go_simp
   exact hK _ rfl
  ·have cz0 := below_cell hb HX.out.1
   have cz1 := below_cell hb HX.out.2.1
   have cz2 := below_cell hb HX.out.2.2.1
   have cz3 := below_cell hb HX.out.2.2.2.1
   have cz4 := below_cell hb HX.out.2.2.2.2.1
   have cz5 := below_cell hb HX.out.2.2.2.2.2.1
   have cz6 := below_cell hb HX.out.2.2.2.2.2.2.1
   have cz7 := below_cell hb HX.out.2.2.2.2.2.2.2.1
   have cz8 := below_cell hb HX.out.2.2.2.2.2.2.2.2.1
   have cz9 := below_cell hb HX.out.2.2.2.2.2.2.2.2.2.1
   have cz10 := below_cell hb HX.out.2.2.2.2.2.2.2.2.2.2
   clear ho hd hg hnm hi hww hb
   simp only [upd, reduceIte, Nat.reduceEqDiff] at hK
   try dsimp only
   go_simp
   exact hK _ rfl
  ·clear ho hd hg hnm hi hww hb
   simp only [upd, reduceIte, Nat.reduceEqDiff] at hK
   try dsimp only
   go_simp
   exact hK _ rfl
  ·clear ho hd hg hnm hi hww hb
   simp only [upd, reduceIte, Nat.reduceEqDiff] at hK
   try dsimp only
   go_simp
   exact hK _ rfl
  ·clear ho hd hg hnm hi hww hb
   simp only [upd, reduceIte, Nat.reduceEqDiff] at hK
   try dsimp only
   go_simp
   exact hK _ rfl
  ·clear ho hd hg hnm hi hww hb
   simp only [upd, reduceIte, Nat.reduceEqDiff] at hK
   try dsimp only
   go_simp
   exact hK _ rfl
  ·clear ho hd hg hnm hi hww hb
   simp only [upd, reduceIte, Nat.reduceEqDiff] at hK
   try dsimp only
   go_simp
   exact hK _ rfl
  ·clear ho hd hg hnm hi hww hb
   simp only [upd, reduceIte, Nat.reduceEqDiff] at hK
   try dsimp only
   go_simp
   exact hK _ rfl
  ·clear ho hd hg hnm hi hww hb
   simp only [upd, reduceIte, Nat.reduceEqDiff] at hK
   try dsimp only
   go_simp
   exact hK _ rfl
  ·clear ho hd hg hnm hi hww hb
   simp only [upd, reduceIte, Nat.reduceEqDiff] at hK
   try dsimp only
   go_simp
   exact hK _ rfl
 case hmem =>
  intro iF o hi hmm ho x W hb hd hg Kq hK
  rcases (show iF = 0 ∨ iF = 1 ∨ iF = 2 ∨ iF = 3 ∨ iF = 4 ∨ iF = 5 ∨ iF = 6 ∨ iF = 7 ∨ iF = 8 ∨ iF = 9 ∨ iF = 10 ∨ iF = 11 ∨ iF = 12 ∨ iF = 13 ∨ iF = 14 ∨ iF = 15 ∨ iF = 16 ∨ iF = 17 ∨ iF = 18 ∨ iF = 19 ∨ iF = 20 ∨ iF = 21 ∨ iF = 22 ∨ iF = 23 ∨ iF = 24 ∨ iF = 25 ∨ iF = 26 ∨ iF = 27 ∨ iF = 28 ∨ iF = 29 ∨ iF = 30 ∨ iF = 31 ∨ iF = 32 ∨ iF = 33 ∨ iF = 34 by omega) with rfl | rfl | rfl | rfl | rfl | rfl | rfl | rfl | rfl | rfl | rfl | rfl | rfl | rfl | rfl | rfl | rfl | rfl | rfl | rfl | rfl | rfl | rfl | rfl | rfl | rfl | rfl | rfl | rfl | rfl | rfl | rfl | rfl | rfl | rfl <;> obtain rfl := Option.some.inj ho
  all_goals first | exact absurd (show false = true from hmm) (by simp) | skip
  ·clear ho hd hg hmm hi
   simp only [upd, reduceIte, Nat.reduceEqDiff] at hK
   try dsimp only
   go_simp
   go_at_call 14
   refine (pick_ok W 1 0).mono ?_
   rintro r W2 ⟨rfl, bb⟩
   unfold evA pickE
   dsimp only
   go_simp
   exact hK _ _ bb (rfl)
  ·have e1 : x 1 = .agg #[.int .i64 1, .int .i64 0, .int .u8 0, .int .u8 6, .int .i64 0, .int .i64 0, .int .i64 0, .int .i64 0, .int .i64 0, .int .u64 0, .int .i64 0] := hg 1 (by kernel_rfl) rfl
   clear ho hd hg hmm hi
   simp only [upd, reduceIte, Nat.reduceEqDiff, e1] at hK
   try dsimp only
   try rw [e1]
   go_simp
   have bb := bel_alloc W (.cells #[.int .i64 1, .int .i64 0, .int .u8 0, .int .u8 6, .int .i64 0, .int .i64 0, .int .i64 0, .int .i64 0, .int .i64 0, .int .u64 0, .int .i64 0] 28)
   exact hK _ _ bb (⟨W.heap.size, rfl, EV.newL encE_len rfl rfl (Nat.le_refl _)⟩)
  ·have e0 : x 0 = .func (.func 13) #[] #[] := hd 0 (by kernel_rfl) (by kernel_rfl)
   have q2 : ∃ g, (x 2) = .slice (some ⟨g, 0, none⟩) 1 1 ∧ EV encE 11 W (.slice (some ⟨g, 0, none⟩) 1 1) [pickE 1 0] := hg 2 (by kernel_rfl) rfl
   obtain ⟨g, e1, w1⟩ := q2
   clear ho hd hg hmm hi
   simp only [upd, reduceIte, Nat.reduceEqDiff, e0, e1] at hK
   try dsimp only
   try rw [e0]
   try rw [e1]
   go_simp
   go_at_call 13
   refine (evb_ok W 0 0 (some ⟨g, 0, none⟩) 1 1 []).mono ?_
   rintro r W2 ⟨rfl, bb⟩
   unfold blkA
   dsimp only
   go_simp
   exact hK _ _ bb (⟨g, rfl, w1.below bb⟩)
  ·clear ho hd hg hmm hi
   simp only [upd, reduceIte, Nat.reduceEqDiff] at hK
   try dsimp only
   go_simp
   go_at_call 14
   refine (pick_ok W 1 0).mono ?_
   rintro r W2 ⟨rfl, bb⟩
   unfold evA pickE
   dsimp only
   go_simp
   exact hK _ _ bb (rfl)
  ·clear ho hd hg hmm hi
   simp only [upd, reduceIte, Nat.reduceEqDiff] at hK
   try dsimp only
   go_simp
   go_at_call 14
   refine (pick_ok W 3 0).mono ?_
   rintro r W2 ⟨rfl, bb⟩
   unfold evA pickE
   dsimp only
   go_simp
   exact hK _ _ bb (rfl)
  ·have e5 : x 5 = .agg #[.int .i64 1, .int .i64 0, .int .u8 0, .int .u8 6, .int .i64 0, .int .i64 0, .int .i64 0, .int .i64 0, .int .i64 0, .int .u64 0, .int .i64 0] := hg 5 (by kernel_rfl) rfl
   have e6 : x 6 = .agg #[.int .i64 3, .int .i64 0, .int .u8 0, .int .u8 6, .int .i64 0, .int .i64 0, .int .i64 0, .int .i64 0, .int .i64 0, .int .u64 0, .int .i64 0] := hg 6 (by kernel_rfl) rfl
   clear ho hd hg hmm hi
   simp only [upd, reduceIte, Nat.reduceEqDiff, e5, e6] at hK
   try dsimp only
   try rw [e5]
   try rw [e6]
   go_simp
   have bb := bel_alloc W (.cells #[.int .i64 1, .int .i64 0, .int .u8 0, .int .u8 6, .int .i64 0, .int .i64 0, .int .i64 0, .int .i64 0, .int .i64 0, .int .u64 0, .int .i64 0, .int .i64 3, .int .i64 0, .int .u8 0, .int .u8 6, .int .i64 0, .int .i64 0, .int .i64 0, .int .i64 0, .int .i64 0, .int .u64 0, .int .i64 0] 28)
   exact hK _ _ bb (⟨W.heap.size, rfl, EV.newL encE_len rfl rfl (Nat.le_refl _)⟩)
  ·have e4 : x 4 = .func (.func 13) #[] #[] := hd 4 (by kernel_rfl) (by kernel_rfl)
   have q7 : ∃ g, (x 7) = .slice (some ⟨g, 0, none⟩) 2 2 ∧ EV encE 11 W (.slice (some ⟨g, 0, none⟩) 2 2) [pickE 1 0, pickE 3 0] := hg 7 (by kernel_rfl) rfl
   obtain ⟨g, e1, w1⟩ := q7
   clear ho hd hg hmm hi
   simp only [upd, reduceIte, Nat.reduceEqDiff, e4, e1] at hK
   try dsimp only
   try rw [e4]
   try rw [e1]
   go_simp
   go_at_call 13
   refine (evb_ok W 0 1 (some ⟨g, 0, none⟩) 2 2 []).mono ?_
   rintro r W2 ⟨rfl, bb⟩
   unfold blkA
   dsimp only
   go_simp
   exact hK _ _ bb (⟨g, rfl, w1.below bb⟩)
  ·clear ho hd hg hmm hi
   simp only [upd, reduceIte, Nat.reduceEqDiff] at hK
   try dsimp only
   go_simp
   go_at_call 14
   refine (pick_ok W 2 1).mono ?_
   rintro r W2 ⟨rfl, bb⟩
   unfold evA pickE
   dsimp only
   go_simp
   exact hK _ _ bb (rfl)
  ·have e10 : x 10 = .agg #[.int .i64 2, .int .i64 0, .int .u8 1, .int .u8 6, .int .i64 0, .int .i64 0, .int .i64 0, .int .i64 0, .int .i64 0, .int .u64 0, .int .i64 0] := hg 10 (by kernel_rfl) rfl
   clear ho hd hg hmm hi
   simp only [upd, reduceIte, Nat.reduceEqDiff, e10] at hK
   try dsimp only
   try rw [e10]
   go_simp
   have bb := bel_alloc W (.cells #[.int .i64 2, .int .i64 0, .int .u8 1, .int .u8 6, .int .i64 0, .int .i64 0, .int .i64 0, .int .i64 0, .int .i64 0, .int .u64 0, .int .i64 0] 28)
   exact hK _ _ bb (⟨W.heap.size, rfl, EV.newL encE_len rfl rfl (Nat.le_refl _)⟩)
  ·have e9 : x 9 = .func (.func 13) #[] #[] := hd 9 (by kernel_rfl) (by kernel_rfl)
   have q11 : ∃ g, (x 11) = .slice (some ⟨g, 0, none⟩) 1 1 ∧ EV encE 11 W (.slice (some ⟨g, 0, none⟩) 1 1) [pickE 2 1] := hg 11 (by kernel_rfl) rfl
   obtain ⟨g, e1, w1⟩ := q11
   clear ho hd hg hmm hi
   simp only [upd, reduceIte, Nat.reduceEqDiff, e9, e1] at hK
   try dsimp only
   try rw [e9]
   try rw [e1]
   go_simp
   go_at_call 13
   refine (evb_ok W 1 0 (some ⟨g, 0, none⟩) 1 1 []).mono ?_
   rintro r W2 ⟨rfl, bb⟩
   unfold blkA
   dsimp only
   go_simp
   exact hK _ _ bb (⟨g, rfl, w1.below bb⟩)
  ·have e14 : x 14 = .agg #[.int .i64 2, .int .i64 5, .int .u8 1, .int .u8 6, .int .i64 0, .int .i64 0, .int .i64 0, .int .i64 0, .int .i64 0, .int .u64 0, .int .i64 0] := hd 14 (by kernel_rfl) (by kernel_rfl)
   clear ho hd hg hmm hi
   simp only [upd, reduceIte, Nat.reduceEqDiff, e14] at hK
   try dsimp only
   try rw [e14]
   go_simp
   have bb := bel_alloc W (.cells #[.int .i64 2, .int .i64 5, .int .u8 1, .int .u8 6, .int .i64 0, .int .i64 0, .int .i64 0, .int .i64 0, .int .i64 0, .int .u64 0, .int .i64 0] 28)
   exact hK _ _ bb (⟨W.heap.size, rfl, EV.newL encE_len rfl rfl (Nat.le_refl _)⟩)
  ·have e13 : x 13 = .func (.func 13) #[] #[] := hd 13 (by kernel_rfl) (by kernel_rfl)
   have q15 : ∃ g, (x 15) = .slice (some ⟨g, 0, none⟩) 1 1 ∧ EV encE 11 W (.slice (some ⟨g, 0, none⟩) 1 1) [othP] := hg 15 (by kernel_rfl) rfl
   obtain ⟨g, e1, w1⟩ := q15
   clear ho hd hg hmm hi
   simp only [upd, reduceIte, Nat.reduceEqDiff, e13, e1] at hK
   try dsimp only
   try rw [e13]
   try rw [e1]
   go_simp
   go_at_call 13
   refine (evb_ok W 1 2 (some ⟨g, 0, none⟩) 1 1 []).mono ?_
   rintro r W2 ⟨rfl, bb⟩
   unfold blkA
   dsimp only
   go_simp
   exact hK _ _ bb (⟨g, rfl, w1.below bb⟩)
  ·have e17 : x 17 = .func (.func 13) #[] #[] := hd 17 (by kernel_rfl) (by kernel_rfl)
   clear ho hd hg hmm hi
   simp only [upd, reduceIte, Nat.reduceEqDiff, e17] at hK
   try dsimp only
   try rw [e17]
   go_simp
   go_at_call 13
   refine (evb_ok W 2 3 none 0 0 []).mono ?_
   rintro r W2 ⟨rfl, bb⟩
   unfold blkA
   dsimp only
   go_simp
   exact hK _ _ bb (rfl)
  ·clear ho hd hg hmm hi
   simp only [upd, reduceIte, Nat.reduceEqDiff] at hK
   try dsimp only
   go_simp
   go_at_call 14
   refine (pick_ok W 281474976710656 0).mono ?_
   rintro r W2 ⟨rfl, bb⟩
   unfold evA pickE
   dsimp only
   go_simp
   exact hK _ _ bb (rfl)
  ·have e20 : x 20 = .agg #[.int .i64 281474976710656, .int .i64 0, .int .u8 0, .int .u8 6, .int .i64 0, .int .i64 0, .int .i64 0, .int .i64 0, .int .i64 0, .int .u64 0, .int .i64 0] := hg 20 (by kernel_rfl) rfl
   clear ho hd hg hmm hi
   simp only [upd, reduceIte, Nat.reduceEqDiff, e20] at hK
   try dsimp only
   try rw [e20]
   go_simp
   have bb := bel_alloc W (.cells #[.int .i64 281474976710656, .int .i64 0, .int .u8 0, .int .u8 6, .int .i64 0, .int .i64 0, .int .i64 0, .int .i64 0, .int .i64 0, .int .u64 0, .int .i64 0] 28)
   exact hK _ _ bb (⟨W.heap.size, rfl, EV.newL encE_len rfl rfl (Nat.le_refl _)⟩)
  ·have e19 : x 19 = .func (.func 13) #[] #[] := hd 19 (by kernel_rfl) (by kernel_rfl)
   have q21 : ∃ g, (x 21) = .slice (some ⟨g, 0, none⟩) 1 1 ∧ EV encE 11 W (.slice (some ⟨g, 0, none⟩) 1 1) [pickE 281474976710656 0] := hg 21 (by kernel_rfl) rfl
   obtain ⟨g, e1, w1⟩ := q21
   clear ho hd hg hmm hi
   simp only [upd, reduceIte, Nat.reduceEqDiff, e19, e1] at hK
   try dsimp only
   try rw [e19]
   try rw [e1]
   go_simp
   go_at_call 13
   refine (evb_ok W 0 0 (some ⟨g, 0, none⟩) 1 1 []).mono ?_
   rintro r W2 ⟨rfl, bb⟩
   unfold blkA
   dsimp only
   go_simp
   exact hK _ _ bb (⟨g, rfl, w1.below bb⟩)
  ·have e23 : x 23 = .func (.func 13) #[] #[] := hd 23 (by kernel_rfl) (by kernel_rfl)
   clear ho hd hg hmm hi
   simp only [upd, reduceIte, Nat.reduceEqDiff, e23] at hK
   try dsimp only
   try rw [e23]
   go_simp
   go_at_call 13
   refine (evb_ok W 0 0 none 0 0 []).mono ?_
   rintro r W2 ⟨rfl, bb⟩
   unfold blkA
   dsimp only
   go_simp
   exact hK _ _ bb (rfl)
  ·clear ho hd hg hmm hi
   simp only [upd, reduceIte, Nat.reduceEqDiff] at hK
   try dsimp only
   go_simp
   go_at_call 14
   refine (pick_ok W 5 8).mono ?_
   rintro r W2 ⟨rfl, bb⟩
   unfold evA pickE
   dsimp only
   go_simp
   exact hK _ _ bb (rfl)
  ·have e26 : x 26 = .agg #[.int .i64 5, .int .i64 0, .int .u8 8, .int .u8 6, .int .i64 0, .int .i64 0, .int .i64 0, .int .i64 0, .int .i64 0, .int .u64 0, .int .i64 0] := hg 26 (by kernel_rfl) rfl
   clear ho hd hg hmm hi
   simp only [upd, reduceIte, Nat.reduceEqDiff, e26] at hK
   try dsimp only
   try rw [e26]
   go_simp
   have bb := bel_alloc W (.cells #[.int .i64 5, .int .i64 0, .int .u8 8, .int .u8 6, .int .i64 0, .int .i64 0, .int .i64 0, .int .i64 0, .int .i64 0, .int .u64 0, .int .i64 0] 28)
   exact hK _ _ bb (⟨W.heap.size, rfl, EV.newL encE_len rfl rfl (Nat.le_refl _)⟩)
  ·have e25 : x 25 = .func (.func 13) #[] #[] := hd 25 (by kernel_rfl) (by kernel_rfl)
   have q27 : ∃ g, (x 27) = .slice (some ⟨g, 0, none⟩) 1 1 ∧ EV encE 11 W (.slice (some ⟨g, 0, none⟩) 1 1) [pickE 5 8] := hg 27 (by kernel_rfl) rfl
   obtain ⟨g, e1, w1⟩ := q27
   clear ho hd hg hmm hi
   simp only [upd, reduceIte, Nat.reduceEqDiff, e25, e1] at hK
   try dsimp only
   try rw [e25]
   try rw [e1]
   go_simp
   go_at_call 13
   refine (evb_ok W 9 0 (some ⟨g, 0, none⟩) 1 1 []).mono ?_
   rintro r W2 ⟨rfl, bb⟩
   unfold blkA
   dsimp only
   go_simp
   exact hK _ _ bb (⟨g, rfl, w1.below bb⟩)
  ·have q3 : ∃ g, (x 3) = .agg #[.int .u8 1, .int .u8 0, .int .i64 0, .int .i64 0, .slice (some ⟨g, 0, none⟩) 1 1] ∧ EV encE 11 W (.slice (some ⟨g, 0, none⟩) 1 1) [pickE 1 0] := hg 3 (by kernel_rfl) rfl
   have q8 : ∃ g, (x 8) = .agg #[.int .u8 1, .int .u8 0, .int .i64 1, .int .i64 0, .slice (some ⟨g, 0, none⟩) 2 2] ∧ EV encE 11 W (.slice (some ⟨g, 0, none⟩) 2 2) [pickE 1 0, pickE 3 0] := hg 8 (by kernel_rfl) rfl
   have q12 : ∃ g, (x 12) = .agg #[.int .u8 1, .int .u8 1, .int .i64 0, .int .i64 0, .slice (some ⟨g, 0, none⟩) 1 1] ∧ EV encE 11 W (.slice (some ⟨g, 0, none⟩) 1 1) [pickE 2 1] := hg 12 (by kernel_rfl) rfl
   have q16 : ∃ g, (x 16) = .agg #[.int .u8 1, .int .u8 1, .int .i64 2, .int .i64 0, .slice (some ⟨g, 0, none⟩) 1 1] ∧ EV encE 11 W (.slice (some ⟨g, 0, none⟩) 1 1) [othP] := hg 16 (by kernel_rfl) rfl
   have e18 : x 18 = .agg #[.int .u8 1, .int .u8 2, .int .i64 3, .int .i64 0, .slice none 0 0] := hg 18 (by kernel_rfl) rfl
   have q22 : ∃ g, (x 22) = .agg #[.int .u8 1, .int .u8 0, .int .i64 0, .int .i64 0, .slice (some ⟨g, 0, none⟩) 1 1] ∧ EV encE 11 W (.slice (some ⟨g, 0, none⟩) 1 1) [pickE 281474976710656 0] := hg 22 (by kernel_rfl) rfl
   have e24 : x 24 = .agg #[.int .u8 1, .int .u8 0, .int .i64 0, .int .i64 0, .slice none 0 0] := hg 24 (by kernel_rfl) rfl
   have q28 : ∃ g, (x 28) = .agg #[.int .u8 1, .int .u8 9, .int .i64 0, .int .i64 0, .slice (some ⟨g, 0, none⟩) 1 1] ∧ EV encE 11 W (.slice (some ⟨g, 0, none⟩) 1 1) [pickE 5 8] := hg 28 (by kernel_rfl) rfl
   have e29 : x 29 = .agg #[.int .u8 2, .int .u8 0, .int .i64 0, .int .i64 1, .slice none 0 0] := hd 29 (by kernel_rfl) (by kernel_rfl)
   have e30 : x 30 = .agg #[.int .u8 2, .int .u8 0, .int .i64 0, .int .i64 4, .slice none 0 0] := hd 30 (by kernel_rfl) (by kernel_rfl)
   have e31 : x 31 = .agg #[.int .u8 2, .int .u8 0, .int .i64 0, .int .i64 281474976710657, .slice none 0 0] := hd 31 (by kernel_rfl) (by kernel_rfl)
   have e32 : x 32 = .agg #[.int .u8 2, .int .u8 0, .int .i64 0, .int .i64 0, .slice none 0 0] := hd 32 (by kernel_rfl) (by kernel_rfl)
   obtain ⟨g22, ez22, w22⟩ := q3
   obtain ⟨g27, ez27, w27⟩ := q8
   obtain ⟨g31, ez31, w31⟩ := q12
   obtain ⟨g35, ez35, w35⟩ := q16
   obtain ⟨g41, ez41, w41⟩ := q22
   obtain ⟨g47, ez47, w47⟩ := q28
   clear ho hd hg hmm hi
   simp only [upd, reduceIte, Nat.reduceEqDiff, e18, e24, e29, e30, e31, e32, ez22, ez27, ez31, ez35, ez41, ez47] at hK
   try dsimp only
   try rw [e18]
   try rw [e24]
   try rw [e29]
   try rw [e30]
   try rw [e31]
   try rw [e32]
   try rw [ez22]
   try rw [ez27]
   try rw [ez31]
   try rw [ez35]
   try rw [ez41]
   try rw [ez47]
   go_simp
   refine hK _ _ (bel_alloc W _) ?_
   exact ⟨W.heap.size, g22, g27, g31, g35, g41, g47, rfl, EV.newL encSb_len rfl rfl (Nat.le_refl _), pool_rows (w22.below (bel_alloc W _)) (w27.below (bel_alloc W _)) (w31.below (bel_alloc W _)) (w35.below (bel_alloc W _)) (w41.below (bel_alloc W _)) (w47.below (bel_alloc W _))⟩
  ·have q33 : ∃ g g22 g27 g31 g35 g41 g47, (x 33) = .slice (some ⟨g, 0, none⟩) 12 12 ∧ LsB W (.slice (some ⟨g, 0, none⟩) 12 12) (poolL g22 g27 g31 g35 g41 g47) := hg 33 (by kernel_rfl) rfl
   obtain ⟨g, g22, g27, g31, g35, g41, g47, e1, e2⟩ := q33
   clear ho hd hg hmm hi
   simp only [upd, reduceIte, Nat.reduceEqDiff, e1] at hK
   try dsimp only
   try rw [e1]
   go_simp
   have bb := Below.refl W.heap.size W
   exact hK _ _ bb (⟨g, g22, g27, g31, g35, g41, g47, rfl, e2⟩)
 case hend =>
  intro x W hb hd hg
  obtain ⟨g, g22, g27, g31, g35, g41, g47, e1, e2⟩ := hg 34 (by omega) rfl
  clear hd hg
  try dsimp only
  rw [e1]
  clear e1
  generalize x 0 = y0
  generalize x 1 = y1
  generalize x 2 = y2
  generalize x 3 = y3
  generalize x 4 = y4
  generalize x 5 = y5
  generalize x 6 = y6
  generalize x 7 = y7
  generalize x 8 = y8
  generalize x 9 = y9
  generalize x 10 = y10
  generalize x 11 = y11
  generalize x 12 = y12
  generalize x 13 = y13
  generalize x 14 = y14
  generalize x 15 = y15
  generalize x 16 = y16
  generalize x 17 = y17
  generalize x 18 = y18
  generalize x 19 = y19
  generalize x 20 = y20
  generalize x 21 = y21
  generalize x 22 = y22
  generalize x 23 = y23
  generalize x 24 = y24
  generalize x 25 = y25
  generalize x 26 = y26
  generalize x 27 = y27
  generalize x 28 = y28
  generalize x 29 = y29
  generalize x 30 = y30
  generalize x 31 = y31
  generalize x 32 = y32
  generalize x 33 = y33
  refine hK0 _ _ (small_t5 w W g (poolL g22 g27 g31 g35 g41 g47) (HB.out.trans (hb.mono HB.out.size)) HU.out e2 rfl (pool_ok _ _ _ _ _ _))
end Go.Proofs.YtalophngappkhaaGreatDoor
namespace Go.Proofs.YtalophngappkhaaGreatDoor
open Go Go.RowKit Go.Shelf
attribute [local go_sem] Oper.semAt_some
set_option maxRecDepth 100000 in
set_option maxHeartbeats 3200000 in
theorem small_walk (w : World) (hU : LaidAt w) :
  Calls Tryz.prog 3 #[] w fun r w' => r = .returned (.bool true) ∧ Below w.heap.size w w' := by
 have HU := Lib.hid hU
 clear hU
 go_enter Tryz.func3, Tryz.ntmps3
 go_wp2_with fail
 refine (pick_ok w 2 1).mono ?_
 rintro r w1 ⟨rfl, b1⟩
 unfold evA pickE
 dsimp only
 have HB1 := Lib.hid b1
 clear b1
 go_upto_region 3 with fail
 have HE := Lib.hid (evp_row (e := pickE 2 1) (World.alloc_heap_new w1 _))
 have HB2 := Lib.hid (bstep HB1.out (bel_alloc w1 (.cells #[.int .i64 2, .int .i64 0, .int .u8 1, .int .u8 6, .int .i64 0, .int .i64 0, .int .i64 0, .int .i64 0, .int .i64 0, .int .u64 0, .int .i64 0] 28)))
 have HX := Lib.hid HB1.out.size
 unfold pickE encE at HE
 dsimp only [List.toArray] at HE
 generalize w1.alloc (.cells #[.int .i64 2, .int .i64 0, .int .u8 1, .int .u8 6, .int .i64 0, .int .i64 0, .int .i64 0, .int .i64 0, .int .i64 0, .int .u64 0, .int .i64 0] 28) = W at HE HB2 ⊢
 generalize w1.heap.size = X at HE HX ⊢
 have c1 := HE.out.1.c1
 have f1 := HE.out.2 1
 go_cut [] (fun wz => ∃ wq, wq = wz ∧ Below w.heap.size w wq ∧ EvP wq X othP)
 case first =>
  go_wp2
  go_meet
  exact ⟨_, rfl, HB2.out.setCell HX.out _, evp_store (e := pickE 2 1) (e' := othP) HE.out.1 rfl (encE_time (pickE 2 1) 5)⟩
 case rest =>
  obtain ⟨wq, rfl, hb, he⟩ := hcut
  refine (‹∀ (a : Act) (w : World), Code.wp _ _ _ a w → _› : ∀ (a : Act) (w : World), _ → _) _ _ (small_t4 w _ X _ rfl hb HU.out ⟨he.c0, he.c1, he.c2, he.c3, he.c4, he.c5, he.c6, he.c7, he.c8, he.c9, he.c10⟩)
end Go.Proofs.YtalophngappkhaaGreatDoor
