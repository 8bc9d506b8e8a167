/- quantumlaw12.awake: the walk of its second test, and the whole | quantumlaw12.awake | quantumlaw06.Made, in plain words. -/
import Derived.Test.YtalophngappkhaaGreatDoorV22
import Derived.Test.YtalophngappkhaaGreatDoorV8
set_option linter.unusedVariables false
set_option linter.unusedSimpArgs false
set_option linter.unusedSectionVars false
namespace Go.Proofs.YtalophngappkhaaGreatDoor
open Go Go.RowKit Go.Shelf
attribute [local go_sem] Oper.semAt_some

set_option maxRecDepth 100000 in
set_option maxHeartbeats 6400000 in
theorem awake_t10 (w wc : World) (g cp X n1 c1 c2 n3 c3 : Nat) (A1 A2 A3 : Option Addr) (va vb : Value) {u0 u3 u4 u5 u6 u7 u8 u9 u10 u11 u12 u13 u14 u15 u16 u17 u18 u19 u20 u21 u22 u23 u24 u25 u26 u27 u28 u29 u30 u31 u32 u33 u34 u35 u36 u37 u38 u39 u40 u41 u42 u43 u44 u45 u46 u47 u48 u49 u50 u51 u52 u53 u54 u55 u56 u57 u58 u59 u60 u61 u62 u63 u64 u65 u66 u67 u68 u69 u70 u71 u72 u73 u74 u75 u76 u77 u78 u79 u80 u81 u82 u83 u84 u85 u86 u87 u88 u89 u90 u91 u92 u93 u94 u95 u96 u97 u98 u99 u100 u101 u102 u103 u104 u105 u106 u107 u108 u109 u110 u111 u112 u113 u114 u115 u116 u117 u118 u119 u120 u121 u122 u123 u124 u125 u126 u127 u128 u129 u130 u131 u132 u133 u134 u135 u136 u137 u138 u139 u140 u141 u142 u143 u144 u145 u146 u147 u148 u149 u150 u151 u152 u153 u154 u155 u156 u157 u158 u159 u160 u161 u162 u163 u164 u165 u166 u167 u168 u169 u170 u171 u172 u173 u174 u175 u176 u177 u178 u179 u180 u181 u182 u183 u184 u185 u186 : Value} (h : AB w wc (.slice (some ⟨g, 0, none⟩) 3 cp) va vb 8) (hm : MB wc X (.slice A1 n1 c1) (.slice A2 0 c2) (.slice A3 n3 c3) (exM [(3, 1), (5, 2)] 8 false)) (hla : LaidAt w) :
  Code.wp Tryz.prog (tailR Tryz.f19 10) (bodyPost Tryz.prog Tryz.f19 (fun e w' => e = .returned (.bool true) ∧ Below w.heap.size w w'))
   ⟨#[u0, .slice (some ⟨g, 0, none⟩) 3 cp, .pointer (some ⟨X, 0, none⟩), u3, u4, u5, u6, u7, u8, u9, u10, u11, u12, u13, u14, u15, u16, u17, u18, u19, u20, u21, u22, u23, u24, u25, u26, u27, u28, u29, u30, u31, u32, u33, u34, u35, u36, u37, u38, u39, u40, u41, u42, u43, u44, u45, u46, u47, u48, u49, u50, u51, u52, u53, u54, u55, u56, u57, u58, u59, u60, u61, u62, u63, u64, u65, u66, u67, u68, u69, u70, u71, u72, u73, u74, u75, u76, u77, u78, u79, u80, u81, u82, u83, u84, u85, u86, u87, u88, u89, u90, u91, u92, u93, u94, u95, u96, u97, u98, u99, u100, u101, u102, u103, u104, u105, u106, u107, u108, u109, u110, u111, u112, u113, u114, u115, u116, u117, u118, u119, u120, u121, u122, u123, u124, u125, u126, u127, u128, u129, u130, u131, u132, u133, u134, u135, u136, u137, u138, u139, u140, u141, u142, u143, u144, u145, u146, u147, u148, u149, u150, u151, u152, u153, u154, u155, u156, u157, u158, u159, u160, u161, u162, u163, u164, u165, u166, u167, u168, u169, u170, u171, u172, u173, u174, u175, u176, u177, u178, u179, u180, u181, u182, u183, u184, u185, u186], []⟩ wc := by
 conv => arg 2; whnf
 conv => arg 4; dsimp only
 have HA := Lib.hid h
 have HM := Lib.hid hm
 have HL := Lib.hid hla
 clear h hm hla
 apply wp_seq_k
 intro K0 hK0
 go_cut [] (fun wx => Below wc.heap.size wc wx)
 case first =>
  go_wp2_with fail
  refine wp_region_dagG (by kernel_rfl) 38 rfl (fun i => i == 23 || i == 24 || i == 30 || i == 31 || i == 32 || i == 33 || i == 34 || i == 35) (fun i => !(false)) ?hMw (fun x => ⟨#[u0, .slice (some ⟨g, 0, none⟩) 3 cp, .pointer (some ⟨X, 0, none⟩), u3, u4, u5, u6, u7, u8, u9, u10, u11, u12, u13, u14, u15, u16, u17, u18, u19, u20, u21, u22, u23, u24, u25, u26, u27, u28, u29, u30, u31, u32, u33, u34, u35, u36, u37, u38, u39, u40, u41, u42, u43, u44, u45, u46, u47, u48, u49, u50, u51, u52, u53, u54, u55, u56, u57, u58, u59, u60, u61, u62, u63, u64, u65, u66, u67, u68, u69, u70, u71, u72, u73, u74, u75, u76, u77, u78, u79, u80, u81, u82, u83, u84, x 0, x 1, x 2, x 3, x 4, x 5, x 6, x 7, x 8, x 9, x 10, x 11, x 12, x 13, x 14, x 15, x 16, x 17, x 18, x 19, x 20, x 21, x 22, x 23, x 24, x 25, x 26, x 27, x 28, x 29, x 30, x 31, x 32, x 33, x 34, x 35, x 36, x 37, u123, u124, u125, u126, u127, u128, u129, u130, u131, u132, u133, u134, u135, u136, u137, u138, u139, u140, u141, u142, u143, u144, u145, u146, u147, u148, u149, u150, u151, u152, u153, u154, u155, u156, u157, u158, u159, u160, u161, u162, u163, u164, u165, u166, u167, u168, u169, u170, u171, u172, u173, u174, u175, u176, u177, u178, u179, u180, u181, u182, u183, u184, u185, u186], []⟩) (fun iF vF => match iF with | 0 => vF = .pointer (some ⟨X, 3, none⟩) | 1 => vF = .int .i64 2 | 2 => vF = .bool false | 3 => vF = .bool false | 4 => vF = .pointer (some ⟨X, 4, none⟩) | 5 => vF = .int .i64 8 | 6 => vF = .bool false | 7 => vF = .bool false | 8 => vF = .bool false | 9 => vF = .pointer (some ⟨X, 5, none⟩) | 10 => vF = .bool false | 11 => vF = .bool false | 12 => vF = .bool false | 13 => vF = .pointer (some ⟨X, 1, none⟩) | 14 => vF = .slice A2 0 c2 | 15 => vF = .int .i64 0 | 16 => vF = .bool false | 17 => vF = .bool false | 18 => vF = .bool false | 19 => vF = .pointer (some ⟨X, 2, none⟩) | 20 => vF = .slice A3 n3 c3 | 21 => vF = .agg #[.int .i64 3, .int .i64 1] | 22 => vF = .agg #[.int .i64 5, .int .i64 2] | 25 => vF = .bool false | 26 => vF = .bool false | 27 => vF = .bool false | 28 => vF = .pointer (some ⟨X, 0, none⟩) | 29 => vF = .slice A1 n1 c1 | 36 => vF = .bool false | 37 => vF = .bool false | _ => True)
   (fun d x W => Below wc.heap.size wc W ∧ (d 23 = true → EV encP 2 W (x 23) [(3, 1), (5, 2)]) ∧ (d 24 = true → x 24 = .bool true) ∧ (d 30 = true → x 30 = evA (pickE 1 0)) ∧ (d 31 = true → x 31 = evA (pickE 2 1)) ∧ (d 32 = true → x 32 = evA (pickE 4 0)) ∧ (d 33 = true → x 33 = evA (pickE 7 1)) ∧ (d 34 = true → EV encE 11 W (x 34) exR) ∧ (d 35 = true → x 35 = .bool true)) ?hB ?hwant ?hoff (by kernel_rfl) ?hpure ?hmem ?hend (fun i => (#[u85, u86, u87, u88, u89, u90, u91, u92, u93, u94, u95, u96, u97, u98, u99, u100, u101, u102, u103, u104, u105, u106, u107, u108, u109, u110, u111, u112, u113, u114, u115, u116, u117, u118, u119, u120, u121, u122] : Array Value).getD i undef) rfl ?hstart
  case hstart =>
   try dsimp only
   exact ⟨below_drew (Below.refl _ _), fun h => (by cases h), fun h => (by cases h), fun h => (by cases h), fun h => (by cases h), fun h => (by cases h), fun h => (by cases h), fun h => (by cases h), fun h => (by cases h)⟩
  case hB =>
   intro d d' x i v W hi hm h
   have g23 : ¬ 23 = i := by rintro rfl; exact absurd (show true = false from hi) (by simp)
   have e23 : d' 23 = d 23 := hm 23 rfl
   have g24 : ¬ 24 = i := by rintro rfl; exact absurd (show true = false from hi) (by simp)
   have e24 : d' 24 = d 24 := hm 24 rfl
   have g30 : ¬ 30 = i := by rintro rfl; exact absurd (show true = false from hi) (by simp)
   have e30 : d' 30 = d 30 := hm 30 rfl
   have g31 : ¬ 31 = i := by rintro rfl; exact absurd (show true = false from hi) (by simp)
   have e31 : d' 31 = d 31 := hm 31 rfl
   have g32 : ¬ 32 = i := by rintro rfl; exact absurd (show true = false from hi) (by simp)
   have e32 : d' 32 = d 32 := hm 32 rfl
   have g33 : ¬ 33 = i := by rintro rfl; exact absurd (show true = false from hi) (by simp)
   have e33 : d' 33 = d 33 := hm 33 rfl
   have g34 : ¬ 34 = i := by rintro rfl; exact absurd (show true = false from hi) (by simp)
   have e34 : d' 34 = d 34 := hm 34 rfl
   have g35 : ¬ 35 = i := by rintro rfl; exact absurd (show true = false from hi) (by simp)
   have e35 : d' 35 = d 35 := hm 35 rfl
   try dsimp only at h ⊢
   first | rw [upd_ne g23, upd_ne g24, upd_ne g30, upd_ne g31, upd_ne g32, upd_ne g33, upd_ne g34, upd_ne g35, e23, e24, e30, e31, e32, e33, e34, e35] | simp only [upd_ne g23, upd_ne g24, upd_ne g30, upd_ne g31, upd_ne g32, upd_ne g33, upd_ne g34, upd_ne g35, e23, e24, e30, e31, e32, e33, e34, e35]
   exact h
  case hMw =>
   intro i hi
   simp only [Bool.or_eq_true, beq_iff_eq] at hi
   rcases hi with ((((((rfl | rfl) | rfl) | rfl) | rfl) | rfl) | rfl) | rfl
   all_goals rfl
  case hwant =>
   intro iF o hi ho x hf
   rcases (show iF = 0 ∨ iF = 1 ∨ iF = 2 ∨ iF = 3 ∨ iF = 4 ∨ iF = 5 ∨ iF = 6 ∨ iF = 7 ∨ iF = 8 ∨ iF = 9 ∨ iF = 10 ∨ iF = 11 ∨ iF = 12 ∨ iF = 13 ∨ iF = 14 ∨ iF = 15 ∨ iF = 16 ∨ iF = 17 ∨ iF = 18 ∨ iF = 19 ∨ iF = 20 ∨ iF = 21 ∨ iF = 22 ∨ iF = 23 ∨ iF = 24 ∨ iF = 25 ∨ iF = 26 ∨ iF = 27 ∨ iF = 28 ∨ iF = 29 ∨ iF = 30 ∨ iF = 31 ∨ iF = 32 ∨ iF = 33 ∨ iF = 34 ∨ iF = 35 ∨ iF = 36 ∨ iF = 37 by omega) with rfl | rfl | rfl | rfl | rfl | rfl | rfl | rfl | rfl | rfl | rfl | rfl | rfl | rfl | rfl | rfl | rfl | rfl | rfl | rfl | rfl | rfl | rfl | rfl | rfl | rfl | rfl | rfl | rfl | rfl | rfl | rfl | rfl | rfl | rfl | rfl | rfl | rfl <;> obtain rfl := Option.some.inj ho
   ·rfl
   ·rfl
   ·rfl
   ·rfl
   ·exact want_v (v := x 3) (hf 3 (by kernel_rfl) (by kernel_rfl)) rfl
   ·exact want_v (v := x 3) (hf 3 (by kernel_rfl) (by kernel_rfl)) rfl
   ·exact want_v (v := x 3) (hf 3 (by kernel_rfl) (by kernel_rfl)) rfl
   ·rfl
   ·rfl
   ·exact want_v (v := x 8) (hf 8 (by kernel_rfl) (by kernel_rfl)) rfl
   ·exact want_v (v := x 8) (hf 8 (by kernel_rfl) (by kernel_rfl)) rfl
   ·rfl
   ·rfl
   ·exact want_v (v := x 12) (hf 12 (by kernel_rfl) (by kernel_rfl)) rfl
   ·exact want_v (v := x 12) (hf 12 (by kernel_rfl) (by kernel_rfl)) rfl
   ·exact want_v (v := x 12) (hf 12 (by kernel_rfl) (by kernel_rfl)) rfl
   ·exact want_v (v := x 12) (hf 12 (by kernel_rfl) (by kernel_rfl)) rfl
   ·rfl
   ·rfl
   ·exact want_v (v := x 18) (hf 18 (by kernel_rfl) (by kernel_rfl)) rfl
   ·exact want_v (v := x 18) (hf 18 (by kernel_rfl) (by kernel_rfl)) rfl
   ·exact want_v (v := x 18) (hf 18 (by kernel_rfl) (by kernel_rfl)) rfl
   ·exact want_v (v := x 18) (hf 18 (by kernel_rfl) (by kernel_rfl)) rfl
   ·exact want_v (v := x 18) (hf 18 (by kernel_rfl) (by kernel_rfl)) rfl
   ·exact want_v (v := x 18) (hf 18 (by kernel_rfl) (by kernel_rfl)) rfl
   ·exact want_v (v := x 18) (hf 18 (by kernel_rfl) (by kernel_rfl)) rfl
   ·rfl
   ·rfl
   ·exact want_v (v := x 27) (hf 27 (by kernel_rfl) (by kernel_rfl)) rfl
   ·exact want_v (v := x 27) (hf 27 (by kernel_rfl) (by kernel_rfl)) rfl
   ·exact want_v (v := x 27) (hf 27 (by kernel_rfl) (by kernel_rfl)) rfl
   ·exact want_v (v := x 27) (hf 27 (by kernel_rfl) (by kernel_rfl)) rfl
   ·exact want_v (v := x 27) (hf 27 (by kernel_rfl) (by kernel_rfl)) rfl
   ·exact want_v (v := x 27) (hf 27 (by kernel_rfl) (by kernel_rfl)) rfl
   ·exact want_v (v := x 27) (hf 27 (by kernel_rfl) (by kernel_rfl)) rfl
   ·exact want_v (v := x 27) (hf 27 (by kernel_rfl) (by kernel_rfl)) rfl
   ·exact want_v (v := x 27) (hf 27 (by kernel_rfl) (by kernel_rfl)) rfl
   ·rfl
  case hoff =>
   intro iF o hi hw ho x
   rcases (show iF = 0 ∨ iF = 1 ∨ iF = 2 ∨ iF = 3 ∨ iF = 4 ∨ iF = 5 ∨ iF = 6 ∨ iF = 7 ∨ iF = 8 ∨ iF = 9 ∨ iF = 10 ∨ iF = 11 ∨ iF = 12 ∨ iF = 13 ∨ iF = 14 ∨ iF = 15 ∨ iF = 16 ∨ iF = 17 ∨ iF = 18 ∨ iF = 19 ∨ iF = 20 ∨ iF = 21 ∨ iF = 22 ∨ iF = 23 ∨ iF = 24 ∨ iF = 25 ∨ iF = 26 ∨ iF = 27 ∨ iF = 28 ∨ iF = 29 ∨ iF = 30 ∨ iF = 31 ∨ iF = 32 ∨ iF = 33 ∨ iF = 34 ∨ iF = 35 ∨ iF = 36 ∨ iF = 37 by omega) with rfl | rfl | rfl | rfl | rfl | rfl | rfl | rfl | rfl | rfl | rfl | rfl | rfl | rfl | rfl | rfl | rfl | rfl | rfl | rfl | rfl | rfl | rfl | rfl | rfl | rfl | rfl | rfl | rfl | rfl | rfl | rfl | rfl | rfl | rfl | rfl | rfl | rfl
   all_goals first | exact absurd (show true = false from hw) (by simp) | skip
  case hpure =>
   intro iF o hi hnm hww ho d x W hB hd hdn hnd hcl Kq hK
   rcases (show iF = 0 ∨ iF = 1 ∨ iF = 2 ∨ iF = 3 ∨ iF = 4 ∨ iF = 5 ∨ iF = 6 ∨ iF = 7 ∨ iF = 8 ∨ iF = 9 ∨ iF = 10 ∨ iF = 11 ∨ iF = 12 ∨ iF = 13 ∨ iF = 14 ∨ iF = 15 ∨ iF = 16 ∨ iF = 17 ∨ iF = 18 ∨ iF = 19 ∨ iF = 20 ∨ iF = 21 ∨ iF = 22 ∨ iF = 23 ∨ iF = 24 ∨ iF = 25 ∨ iF = 26 ∨ iF = 27 ∨ iF = 28 ∨ iF = 29 ∨ iF = 30 ∨ iF = 31 ∨ iF = 32 ∨ iF = 33 ∨ iF = 34 ∨ iF = 35 ∨ iF = 36 ∨ iF = 37 by omega) with rfl | rfl | rfl | rfl | rfl | rfl | rfl | rfl | rfl | rfl | rfl | rfl | rfl | rfl | rfl | rfl | rfl | rfl | rfl | rfl | rfl | rfl | rfl | rfl | rfl | rfl | rfl | rfl | rfl | rfl | rfl | rfl | rfl | rfl | rfl | rfl | rfl | rfl <;> obtain rfl := Option.some.inj ho
   all_goals first | exact absurd (show true = false from hnm) (by simp) | skip
   ·clear ho hd hdn hnd hcl hB hnm hi
    simp only [upd, reduceIte, Nat.reduceEqDiff] at hK
    try dsimp only
    go_simp
    exact hK _ rfl
   ·have e0 : x 0 = .pointer (some ⟨X, 3, none⟩) := hd 0 (by kernel_rfl) (by kernel_rfl)
    have cz := (HM.out.box.below hB.1).c3
    try unfold exM at cz
    try dsimp only at cz
    clear ho hd hdn hnd hcl hB hnm hi
    simp only [upd, reduceIte, Nat.reduceEqDiff, e0] at hK
    try dsimp only
    go_simp
    exact hK _ rfl
   ·have e1 : x 1 = .int .i64 2 := hd 1 (by kernel_rfl) (by kernel_rfl)
    clear ho hd hdn hnd hcl hB hnm hi
    simp only [upd, reduceIte, Nat.reduceEqDiff, e1] at hK
    try dsimp only
    go_simp
    exact hK _ rfl
   ·have e2 : x 2 = .bool false := hd 2 (by kernel_rfl) (by kernel_rfl)
    clear ho hd hdn hnd hcl hB hnm hi
    simp only [upd, reduceIte, Nat.reduceEqDiff, e2] at hK
    try dsimp only
    go_simp
    exact hK _ rfl
   ·clear ho hd hdn hnd hcl hB hnm hi
    simp only [upd, reduceIte, Nat.reduceEqDiff] at hK
    try dsimp only
    go_simp
    exact hK _ rfl
   ·have e4 : x 4 = .pointer (some ⟨X, 4, none⟩) := hd 4 (by kernel_rfl) (by kernel_rfl)
    have cz := (HM.out.box.below hB.1).c4
    try unfold exM at cz
    try dsimp only at cz
    clear ho hd hdn hnd hcl hB hnm hi
    simp only [upd, reduceIte, Nat.reduceEqDiff, e4] at hK
    try dsimp only
    go_simp
    exact hK _ rfl
   ·have e5 : x 5 = .int .i64 8 := hd 5 (by kernel_rfl) (by kernel_rfl)
    clear ho hd hdn hnd hcl hB hnm hi
    simp only [upd, reduceIte, Nat.reduceEqDiff, e5] at hK
    try dsimp only
    go_simp
    exact hK _ rfl
   ·have e3 : x 3 = .bool false := hd 3 (by kernel_rfl) (by kernel_rfl)
    have e6 : x 6 = .bool false := hd 6 (by kernel_rfl) (by kernel_rfl)
    clear ho hd hdn hnd hcl hB hnm hi
    simp only [upd, reduceIte, Nat.reduceEqDiff, e3, e6] at hK
    try dsimp only
    go_simp
    exact hK _ rfl
   ·have e7 : x 7 = .bool false := hd 7 (by kernel_rfl) (by kernel_rfl)
    clear ho hd hdn hnd hcl hB hnm hi
    simp only [upd, reduceIte, Nat.reduceEqDiff, e7] at hK
    try dsimp only
    go_simp
    exact hK _ rfl
   ·clear ho hd hdn hnd hcl hB hnm hi
    simp only [upd, reduceIte, Nat.reduceEqDiff] at hK
    try dsimp only
    go_simp
    exact hK _ rfl
   ·have e9 : x 9 = .pointer (some ⟨X, 5, none⟩) := hd 9 (by kernel_rfl) (by kernel_rfl)
    have cz := (HM.out.box.below hB.1).c5
    try unfold exM at cz
    try dsimp only at cz
    clear ho hd hdn hnd hcl hB hnm hi
    simp only [upd, reduceIte, Nat.reduceEqDiff, e9] at hK
    try dsimp only
    go_simp
    exact hK _ rfl
   ·have e8 : x 8 = .bool false := hd 8 (by kernel_rfl) (by kernel_rfl)
    have e10 : x 10 = .bool false := hd 10 (by kernel_rfl) (by kernel_rfl)
    clear ho hd hdn hnd hcl hB hnm hi
    simp only [upd, reduceIte, Nat.reduceEqDiff, e8, e10] at hK
    try dsimp only
    go_simp
    exact hK _ rfl
   ·have e11 : x 11 = .bool false := hd 11 (by kernel_rfl) (by kernel_rfl)
    clear ho hd hdn hnd hcl hB hnm hi
    simp only [upd, reduceIte, Nat.reduceEqDiff, e11] at hK
    try dsimp only
    go_simp
    exact hK _ rfl
   ·clear ho hd hdn hnd hcl hB hnm hi
    simp only [upd, reduceIte, Nat.reduceEqDiff] at hK
    try dsimp only
    go_simp
    exact hK _ rfl
   ·have e13 : x 13 = .pointer (some ⟨X, 1, none⟩) := hd 13 (by kernel_rfl) (by kernel_rfl)
    have cz := (HM.out.box.below hB.1).c1
    try unfold exM at cz
    try dsimp only at cz
    clear ho hd hdn hnd hcl hB hnm hi
    simp only [upd, reduceIte, Nat.reduceEqDiff, e13] at hK
    try dsimp only
    go_simp
    exact hK _ rfl
   ·have e14 : x 14 = .slice A2 0 c2 := hd 14 (by kernel_rfl) (by kernel_rfl)
    clear ho hd hdn hnd hcl hB hnm hi
    simp only [upd, reduceIte, Nat.reduceEqDiff, e14] at hK
    try dsimp only
    go_simp
    exact hK _ rfl
   ·have e15 : x 15 = .int .i64 0 := hd 15 (by kernel_rfl) (by kernel_rfl)
    clear ho hd hdn hnd hcl hB hnm hi
    simp only [upd, reduceIte, Nat.reduceEqDiff, e15] at hK
    try dsimp only
    go_simp
    exact hK _ rfl
   ·have e12 : x 12 = .bool false := hd 12 (by kernel_rfl) (by kernel_rfl)
    have e16 : x 16 = .bool false := hd 16 (by kernel_rfl) (by kernel_rfl)
    clear ho hd hdn hnd hcl hB hnm hi
    simp only [upd, reduceIte, Nat.reduceEqDiff, e12, e16] at hK
    try dsimp only
    go_simp
    exact hK _ rfl
   ·have e17 : x 17 = .bool false := hd 17 (by kernel_rfl) (by kernel_rfl)
    clear ho hd hdn hnd hcl hB hnm hi
    simp only [upd, reduceIte, Nat.reduceEqDiff, e17] at hK
    try dsimp only
    go_simp
    exact hK _ rfl
   ·clear ho hd hdn hnd hcl hB hnm hi
    simp only [upd, reduceIte, Nat.reduceEqDiff] at hK
    try dsimp only
    go_simp
    exact hK _ rfl
   ·have e19 : x 19 = .pointer (some ⟨X, 2, none⟩) := hd 19 (by kernel_rfl) (by kernel_rfl)
    have cz := (HM.out.box.below hB.1).c2
    try unfold exM at cz
    try dsimp only at cz
    clear ho hd hdn hnd hcl hB hnm hi
    simp only [upd, reduceIte, Nat.reduceEqDiff, e19] at hK
    try dsimp only
    go_simp
    exact hK _ rfl
   ·clear ho hd hdn hnd hcl hB hnm hi
    simp only [upd, reduceIte, Nat.reduceEqDiff] at hK
    try dsimp only
    go_simp
    exact hK _ rfl
   ·clear ho hd hdn hnd hcl hB hnm hi
    simp only [upd, reduceIte, Nat.reduceEqDiff] at hK
    try dsimp only
    go_simp
    exact hK _ rfl
   ·have e24 : x 24 = .bool true := hB.2.2.1 (hdn 24 (by kernel_rfl))
    clear ho hd hdn hnd hcl hB hnm hi
    simp only [upd, reduceIte, Nat.reduceEqDiff, e24] at hK
    try dsimp only
    try rw [e24]
    go_simp
    exact hK _ rfl
   ·have e18 : x 18 = .bool false := hd 18 (by kernel_rfl) (by kernel_rfl)
    have e25 : x 25 = .bool false := hd 25 (by kernel_rfl) (by kernel_rfl)
    clear ho hd hdn hnd hcl hB hnm hi
    simp only [upd, reduceIte, Nat.reduceEqDiff, e18, e25] at hK
    try dsimp only
    go_simp
    exact hK _ rfl
   ·have e26 : x 26 = .bool false := hd 26 (by kernel_rfl) (by kernel_rfl)
    clear ho hd hdn hnd hcl hB hnm hi
    simp only [upd, reduceIte, Nat.reduceEqDiff, e26] at hK
    try dsimp only
    go_simp
    exact hK _ rfl
   ·clear ho hd hdn hnd hcl hB hnm hi
    simp only [upd, reduceIte, Nat.reduceEqDiff] at hK
    try dsimp only
    go_simp
    exact hK _ rfl
   ·have e28 : x 28 = .pointer (some ⟨X, 0, none⟩) := hd 28 (by kernel_rfl) (by kernel_rfl)
    have cz := (HM.out.box.below hB.1).c0
    try unfold exM at cz
    try dsimp only at cz
    clear ho hd hdn hnd hcl hB hnm hi
    simp only [upd, reduceIte, Nat.reduceEqDiff, e28] at hK
    try dsimp only
    go_simp
    exact hK _ rfl
   ·have e35 : x 35 = .bool true := hB.2.2.2.2.2.2.2.2 (hdn 35 (by kernel_rfl))
    clear ho hd hdn hnd hcl hB hnm hi
    simp only [upd, reduceIte, Nat.reduceEqDiff, e35] at hK
    try dsimp only
    try rw [e35]
    go_simp
    exact hK _ rfl
   ·have e27 : x 27 = .bool false := hd 27 (by kernel_rfl) (by kernel_rfl)
    have e36 : x 36 = .bool false := hd 36 (by kernel_rfl) (by kernel_rfl)
    clear ho hd hdn hnd hcl hB hnm hi
    simp only [upd, reduceIte, Nat.reduceEqDiff, e27, e36] at hK
    try dsimp only
    go_simp
    exact hK _ rfl
  case hmem =>
   intro iF o hi hmm ho d d' x W hB hd hdn hnd hdi hdi' hdm hcl Kq hK
   rcases (show iF = 0 ∨ iF = 1 ∨ iF = 2 ∨ iF = 3 ∨ iF = 4 ∨ iF = 5 ∨ iF = 6 ∨ iF = 7 ∨ iF = 8 ∨ iF = 9 ∨ iF = 10 ∨ iF = 11 ∨ iF = 12 ∨ iF = 13 ∨ iF = 14 ∨ iF = 15 ∨ iF = 16 ∨ iF = 17 ∨ iF = 18 ∨ iF = 19 ∨ iF = 20 ∨ iF = 21 ∨ iF = 22 ∨ iF = 23 ∨ iF = 24 ∨ iF = 25 ∨ iF = 26 ∨ iF = 27 ∨ iF = 28 ∨ iF = 29 ∨ iF = 30 ∨ iF = 31 ∨ iF = 32 ∨ iF = 33 ∨ iF = 34 ∨ iF = 35 ∨ iF = 36 ∨ iF = 37 by omega) with rfl | rfl | rfl | rfl | rfl | rfl | rfl | rfl | rfl | rfl | rfl | rfl | rfl | rfl | rfl | rfl | rfl | rfl | rfl | rfl | rfl | rfl | rfl | rfl | rfl | rfl | rfl | rfl | rfl | rfl | rfl | rfl | rfl | rfl | rfl | rfl | rfl | rfl <;> obtain rfl := Option.some.inj ho
   all_goals first | exact absurd (show false = true from hmm) (by simp) | skip
   ·have e21 : x 21 = .agg #[.int .i64 3, .int .i64 1] := hd 21 (by kernel_rfl) (by kernel_rfl)
    have e22 : x 22 = .agg #[.int .i64 5, .int .i64 2] := hd 22 (by kernel_rfl) (by kernel_rfl)
    have dm24 : d' 24 = d 24 := hdm 24 (by omega)
    have dm30 : d' 30 = d 30 := hdm 30 (by omega)
    have dm31 : d' 31 = d 31 := hdm 31 (by omega)
    have dm32 : d' 32 = d 32 := hdm 32 (by omega)
    have dm33 : d' 33 = d 33 := hdm 33 (by omega)
    have dm34 : d' 34 = d 34 := hdm 34 (by omega)
    have dm35 : d' 35 = d 35 := hdm 35 (by omega)
    obtain ⟨hb, h23, h24, h30, h31, h32, h33, h34, h35⟩ := hB
    clear ho hd hdn hnd hcl hmm
    simp only [upd, reduceIte, Nat.reduceEqDiff, e21, e22] at hK
    try dsimp only
    go_simp
    refine hK _ _ ?_
    try dsimp only
    rw [dm24, dm30, dm31, dm32, dm33, dm34, dm35, hdi']
    exact ⟨(bstep hb (bel_alloc _ _)), fun _ => EV.newL (xs := [(3, 1), (5, 2)]) encP_len rfl rfl (Nat.le_refl _), h24, h30, h31, h32, h33, fun k => (h34 k).below (bel_alloc _ _), h35⟩
   ·have e20 : x 20 = .slice A3 n3 c3 := hd 20 (by kernel_rfl) (by kernel_rfl)
    have dm23 : d' 23 = d 23 := hdm 23 (by omega)
    have dm30 : d' 30 = d 30 := hdm 30 (by omega)
    have dm31 : d' 31 = d 31 := hdm 31 (by omega)
    have dm32 : d' 32 = d 32 := hdm 32 (by omega)
    have dm33 : d' 33 = d 33 := hdm 33 (by omega)
    have dm34 : d' 34 = d 34 := hdm 34 (by omega)
    have dm35 : d' 35 = d 35 := hdm 35 (by omega)
    have dn23 : d 23 = true := hdn 23 (by kernel_rfl)
    obtain ⟨hb, h23, h24, h30, h31, h32, h33, h34, h35⟩ := hB
    have q23 := h23 dn23
    clear ho hd hdn hnd hcl hmm
    simp only [upd, reduceIte, Nat.reduceEqDiff, e20] at hK
    try dsimp only
    go_simp
    go_at_call 38
    refine (eq_run W (.slice A3 n3 c3) (x 23) [(3, 1), (5, 2)] (HM.out.eg.below hb) q23 (by decide)).mono ?_
    rintro r W2 ⟨rfl, bb⟩
    go_simp
    refine hK _ _ ?_
    try dsimp only
    rw [dm23, dm30, dm31, dm32, dm33, dm34, dm35, hdi']
    exact ⟨(bstep hb (bb)), fun k => (h23 k).below (bb), fun _ => rfl, h30, h31, h32, h33, fun k => (h34 k).below (bb), h35⟩
   ·have dm23 : d' 23 = d 23 := hdm 23 (by omega)
    have dm24 : d' 24 = d 24 := hdm 24 (by omega)
    have dm31 : d' 31 = d 31 := hdm 31 (by omega)
    have dm32 : d' 32 = d 32 := hdm 32 (by omega)
    have dm33 : d' 33 = d 33 := hdm 33 (by omega)
    have dm34 : d' 34 = d 34 := hdm 34 (by omega)
    have dm35 : d' 35 = d 35 := hdm 35 (by omega)
    obtain ⟨hb, h23, h24, h30, h31, h32, h33, h34, h35⟩ := hB
    clear ho hd hdn hnd hcl hmm
    simp only [upd, reduceIte, Nat.reduceEqDiff] at hK
    try dsimp only
    go_simp
    go_at_call 14
    refine (pick_ok W 1 0).mono ?_
    rintro r W2 ⟨rfl, bb⟩
    go_simp
    refine hK _ _ ?_
    try dsimp only
    rw [dm23, dm24, dm31, dm32, dm33, dm34, dm35, hdi']
    exact ⟨(bstep hb (bb)), fun k => (h23 k).below (bb), h24, fun _ => rfl, h31, h32, h33, fun k => (h34 k).below (bb), h35⟩
   ·have dm23 : d' 23 = d 23 := hdm 23 (by omega)
    have dm24 : d' 24 = d 24 := hdm 24 (by omega)
    have dm30 : d' 30 = d 30 := hdm 30 (by omega)
    have dm32 : d' 32 = d 32 := hdm 32 (by omega)
    have dm33 : d' 33 = d 33 := hdm 33 (by omega)
    have dm34 : d' 34 = d 34 := hdm 34 (by omega)
    have dm35 : d' 35 = d 35 := hdm 35 (by omega)
    obtain ⟨hb, h23, h24, h30, h31, h32, h33, h34, h35⟩ := hB
    clear ho hd hdn hnd hcl hmm
    simp only [upd, reduceIte, Nat.reduceEqDiff] at hK
    try dsimp only
    go_simp
    go_at_call 14
    refine (pick_ok W 2 1).mono ?_
    rintro r W2 ⟨rfl, bb⟩
    go_simp
    refine hK _ _ ?_
    try dsimp only
    rw [dm23, dm24, dm30, dm32, dm33, dm34, dm35, hdi']
    exact ⟨(bstep hb (bb)), fun k => (h23 k).below (bb), h24, h30, fun _ => rfl, h32, h33, fun k => (h34 k).below (bb), h35⟩
   ·have dm23 : d' 23 = d 23 := hdm 23 (by omega)
    have dm24 : d' 24 = d 24 := hdm 24 (by omega)
    have dm30 : d' 30 = d 30 := hdm 30 (by omega)
    have dm31 : d' 31 = d 31 := hdm 31 (by omega)
    have dm33 : d' 33 = d 33 := hdm 33 (by omega)
    have dm34 : d' 34 = d 34 := hdm 34 (by omega)
    have dm35 : d' 35 = d 35 := hdm 35 (by omega)
    obtain ⟨hb, h23, h24, h30, h31, h32, h33, h34, h35⟩ := hB
    clear ho hd hdn hnd hcl hmm
    simp only [upd, reduceIte, Nat.reduceEqDiff] at hK
    try dsimp only
    go_simp
    go_at_call 14
    refine (pick_ok W 4 0).mono ?_
    rintro r W2 ⟨rfl, bb⟩
    go_simp
    refine hK _ _ ?_
    try dsimp only
    rw [dm23, dm24, dm30, dm31, dm33, dm34, dm35, hdi']
    exact ⟨(bstep hb (bb)), fun k => (h23 k).below (bb), h24, h30, h31, fun _ => rfl, h33, fun k => (h34 k).below (bb), h35⟩
   ·have dm23 : d' 23 = d 23 := hdm 23 (by omega)
    have dm24 : d' 24 = d 24 := hdm 24 (by omega)
    have dm30 : d' 30 = d 30 := hdm 30 (by omega)
    have dm31 : d' 31 = d 31 := hdm 31 (by omega)
    have dm32 : d' 32 = d 32 := hdm 32 (by omega)
    have dm34 : d' 34 = d 34 := hdm 34 (by omega)
    have dm35 : d' 35 = d 35 := hdm 35 (by omega)
    obtain ⟨hb, h23, h24, h30, h31, h32, h33, h34, h35⟩ := hB
    clear ho hd hdn hnd hcl hmm
    simp only [upd, reduceIte, Nat.reduceEqDiff] at hK
    try dsimp only
    go_simp
    go_at_call 14
    refine (pick_ok W 7 1).mono ?_
    rintro r W2 ⟨rfl, bb⟩
    go_simp
    refine hK _ _ ?_
    try dsimp only
    rw [dm23, dm24, dm30, dm31, dm32, dm34, dm35, hdi']
    exact ⟨(bstep hb (bb)), fun k => (h23 k).below (bb), h24, h30, h31, h32, fun _ => rfl, fun k => (h34 k).below (bb), h35⟩
   ·have dm23 : d' 23 = d 23 := hdm 23 (by omega)
    have dm24 : d' 24 = d 24 := hdm 24 (by omega)
    have dm30 : d' 30 = d 30 := hdm 30 (by omega)
    have dm31 : d' 31 = d 31 := hdm 31 (by omega)
    have dm32 : d' 32 = d 32 := hdm 32 (by omega)
    have dm33 : d' 33 = d 33 := hdm 33 (by omega)
    have dm35 : d' 35 = d 35 := hdm 35 (by omega)
    have dn30 : d 30 = true := hdn 30 (by kernel_rfl)
    have dn31 : d 31 = true := hdn 31 (by kernel_rfl)
    have dn32 : d 32 = true := hdn 32 (by kernel_rfl)
    have dn33 : d 33 = true := hdn 33 (by kernel_rfl)
    obtain ⟨hb, h23, h24, h30, h31, h32, h33, h34, h35⟩ := hB
    have e30 := h30 dn30
    have e31 := h31 dn31
    have e32 := h32 dn32
    have e33 := h33 dn33
    unfold evA pickE at e30 e31 e32 e33
    dsimp only at e30 e31 e32 e33
    clear ho hd hdn hnd hcl hmm
    simp only [upd, reduceIte, Nat.reduceEqDiff, e30, e31, e32, e33] at hK
    try dsimp only
    go_simp
    refine hK _ _ ?_
    try dsimp only
    rw [dm23, dm24, dm30, dm31, dm32, dm33, dm35, hdi']
    skip
    exact ⟨(bstep hb (bel_alloc _ _)), fun k => (h23 k).below (bel_alloc _ _), h24, fun _ => rfl, fun _ => rfl, fun _ => rfl, fun _ => rfl, fun _ => EV.newL (xs := exR) encE_len rfl rfl (Nat.le_refl _), h35⟩
   ·have e29 : x 29 = .slice A1 n1 c1 := hd 29 (by kernel_rfl) (by kernel_rfl)
    have dm23 : d' 23 = d 23 := hdm 23 (by omega)
    have dm24 : d' 24 = d 24 := hdm 24 (by omega)
    have dm30 : d' 30 = d 30 := hdm 30 (by omega)
    have dm31 : d' 31 = d 31 := hdm 31 (by omega)
    have dm32 : d' 32 = d 32 := hdm 32 (by omega)
    have dm33 : d' 33 = d 33 := hdm 33 (by omega)
    have dm34 : d' 34 = d 34 := hdm 34 (by omega)
    have dn34 : d 34 = true := hdn 34 (by kernel_rfl)
    obtain ⟨hb, h23, h24, h30, h31, h32, h33, h34, h35⟩ := hB
    have q34 := h34 dn34
    clear ho hd hdn hnd hcl hmm
    simp only [upd, reduceIte, Nat.reduceEqDiff, e29] at hK
    try dsimp only
    go_simp
    go_at_call 35
    refine (eq_ev W (.slice A1 n1 c1) (x 34) exR (HM.out.ee.below hb) q34 (by decide)).mono ?_
    rintro r W2 ⟨rfl, bb⟩
    go_simp
    refine hK _ _ ?_
    try dsimp only
    rw [dm23, dm24, dm30, dm31, dm32, dm33, dm34, hdi']
    exact ⟨(bstep hb (bb)), fun k => (h23 k).below (bb), h24, h30, h31, h32, h33, fun k => (h34 k).below (bb), fun _ => rfl⟩
  case hend =>
   intro d x W hall hB hd
   have hb := hB.1
   have ek37 := hd 37 (by omega) rfl
   clear hd hall hB
   try dsimp only
   rw [ek37]
   clear ek37
   generalize x 0 = y0
   generalize x 1 = y1
   generalize x 2 = y2
   generalize x 3 = y3
   generalize x 4 = y4
   generalize x 5 = y5
   generalize x 6 = y6
   generalize x 7 = y7
   generalize x 8 = y8
   generalize x 9 = y9
   generalize x 10 = y10
   generalize x 11 = y11
   generalize x 12 = y12
   generalize x 13 = y13
   generalize x 14 = y14
   generalize x 15 = y15
   generalize x 16 = y16
   generalize x 17 = y17
   generalize x 18 = y18
   generalize x 19 = y19
   generalize x 20 = y20
   generalize x 21 = y21
   generalize x 22 = y22
   generalize x 23 = y23
   generalize x 24 = y24
   generalize x 25 = y25
   generalize x 26 = y26
   generalize x 27 = y27
   generalize x 28 = y28
   generalize x 29 = y29
   generalize x 30 = y30
   generalize x 31 = y31
   generalize x 32 = y32
   generalize x 33 = y33
   generalize x 34 = y34
   generalize x 35 = y35
   generalize x 36 = y36
   go_wp2
   go_meet
   exact hb
 case rest =>
  exact (‹∀ (a : Act) (w : World), Code.wp _ _ _ a w → _› : ∀ (a : Act) (w : World), _ → _) _ _ (awake_t12 w _ g cp va vb (HA.out.below hcut) HL.out)
end Go.Proofs.YtalophngappkhaaGreatDoor
namespace Go.Proofs.YtalophngappkhaaGreatDoor
open Go Go.RowKit Go.Shelf
attribute [local go_sem] Oper.semAt_some

theorem aft7 : aftL exR [(3, 1), (5, 2)] 8 false 7 = [pickE 7 1] := by decide
theorem aft8 : aftL exR [(3, 1), (5, 2)] 8 false 8 = [] := by decide
set_option maxRecDepth 100000 in
set_option maxHeartbeats 6400000 in
theorem awake_ok (w : World) (hla : LaidAt w) : Calls Tryz.prog 19 #[] w fun e w' => e = .returned (.bool true) ∧ Below w.heap.size w w' := by
 have HL := Lib.hid hla
 have HX := Lib.hid (example_ok w)
 clear hla
 go_enter Tryz.func19, Tryz.ntmps19
 go_wp2_with fail
 refine HX.out.mono ?_
 rintro r w1 ⟨v, va, vb, rfl, o1, o2, o3, b1⟩
 obtain ⟨g, cp, hv, _, _, _⟩ := o1.row_form encBk_len (n := 3) rfl (by omega)
 subst hv
 have HA := Lib.hid (show AB w w1 (.slice (some ⟨g, 0, none⟩) 3 cp) va vb 8 from ⟨b1, o1, o2, o3⟩)
 clear o1 o2 o3 b1 HX
 have HC := Lib.hid (blocks_good w1 _ _ HA.out.s3 (fun x hx => (all_ok (by omega) (by omega) x hx).1) (fun x hx => (all_ok (by omega) (by omega) x hx).2.2) (by simp) (by simp [flatR, rowsB, bkA, bkB, bkE]) (HL.out.below HA.out.bel) (exM [(3, 1), (5, 2)] 8 false) 0 (fun m c' hm => ex_res8 hm))
 unfold mgA exM at HC
 dsimp only at HC
 go_wp2_with fail
 refine HC.out.mono ?_
 rintro r w2 ⟨A1, n1, k1, A2, n2, k2, A3, n3, k3, rfl, o1, o2, o3, b1⟩
 obtain rfl : n2 = 0 := (o2.ev encI_len).nlen
 have ba := bel_alloc w2 (.cells #[.slice A1 n1 k1, .slice A2 0 k2, .slice A3 n3 k3, .int .i64 2, .int .i64 8, .bool false] 39)
 have HM := Lib.hid (show MB (w2.alloc (.cells #[.slice A1 n1 k1, .slice A2 0 k2, .slice A3 n3 k3, .int .i64 2, .int .i64 8, .bool false] 39)) w2.heap.size (.slice A1 n1 k1) (.slice A2 0 k2) (.slice A3 n3 k3) (exM [(3, 1), (5, 2)] 8 false) from ⟨MgBox.new w2 (.slice A1 n1 k1) (.slice A2 0 k2) (.slice A3 n3 k3) 2 8 false, (o1.ev encE_len).below ba, (o2.ev encI_len).below ba, (o3.ev encP_len).below ba⟩)
 replace HA := Lib.hid ((HA.out.below b1).below ba)
 clear o1 o2 o3 b1 ba HC
 go_upto_region 3 with fail
 generalize w2.alloc (.cells #[.slice A1 n1 k1, .slice A2 0 k2, .slice A3 n3 k3, .int .i64 2, .int .i64 8, .bool false] 39) = w3 at HM HA ⊢
 generalize w2.heap.size = X at HM ⊢
 have c0 := HM.out.box.c0
 have c1 := HM.out.box.c1
 have c2 := HM.out.box.c2
 have c3 := HM.out.box.c3
 have c4 := HM.out.box.c4
 have c5 := HM.out.box.c5
 unfold exM at c3 c4 c5
 dsimp only at c3 c4 c5
 have HF := Lib.hid (first_ok w3 (.slice A1 n1 k1) (.slice A2 0 k2) (.slice A3 n3 k3) 2 8 1 false [(3, 1), (5, 2)] HM.out.eg (by decide))
 rw [show frsE [(3, 1), (5, 2)] 8 false 1 = (3, 122) by decide] at HF
 unfold mgA at HF
 dsimp only at HF
 go_wp2_with fail
 refine HF.out.mono ?_
 rintro r w4 ⟨rfl, b1⟩
 replace HA := Lib.hid (HA.out.below b1)
 replace HM := Lib.hid (HM.out.below b1)
 clear c0 c1 c2 c3 c4 c5 HF b1
 have c0 := HM.out.box.c0
 have c1 := HM.out.box.c1
 have c2 := HM.out.box.c2
 have c3 := HM.out.box.c3
 have c4 := HM.out.box.c4
 have c5 := HM.out.box.c5
 unfold exM at c3 c4 c5
 dsimp only at c3 c4 c5
 have HF := Lib.hid (first_ok w4 (.slice A1 n1 k1) (.slice A2 0 k2) (.slice A3 n3 k3) 2 8 7 false [(3, 1), (5, 2)] HM.out.eg (by decide))
 rw [show frsE [(3, 1), (5, 2)] 8 false 7 = (0, 0) by decide] at HF
 unfold mgA at HF
 dsimp only at HF
 go_wp2_with fail
 refine HF.out.mono ?_
 rintro r w5 ⟨rfl, b1⟩
 replace HA := Lib.hid (HA.out.below b1)
 replace HM := Lib.hid (HM.out.below b1)
 clear c0 c1 c2 c3 c4 c5 HF b1
 have c0 := HM.out.box.c0
 have c1 := HM.out.box.c1
 have c2 := HM.out.box.c2
 have c3 := HM.out.box.c3
 have c4 := HM.out.box.c4
 have c5 := HM.out.box.c5
 unfold exM at c3 c4 c5
 dsimp only at c3 c4 c5
 have HF := Lib.hid (after_ok w5 (.slice A1 n1 k1) (.slice A2 0 k2) (.slice A3 n3 k3) 2 8 7 false exR [(3, 1), (5, 2)] HM.out.eg (by decide) HM.out.ee (by decide))
 rw [show frsE [(3, 1), (5, 2)] 8 false 7 = (0, 0) by decide, aft7] at HF
 unfold mgA at HF
 dsimp only at HF
 go_wp2_with fail
 refine HF.out.mono ?_
 rintro r w6 ⟨v7, rfl, o7, b1⟩
 have HV7 := Lib.hid (o7.ev encE_len)
 replace HA := Lib.hid (HA.out.below b1)
 replace HM := Lib.hid (HM.out.below b1)
 clear c0 c1 c2 c3 c4 c5 HF b1 o7
 have HV := HV7
 clear HV7
 have c0 := HM.out.box.c0
 have c1 := HM.out.box.c1
 have c2 := HM.out.box.c2
 have c3 := HM.out.box.c3
 have c4 := HM.out.box.c4
 have c5 := HM.out.box.c5
 unfold exM at c3 c4 c5
 dsimp only at c3 c4 c5
 have HF := Lib.hid (first_ok w6 (.slice A1 n1 k1) (.slice A2 0 k2) (.slice A3 n3 k3) 2 8 8 false [(3, 1), (5, 2)] HM.out.eg (by decide))
 rw [show frsE [(3, 1), (5, 2)] 8 false 8 = (0, 0) by decide] at HF
 unfold mgA at HF
 dsimp only at HF
 go_wp2_with fail
 refine HF.out.mono ?_
 rintro r w7 ⟨rfl, b1⟩
 replace HA := Lib.hid (HA.out.below b1)
 replace HM := Lib.hid (HM.out.below b1)
 replace HV := Lib.hid (HV.out.below b1)
 clear c0 c1 c2 c3 c4 c5 HF b1
 have c0 := HM.out.box.c0
 have c1 := HM.out.box.c1
 have c2 := HM.out.box.c2
 have c3 := HM.out.box.c3
 have c4 := HM.out.box.c4
 have c5 := HM.out.box.c5
 unfold exM at c3 c4 c5
 dsimp only at c3 c4 c5
 have HF := Lib.hid (after_ok w7 (.slice A1 n1 k1) (.slice A2 0 k2) (.slice A3 n3 k3) 2 8 8 false exR [(3, 1), (5, 2)] HM.out.eg (by decide) HM.out.ee (by decide))
 rw [show frsE [(3, 1), (5, 2)] 8 false 8 = (0, 0) by decide, aft8] at HF
 unfold mgA at HF
 dsimp only at HF
 go_wp2_with fail
 refine HF.out.mono ?_
 rintro r w8 ⟨v8, rfl, o8, b1⟩
 obtain ⟨A8, k8, hv8⟩ := (o8.ev encE_len).shape
 rw [List.length_nil] at hv8
 subst hv8
 replace HA := Lib.hid (HA.out.below b1)
 replace HM := Lib.hid (HM.out.below b1)
 replace HV := Lib.hid (HV.out.below b1)
 clear c0 c1 c2 c3 c4 c5 HF b1 o8
 have F4 := Lib.hid (pick_ok w8 7 1)
 unfold evA pickE at F4
 dsimp only at F4
 go_wp2_with fail
 refine F4.out.mono ?_
 rintro r w9 ⟨rfl, b1⟩
 replace HA := Lib.hid (HA.out.below b1)
 replace HM := Lib.hid (HM.out.below b1)
 have HE := Lib.hid (eqe_lit w9 v7 [pickE 7 1] [pickE 7 1] 1 w9.heap.size #[.int .i64 7, .int .i64 0, .int .u8 1, .int .u8 6, .int .i64 0, .int .i64 0, .int .i64 0, .int .i64 0, .int .i64 0, .int .u64 0, .int .i64 0] (HV.out.below b1) rfl rfl rfl (by omega) rfl)
 clear b1 F4 HV
 go_wp2_with fail
 refine HE.out.mono ?_
 rintro r w10 ⟨rfl, b1⟩
 replace HA := Lib.hid (HA.out.below b1)
 replace HM := Lib.hid (HM.out.below b1)
 clear b1 HE
 go_upto_if 84 with fail
 go_cut [] (fun wx => wx = w10)
 case first =>
  go_wp2
  go_meet
  rfl
 case rest =>
  subst hcut
  exact (‹∀ (a : Act) (w : World), Code.wp _ _ _ a w → _› : ∀ (a : Act) (w : World), _ → _) _ _ (awake_t10 w _ g cp X n1 k1 k2 n3 k3 A1 A2 A3 va vb HA.out HM.out HL.out)
end Go.Proofs.YtalophngappkhaaGreatDoor
namespace Go.Proofs.YtalophngappkhaaGreatDoor
open Go Go.RowKit

end Go.Proofs.YtalophngappkhaaGreatDoor
