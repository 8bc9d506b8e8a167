/- MergeWhole. -/
import Derived.Test.YtalophngappkhaaGreatDoorZ29
import Derived.Test.YtalophngappkhaaGreatDoorZ30
import Derived.Test.YtalophngappkhaaGreatDoorZ27
import Derived.Test.YtalophngappkhaaGreatDoorZ28
import Derived.Test.YtalophngappkhaaGreatDoorZ8
set_option linter.unusedVariables false
set_option linter.unusedSimpArgs false
set_option linter.unusedSectionVars false
namespace Go.Proofs.YtalophngappkhaaGreatDoor
open Go Go.RowKit Go.Shelf
attribute [local go_sem] Oper.semAt_some

theorem lost_take {L : List (Sl3 × Bck)} {j : Nat} {x : Sl3 × Bck} (h : L[j]? = some x) : lostB ((L.take (j + 1)).map Prod.snd) = lostB ((L.take j).map Prod.snd) + x.2.lost := by
  rw [List.take_add_one, h]
  simpa using lostB_snoc _ _
theorem ER.sb {w : World} {b off : Nat} {l : List (Sl3 × Bck)} (h : ER encSb 5 w b off l) {i : Nat} {x : Sl3 × Bck} (hi : l[i]? = some x) :
    w.cell? ⟨b, off + i * 5, none⟩ = some (.int .u8 x.2.kind) ∧ w.cell? ⟨b, off + i * 5 + 1, none⟩ = some (.int .u8 x.2.cpu) ∧ w.cell? ⟨b, off + i * 5 + 2, none⟩ = some (.int .i64 x.2.lost) ∧ w.cell? ⟨b, off + i * 5 + 3, none⟩ = some (.int .i64 x.2.next) ∧ w.cell? ⟨b, off + i * 5 + 4, none⟩ = some (slV x.1) :=
  ⟨h i x hi 0 _ rfl, h i x hi 1 _ rfl, h i x hi 2 _ rfl, h i x hi 3 _ rfl, h i x hi 4 _ rfl⟩
/-- What is merged lies in a box. -/
structure MB2 (W : World) (X : Nat) (ve vt vg : Value) (R : List Ev) (T : List Int) (G : List (Int × Int)) (lost next : Int) (opn : Bool) : Prop where
  box : MgBox W X ve vt vg lost next opn
  ee : EV encE 11 W ve R
  et : EV encI 1 W vt T
  eg : EV encP 2 W vg G
theorem MB2.below {W W' : World} {X : Nat} {ve vt vg : Value} {R : List Ev} {T : List Int} {G : List (Int × Int)} {lost next : Int} {opn : Bool} (h : MB2 W X ve vt vg R T G lost next opn) (hb : Below W.heap.size W W') : MB2 W' X ve vt vg R T G lost next opn :=
  ⟨h.box.below hb, h.ee.below hb, h.et.below hb, h.eg.below hb⟩
set_option maxRecDepth 100000 in
set_option maxHeartbeats 6400000 in
theorem whole_t13 (w wc : World) (X Y cb co p cc n1 c1 c2 n3 c3 m1 d1 d2 m3 d3 : Nat) (A1 A2 A3 E1 E2 E3 : Option Addr) (vt : Value) (R : List Ev) (G : List (Int × Int)) (lost next : Int) {u0 u1 u2 u3 u4 u5 u6 u7 u8 u12 u13 u18 u19 u20 u21 u22 u23 u24 u25 u26 u27 u28 u29 u30 u31 u32 u33 u34 u35 u36 u37 u38 u39 u40 u41 u42 u43 u44 u45 u46 u47 u48 u49 u50 u51 u52 u53 u54 u55 u56 u57 u58 u59 u60 u61 u62 u63 u64 u65 u66 u67 u68 u69 u70 u71 u72 u73 u74 u75 u76 u77 u78 u79 u80 u81 u82 u83 u84 u85 u86 u87 u88 u89 u90 u91 u92 u93 u94 u95 u96 u97 u98 u99 u100 u101 : Value}
    (hx : MB2 wc X (.slice A1 n1 c1) (.slice A2 0 c2) (.slice A3 n3 c3) R [] G lost next false) (hy : MB2 wc Y (.slice E1 m1 d1) (.slice E2 0 d2) (.slice E3 m3 d3) R [] G lost next false) (ht : EV encE 11 wc vt R)
    (hw : Srt R (next - 1) ∧ Can 0 G ∧ (∀ n, hasR G n = decide (1 ≤ n ∧ n < next ∧ n ∉ seqsL R)) ∧ cntR G + R.length = next - 1 ∧ next ≤ 1000 ∧ R.length ≤ 1000 ∧ G.length ≤ 1000 ∧ rightB G = true)
    (hc : wc.cell? ⟨cb, co + p * 5 + 3, none⟩ = some (.int .i64 next)) (hp : p ≤ 1000) (hcc : p + 1 ≤ cc) (hb : Below w.heap.size w wc) :
    Code.wp Tryz.prog (tailR Tryz.f7 13) (bodyPost Tryz.prog Tryz.f7 fun r w' => r = .returned (.bool true) ∧ Below w.heap.size w w')
      ⟨#[u0, u1, u2, u3, u4, u5, u6, u7, u8, vt, .slice (some ⟨cb, co, none⟩) (p + 1) cc, .int .i64 lost, u12, u13, .pointer (some ⟨X, 0, none⟩), .int .i64 0, .pointer (some ⟨Y, 0, none⟩), .int .i64 0, u18, u19, u20, u21, u22, u23, u24, u25, u26, u27, u28, u29, u30, u31, u32, u33, u34, u35, u36, u37, u38, u39, u40, u41, u42, u43, u44, u45, u46, u47, u48, u49, u50, u51, u52, u53, u54, u55, u56, u57, u58, u59, u60, u61, u62, u63, u64, u65, u66, u67, u68, u69, u70, u71, u72, u73, u74, u75, u76, u77, u78, u79, u80, u81, u82, u83, u84, u85, u86, u87, u88, u89, u90, u91, u92, u93, u94, u95, u96, u97, u98, u99, u100, u101], []⟩ wc := by
  conv => arg 2; whnf
  conv => arg 4; dsimp only
  have HX := Lib.hid hx
  have HY := Lib.hid hy
  have HT := Lib.hid ht
  have HW := Lib.hid hw
  have HC := Lib.hid hc
  have HB := Lib.hid hb
  clear hx hy ht hw hc hb
  go_wp2_with fail
  refine wp_region_dagG (by kernel_rfl) 54 rfl (fun i => i == 8 || i == 42 || i == 46 || i == 51) (fun i => !(false)) ?hMw (fun x => ⟨#[u0, u1, u2, u3, u4, u5, u6, u7, x 53, vt, .slice (some ⟨cb, co, none⟩) (p + 1) cc, .int .i64 lost, u12, u13, .pointer (some ⟨X, 0, none⟩), .int .i64 0, .pointer (some ⟨Y, 0, none⟩), .int .i64 0, u18, u19, u20, u21, u22, u23, u24, u25, u26, u27, u28, u29, u30, u31, u32, u33, u34, u35, u36, u37, u38, u39, u40, u41, u42, u43, u44, u45, u46, u47, u48, x 0, x 1, x 2, x 3, x 4, x 5, x 6, x 7, x 8, x 9, x 10, x 11, x 12, x 13, x 14, x 15, x 16, x 17, x 18, x 19, x 20, x 21, x 22, x 23, x 24, x 25, x 26, x 27, x 28, x 29, x 30, x 31, x 32, x 33, x 34, x 35, x 36, x 37, x 38, x 39, x 40, x 41, x 42, x 43, x 44, x 45, x 46, x 47, x 48, x 49, x 50, x 51, x 52], []⟩) (fun iF vF => match iF with | 0 => vF = .int .i64 0 | 1 => vF = .int .i64 0 | 2 => vF = .int .i64 0 | 3 => vF = .bool true | 4 => vF = .bool true | 5 => vF = .pointer (some ⟨X, 0, none⟩) | 6 => vF = .slice A1 n1 c1 | 7 => vF = vt | 9 => vF = .bool true | 10 => vF = .bool true | 11 => vF = .pointer (some ⟨X, 1, none⟩) | 12 => vF = .slice A2 0 c2 | 13 => vF = .int .i64 0 | 14 => vF = .bool true | 15 => vF = .bool true | 16 => vF = .bool true | 17 => vF = .pointer (some ⟨X, 3, none⟩) | 18 => vF = .int .i64 lost | 19 => vF = .int .i64 lost | 20 => vF = .bool true | 21 => vF = .bool true | 22 => vF = .bool true | 23 => vF = .pointer (some ⟨X, 4, none⟩) | 24 => vF = .int .i64 next | 25 => vF = .slice (some ⟨cb, co, none⟩) (p + 1) cc | 26 => vF = .slice (some ⟨cb, co, none⟩) (p + 1) cc | 27 => vF = .int .i64 ((p + 1 : Nat) : Int) | 28 => vF = .int .i64 (p : Nat) | 29 => vF = .pointer (some ⟨cb, co + p * 5, none⟩) | 30 => vF = .pointer (some ⟨cb, co + p * 5 + 3, none⟩) | 31 => vF = .int .i64 next | 32 => vF = .bool true | 33 => vF = .bool true | 34 => vF = .bool true | 35 => vF = .pointer (some ⟨X, 5, none⟩) | 36 => vF = .bool false | 37 => vF = .bool true | 38 => vF = .bool true | 39 => vF = .bool true | 40 => vF = .pointer (some ⟨X, 2, none⟩) | 41 => vF = .slice A3 n3 c3 | 43 => vF = .bool true | 44 => vF = .bool true | 45 => vF = .agg #[.slice A1 n1 c1, .slice A2 0 c2, .slice A3 n3 c3, .int .i64 lost, .int .i64 next, .bool false] | 47 => vF = .bool true | 48 => vF = .bool true | 49 => vF = .agg #[.slice A1 n1 c1, .slice A2 0 c2, .slice A3 n3 c3, .int .i64 lost, .int .i64 next, .bool false] | 50 => vF = .agg #[.slice E1 m1 d1, .slice E2 0 d2, .slice E3 m3 d3, .int .i64 lost, .int .i64 next, .bool false] | 52 => vF = .bool true | 53 => vF = .bool true | _ => True)
    (fun d x W => Below wc.heap.size wc W ∧ (d 8 = true → (x 8) = .bool true) ∧ (d 42 = true → (x 42) = .bool true) ∧ (d 46 = true → (x 46) = .bool true) ∧ (d 51 = true → (x 51) = .bool true)) ?hB ?hwant ?hoff (by kernel_rfl) ?hpure ?hmem ?hend (fun i => (#[u49, u50, u51, u52, u53, u54, u55, u56, u57, u58, u59, u60, u61, u62, u63, u64, u65, u66, u67, u68, u69, u70, u71, u72, u73, u74, u75, u76, u77, u78, u79, u80, u81, u82, u83, u84, u85, u86, u87, u88, u89, u90, u91, u92, u93, u94, u95, u96, u97, u98, u99, u100, u101, u8] : Array Value).getD i undef) rfl ?hstart
  case hstart =>
    try dsimp only
    exact ⟨below_drew (Below.refl _ _), fun h => (by cases h), fun h => (by cases h), fun h => (by cases h), fun h => (by cases h)⟩
  case hB =>
    intro d d' x i v W hi hm h
    have g8 : ¬ 8 = i := by rintro rfl; exact absurd (show true = false from hi) (by simp)
    have e8 : d' 8 = d 8 := hm 8 rfl
    have g42 : ¬ 42 = i := by rintro rfl; exact absurd (show true = false from hi) (by simp)
    have e42 : d' 42 = d 42 := hm 42 rfl
    have g46 : ¬ 46 = i := by rintro rfl; exact absurd (show true = false from hi) (by simp)
    have e46 : d' 46 = d 46 := hm 46 rfl
    have g51 : ¬ 51 = i := by rintro rfl; exact absurd (show true = false from hi) (by simp)
    have e51 : d' 51 = d 51 := hm 51 rfl
    try dsimp only at h ⊢
    first | rw [upd_ne g8, upd_ne g42, upd_ne g46, upd_ne g51, e8, e42, e46, e51] | simp only [upd_ne g8, upd_ne g42, upd_ne g46, upd_ne g51, e8, e42, e46, e51]
    exact h
  case hMw =>
    intro i hi
    simp only [Bool.or_eq_true, beq_iff_eq] at hi
    rcases hi with ((rfl | rfl) | rfl) | rfl
    all_goals rfl
  case hwant =>
    intro iF o hi ho x hf
    rcases (show iF = 0 ∨ iF = 1 ∨ iF = 2 ∨ iF = 3 ∨ iF = 4 ∨ iF = 5 ∨ iF = 6 ∨ iF = 7 ∨ iF = 8 ∨ iF = 9 ∨ iF = 10 ∨ iF = 11 ∨ iF = 12 ∨ iF = 13 ∨ iF = 14 ∨ iF = 15 ∨ iF = 16 ∨ iF = 17 ∨ iF = 18 ∨ iF = 19 ∨ iF = 20 ∨ iF = 21 ∨ iF = 22 ∨ iF = 23 ∨ iF = 24 ∨ iF = 25 ∨ iF = 26 ∨ iF = 27 ∨ iF = 28 ∨ iF = 29 ∨ iF = 30 ∨ iF = 31 ∨ iF = 32 ∨ iF = 33 ∨ iF = 34 ∨ iF = 35 ∨ iF = 36 ∨ iF = 37 ∨ iF = 38 ∨ iF = 39 ∨ iF = 40 ∨ iF = 41 ∨ iF = 42 ∨ iF = 43 ∨ iF = 44 ∨ iF = 45 ∨ iF = 46 ∨ iF = 47 ∨ iF = 48 ∨ iF = 49 ∨ iF = 50 ∨ iF = 51 ∨ iF = 52 ∨ iF = 53 by omega) with rfl | rfl | rfl | rfl | rfl | rfl | rfl | rfl | rfl | rfl | rfl | rfl | rfl | rfl | rfl | rfl | rfl | rfl | rfl | rfl | rfl | rfl | rfl | rfl | rfl | rfl | rfl | rfl | rfl | rfl | rfl | rfl | rfl | rfl | rfl | rfl | rfl | rfl | rfl | rfl | rfl | rfl | rfl | rfl | rfl | rfl | rfl | rfl | rfl | rfl | rfl | rfl | rfl | rfl
    · obtain rfl := Option.some.inj ho
      rfl
    · obtain rfl := Option.some.inj ho
      rfl
    · obtain rfl := Option.some.inj ho
      rfl
    · obtain rfl := Option.some.inj ho
      rfl
    · obtain rfl := Option.some.inj ho
      rfl
    · obtain rfl := Option.some.inj ho
      have e : x 4 = .bool true := hf 4 (by kernel_rfl) (by kernel_rfl)
      show ((match some (x 4) with | some (.bool b) => some b | _ => none) == some true) = true
      rw [e]
      rfl
    · obtain rfl := Option.some.inj ho
      have e : x 4 = .bool true := hf 4 (by kernel_rfl) (by kernel_rfl)
      show ((match some (x 4) with | some (.bool b) => some b | _ => none) == some true) = true
      rw [e]
      rfl
    · obtain rfl := Option.some.inj ho
      have e : x 4 = .bool true := hf 4 (by kernel_rfl) (by kernel_rfl)
      show ((match some (x 4) with | some (.bool b) => some b | _ => none) == some true) = true
      rw [e]
      rfl
    · obtain rfl := Option.some.inj ho
      have e : x 4 = .bool true := hf 4 (by kernel_rfl) (by kernel_rfl)
      show ((match some (x 4) with | some (.bool b) => some b | _ => none) == some true) = true
      rw [e]
      rfl
    · obtain rfl := Option.some.inj ho
      rfl
    · obtain rfl := Option.some.inj ho
      rfl
    · obtain rfl := Option.some.inj ho
      have e : x 10 = .bool true := hf 10 (by kernel_rfl) (by kernel_rfl)
      show ((match some (x 10) with | some (.bool b) => some b | _ => none) == some true) = true
      rw [e]
      rfl
    · obtain rfl := Option.some.inj ho
      have e : x 10 = .bool true := hf 10 (by kernel_rfl) (by kernel_rfl)
      show ((match some (x 10) with | some (.bool b) => some b | _ => none) == some true) = true
      rw [e]
      rfl
    · obtain rfl := Option.some.inj ho
      have e : x 10 = .bool true := hf 10 (by kernel_rfl) (by kernel_rfl)
      show ((match some (x 10) with | some (.bool b) => some b | _ => none) == some true) = true
      rw [e]
      rfl
    · obtain rfl := Option.some.inj ho
      have e : x 10 = .bool true := hf 10 (by kernel_rfl) (by kernel_rfl)
      show ((match some (x 10) with | some (.bool b) => some b | _ => none) == some true) = true
      rw [e]
      rfl
    · obtain rfl := Option.some.inj ho
      rfl
    · obtain rfl := Option.some.inj ho
      rfl
    · obtain rfl := Option.some.inj ho
      have e : x 16 = .bool true := hf 16 (by kernel_rfl) (by kernel_rfl)
      show ((match some (x 16) with | some (.bool b) => some b | _ => none) == some true) = true
      rw [e]
      rfl
    · obtain rfl := Option.some.inj ho
      have e : x 16 = .bool true := hf 16 (by kernel_rfl) (by kernel_rfl)
      show ((match some (x 16) with | some (.bool b) => some b | _ => none) == some true) = true
      rw [e]
      rfl
    · obtain rfl := Option.some.inj ho
      have e : x 16 = .bool true := hf 16 (by kernel_rfl) (by kernel_rfl)
      show ((match some (x 16) with | some (.bool b) => some b | _ => none) == some true) = true
      rw [e]
      rfl
    · obtain rfl := Option.some.inj ho
      have e : x 16 = .bool true := hf 16 (by kernel_rfl) (by kernel_rfl)
      show ((match some (x 16) with | some (.bool b) => some b | _ => none) == some true) = true
      rw [e]
      rfl
    · obtain rfl := Option.some.inj ho
      rfl
    · obtain rfl := Option.some.inj ho
      rfl
    · obtain rfl := Option.some.inj ho
      have e : x 22 = .bool true := hf 22 (by kernel_rfl) (by kernel_rfl)
      show ((match some (x 22) with | some (.bool b) => some b | _ => none) == some true) = true
      rw [e]
      rfl
    · obtain rfl := Option.some.inj ho
      have e : x 22 = .bool true := hf 22 (by kernel_rfl) (by kernel_rfl)
      show ((match some (x 22) with | some (.bool b) => some b | _ => none) == some true) = true
      rw [e]
      rfl
    · obtain rfl := Option.some.inj ho
      have e : x 22 = .bool true := hf 22 (by kernel_rfl) (by kernel_rfl)
      show ((match some (x 22) with | some (.bool b) => some b | _ => none) == some true) = true
      rw [e]
      rfl
    · obtain rfl := Option.some.inj ho
      have e : x 22 = .bool true := hf 22 (by kernel_rfl) (by kernel_rfl)
      show ((match some (x 22) with | some (.bool b) => some b | _ => none) == some true) = true
      rw [e]
      rfl
    · obtain rfl := Option.some.inj ho
      have e : x 22 = .bool true := hf 22 (by kernel_rfl) (by kernel_rfl)
      show ((match some (x 22) with | some (.bool b) => some b | _ => none) == some true) = true
      rw [e]
      rfl
    · obtain rfl := Option.some.inj ho
      have e : x 22 = .bool true := hf 22 (by kernel_rfl) (by kernel_rfl)
      show ((match some (x 22) with | some (.bool b) => some b | _ => none) == some true) = true
      rw [e]
      rfl
    · obtain rfl := Option.some.inj ho
      have e : x 22 = .bool true := hf 22 (by kernel_rfl) (by kernel_rfl)
      show ((match some (x 22) with | some (.bool b) => some b | _ => none) == some true) = true
      rw [e]
      rfl
    · obtain rfl := Option.some.inj ho
      have e : x 22 = .bool true := hf 22 (by kernel_rfl) (by kernel_rfl)
      show ((match some (x 22) with | some (.bool b) => some b | _ => none) == some true) = true
      rw [e]
      rfl
    · obtain rfl := Option.some.inj ho
      have e : x 22 = .bool true := hf 22 (by kernel_rfl) (by kernel_rfl)
      show ((match some (x 22) with | some (.bool b) => some b | _ => none) == some true) = true
      rw [e]
      rfl
    · obtain rfl := Option.some.inj ho
      have e : x 22 = .bool true := hf 22 (by kernel_rfl) (by kernel_rfl)
      show ((match some (x 22) with | some (.bool b) => some b | _ => none) == some true) = true
      rw [e]
      rfl
    · obtain rfl := Option.some.inj ho
      rfl
    · obtain rfl := Option.some.inj ho
      rfl
    · obtain rfl := Option.some.inj ho
      have e : x 34 = .bool true := hf 34 (by kernel_rfl) (by kernel_rfl)
      show ((match some (x 34) with | some (.bool b) => some b | _ => none) == some true) = true
      rw [e]
      rfl
    · obtain rfl := Option.some.inj ho
      have e : x 34 = .bool true := hf 34 (by kernel_rfl) (by kernel_rfl)
      show ((match some (x 34) with | some (.bool b) => some b | _ => none) == some true) = true
      rw [e]
      rfl
    · obtain rfl := Option.some.inj ho
      have e : x 34 = .bool true := hf 34 (by kernel_rfl) (by kernel_rfl)
      show ((match some (x 34) with | some (.bool b) => some b | _ => none) == some true) = true
      rw [e]
      rfl
    · obtain rfl := Option.some.inj ho
      rfl
    · obtain rfl := Option.some.inj ho
      rfl
    · obtain rfl := Option.some.inj ho
      have e : x 39 = .bool true := hf 39 (by kernel_rfl) (by kernel_rfl)
      show ((match some (x 39) with | some (.bool b) => some b | _ => none) == some true) = true
      rw [e]
      rfl
    · obtain rfl := Option.some.inj ho
      have e : x 39 = .bool true := hf 39 (by kernel_rfl) (by kernel_rfl)
      show ((match some (x 39) with | some (.bool b) => some b | _ => none) == some true) = true
      rw [e]
      rfl
    · obtain rfl := Option.some.inj ho
      have e : x 39 = .bool true := hf 39 (by kernel_rfl) (by kernel_rfl)
      show ((match some (x 39) with | some (.bool b) => some b | _ => none) == some true) = true
      rw [e]
      rfl
    · obtain rfl := Option.some.inj ho
      rfl
    · obtain rfl := Option.some.inj ho
      rfl
    · obtain rfl := Option.some.inj ho
      have e : x 44 = .bool true := hf 44 (by kernel_rfl) (by kernel_rfl)
      show ((match some (x 44) with | some (.bool b) => some b | _ => none) == some true) = true
      rw [e]
      rfl
    · obtain rfl := Option.some.inj ho
      have e : x 44 = .bool true := hf 44 (by kernel_rfl) (by kernel_rfl)
      show ((match some (x 44) with | some (.bool b) => some b | _ => none) == some true) = true
      rw [e]
      rfl
    · obtain rfl := Option.some.inj ho
      rfl
    · obtain rfl := Option.some.inj ho
      rfl
    · obtain rfl := Option.some.inj ho
      have e : x 48 = .bool true := hf 48 (by kernel_rfl) (by kernel_rfl)
      show ((match some (x 48) with | some (.bool b) => some b | _ => none) == some true) = true
      rw [e]
      rfl
    · obtain rfl := Option.some.inj ho
      have e : x 48 = .bool true := hf 48 (by kernel_rfl) (by kernel_rfl)
      show ((match some (x 48) with | some (.bool b) => some b | _ => none) == some true) = true
      rw [e]
      rfl
    · obtain rfl := Option.some.inj ho
      have e : x 48 = .bool true := hf 48 (by kernel_rfl) (by kernel_rfl)
      show ((match some (x 48) with | some (.bool b) => some b | _ => none) == some true) = true
      rw [e]
      rfl
    · obtain rfl := Option.some.inj ho
      rfl
    · obtain rfl := Option.some.inj ho
      rfl
  case hoff =>
    intro iF o hi hw ho x
    rcases (show iF = 0 ∨ iF = 1 ∨ iF = 2 ∨ iF = 3 ∨ iF = 4 ∨ iF = 5 ∨ iF = 6 ∨ iF = 7 ∨ iF = 8 ∨ iF = 9 ∨ iF = 10 ∨ iF = 11 ∨ iF = 12 ∨ iF = 13 ∨ iF = 14 ∨ iF = 15 ∨ iF = 16 ∨ iF = 17 ∨ iF = 18 ∨ iF = 19 ∨ iF = 20 ∨ iF = 21 ∨ iF = 22 ∨ iF = 23 ∨ iF = 24 ∨ iF = 25 ∨ iF = 26 ∨ iF = 27 ∨ iF = 28 ∨ iF = 29 ∨ iF = 30 ∨ iF = 31 ∨ iF = 32 ∨ iF = 33 ∨ iF = 34 ∨ iF = 35 ∨ iF = 36 ∨ iF = 37 ∨ iF = 38 ∨ iF = 39 ∨ iF = 40 ∨ iF = 41 ∨ iF = 42 ∨ iF = 43 ∨ iF = 44 ∨ iF = 45 ∨ iF = 46 ∨ iF = 47 ∨ iF = 48 ∨ iF = 49 ∨ iF = 50 ∨ iF = 51 ∨ iF = 52 ∨ iF = 53 by omega) with rfl | rfl | rfl | rfl | rfl | rfl | rfl | rfl | rfl | rfl | rfl | rfl | rfl | rfl | rfl | rfl | rfl | rfl | rfl | rfl | rfl | rfl | rfl | rfl | rfl | rfl | rfl | rfl | rfl | rfl | rfl | rfl | rfl | rfl | rfl | rfl | rfl | rfl | rfl | rfl | rfl | rfl | rfl | rfl | rfl | rfl | rfl | rfl | rfl | rfl | rfl | rfl | rfl | rfl
    · exact absurd (show true = false from hw) (by simp)
    · exact absurd (show true = false from hw) (by simp)
    · exact absurd (show true = false from hw) (by simp)
    · exact absurd (show true = false from hw) (by simp)
    · exact absurd (show true = false from hw) (by simp)
    · exact absurd (show true = false from hw) (by simp)
    · exact absurd (show true = false from hw) (by simp)
    · exact absurd (show true = false from hw) (by simp)
    · exact absurd (show true = false from hw) (by simp)
    · exact absurd (show true = false from hw) (by simp)
    · exact absurd (show true = false from hw) (by simp)
    · exact absurd (show true = false from hw) (by simp)
    · exact absurd (show true = false from hw) (by simp)
    · exact absurd (show true = false from hw) (by simp)
    · exact absurd (show true = false from hw) (by simp)
    · exact absurd (show true = false from hw) (by simp)
    · exact absurd (show true = false from hw) (by simp)
    · exact absurd (show true = false from hw) (by simp)
    · exact absurd (show true = false from hw) (by simp)
    · exact absurd (show true = false from hw) (by simp)
    · exact absurd (show true = false from hw) (by simp)
    · exact absurd (show true = false from hw) (by simp)
    · exact absurd (show true = false from hw) (by simp)
    · exact absurd (show true = false from hw) (by simp)
    · exact absurd (show true = false from hw) (by simp)
    · exact absurd (show true = false from hw) (by simp)
    · exact absurd (show true = false from hw) (by simp)
    · exact absurd (show true = false from hw) (by simp)
    · exact absurd (show true = false from hw) (by simp)
    · exact absurd (show true = false from hw) (by simp)
    · exact absurd (show true = false from hw) (by simp)
    · exact absurd (show true = false from hw) (by simp)
    · exact absurd (show true = false from hw) (by simp)
    · exact absurd (show true = false from hw) (by simp)
    · exact absurd (show true = false from hw) (by simp)
    · exact absurd (show true = false from hw) (by simp)
    · exact absurd (show true = false from hw) (by simp)
    · exact absurd (show true = false from hw) (by simp)
    · exact absurd (show true = false from hw) (by simp)
    · exact absurd (show true = false from hw) (by simp)
    · exact absurd (show true = false from hw) (by simp)
    · exact absurd (show true = false from hw) (by simp)
    · exact absurd (show true = false from hw) (by simp)
    · exact absurd (show true = false from hw) (by simp)
    · exact absurd (show true = false from hw) (by simp)
    · exact absurd (show true = false from hw) (by simp)
    · exact absurd (show true = false from hw) (by simp)
    · exact absurd (show true = false from hw) (by simp)
    · exact absurd (show true = false from hw) (by simp)
    · exact absurd (show true = false from hw) (by simp)
    · exact absurd (show true = false from hw) (by simp)
    · exact absurd (show true = false from hw) (by simp)
    · exact absurd (show true = false from hw) (by simp)
    · exact absurd (show true = false from hw) (by simp)
  case hpure =>
    intro iF o hi hnm hww ho d x W hB hd hdn hnd hcl Kq hK
    rcases (show iF = 0 ∨ iF = 1 ∨ iF = 2 ∨ iF = 3 ∨ iF = 4 ∨ iF = 5 ∨ iF = 6 ∨ iF = 7 ∨ iF = 8 ∨ iF = 9 ∨ iF = 10 ∨ iF = 11 ∨ iF = 12 ∨ iF = 13 ∨ iF = 14 ∨ iF = 15 ∨ iF = 16 ∨ iF = 17 ∨ iF = 18 ∨ iF = 19 ∨ iF = 20 ∨ iF = 21 ∨ iF = 22 ∨ iF = 23 ∨ iF = 24 ∨ iF = 25 ∨ iF = 26 ∨ iF = 27 ∨ iF = 28 ∨ iF = 29 ∨ iF = 30 ∨ iF = 31 ∨ iF = 32 ∨ iF = 33 ∨ iF = 34 ∨ iF = 35 ∨ iF = 36 ∨ iF = 37 ∨ iF = 38 ∨ iF = 39 ∨ iF = 40 ∨ iF = 41 ∨ iF = 42 ∨ iF = 43 ∨ iF = 44 ∨ iF = 45 ∨ iF = 46 ∨ iF = 47 ∨ iF = 48 ∨ iF = 49 ∨ iF = 50 ∨ iF = 51 ∨ iF = 52 ∨ iF = 53 by omega) with rfl | rfl | rfl | rfl | rfl | rfl | rfl | rfl | rfl | rfl | rfl | rfl | rfl | rfl | rfl | rfl | rfl | rfl | rfl | rfl | rfl | rfl | rfl | rfl | rfl | rfl | rfl | rfl | rfl | rfl | rfl | rfl | rfl | rfl | rfl | rfl | rfl | rfl | rfl | rfl | rfl | rfl | rfl | rfl | rfl | rfl | rfl | rfl | rfl | rfl | rfl | rfl | rfl | rfl
    · obtain rfl := Option.some.inj ho
      clear ho hd hdn hnd hcl hB hnm hi
      simp only [upd, reduceIte, Nat.reduceEqDiff] at hK
      try dsimp only
      go_simp
      exact hK _ rfl
    · obtain rfl := Option.some.inj ho
      clear ho hd hdn hnd hcl hB hnm hi
      simp only [upd, reduceIte, Nat.reduceEqDiff] at hK
      try dsimp only
      go_simp
      exact hK _ rfl
    · obtain rfl := Option.some.inj ho
      have e0 : x 0 = .int .i64 0 := hd 0 (by kernel_rfl) (by kernel_rfl)
      have e1 : x 1 = .int .i64 0 := hd 1 (by kernel_rfl) (by kernel_rfl)
      clear ho hd hdn hnd hcl hB hnm hi
      simp only [upd, reduceIte, Nat.reduceEqDiff, e0, e1] at hK
      try dsimp only
      go_simp
      exact hK _ rfl
    · obtain rfl := Option.some.inj ho
      have e2 : x 2 = .int .i64 0 := hd 2 (by kernel_rfl) (by kernel_rfl)
      clear ho hd hdn hnd hcl hB hnm hi
      simp only [upd, reduceIte, Nat.reduceEqDiff, e2] at hK
      try dsimp only
      go_simp
      exact hK _ rfl
    · obtain rfl := Option.some.inj ho
      have e3 : x 3 = .bool true := hd 3 (by kernel_rfl) (by kernel_rfl)
      clear ho hd hdn hnd hcl hB hnm hi
      simp only [upd, reduceIte, Nat.reduceEqDiff, e3] at hK
      try dsimp only
      go_simp
      exact hK _ rfl
    · obtain rfl := Option.some.inj ho
      clear ho hd hdn hnd hcl hB hnm hi
      simp only [upd, reduceIte, Nat.reduceEqDiff] at hK
      try dsimp only
      go_simp
      exact hK _ rfl
    · obtain rfl := Option.some.inj ho
      have e5 : x 5 = .pointer (some ⟨X, 0, none⟩) := hd 5 (by kernel_rfl) (by kernel_rfl)
      have hb := hB.1
      have cz := (HX.out.box.below hb).c0
      clear ho hd hdn hnd hcl hB hnm hi
      simp only [upd, reduceIte, Nat.reduceEqDiff, e5] at hK
      try dsimp only
      go_simp
      exact hK _ rfl
    · obtain rfl := Option.some.inj ho
      clear ho hd hdn hnd hcl hB hnm hi
      simp only [upd, reduceIte, Nat.reduceEqDiff] at hK
      try dsimp only
      go_simp
      exact hK _ rfl
    · exact absurd (show true = false from hnm) (by simp)
    · obtain rfl := Option.some.inj ho
      have e4 : x 4 = .bool true := hd 4 (by kernel_rfl) (by kernel_rfl)
      have e8 : x 8 = .bool true := hB.2.1 (hdn 8 (by kernel_rfl))
      clear ho hd hdn hnd hcl hB hnm hi
      simp only [upd, reduceIte, Nat.reduceEqDiff, e4, e8] at hK
      try dsimp only
      try rw [e8]
      go_simp
      exact hK _ rfl
    · obtain rfl := Option.some.inj ho
      have e9 : x 9 = .bool true := hd 9 (by kernel_rfl) (by kernel_rfl)
      clear ho hd hdn hnd hcl hB hnm hi
      simp only [upd, reduceIte, Nat.reduceEqDiff, e9] at hK
      try dsimp only
      go_simp
      exact hK _ rfl
    · obtain rfl := Option.some.inj ho
      clear ho hd hdn hnd hcl hB hnm hi
      simp only [upd, reduceIte, Nat.reduceEqDiff] at hK
      try dsimp only
      go_simp
      exact hK _ rfl
    · obtain rfl := Option.some.inj ho
      have e11 : x 11 = .pointer (some ⟨X, 1, none⟩) := hd 11 (by kernel_rfl) (by kernel_rfl)
      have hb := hB.1
      have cz := (HX.out.box.below hb).c1
      clear ho hd hdn hnd hcl hB hnm hi
      simp only [upd, reduceIte, Nat.reduceEqDiff, e11] at hK
      try dsimp only
      go_simp
      exact hK _ rfl
    · obtain rfl := Option.some.inj ho
      have e12 : x 12 = .slice A2 0 c2 := hd 12 (by kernel_rfl) (by kernel_rfl)
      clear ho hd hdn hnd hcl hB hnm hi
      simp only [upd, reduceIte, Nat.reduceEqDiff, e12] at hK
      try dsimp only
      go_simp
      exact hK _ rfl
    · obtain rfl := Option.some.inj ho
      have e13 : x 13 = .int .i64 0 := hd 13 (by kernel_rfl) (by kernel_rfl)
      clear ho hd hdn hnd hcl hB hnm hi
      simp only [upd, reduceIte, Nat.reduceEqDiff, e13] at hK
      try dsimp only
      go_simp
      exact hK _ rfl
    · obtain rfl := Option.some.inj ho
      have e10 : x 10 = .bool true := hd 10 (by kernel_rfl) (by kernel_rfl)
      have e14 : x 14 = .bool true := hd 14 (by kernel_rfl) (by kernel_rfl)
      clear ho hd hdn hnd hcl hB hnm hi
      simp only [upd, reduceIte, Nat.reduceEqDiff, e10, e14] at hK
      try dsimp only
      go_simp
      exact hK _ rfl
    · obtain rfl := Option.some.inj ho
      have e15 : x 15 = .bool true := hd 15 (by kernel_rfl) (by kernel_rfl)
      clear ho hd hdn hnd hcl hB hnm hi
      simp only [upd, reduceIte, Nat.reduceEqDiff, e15] at hK
      try dsimp only
      go_simp
      exact hK _ rfl
    · obtain rfl := Option.some.inj ho
      clear ho hd hdn hnd hcl hB hnm hi
      simp only [upd, reduceIte, Nat.reduceEqDiff] at hK
      try dsimp only
      go_simp
      exact hK _ rfl
    · obtain rfl := Option.some.inj ho
      have e17 : x 17 = .pointer (some ⟨X, 3, none⟩) := hd 17 (by kernel_rfl) (by kernel_rfl)
      have hb := hB.1
      have cz := (HX.out.box.below hb).c3
      clear ho hd hdn hnd hcl hB hnm hi
      simp only [upd, reduceIte, Nat.reduceEqDiff, e17] at hK
      try dsimp only
      go_simp
      exact hK _ rfl
    · obtain rfl := Option.some.inj ho
      clear ho hd hdn hnd hcl hB hnm hi
      simp only [upd, reduceIte, Nat.reduceEqDiff] at hK
      try dsimp only
      go_simp
      exact hK _ rfl
    · obtain rfl := Option.some.inj ho
      have e18 : x 18 = .int .i64 lost := hd 18 (by kernel_rfl) (by kernel_rfl)
      have e19 : x 19 = .int .i64 lost := hd 19 (by kernel_rfl) (by kernel_rfl)
      clear ho hd hdn hnd hcl hB hnm hi
      simp only [upd, reduceIte, Nat.reduceEqDiff, e18, e19] at hK
      try dsimp only
      go_simp
      exact hK _ rfl
    · obtain rfl := Option.some.inj ho
      have e16 : x 16 = .bool true := hd 16 (by kernel_rfl) (by kernel_rfl)
      have e20 : x 20 = .bool true := hd 20 (by kernel_rfl) (by kernel_rfl)
      clear ho hd hdn hnd hcl hB hnm hi
      simp only [upd, reduceIte, Nat.reduceEqDiff, e16, e20] at hK
      try dsimp only
      go_simp
      exact hK _ rfl
    · obtain rfl := Option.some.inj ho
      have e21 : x 21 = .bool true := hd 21 (by kernel_rfl) (by kernel_rfl)
      clear ho hd hdn hnd hcl hB hnm hi
      simp only [upd, reduceIte, Nat.reduceEqDiff, e21] at hK
      try dsimp only
      go_simp
      exact hK _ rfl
    · obtain rfl := Option.some.inj ho
      clear ho hd hdn hnd hcl hB hnm hi
      simp only [upd, reduceIte, Nat.reduceEqDiff] at hK
      try dsimp only
      go_simp
      exact hK _ rfl
    · obtain rfl := Option.some.inj ho
      have e23 : x 23 = .pointer (some ⟨X, 4, none⟩) := hd 23 (by kernel_rfl) (by kernel_rfl)
      have hb := hB.1
      have cz := (HX.out.box.below hb).c4
      clear ho hd hdn hnd hcl hB hnm hi
      simp only [upd, reduceIte, Nat.reduceEqDiff, e23] at hK
      try dsimp only
      go_simp
      exact hK _ rfl
    · obtain rfl := Option.some.inj ho
      clear ho hd hdn hnd hcl hB hnm hi
      simp only [upd, reduceIte, Nat.reduceEqDiff] at hK
      try dsimp only
      go_simp
      exact hK _ rfl
    · obtain rfl := Option.some.inj ho
      clear ho hd hdn hnd hcl hB hnm hi
      simp only [upd, reduceIte, Nat.reduceEqDiff] at hK
      try dsimp only
      go_simp
      exact hK _ rfl
    · obtain rfl := Option.some.inj ho
      have e26 : x 26 = .slice (some ⟨cb, co, none⟩) (p + 1) cc := hd 26 (by kernel_rfl) (by kernel_rfl)
      clear ho hd hdn hnd hcl hB hnm hi
      simp only [upd, reduceIte, Nat.reduceEqDiff, e26] at hK
      try dsimp only
      go_simp
      exact hK _ rfl
    · obtain rfl := Option.some.inj ho
      have e27 : x 27 = .int .i64 ((p + 1 : Nat) : Int) := hd 27 (by kernel_rfl) (by kernel_rfl)
      clear ho hd hdn hnd hcl hB hnm hi
      simp only [upd, reduceIte, Nat.reduceEqDiff, e27] at hK
      try dsimp only
      go_simp
      exact hK _ (congrArg (Value.int .i64) (IntWalk.i64_in _ (by omega)))
    · obtain rfl := Option.some.inj ho
      have e25 : x 25 = .slice (some ⟨cb, co, none⟩) (p + 1) cc := hd 25 (by kernel_rfl) (by kernel_rfl)
      have e28 : x 28 = .int .i64 (p : Nat) := hd 28 (by kernel_rfl) (by kernel_rfl)
      have hpp : (p : Int) < (p : Int) + 1 := by omega
      clear ho hd hdn hnd hcl hB hnm hi
      simp only [upd, reduceIte, Nat.reduceEqDiff, e25, e28] at hK
      try dsimp only
      go_simp
      exact hK _ rfl
    · obtain rfl := Option.some.inj ho
      have e29 : x 29 = .pointer (some ⟨cb, co + p * 5, none⟩) := hd 29 (by kernel_rfl) (by kernel_rfl)
      clear ho hd hdn hnd hcl hB hnm hi
      simp only [upd, reduceIte, Nat.reduceEqDiff, e29] at hK
      try dsimp only
      go_simp
      exact hK _ rfl
    · obtain rfl := Option.some.inj ho
      have e30 : x 30 = .pointer (some ⟨cb, co + p * 5 + 3, none⟩) := hd 30 (by kernel_rfl) (by kernel_rfl)
      have hb := hB.1
      have cz := below_cell hb HC.out
      clear ho hd hdn hnd hcl hB hnm hi
      simp only [upd, reduceIte, Nat.reduceEqDiff, e30] at hK
      try dsimp only
      go_simp
      exact hK _ rfl
    · obtain rfl := Option.some.inj ho
      have e24 : x 24 = .int .i64 next := hd 24 (by kernel_rfl) (by kernel_rfl)
      have e31 : x 31 = .int .i64 next := hd 31 (by kernel_rfl) (by kernel_rfl)
      clear ho hd hdn hnd hcl hB hnm hi
      simp only [upd, reduceIte, Nat.reduceEqDiff, e24, e31] at hK
      try dsimp only
      go_simp
      exact hK _ rfl
    · obtain rfl := Option.some.inj ho
      have e22 : x 22 = .bool true := hd 22 (by kernel_rfl) (by kernel_rfl)
      have e32 : x 32 = .bool true := hd 32 (by kernel_rfl) (by kernel_rfl)
      clear ho hd hdn hnd hcl hB hnm hi
      simp only [upd, reduceIte, Nat.reduceEqDiff, e22, e32] at hK
      try dsimp only
      go_simp
      exact hK _ rfl
    · obtain rfl := Option.some.inj ho
      have e33 : x 33 = .bool true := hd 33 (by kernel_rfl) (by kernel_rfl)
      clear ho hd hdn hnd hcl hB hnm hi
      simp only [upd, reduceIte, Nat.reduceEqDiff, e33] at hK
      try dsimp only
      go_simp
      exact hK _ rfl
    · obtain rfl := Option.some.inj ho
      clear ho hd hdn hnd hcl hB hnm hi
      simp only [upd, reduceIte, Nat.reduceEqDiff] at hK
      try dsimp only
      go_simp
      exact hK _ rfl
    · obtain rfl := Option.some.inj ho
      have e35 : x 35 = .pointer (some ⟨X, 5, none⟩) := hd 35 (by kernel_rfl) (by kernel_rfl)
      have hb := hB.1
      have cz := (HX.out.box.below hb).c5
      clear ho hd hdn hnd hcl hB hnm hi
      simp only [upd, reduceIte, Nat.reduceEqDiff, e35] at hK
      try dsimp only
      go_simp
      exact hK _ rfl
    · obtain rfl := Option.some.inj ho
      have e36 : x 36 = .bool false := hd 36 (by kernel_rfl) (by kernel_rfl)
      clear ho hd hdn hnd hcl hB hnm hi
      simp only [upd, reduceIte, Nat.reduceEqDiff, e36] at hK
      try dsimp only
      go_simp
      exact hK _ rfl
    · obtain rfl := Option.some.inj ho
      have e34 : x 34 = .bool true := hd 34 (by kernel_rfl) (by kernel_rfl)
      have e37 : x 37 = .bool true := hd 37 (by kernel_rfl) (by kernel_rfl)
      clear ho hd hdn hnd hcl hB hnm hi
      simp only [upd, reduceIte, Nat.reduceEqDiff, e34, e37] at hK
      try dsimp only
      go_simp
      exact hK _ rfl
    · obtain rfl := Option.some.inj ho
      have e38 : x 38 = .bool true := hd 38 (by kernel_rfl) (by kernel_rfl)
      clear ho hd hdn hnd hcl hB hnm hi
      simp only [upd, reduceIte, Nat.reduceEqDiff, e38] at hK
      try dsimp only
      go_simp
      exact hK _ rfl
    · obtain rfl := Option.some.inj ho
      clear ho hd hdn hnd hcl hB hnm hi
      simp only [upd, reduceIte, Nat.reduceEqDiff] at hK
      try dsimp only
      go_simp
      exact hK _ rfl
    · obtain rfl := Option.some.inj ho
      have e40 : x 40 = .pointer (some ⟨X, 2, none⟩) := hd 40 (by kernel_rfl) (by kernel_rfl)
      have hb := hB.1
      have cz := (HX.out.box.below hb).c2
      clear ho hd hdn hnd hcl hB hnm hi
      simp only [upd, reduceIte, Nat.reduceEqDiff, e40] at hK
      try dsimp only
      go_simp
      exact hK _ rfl
    · exact absurd (show true = false from hnm) (by simp)
    · obtain rfl := Option.some.inj ho
      have e39 : x 39 = .bool true := hd 39 (by kernel_rfl) (by kernel_rfl)
      have e42 : x 42 = .bool true := hB.2.2.1 (hdn 42 (by kernel_rfl))
      clear ho hd hdn hnd hcl hB hnm hi
      simp only [upd, reduceIte, Nat.reduceEqDiff, e39, e42] at hK
      try dsimp only
      try rw [e42]
      go_simp
      exact hK _ rfl
    · obtain rfl := Option.some.inj ho
      have e43 : x 43 = .bool true := hd 43 (by kernel_rfl) (by kernel_rfl)
      clear ho hd hdn hnd hcl hB hnm hi
      simp only [upd, reduceIte, Nat.reduceEqDiff, e43] at hK
      try dsimp only
      go_simp
      exact hK _ rfl
    · obtain rfl := Option.some.inj ho
      have hb := hB.1
      have hz := HX.out.box.below hb
      have cz0 := hz.c0
      have cz1 := hz.c1
      have cz2 := hz.c2
      have cz3 := hz.c3
      have cz4 := hz.c4
      have cz5 := hz.c5
      clear hz
      clear ho hd hdn hnd hcl hB hnm hi
      simp only [upd, reduceIte, Nat.reduceEqDiff] at hK
      try dsimp only
      go_simp
      exact hK _ rfl
    · exact absurd (show true = false from hnm) (by simp)
    · obtain rfl := Option.some.inj ho
      have e44 : x 44 = .bool true := hd 44 (by kernel_rfl) (by kernel_rfl)
      have e46 : x 46 = .bool true := hB.2.2.2.1 (hdn 46 (by kernel_rfl))
      clear ho hd hdn hnd hcl hB hnm hi
      simp only [upd, reduceIte, Nat.reduceEqDiff, e44, e46] at hK
      try dsimp only
      try rw [e46]
      go_simp
      exact hK _ rfl
    · obtain rfl := Option.some.inj ho
      have e47 : x 47 = .bool true := hd 47 (by kernel_rfl) (by kernel_rfl)
      clear ho hd hdn hnd hcl hB hnm hi
      simp only [upd, reduceIte, Nat.reduceEqDiff, e47] at hK
      try dsimp only
      go_simp
      exact hK _ rfl
    · obtain rfl := Option.some.inj ho
      have hb := hB.1
      have hz := HX.out.box.below hb
      have cz0 := hz.c0
      have cz1 := hz.c1
      have cz2 := hz.c2
      have cz3 := hz.c3
      have cz4 := hz.c4
      have cz5 := hz.c5
      clear hz
      clear ho hd hdn hnd hcl hB hnm hi
      simp only [upd, reduceIte, Nat.reduceEqDiff] at hK
      try dsimp only
      go_simp
      exact hK _ rfl
    · obtain rfl := Option.some.inj ho
      have hb := hB.1
      have hz := HY.out.box.below hb
      have cz0 := hz.c0
      have cz1 := hz.c1
      have cz2 := hz.c2
      have cz3 := hz.c3
      have cz4 := hz.c4
      have cz5 := hz.c5
      clear hz
      clear ho hd hdn hnd hcl hB hnm hi
      simp only [upd, reduceIte, Nat.reduceEqDiff] at hK
      try dsimp only
      go_simp
      exact hK _ rfl
    · exact absurd (show true = false from hnm) (by simp)
    · obtain rfl := Option.some.inj ho
      have e48 : x 48 = .bool true := hd 48 (by kernel_rfl) (by kernel_rfl)
      have e51 : x 51 = .bool true := hB.2.2.2.2 (hdn 51 (by kernel_rfl))
      clear ho hd hdn hnd hcl hB hnm hi
      simp only [upd, reduceIte, Nat.reduceEqDiff, e48, e51] at hK
      try dsimp only
      try rw [e51]
      go_simp
      exact hK _ rfl
    · obtain rfl := Option.some.inj ho
      have e52 : x 52 = .bool true := hd 52 (by kernel_rfl) (by kernel_rfl)
      clear ho hd hdn hnd hcl hB hnm hi
      simp only [upd, reduceIte, Nat.reduceEqDiff, e52] at hK
      try dsimp only
      go_simp
      exact hK _ rfl
  case hmem =>
    intro iF o hi hmm ho d d' x W hB hd hdn hnd hdi hdi' hdm hcl Kq hK
    rcases (show iF = 0 ∨ iF = 1 ∨ iF = 2 ∨ iF = 3 ∨ iF = 4 ∨ iF = 5 ∨ iF = 6 ∨ iF = 7 ∨ iF = 8 ∨ iF = 9 ∨ iF = 10 ∨ iF = 11 ∨ iF = 12 ∨ iF = 13 ∨ iF = 14 ∨ iF = 15 ∨ iF = 16 ∨ iF = 17 ∨ iF = 18 ∨ iF = 19 ∨ iF = 20 ∨ iF = 21 ∨ iF = 22 ∨ iF = 23 ∨ iF = 24 ∨ iF = 25 ∨ iF = 26 ∨ iF = 27 ∨ iF = 28 ∨ iF = 29 ∨ iF = 30 ∨ iF = 31 ∨ iF = 32 ∨ iF = 33 ∨ iF = 34 ∨ iF = 35 ∨ iF = 36 ∨ iF = 37 ∨ iF = 38 ∨ iF = 39 ∨ iF = 40 ∨ iF = 41 ∨ iF = 42 ∨ iF = 43 ∨ iF = 44 ∨ iF = 45 ∨ iF = 46 ∨ iF = 47 ∨ iF = 48 ∨ iF = 49 ∨ iF = 50 ∨ iF = 51 ∨ iF = 52 ∨ iF = 53 by omega) with rfl | rfl | rfl | rfl | rfl | rfl | rfl | rfl | rfl | rfl | rfl | rfl | rfl | rfl | rfl | rfl | rfl | rfl | rfl | rfl | rfl | rfl | rfl | rfl | rfl | rfl | rfl | rfl | rfl | rfl | rfl | rfl | rfl | rfl | rfl | rfl | rfl | rfl | rfl | rfl | rfl | rfl | rfl | rfl | rfl | rfl | rfl | rfl | rfl | rfl | rfl | rfl | rfl | rfl
    · exact absurd (show false = true from hmm) (by simp)
    · exact absurd (show false = true from hmm) (by simp)
    · exact absurd (show false = true from hmm) (by simp)
    · exact absurd (show false = true from hmm) (by simp)
    · exact absurd (show false = true from hmm) (by simp)
    · exact absurd (show false = true from hmm) (by simp)
    · exact absurd (show false = true from hmm) (by simp)
    · exact absurd (show false = true from hmm) (by simp)
    · obtain rfl := Option.some.inj ho
      have e6 : x 6 = .slice A1 n1 c1 := hd 6 (by kernel_rfl) (by kernel_rfl)
      have e7 : x 7 = vt := hd 7 (by kernel_rfl) (by kernel_rfl)
      have dm42 : d' 42 = d 42 := hdm 42 (by omega)
      have dm46 : d' 46 = d 46 := hdm 46 (by omega)
      have dm51 : d' 51 = d 51 := hdm 51 (by omega)
      obtain ⟨hb, h8, h42, h46, h51⟩ := hB
      clear ho hd hdn hnd hcl hmm
      simp only [upd, reduceIte, Nat.reduceEqDiff, e6, e7] at hK
      try dsimp only
      go_simp
      go_simp
      go_at_call 35
      refine (eq_ev W _ vt R (HX.out.ee.below hb) (HT.out.below hb) (by have := HW.out.2.2.2.2.2.1; omega)).mono ?_
      rintro r W2 ⟨rfl, bb⟩
      go_simp
      refine hK _ _ ?_
      try dsimp only
      rw [dm42, dm46, dm51, hdi']
      exact ⟨(bstep hb bb), fun _ => rfl, h42, h46, h51⟩
    · exact absurd (show false = true from hmm) (by simp)
    · exact absurd (show false = true from hmm) (by simp)
    · exact absurd (show false = true from hmm) (by simp)
    · exact absurd (show false = true from hmm) (by simp)
    · exact absurd (show false = true from hmm) (by simp)
    · exact absurd (show false = true from hmm) (by simp)
    · exact absurd (show false = true from hmm) (by simp)
    · exact absurd (show false = true from hmm) (by simp)
    · exact absurd (show false = true from hmm) (by simp)
    · exact absurd (show false = true from hmm) (by simp)
    · exact absurd (show false = true from hmm) (by simp)
    · exact absurd (show false = true from hmm) (by simp)
    · exact absurd (show false = true from hmm) (by simp)
    · exact absurd (show false = true from hmm) (by simp)
    · exact absurd (show false = true from hmm) (by simp)
    · exact absurd (show false = true from hmm) (by simp)
    · exact absurd (show false = true from hmm) (by simp)
    · exact absurd (show false = true from hmm) (by simp)
    · exact absurd (show false = true from hmm) (by simp)
    · exact absurd (show false = true from hmm) (by simp)
    · exact absurd (show false = true from hmm) (by simp)
    · exact absurd (show false = true from hmm) (by simp)
    · exact absurd (show false = true from hmm) (by simp)
    · exact absurd (show false = true from hmm) (by simp)
    · exact absurd (show false = true from hmm) (by simp)
    · exact absurd (show false = true from hmm) (by simp)
    · exact absurd (show false = true from hmm) (by simp)
    · exact absurd (show false = true from hmm) (by simp)
    · exact absurd (show false = true from hmm) (by simp)
    · exact absurd (show false = true from hmm) (by simp)
    · exact absurd (show false = true from hmm) (by simp)
    · exact absurd (show false = true from hmm) (by simp)
    · exact absurd (show false = true from hmm) (by simp)
    · obtain rfl := Option.some.inj ho
      have e41 : x 41 = .slice A3 n3 c3 := hd 41 (by kernel_rfl) (by kernel_rfl)
      have dm8 : d' 8 = d 8 := hdm 8 (by omega)
      have dm46 : d' 46 = d 46 := hdm 46 (by omega)
      have dm51 : d' 51 = d 51 := hdm 51 (by omega)
      obtain ⟨hb, h8, h42, h46, h51⟩ := hB
      clear ho hd hdn hnd hcl hmm
      simp only [upd, reduceIte, Nat.reduceEqDiff, e41] at hK
      try dsimp only
      go_simp
      go_simp
      go_at_call 40
      refine (right_ok W _ G (HX.out.eg.below hb) (by have := HW.out.2.2.2.2.2.2.1; omega)).mono ?_
      rintro r W2 ⟨rfl, bb⟩
      rw [HW.out.2.2.2.2.2.2.2]
      go_simp
      refine hK _ _ ?_
      try dsimp only
      rw [dm8, dm46, dm51, hdi']
      exact ⟨(bstep hb bb), h8, fun _ => rfl, h46, h51⟩
    · exact absurd (show false = true from hmm) (by simp)
    · exact absurd (show false = true from hmm) (by simp)
    · exact absurd (show false = true from hmm) (by simp)
    · obtain rfl := Option.some.inj ho
      have e45 : x 45 = .agg #[.slice A1 n1 c1, .slice A2 0 c2, .slice A3 n3 c3, .int .i64 lost, .int .i64 next, .bool false] := hd 45 (by kernel_rfl) (by kernel_rfl)
      have dm8 : d' 8 = d 8 := hdm 8 (by omega)
      have dm42 : d' 42 = d 42 := hdm 42 (by omega)
      have dm51 : d' 51 = d 51 := hdm 51 (by omega)
      obtain ⟨hb, h8, h42, h46, h51⟩ := hB
      clear ho hd hdn hnd hcl hmm
      simp only [upd, reduceIte, Nat.reduceEqDiff, e45] at hK
      try dsimp only
      go_simp
      go_simp
      go_at_call 34
      refine (numbers_ok W _ _ _ R G lost next false (HX.out.ee.below hb) (HX.out.eg.below hb) HW.out.1 HW.out.2.1 HW.out.2.2.1 HW.out.2.2.2.1 HW.out.2.2.2.2.1 HW.out.2.2.2.2.2.1 HW.out.2.2.2.2.2.2.1).mono ?_
      rintro r W2 ⟨rfl, bb⟩
      go_simp
      refine hK _ _ ?_
      try dsimp only
      rw [dm8, dm42, dm51, hdi']
      exact ⟨(bstep hb bb), h8, h42, fun _ => rfl, h51⟩
    · exact absurd (show false = true from hmm) (by simp)
    · exact absurd (show false = true from hmm) (by simp)
    · exact absurd (show false = true from hmm) (by simp)
    · exact absurd (show false = true from hmm) (by simp)
    · obtain rfl := Option.some.inj ho
      have e49 : x 49 = .agg #[.slice A1 n1 c1, .slice A2 0 c2, .slice A3 n3 c3, .int .i64 lost, .int .i64 next, .bool false] := hd 49 (by kernel_rfl) (by kernel_rfl)
      have e50 : x 50 = .agg #[.slice E1 m1 d1, .slice E2 0 d2, .slice E3 m3 d3, .int .i64 lost, .int .i64 next, .bool false] := hd 50 (by kernel_rfl) (by kernel_rfl)
      have dm8 : d' 8 = d 8 := hdm 8 (by omega)
      have dm42 : d' 42 = d 42 := hdm 42 (by omega)
      have dm46 : d' 46 = d 46 := hdm 46 (by omega)
      obtain ⟨hb, h8, h42, h46, h51⟩ := hB
      clear ho hd hdn hnd hcl hmm
      simp only [upd, reduceIte, Nat.reduceEqDiff, e49, e50] at hK
      try dsimp only
      go_simp
      go_simp
      go_at_call 26
      refine (same_ok W _ _ _ _ _ _ R [] G lost next false (HX.out.ee.below hb) (HX.out.et.below hb) (HX.out.eg.below hb) (HY.out.ee.below hb) (HY.out.et.below hb) (HY.out.eg.below hb) (by have := HW.out.2.2.2.2.2.1; omega) (by simp) (by have := HW.out.2.2.2.2.2.2.1; omega)).mono ?_
      rintro r W2 ⟨rfl, bb⟩
      go_simp
      refine hK _ _ ?_
      try dsimp only
      rw [dm8, dm42, dm46, hdi']
      exact ⟨(bstep hb bb), h8, h42, h46, fun _ => rfl⟩
    · exact absurd (show false = true from hmm) (by simp)
    · exact absurd (show false = true from hmm) (by simp)
  case hend =>
    intro d x W hall hB hd
    have hb := hB.1
    have ek := hd 53 (by omega) rfl
    clear hd hall hB
    try dsimp only
    rw [ek]
    clear ek
    generalize x 0 = y0
    generalize x 1 = y1
    generalize x 2 = y2
    generalize x 3 = y3
    generalize x 4 = y4
    generalize x 5 = y5
    generalize x 6 = y6
    generalize x 7 = y7
    generalize x 8 = y8
    generalize x 9 = y9
    generalize x 10 = y10
    generalize x 11 = y11
    generalize x 12 = y12
    generalize x 13 = y13
    generalize x 14 = y14
    generalize x 15 = y15
    generalize x 16 = y16
    generalize x 17 = y17
    generalize x 18 = y18
    generalize x 19 = y19
    generalize x 20 = y20
    generalize x 21 = y21
    generalize x 22 = y22
    generalize x 23 = y23
    generalize x 24 = y24
    generalize x 25 = y25
    generalize x 26 = y26
    generalize x 27 = y27
    generalize x 28 = y28
    generalize x 29 = y29
    generalize x 30 = y30
    generalize x 31 = y31
    generalize x 32 = y32
    generalize x 33 = y33
    generalize x 34 = y34
    generalize x 35 = y35
    generalize x 36 = y36
    generalize x 37 = y37
    generalize x 38 = y38
    generalize x 39 = y39
    generalize x 40 = y40
    generalize x 41 = y41
    generalize x 42 = y42
    generalize x 43 = y43
    generalize x 44 = y44
    generalize x 45 = y45
    generalize x 46 = y46
    generalize x 47 = y47
    generalize x 48 = y48
    generalize x 49 = y49
    generalize x 50 = y50
    generalize x 51 = y51
    generalize x 52 = y52
    go_wp2
    go_ret
    exact ⟨rfl, bstep HB.out hb⟩
end Go.Proofs.YtalophngappkhaaGreatDoor
