/- MergeWrong: a block that is not right. -/
import Derived.Test.YtalophngappkhaaGreatDoorMwa
import Derived.Test.YtalophngappkhaaGreatDoorMwc
import Derived.Test.YtalophngappkhaaGreatDoorZ27
import Derived.Test.YtalophngappkhaaGreatDoorZ8
set_option linter.unusedVariables false
set_option linter.unusedSimpArgs false
set_option linter.unusedSectionVars false
namespace Go.Proofs.YtalophngappkhaaGreatDoor
open Go Go.RowKit Go.Shelf
attribute [local go_sem] Oper.semAt_some

/-- What Blocks has returned, with an error. -/
def MgC (wc W : World) (v : Value) (R : List Ev) (T : List Int) (G : List (Int × Int)) (lost next : Int) (opn : Bool) (c : Int) : Prop :=
  ∃ A1 n1 c1 A2 n2 c2 A3 n3 c3, v = .tuple #[mgA (.slice A1 n1 c1) (.slice A2 n2 c2) (.slice A3 n3 c3) lost next opn, .int .i64 c] ∧ OV encE 11 28 wc.heap.size W (.slice A1 n1 c1) R ∧ OV encI 1 3 wc.heap.size W (.slice A2 n2 c2) T ∧ OV encP 2 34 wc.heap.size W (.slice A3 n3 c3) G
theorem MgC.below {wc W W' : World} {v : Value} {R : List Ev} {T : List Int} {G : List (Int × Int)} {lost next : Int} {opn : Bool} {c : Int} (h : MgC wc W v R T G lost next opn c) (hb : Below W.heap.size W W') : MgC wc W' v R T G lost next opn c := by
  obtain ⟨A1, n1, c1, A2, n2, c2, A3, n3, c3, e, p, q, r⟩ := h
  exact ⟨A1, n1, c1, A2, n2, c2, A3, n3, c3, e, p.below hb, q.below hb, r.below hb⟩
theorem ZBox.modO {α : Type} {enc : α → List Value} {k base : Nat} {e : TypeId} {xs : List α} {wc W W' : World} {v : Value} {g n cap : Nat} (h : ZBox wc W v) (ho : OV enc k e base W (.slice (some ⟨g, 0, none⟩) n cap) xs) (hne : e ≠ 39) (hm : Mod (fun j => j = g) W W') : ZBox wc W' v := by
  obtain ⟨Y, e1, a, b⟩ := h
  refine ⟨Y, e1, a, ⟨(hm.block Y b.lt fun hy => ?_).trans b.cell⟩⟩
  rcases ho.2 with ⟨h0, _⟩ | ⟨g', cap', cur, hv, _, hg', _⟩
  · cases h0
  · simp only [Value.slice.injEq, Option.some.injEq, Addr.mk.injEq, and_true] at hv
    obtain ⟨rfl, _, _⟩ := hv
    rw [← hy, b.cell] at hg'
    cases hg'
    exact hne rfl
set_option maxRecDepth 100000 in
set_option maxHeartbeats 6400000 in
theorem wrong_t16 (w wc : World) (At : Option Addr) (nt ct BB cb co p cc k : Nat) (sl : Sl3) (tr : List Ev) (bs : List (Sl3 × Bck)) (bx : Bck) (nx n : Int) {u0 u1 u2 u3 u5 u6 u7 u8 u9 u10 u16 u17 u18 u19 u20 u21 u22 u23 u24 u25 u26 u27 u28 u29 u30 u31 u32 u33 u34 u35 u36 u37 u38 u39 u40 u41 u42 u43 u44 u45 u46 u47 u48 u49 u50 u51 u52 u53 u54 u55 u56 u57 u58 u59 u60 u61 u62 u63 u64 u65 u66 u67 u68 u69 u70 u71 u72 u73 u74 u75 u76 u77 u78 u79 u80 u81 u82 u83 u84 u85 u86 u87 u88 u89 u90 u91 u92 u93 u94 u95 u96 u97 u98 u99 u100 u101 u102 u103 u104 u105 u106 u107 u108 u109 u110 u111 u112 u113 u114 u115 u116 u117 u118 u119 u120 u121 u122 u123 u124 u125 u126 u127 u128 u129 u130 u131 u132 u133 u134 u135 u136 u137 u138 u139 u140 u141 u142 u143 u144 u145 u146 u147 u148 u149 u150 u151 u152 u153 u154 u155 u156 u157 u158 u159 u160 u161 u162 u163 u164 : Value}
    (hT : Tr tr) (hL : (CutP.all bs nx).length = p + 1 ∧ p ≤ 40) (hC : CutR tr (bs.map Prod.snd) nx) (hev : EV encSb 5 wc (.slice (some ⟨cb, co, none⟩) (p + 1) cc) (CutP.all bs nx)) (hevs : ∀ y ∈ CutP.all bs nx, EV encE 11 wc (slV y.1) y.2.evs) (hla : LaidAt wc)
    (hvt : EV encE 11 wc (.slice At nt ct) tr) (hn : -9223372036854775808 ≤ n ∧ n ≤ 9223372036854775807) (hbad : BadB bx) (hbx : BkBox wc BB bx (slV sl)) (hbe : EV encE 11 wc (slV sl) bx.evs) (hk : k ≤ p + 1) (hb : Below w.heap.size w wc) :
    Code.wp Tryz.prog (tailR Tryz.f4 16) (bodyPost Tryz.prog Tryz.f4 fun r w' => r = .returned (.bool true) ∧ Below w.heap.size w w')
      ⟨#[u0, u1, u2, u3, .int .i64 n, u5, u6, u7, u8, u9, u10, .slice At nt ct, .slice (some ⟨cb, co, none⟩) (p + 1) cc, .pointer (some ⟨BB, 0, none⟩), .int .i64 (k : Int), .int .i64 107, u16, u17, u18, u19, u20, u21, u22, u23, u24, u25, u26, u27, u28, u29, u30, u31, u32, u33, u34, u35, u36, u37, u38, u39, u40, u41, u42, u43, u44, u45, u46, u47, u48, u49, u50, u51, u52, u53, u54, u55, u56, u57, u58, u59, u60, u61, u62, u63, u64, u65, u66, u67, u68, u69, u70, u71, u72, u73, u74, u75, u76, u77, u78, u79, u80, u81, u82, u83, u84, u85, u86, u87, u88, u89, u90, u91, u92, u93, u94, u95, u96, u97, u98, u99, u100, u101, u102, u103, u104, u105, u106, u107, u108, u109, u110, u111, u112, u113, u114, u115, u116, u117, u118, u119, u120, u121, u122, u123, u124, u125, u126, u127, u128, u129, u130, u131, u132, u133, u134, u135, u136, u137, u138, u139, u140, u141, u142, u143, u144, u145, u146, u147, u148, u149, u150, u151, u152, u153, u154, u155, u156, u157, u158, u159, u160, u161, u162, u163, u164], []⟩ wc := by
  conv => arg 2; whnf
  conv => arg 4; dsimp only
  have HT := Lib.hid hT
  have HL := Lib.hid hL
  have HC := Lib.hid hC
  have HEV := Lib.hid hev
  have HES := Lib.hid hevs
  have HU := Lib.hid hla
  have HVT := Lib.hid hvt
  have HN := Lib.hid hn
  have HBAD := Lib.hid hbad
  have HBX := Lib.hid hbx
  have HBE := Lib.hid hbe
  have HKP := Lib.hid hk
  have HB := Lib.hid hb
  have HGD := Lib.hid (show ∀ y ∈ CutP.all bs nx, BlkOk y.2 ∧ chkB y.2 = 0 ∧ y.2.evs.length ≤ 6 from fun y hy => hC.all hT (l := (CutP.all bs nx).map Prod.snd) (fun z hz => by rw [cut_all_snd] at hz; simpa using hz) y.2 (List.mem_map.2 ⟨y, hy, rfl⟩))
  have hp40 := hL.2
  clear hT hL hC hev hevs hla hvt hn hbad hbx hbe hk hb
  apply wp_seq_k
  intro K0 hK0
  go_cut [16, 17] (fun a b wz => ∃ wq, wq = wz ∧ b = .int .i64 107 ∧ FBox wc wq a [] [] [] 0 0 false ∧ Below wc.heap.size wc wq)
  case first =>
    go_wp2_with fail
    refine wp_region_dagG (by kernel_rfl) 13 rfl (fun i => i == 1 || i == 4 || i == 5 || i == 6 || i == 7 || i == 8 || i == 9 || i == 10 || i == 11) (fun i => !(false)) ?hMw (fun x => ⟨#[u0, u1, u2, u3, .int .i64 n, u5, u6, u7, u8, u9, u10, .slice At nt ct, .slice (some ⟨cb, co, none⟩) (p + 1) cc, .pointer (some ⟨BB, 0, none⟩), .int .i64 (k : Int), .int .i64 107, x 10, x 12, u18, u19, u20, u21, u22, u23, u24, u25, u26, u27, u28, u29, u30, u31, u32, u33, u34, u35, u36, u37, u38, u39, u40, u41, u42, u43, u44, u45, u46, u47, u48, u49, u50, u51, u52, u53, u54, u55, u56, u57, u58, u59, u60, u61, u62, u63, u64, u65, u66, u67, x 7, x 0, x 1, x 2, x 3, x 4, x 5, x 6, x 8, x 9, u78, u79, u80, u81, u82, u83, u84, u85, u86, u87, u88, u89, u90, u91, u92, u93, u94, u95, u96, u97, u98, u99, u100, u101, u102, u103, u104, u105, u106, u107, u108, u109, u110, u111, u112, u113, u114, u115, u116, u117, u118, u119, u120, u121, u122, u123, u124, u125, u126, u127, u128, u129, u130, u131, u132, u133, u134, u135, u136, u137, u138, u139, u140, u141, u142, u143, u144, u145, u146, u147, u148, u149, u150, u151, u152, u153, u154, u155, u156, u157, u158, u159, u160, u161, u162, u163, u164], []⟩) (fun iF vF => match iF with | 0 => vF = .slice (some ⟨cb, co, none⟩) (p + 1) cc | 2 => vF = .int .i64 (k : Int) | 3 => vF = .agg #[.int .u8 bx.kind, .int .u8 bx.cpu, .int .i64 bx.lost, .int .i64 bx.next, .slice sl.1 sl.2.1 sl.2.2] | 12 => vF = .int .i64 107 | _ => True)
      (fun d x W => Below wc.heap.size wc W ∧ (d 1 = true → d 5 = false → OV encSb 5 24 wc.heap.size W (x 1) (CutP.all bs nx)) ∧ (d 4 = true → d 5 = false → ∃ g, x 4 = .slice (some ⟨g, 0, none⟩) 1 1 ∧ W.heap[g]? = some (.cells (encSb ((sl, bx) : Sl3 × Bck)).toArray 24 (0, 0)) ∧ (d 1 = true → (x 1).ownBlock ≠ some g)) ∧ (d 5 = true → d 6 = false → EV encSb 5 W (x 5) ((CutP.all bs nx).take k ++ [((sl, bx) : Sl3 × Bck)] ++ (CutP.all bs nx).drop k)) ∧ (d 6 = true → d 11 = false → MgC wc W (x 6) [] [] [] 0 0 false 107) ∧ (d 6 = true → ∃ a, x 6 = .tuple #[a, .int .i64 107]) ∧ (d 7 = true → x 7 = x 6) ∧ (d 8 = true → ∃ e, x 6 = .tuple #[x 8, e]) ∧ (d 9 = true → x 9 = .int .i64 107) ∧ (d 10 = true → d 11 = false → ZBox wc W (x 10)) ∧ (d 11 = true → FBox wc W (x 10) [] [] [] 0 0 false)) ?hB ?hwant ?hoff (by kernel_rfl) ?hpure ?hmem ?hend (fun i => (#[u69, u70, u71, u72, u73, u74, u75, u68, u76, u77, u16, undef, u17] : Array Value).getD i undef) rfl ?hstart
    case hstart =>
      try dsimp only
      exact ⟨below_drew (Below.refl _ _), fun h => (by cases h), fun h => (by cases h), fun h => (by cases h), fun h => (by cases h), fun h => (by cases h), fun h => (by cases h), fun h => (by cases h), fun h => (by cases h), fun h => (by cases h), fun h => (by cases h)⟩
    case hB =>
      intro d d' x i v W hi hm h
      have g1 : ¬ 1 = i := by rintro rfl; exact absurd (show true = false from hi) (by simp)
      have e1 : d' 1 = d 1 := hm 1 rfl
      have g4 : ¬ 4 = i := by rintro rfl; exact absurd (show true = false from hi) (by simp)
      have e4 : d' 4 = d 4 := hm 4 rfl
      have g5 : ¬ 5 = i := by rintro rfl; exact absurd (show true = false from hi) (by simp)
      have e5 : d' 5 = d 5 := hm 5 rfl
      have g6 : ¬ 6 = i := by rintro rfl; exact absurd (show true = false from hi) (by simp)
      have e6 : d' 6 = d 6 := hm 6 rfl
      have g7 : ¬ 7 = i := by rintro rfl; exact absurd (show true = false from hi) (by simp)
      have e7 : d' 7 = d 7 := hm 7 rfl
      have g8 : ¬ 8 = i := by rintro rfl; exact absurd (show true = false from hi) (by simp)
      have e8 : d' 8 = d 8 := hm 8 rfl
      have g9 : ¬ 9 = i := by rintro rfl; exact absurd (show true = false from hi) (by simp)
      have e9 : d' 9 = d 9 := hm 9 rfl
      have g10 : ¬ 10 = i := by rintro rfl; exact absurd (show true = false from hi) (by simp)
      have e10 : d' 10 = d 10 := hm 10 rfl
      have g11 : ¬ 11 = i := by rintro rfl; exact absurd (show true = false from hi) (by simp)
      have e11 : d' 11 = d 11 := hm 11 rfl
      try dsimp only at h ⊢
      first | rw [upd_ne g1, upd_ne g4, upd_ne g5, upd_ne g6, upd_ne g7, upd_ne g8, upd_ne g9, upd_ne g10, upd_ne g11, e1, e4, e5, e6, e7, e8, e9, e10, e11] | simp only [upd_ne g1, upd_ne g4, upd_ne g5, upd_ne g6, upd_ne g7, upd_ne g8, upd_ne g9, upd_ne g10, upd_ne g11, e1, e4, e5, e6, e7, e8, e9, e10, e11]
      exact h
    case hMw =>
      intro i hi
      simp only [Bool.or_eq_true, beq_iff_eq] at hi
      rcases hi with (((((((rfl | rfl) | rfl) | rfl) | rfl) | rfl) | rfl) | rfl) | rfl
      all_goals rfl
    case hwant =>
      intro iF o hi ho x hf
      rcases (show iF = 0 ∨ iF = 1 ∨ iF = 2 ∨ iF = 3 ∨ iF = 4 ∨ iF = 5 ∨ iF = 6 ∨ iF = 7 ∨ iF = 8 ∨ iF = 9 ∨ iF = 10 ∨ iF = 11 ∨ iF = 12 by omega) with rfl | rfl | rfl | rfl | rfl | rfl | rfl | rfl | rfl | rfl | rfl | rfl | rfl
      · obtain rfl := Option.some.inj ho
        rfl
      · obtain rfl := Option.some.inj ho
        rfl
      · obtain rfl := Option.some.inj ho
        rfl
      · obtain rfl := Option.some.inj ho
        rfl
      · obtain rfl := Option.some.inj ho
        rfl
      · obtain rfl := Option.some.inj ho
        rfl
      · obtain rfl := Option.some.inj ho
        rfl
      · obtain rfl := Option.some.inj ho
        rfl
      · obtain rfl := Option.some.inj ho
        rfl
      · obtain rfl := Option.some.inj ho
        rfl
      · obtain rfl := Option.some.inj ho
        rfl
      · obtain rfl := Option.some.inj ho
        rfl
      · obtain rfl := Option.some.inj ho
        rfl
    case hoff =>
      intro iF o hi hw ho x
      rcases (show iF = 0 ∨ iF = 1 ∨ iF = 2 ∨ iF = 3 ∨ iF = 4 ∨ iF = 5 ∨ iF = 6 ∨ iF = 7 ∨ iF = 8 ∨ iF = 9 ∨ iF = 10 ∨ iF = 11 ∨ iF = 12 by omega) with rfl | rfl | rfl | rfl | rfl | rfl | rfl | rfl | rfl | rfl | rfl | rfl | rfl
      · exact absurd (show true = false from hw) (by simp)
      · exact absurd (show true = false from hw) (by simp)
      · exact absurd (show true = false from hw) (by simp)
      · exact absurd (show true = false from hw) (by simp)
      · exact absurd (show true = false from hw) (by simp)
      · exact absurd (show true = false from hw) (by simp)
      · exact absurd (show true = false from hw) (by simp)
      · exact absurd (show true = false from hw) (by simp)
      · exact absurd (show true = false from hw) (by simp)
      · exact absurd (show true = false from hw) (by simp)
      · exact absurd (show true = false from hw) (by simp)
      · exact absurd (show true = false from hw) (by simp)
      · exact absurd (show true = false from hw) (by simp)
    case hpure =>
      intro iF o hi hnm hww ho d x W hB hd hdn hnd hcl Kq hK
      rcases (show iF = 0 ∨ iF = 1 ∨ iF = 2 ∨ iF = 3 ∨ iF = 4 ∨ iF = 5 ∨ iF = 6 ∨ iF = 7 ∨ iF = 8 ∨ iF = 9 ∨ iF = 10 ∨ iF = 11 ∨ iF = 12 by omega) with rfl | rfl | rfl | rfl | rfl | rfl | rfl | rfl | rfl | rfl | rfl | rfl | rfl
      · obtain rfl := Option.some.inj ho
        clear ho hd hdn hnd hcl hB hnm hi
        simp only [upd, reduceIte, Nat.reduceEqDiff] at hK
        try dsimp only
        go_simp
        exact hK _ rfl
      · exact absurd (show true = false from hnm) (by simp)
      · obtain rfl := Option.some.inj ho
        clear ho hd hdn hnd hcl hB hnm hi
        simp only [upd, reduceIte, Nat.reduceEqDiff] at hK
        try dsimp only
        go_simp
        exact hK _ rfl
      · obtain rfl := Option.some.inj ho
        have hb := hB.1
        have hz := HBX.out.below hb
        have cz0 := hz.c0
        have cz1 := hz.c1
        have cz2 := hz.c2
        have cz3 := hz.c3
        have cz4 := hz.c4
        unfold slV at cz4
        clear hz
        clear ho hd hdn hnd hcl hB hnm hi
        simp only [upd, reduceIte, Nat.reduceEqDiff] at hK
        try dsimp only
        go_simp
        exact hK _ rfl
      · exact absurd (show true = false from hnm) (by simp)
      · exact absurd (show true = false from hnm) (by simp)
      · exact absurd (show true = false from hnm) (by simp)
      · exact absurd (show true = false from hnm) (by simp)
      · exact absurd (show true = false from hnm) (by simp)
      · exact absurd (show true = false from hnm) (by simp)
      · exact absurd (show true = false from hnm) (by simp)
      · exact absurd (show true = false from hnm) (by simp)
      · obtain rfl := Option.some.inj ho
        have e9 := hB.2.2.2.2.2.2.2.2.1 (hdn 9 (by kernel_rfl))
        clear ho hd hdn hnd hcl hB hnm hi
        simp only [upd, reduceIte, Nat.reduceEqDiff, e9] at hK
        try dsimp only
        go_simp
        exact hK _ rfl
    case hmem =>
      intro iF o hi hmm ho d d' x W hB hd hdn hnd hdi hdi' hdm hcl Kq hK
      rcases (show iF = 0 ∨ iF = 1 ∨ iF = 2 ∨ iF = 3 ∨ iF = 4 ∨ iF = 5 ∨ iF = 6 ∨ iF = 7 ∨ iF = 8 ∨ iF = 9 ∨ iF = 10 ∨ iF = 11 ∨ iF = 12 by omega) with rfl | rfl | rfl | rfl | rfl | rfl | rfl | rfl | rfl | rfl | rfl | rfl | rfl
      · exact absurd (show false = true from hmm) (by simp)
      · obtain rfl := Option.some.inj ho
        have e0 : x 0 = .slice (some ⟨cb, co, none⟩) (p + 1) cc := hd 0 (by kernel_rfl) (by kernel_rfl)
        have dm4 : d' 4 = d 4 := hdm 4 (by omega)
        have dm5 : d' 5 = d 5 := hdm 5 (by omega)
        have dm6 : d' 6 = d 6 := hdm 6 (by omega)
        have dm7 : d' 7 = d 7 := hdm 7 (by omega)
        have dm8 : d' 8 = d 8 := hdm 8 (by omega)
        have dm9 : d' 9 = d 9 := hdm 9 (by omega)
        have dm10 : d' 10 = d 10 := hdm 10 (by omega)
        have dm11 : d' 11 = d 11 := hdm 11 (by omega)
        have dz5 : d 5 = false := hnd 5 (by kernel_rfl)
        obtain ⟨hb, h1, h4, h5, h6, h60, h7, h8, h9, h10, h11⟩ := hB
        clear ho hd hdn hnd hcl hmm
        simp only [upd, reduceIte, Nat.reduceEqDiff, e0] at hK
        try dsimp only
        go_simp
        go_at_call 25
        refine (clone_bk W _ (CutP.all bs nx) (HEV.out.below hb) (by rw [HL.out.1]; omega)).mono ?_
        rintro r W2 ⟨v1, rfl, o1, bb⟩
        go_simp
        refine hK _ _ ?_
        try dsimp only
        rw [dm4, dm5, dm6, dm7, dm8, dm9, dm10, dm11, hdi']
        exact ⟨(bstep hb bb), fun _ _ => o1.base_le hb.size, fun a b => (by obtain ⟨g, e1, e2, e3⟩ := h4 a b; have hlt := (Array.getElem?_eq_some_iff.1 e2).1; exact ⟨g, e1, (bb.block g hlt).trans e2, fun _ e => by have := (o1.block g e).1; omega⟩), fun a b => (h5 a b).below bb, fun a b => (h6 a b).below bb, h60, h7, h8, h9, fun a b => (h10 a b).below bb, fun a => (h11 a).below bb⟩
      · exact absurd (show false = true from hmm) (by simp)
      · exact absurd (show false = true from hmm) (by simp)
      · obtain rfl := Option.some.inj ho
        have e3 : x 3 = .agg #[.int .u8 bx.kind, .int .u8 bx.cpu, .int .i64 bx.lost, .int .i64 bx.next, .slice sl.1 sl.2.1 sl.2.2] := hd 3 (by kernel_rfl) (by kernel_rfl)
        have dm1 : d' 1 = d 1 := hdm 1 (by omega)
        have dm5 : d' 5 = d 5 := hdm 5 (by omega)
        have dm6 : d' 6 = d 6 := hdm 6 (by omega)
        have dm7 : d' 7 = d 7 := hdm 7 (by omega)
        have dm8 : d' 8 = d 8 := hdm 8 (by omega)
        have dm9 : d' 9 = d 9 := hdm 9 (by omega)
        have dm10 : d' 10 = d 10 := hdm 10 (by omega)
        have dm11 : d' 11 = d 11 := hdm 11 (by omega)
        have dz5 : d 5 = false := hnd 5 (by kernel_rfl)
        obtain ⟨hb, h1, h4, h5, h6, h60, h7, h8, h9, h10, h11⟩ := hB
        clear ho hd hdn hnd hcl hmm
        simp only [upd, reduceIte, Nat.reduceEqDiff, e3] at hK
        try dsimp only
        go_simp
        have bb := bel_alloc W (.cells #[.int .u8 bx.kind, .int .u8 bx.cpu, .int .i64 bx.lost, .int .i64 bx.next, .slice sl.1 sl.2.1 sl.2.2] 24)
        refine hK _ _ ?_
        try dsimp only
        rw [dm1, dm5, dm6, dm7, dm8, dm9, dm10, dm11, hdi']
        exact ⟨(bstep hb bb), fun a b => (h1 a b).below bb, fun _ _ => ⟨W.heap.size, rfl, heap_alloc_new W _, fun a e => absurd ((h1 a dz5).block _ e).2 (by omega)⟩, fun a b => (h5 a b).below bb, fun a b => (h6 a b).below bb, h60, h7, h8, h9, fun a b => (h10 a b).below bb, fun a => (h11 a).below bb⟩
      · obtain rfl := Option.some.inj ho
        have e2 : x 2 = .int .i64 (k : Int) := hd 2 (by kernel_rfl) (by kernel_rfl)
        have dm1 : d' 1 = d 1 := hdm 1 (by omega)
        have dm4 : d' 4 = d 4 := hdm 4 (by omega)
        have dm6 : d' 6 = d 6 := hdm 6 (by omega)
        have dm7 : d' 7 = d 7 := hdm 7 (by omega)
        have dm8 : d' 8 = d 8 := hdm 8 (by omega)
        have dm9 : d' 9 = d 9 := hdm 9 (by omega)
        have dm10 : d' 10 = d 10 := hdm 10 (by omega)
        have dm11 : d' 11 = d 11 := hdm 11 (by omega)
        have dn1 : d 1 = true := hdn 1 (by kernel_rfl)
        have dn4 : d 4 = true := hdn 4 (by kernel_rfl)
        have dz6 : d 6 = false := hnd 6 (by kernel_rfl)
        have dz11 : d 11 = false := hnd 11 (by kernel_rfl)
        obtain ⟨hb, h1, h4, h5, h6, h60, h7, h8, h9, h10, h11⟩ := hB
        have o1 := h1 dn1 hdi
        obtain ⟨g, e4, q4, n4⟩ := h4 dn4 hdi
        have n4 := n4 dn1
        obtain ⟨g1, cp1, e1, hg1, hg2⟩ := o1.form (by rw [HL.out.1]; omega)
        rw [HL.out.1] at e1
        rw [e1] at o1 n4
        have hne : ¬ g1 = g := fun h => n4 (by rw [h]; rfl)
        clear ho hd hdn hnd hcl hmm
        simp only [upd, reduceIte, Nat.reduceEqDiff, e2, e1, e4] at hK
        try dsimp only
        have hci : (0 : Int) ≤ (k : Int) := by omega
        go_simp
        go_at_call 24
        refine (insert_bk W g1 (p + 1) cp1 k wc.heap.size (CutP.all bs nx) (sl, bx) g q4 hne o1 HL.out.1 HKP.out (by omega) (by omega) hb.size).mono ?_
        rintro r W2 ⟨v5, rfl, q5, md⟩
        have hb2 := hb.trans (md.below (B := wc.heap.size) (fun k hk e => by omega) hb.size)
        go_simp
        refine hK _ _ ?_
        try dsimp only
        rw [dm1, dm4, dm6, dm7, dm8, dm9, dm10, dm11, hdi']
        rw [dn1, dn4, dz6, dz11]
        exact ⟨hb2, fun _ k => (by cases k), fun _ k => (by cases k), fun _ _ => q5, fun k => (by cases k), fun k => (by cases k), h7, h8, h9, fun a _ => (h10 a dz11).modO o1 (by decide) md, fun k => (by cases k)⟩
      · obtain rfl := Option.some.inj ho
        have dm1 : d' 1 = d 1 := hdm 1 (by omega)
        have dm4 : d' 4 = d 4 := hdm 4 (by omega)
        have dm5 : d' 5 = d 5 := hdm 5 (by omega)
        have dm7 : d' 7 = d 7 := hdm 7 (by omega)
        have dm8 : d' 8 = d 8 := hdm 8 (by omega)
        have dm9 : d' 9 = d 9 := hdm 9 (by omega)
        have dm10 : d' 10 = d 10 := hdm 10 (by omega)
        have dm11 : d' 11 = d 11 := hdm 11 (by omega)
        have dn5 : d 5 = true := hdn 5 (by kernel_rfl)
        have dz11 : d 11 = false := hnd 11 (by kernel_rfl)
        have dz7 : d 7 = false := hnd 7 (by kernel_rfl)
        have dz8 : d 8 = false := notyet (i := 8) hcl (hnd 7 (by kernel_rfl)) (by kernel_rfl)
        obtain ⟨hb, h1, h4, h5, h6, h60, h7, h8, h9, h10, h11⟩ := hB
        have q5 := h5 dn5 hdi
        clear ho hd hdn hnd hcl hmm
        simp only [upd, reduceIte, Nat.reduceEqDiff] at hK
        try dsimp only
        go_simp
        go_at_call 23
        refine (blocks_bad W (x 5) (CutP.all bs nx) (sl, bx) k q5 (fun y hy => (HES.out y hy).below hb) (HBE.out.below hb) HGD.out HBAD.out (by rw [HL.out.1]; omega) (HU.out.below hb)).mono ?_
        rintro r W2 ⟨A1, n1, c1, A2, n2, c2, A3, n3, c3, rfl, o1, o2, o3, bb⟩
        go_simp
        refine hK _ _ ?_
        try dsimp only
        rw [dm1, dm4, dm5, dm7, dm8, dm9, dm10, dm11, hdi']
        rw [dn5, dz11]
        exact ⟨(bstep hb bb), fun _ k => (by cases k), fun _ k => (by cases k), fun _ k => (by cases k), fun _ _ => ⟨A1, n1, c1, A2, n2, c2, A3, n3, c3, rfl, o1.base_le hb.size, o2.base_le hb.size, o3.base_le hb.size⟩, fun _ => ⟨_, rfl⟩, fun k => absurd k (by rw [dz7]; simp), fun k => absurd k (by rw [dz8]; simp), h9, fun a _ => (h10 a dz11).below bb, fun k => (by cases k)⟩
      · obtain rfl := Option.some.inj ho
        have dm1 : d' 1 = d 1 := hdm 1 (by omega)
        have dm4 : d' 4 = d 4 := hdm 4 (by omega)
        have dm5 : d' 5 = d 5 := hdm 5 (by omega)
        have dm6 : d' 6 = d 6 := hdm 6 (by omega)
        have dm8 : d' 8 = d 8 := hdm 8 (by omega)
        have dm9 : d' 9 = d 9 := hdm 9 (by omega)
        have dm10 : d' 10 = d 10 := hdm 10 (by omega)
        have dm11 : d' 11 = d 11 := hdm 11 (by omega)
        have dn6 : d 6 = true := hdn 6 (by kernel_rfl)
        obtain ⟨hb, h1, h4, h5, h6, h60, h7, h8, h9, h10, h11⟩ := hB
        clear ho hd hdn hnd hcl hmm
        simp only [upd, reduceIte, Nat.reduceEqDiff] at hK
        try dsimp only
        go_simp
        refine hK _ _ ?_
        try dsimp only
        rw [dm1, dm4, dm5, dm6, dm8, dm9, dm10, dm11, hdi']
        exact ⟨hb, h1, h4, h5, h6, h60, fun _ => rfl, h8, h9, h10, h11⟩
      · obtain rfl := Option.some.inj ho
        have dm1 : d' 1 = d 1 := hdm 1 (by omega)
        have dm4 : d' 4 = d 4 := hdm 4 (by omega)
        have dm5 : d' 5 = d 5 := hdm 5 (by omega)
        have dm6 : d' 6 = d 6 := hdm 6 (by omega)
        have dm7 : d' 7 = d 7 := hdm 7 (by omega)
        have dm9 : d' 9 = d 9 := hdm 9 (by omega)
        have dm10 : d' 10 = d 10 := hdm 10 (by omega)
        have dm11 : d' 11 = d 11 := hdm 11 (by omega)
        have dn7 : d 7 = true := hdn 7 (by kernel_rfl)
        have dn6 : d 6 = true := hcl 7 dn7 6 (by kernel_rfl)
        obtain ⟨hb, h1, h4, h5, h6, h60, h7, h8, h9, h10, h11⟩ := hB
        obtain ⟨a5, e5⟩ := h60 dn6
        have e6 := (h7 dn7).trans e5
        have E5 := Lib.hid e5
        clear e5 h7
        clear ho hd hdn hnd hcl hmm
        simp only [upd, reduceIte, Nat.reduceEqDiff, e6] at hK
        try dsimp only
        go_simp
        refine hK _ _ ?_
        try dsimp only
        rw [dm1, dm4, dm5, dm6, dm7, dm9, dm10, dm11, hdi']
        exact ⟨hb, h1, h4, h5, h6, h60, fun _ => E5.out.symm, fun _ => ⟨_, E5.out⟩, h9, h10, h11⟩
      · obtain rfl := Option.some.inj ho
        have dm1 : d' 1 = d 1 := hdm 1 (by omega)
        have dm4 : d' 4 = d 4 := hdm 4 (by omega)
        have dm5 : d' 5 = d 5 := hdm 5 (by omega)
        have dm6 : d' 6 = d 6 := hdm 6 (by omega)
        have dm7 : d' 7 = d 7 := hdm 7 (by omega)
        have dm8 : d' 8 = d 8 := hdm 8 (by omega)
        have dm10 : d' 10 = d 10 := hdm 10 (by omega)
        have dm11 : d' 11 = d 11 := hdm 11 (by omega)
        have dn7 : d 7 = true := hdn 7 (by kernel_rfl)
        have dn6 : d 6 = true := hcl 7 dn7 6 (by kernel_rfl)
        obtain ⟨hb, h1, h4, h5, h6, h60, h7, h8, h9, h10, h11⟩ := hB
        obtain ⟨a5, e5⟩ := h60 dn6
        have e6 := (h7 dn7).trans e5
        have E5 := Lib.hid e5
        clear e5 h7
        clear ho hd hdn hnd hcl hmm
        simp only [upd, reduceIte, Nat.reduceEqDiff, e6] at hK
        try dsimp only
        go_simp
        refine hK _ _ ?_
        try dsimp only
        rw [dm1, dm4, dm5, dm6, dm7, dm8, dm10, dm11, hdi']
        exact ⟨hb, h1, h4, h5, h6, h60, fun _ => E5.out.symm, h8, fun _ => rfl, h10, h11⟩
      · obtain rfl := Option.some.inj ho
        have dm1 : d' 1 = d 1 := hdm 1 (by omega)
        have dm4 : d' 4 = d 4 := hdm 4 (by omega)
        have dm5 : d' 5 = d 5 := hdm 5 (by omega)
        have dm6 : d' 6 = d 6 := hdm 6 (by omega)
        have dm7 : d' 7 = d 7 := hdm 7 (by omega)
        have dm8 : d' 8 = d 8 := hdm 8 (by omega)
        have dm9 : d' 9 = d 9 := hdm 9 (by omega)
        have dm11 : d' 11 = d 11 := hdm 11 (by omega)
        have dz11 : d 11 = false := hnd 11 (by kernel_rfl)
        obtain ⟨hb, h1, h4, h5, h6, h60, h7, h8, h9, h10, h11⟩ := hB
        clear ho hd hdn hnd hcl hmm
        simp only [upd, reduceIte, Nat.reduceEqDiff] at hK
        try dsimp only
        go_simp
        have bb := bel_alloc W (.cells #[.slice none 0 0, .slice none 0 0, .slice none 0 0, .int .i64 0, .int .i64 0, .bool false] 39)
        refine hK _ _ ?_
        try dsimp only
        rw [dm1, dm4, dm5, dm6, dm7, dm8, dm9, dm11, hdi']
        exact ⟨(bstep hb bb), fun a b => (h1 a b).below bb, fun a b => (by obtain ⟨g, e1, e2, e3⟩ := h4 a b; exact ⟨g, e1, (bb.block g (Array.getElem?_eq_some_iff.1 e2).1).trans e2, e3⟩), fun a b => (h5 a b).below bb, fun a b => (h6 a b).below bb, h60, h7, h8, h9, fun _ _ => ⟨W.heap.size, rfl, hb.size, MgBox.new W _ _ _ _ _ _⟩, fun k => absurd k (by rw [dz11]; simp)⟩
      · obtain rfl := Option.some.inj ho
        have dm1 : d' 1 = d 1 := hdm 1 (by omega)
        have dm4 : d' 4 = d 4 := hdm 4 (by omega)
        have dm5 : d' 5 = d 5 := hdm 5 (by omega)
        have dm6 : d' 6 = d 6 := hdm 6 (by omega)
        have dm7 : d' 7 = d 7 := hdm 7 (by omega)
        have dm8 : d' 8 = d 8 := hdm 8 (by omega)
        have dm9 : d' 9 = d 9 := hdm 9 (by omega)
        have dm10 : d' 10 = d 10 := hdm 10 (by omega)
        have dn1 : d 1 = true := hdn 1 (by kernel_rfl)
        have dn4 : d 4 = true := hdn 4 (by kernel_rfl)
        have dn5 : d 5 = true := hdn 5 (by kernel_rfl)
        have dn6 : d 6 = true := hdn 6 (by kernel_rfl)
        have dn8 : d 8 = true := hdn 8 (by kernel_rfl)
        have dn10 : d 10 = true := hdn 10 (by kernel_rfl)
        obtain ⟨hb, h1, h4, h5, h6, h60, h7, h8, h9, h10, h11⟩ := hB
        obtain ⟨A1, n1, c1, A2, n2, c2, A3, n3, c3, e5, o1, o2, o3⟩ := h6 dn6 hdi
        obtain ⟨e7, q7⟩ := h8 dn8
        rw [e5] at q7
        simp only [Value.tuple.injEq, Array.mk.injEq, List.cons.injEq, and_true] at q7
        have e7x := q7.1.symm
        obtain ⟨Y, e9, hy, hbx⟩ := h10 dn10 hdi
        have hst := mg_store (lost := 0) (next := 0) (opn := false) hbx hy hb o1 o2 o3
        unfold mgA at e7x
        have E5 := Lib.hid e5
        clear e5 q7
        clear ho hd hdn hnd hcl hmm
        simp only [upd, reduceIte, Nat.reduceEqDiff, e7x, e9] at hK
        try dsimp only
        have f0 := hbx.frz 0
        have f1 := hbx.frz 1
        have f2 := hbx.frz 2
        have f3 := hbx.frz 3
        have f4 := hbx.frz 4
        have f5 := hbx.frz 5
        have g0 := hbx.c0
        have g1 := hbx.c1
        have g2 := hbx.c2
        have g3 := hbx.c3
        have g4 := hbx.c4
        have g5 := hbx.c5
        go_simp
        refine hK undef _ ?_
        try dsimp only
        rw [dm1, dm4, dm5, dm6, dm7, dm8, dm9, dm10, hdi']
        rw [dn1, dn4, dn5, dn6, dn10]
        exact ⟨hst.2, fun _ k => (by cases k), fun _ k => (by cases k), fun _ k => absurd k (by simp), fun _ k => (by cases k), fun _ => ⟨_, E5.out⟩, h7, fun _ => ⟨_, E5.out⟩, h9, fun _ k => (by cases k), fun _ => ⟨Y, A1, n1, c1, A2, n2, c2, A3, n3, c3, rfl, hst.1⟩⟩
      · exact absurd (show false = true from hmm) (by simp)
    case hend =>
      intro d x W hall hB hd
      have d10 := hall 10 (by omega)
      have d11 := hall 11 (by omega)
      obtain ⟨hb, h1, h4, h5, h6, h60, h7, h8, h9, h10, h11⟩ := hB
      have hfb := h11 d11
      have ek := hd 12 (by omega) rfl
      clear hd hall h1 h4 h5 h6 h60 h7 h8 h9 h10 h11 d10 d11
      try dsimp only
      rw [ek]
      clear ek
      generalize x 0 = y0
      generalize x 1 = y1
      generalize x 2 = y2
      generalize x 3 = y3
      generalize x 4 = y4
      generalize x 5 = y5
      generalize x 6 = y6
      generalize x 7 = y7
      generalize x 8 = y8
      generalize x 9 = y9
      generalize x 10 = y10 at hfb ⊢
      go_wp2
      go_meet
      exact ⟨_, rfl, rfl, hfb, hb⟩
  case rest =>
    obtain ⟨w9, rfl, rfl, ⟨Y, E1, m1, d1, E2, m2, d2, E3, m3, d3, rfl, hy⟩, b9⟩ := hcut
    have HY := Lib.hid hy
    have HS := Lib.hid (same_ok w9 (.slice E1 m1 d1) (.slice E2 m2 d2) (.slice E3 m3 d3) (.slice none 0 0) (.slice none 0 0) (.slice none 0 0) [] [] [] 0 0 false hy.ee hy.et hy.eg (EV.nil _ _) (EV.nil _ _) (EV.nil _ _) (by simp) (by simp) (by simp))
    have HB9 := Lib.hid b9
    unfold mgA at HS
    have y0 := hy.box.c0
    have y1 := hy.box.c1
    have y2 := hy.box.c2
    have y3 := hy.box.c3
    have y4 := hy.box.c4
    have y5 := hy.box.c5
    clear hy b9
    refine hK0 _ _ ?_
    apply wp_seq_k
    intro K1 hK1
    go_cut [] (fun wz => ∃ wq, wq = wz ∧ Below w9.heap.size w9 wq)
    case first =>
      go_wp2_with fail
      refine HS.out.mono ?_
      rintro r w10 ⟨rfl, b10⟩
      have HB10 := Lib.hid b10
      clear y0 y1 y2 y3 y4 y5 b10
      go_wp2
      go_meet
      exact ⟨_, rfl, HB10.out⟩
    case rest =>
      obtain ⟨wa, rfl, b10⟩ := hcut
      have hbb := bstep HB9.out b10
      exact (‹∀ (a : Act) (w : World), Code.wp _ _ _ a w → _› : ∀ (a : Act) (w : World), _ → _) _ _ (wrong_t19 w wa At nt ct cb co p cc tr bs nx n HT.out HL.out HC.out (HEV.out.below hbb) (fun y hy => (HES.out y hy).below hbb) (HU.out.below hbb) (HVT.out.below hbb) HN.out (bstep HB.out hbb))
end Go.Proofs.YtalophngappkhaaGreatDoor
