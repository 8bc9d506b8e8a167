/- MergeSmall: the closure that makes a block of events | MergeSmall: the event that is made wrong, ahead of the tests at its end | MergeSmall: the lists of gaps | MergeSmall: the loop that asks First and After of literal merges. -/
import Derived.Test.YtalophngappkhaaGreatDoorV23
import Derived.Test.YtalophngappkhaaGreatDoorV36
import Derived.Test.YtalophngappkhaaGreatDoorV32
set_option linter.unusedVariables false
set_option linter.unusedSimpArgs false
set_option linter.unusedSectionVars false
namespace Go.Proofs.YtalophngappkhaaGreatDoor
open Go Go.RowKit Go.Shelf
attribute [local go_sem] Oper.semAt_some
theorem load_bkb {w : World} {Y : Nat} {b : Bck} {v : Value} (h : BkBox w Y b v) : (loadVar 24 ⟨Y, 0, none⟩).run Tryz.prog w = .ok (blkA b v) w := by
 have h1 : (isAgg 24).run Tryz.prog w = .ok true w := by kernel_rfl
 have h2 : (Go.sizeOf 24).run Tryz.prog w = .ok 5 w := by kernel_rfl
 have q0 := h.c0
 have q1 := h.c1
 have q2 := h.c2
 have q3 := h.c3
 have q4 := h.c4
 clear h
 unfold loadVar
 simp [Sem.run_bind, h1, h2, Result.andThen, loadCells, loadCellsFrom, go_sem, q0, q1, q2, q3, q4, blkA]
theorem evb_ok (w : World) (cp lost : Int) (A : Option Addr) (n c : Nat) (es : List Ev) :
  Calls Tryz.prog 13 #[.int .u8 cp, .int .i64 lost, .slice A n c] w fun e w' => e = .returned (blkA ⟨1, cp, lost, 0, es⟩ (.slice A n c)) ∧ Below w.heap.size w w' := by
 go_enter Tryz.func13, Tryz.ntmps13
 go_wp2
 exact bodyPost_ret (v := blkA ⟨1, cp, lost, 0, es⟩ (.slice A n c)) (results_cell1 rfl _ _ _ rfl (load_bkb (b := ⟨1, cp, lost, 0, es⟩) (BkBox.new w ⟨1, cp, lost, 0, es⟩ (.slice A n c)))) rfl ⟨rfl, bel_alloc _ _⟩
end Go.Proofs.YtalophngappkhaaGreatDoor
namespace Go.Proofs.YtalophngappkhaaGreatDoor
open Go Go.RowKit Go.Shelf
attribute [local go_sem] Oper.semAt_some
theorem evp_store {W : World} {X k : Nat} {e e' : Ev} {v : Value} (h : EvP W X e) (hk : (encE e')[k]? = some v) (ho : ∀ j, j ≠ k → (encE e')[j]? = (encE e)[j]?) : EvP (W.setCell ⟨X, k, none⟩ v) X e' := by
 intro j u hu
 by_cases hj : j = k
 ·subst hj
  rw [hk] at hu
  cases hu
  have hlt : j < (encE e).length := (List.getElem?_eq_some_iff.1 hk).1
  exact World.cell?_setCell_same W _ _ (h j _ (List.getElem?_eq_getElem hlt))
 ·rw [World.cell?_setCell_other W _ _ _ (by intro q; cases q; exact hj rfl)]
  exact h j u (by rw [← ho j hj]; exact hu)
theorem encE_got (e : Ev) (g : Int) : ∀ j, j ≠ 10 → (encE { e with got := g })[j]? = (encE e)[j]? := by
 intro j hj
 by_cases h : j < 11
 ·rcases (show j = 0 ∨ j = 1 ∨ j = 2 ∨ j = 3 ∨ j = 4 ∨ j = 5 ∨ j = 6 ∨ j = 7 ∨ j = 8 ∨ j = 9 by omega) with rfl | rfl | rfl | rfl | rfl | rfl | rfl | rfl | rfl | rfl <;> rfl
 ·rw [List.getElem?_eq_none (by show 11 ≤ j; omega), List.getElem?_eq_none (by show 11 ≤ j; omega)]
theorem encE_time (e : Ev) (t : Int) : ∀ j, j ≠ 1 → (encE { e with time := t })[j]? = (encE e)[j]? := by
 intro j hj
 by_cases h : j < 11
 ·rcases (show j = 0 ∨ j = 2 ∨ j = 3 ∨ j = 4 ∨ j = 5 ∨ j = 6 ∨ j = 7 ∨ j = 8 ∨ j = 9 ∨ j = 10 by omega) with rfl | rfl | rfl | rfl | rfl | rfl | rfl | rfl | rfl | rfl <;> rfl
 ·rw [List.getElem?_eq_none (by show 11 ≤ j; omega), List.getElem?_eq_none (by show 11 ≤ j; omega)]
theorem evp_row {W : World} {X : Nat} {e : Ev} (h : W.heap[X]? = some (.cells (encE e).toArray 28 (0, 0))) : EvP W X e ∧ ∀ k, W.frozen? ⟨X, k, none⟩ = false :=
 ⟨fun j u hu => (cell_of_row W X j _ _ (0, 0) h).trans (by simpa using hu), fun k => frozen_of_row W X k _ _ h⟩
set_option maxRecDepth 100000 in
set_option maxHeartbeats 3200000 in
theorem small_t33 (w wA : World) {u0 u1 u2 u3 u4 u5 u6 u7 u8 u9 u10 u11 u12 u13 u14 u15 u16 u17 u18 u19 u20 u21 u22 u23 u24 u25 u26 u27 u28 u29 u30 u31 u32 u33 u34 u35 u36 u37 u38 u39 u40 u41 u42 u43 u44 u45 u46 u47 u48 u49 u50 u51 u52 u53 u54 u55 u56 u57 u58 u59 u60 u61 u62 u63 u64 u65 u66 u67 u68 u69 u70 u71 u72 u73 u74 u75 u76 u77 u78 u79 u80 u81 u82 u83 u84 u85 u86 u87 u88 u89 u90 u91 u92 u93 u94 u95 u96 u97 u98 u99 u100 u101 u102 u103 u104 u105 u106 u107 u108 u109 u110 u111 u112 u113 u114 u115 u116 u117 u118 u119 u120 u121 u122 u123 u124 u125 u126 u127 u128 u129 u130 u131 u132 u133 u134 u135 u136 u137 u138 u139 u140 u141 u142 u143 u144 u145 u146 u147 u148 u149 u150 u151 u152 u153 u154 u155 u156 u157 u158 u159 u160 u161 u162 u163 u164 u165 u166 u167 u168 u169 u170 u171 u172 u173 u174 : Value} (hb : Below w.heap.size w wA) (hU : LaidAt w) :
  Code.wp Tryz.prog (tailR Tryz.f3 33) (bodyPost Tryz.prog Tryz.f3 fun r w' => r = .returned (.bool true) ∧ Below w.heap.size w w')
   ⟨#[u0, u1, u2, u3, u4, u5, u6, u7, u8, u9, u10, u11, u12, u13, u14, u15, u16, u17, u18, u19, u20, u21, u22, u23, u24, u25, u26, u27, u28, u29, u30, u31, u32, u33, u34, u35, u36, u37, u38, u39, u40, u41, u42, u43, u44, u45, u46, u47, u48, u49, u50, u51, u52, u53, u54, u55, u56, u57, u58, u59, u60, u61, u62, u63, u64, u65, u66, u67, u68, u69, u70, u71, u72, u73, u74, u75, u76, u77, u78, u79, u80, u81, u82, u83, u84, u85, u86, u87, u88, u89, u90, u91, u92, u93, u94, u95, u96, u97, u98, u99, u100, u101, u102, u103, u104, u105, u106, u107, u108, u109, u110, u111, u112, u113, u114, u115, u116, u117, u118, u119, u120, u121, u122, u123, u124, u125, u126, u127, u128, u129, u130, u131, u132, u133, u134, u135, u136, u137, u138, u139, u140, u141, u142, u143, u144, u145, u146, u147, u148, u149, u150, u151, u152, u153, u154, u155, u156, u157, u158, u159, u160, u161, u162, u163, u164, u165, u166, u167, u168, u169, u170, u171, u172, u173, u174], []⟩ wA := by
 conv => arg 2; whnf
 conv => arg 4; dsimp only
 have HB := Lib.hid hb
 have HU := Lib.hid hU
 clear hb hU
 go_wp2_with fail
 refine (pick_ok wA 7 0).mono ?_
 rintro r w1 ⟨rfl, b1⟩
 unfold evA pickE
 dsimp only
 have HB1 := Lib.hid (bstep HB.out b1)
 clear b1 HB
 go_upto_region 34 with fail
 have HE := Lib.hid (evp_row (e := pickE 7 0) (World.alloc_heap_new w1 _))
 have HB2 := Lib.hid (bstep HB1.out (bel_alloc w1 (.cells #[.int .i64 7, .int .i64 0, .int .u8 0, .int .u8 6, .int .i64 0, .int .i64 0, .int .i64 0, .int .i64 0, .int .i64 0, .int .u64 0, .int .i64 0] 28)))
 have HX := Lib.hid HB1.out.size
 unfold pickE encE at HE
 dsimp only [List.toArray] at HE
 generalize w1.alloc (.cells #[.int .i64 7, .int .i64 0, .int .u8 0, .int .u8 6, .int .i64 0, .int .i64 0, .int .i64 0, .int .i64 0, .int .i64 0, .int .u64 0, .int .i64 0] 28) = W at HE HB2 ⊢
 generalize w1.heap.size = X at HE HX ⊢
 have c10 := HE.out.1.c10
 have f10 := HE.out.2 10
 go_cut [] (fun wz => ∃ wq, wq = wz ∧ Below w.heap.size w wq ∧ EvP wq X badP)
 case first =>
  go_wp2
  go_meet
  exact ⟨_, rfl, HB2.out.setCell HX.out _, evp_store (e := pickE 7 0) (e' := badP) HE.out.1 rfl (encE_got (pickE 7 0) (-1))⟩
 case rest =>
  obtain ⟨wq, rfl, hb, he⟩ := hcut
  refine (‹∀ (a : Act) (w : World), Code.wp _ _ _ a w → _› : ∀ (a : Act) (w : World), _ → _) _ _ (small_r35 w _ X hb HU.out ⟨he.c0, he.c1, he.c2, he.c3, he.c4, he.c5, he.c6, he.c7, he.c8, he.c9, he.c10⟩)
end Go.Proofs.YtalophngappkhaaGreatDoor
namespace Go.Proofs.YtalophngappkhaaGreatDoor
open Go Go.RowKit Go.Shelf
attribute [local go_sem] Oper.semAt_some
/-- The four lists of gaps. -/
structure GapW (W : World) (G : Nat) : Prop where
 at_ : ∀ i, i < 4 → ∃ A n c g, W.cell? ⟨G, i, none⟩ = some (.slice A n c) ∧ EV encP 2 W (.slice A n c) g ∧ g.length ≤ 2
theorem GapW.below {W W' : World} {G : Nat} (h : GapW W G) (hb : Below W.heap.size W W') : GapW W' G := ⟨fun i hi => by
 obtain ⟨A, n, c, g, h1, h2, h3⟩ := h.at_ i hi
 exact ⟨A, n, c, g, below_cell hb h1, h2.below hb, h3⟩⟩
theorem gaps_new (w : World) :
  let w1 := w.alloc (.cells #[.int .i64 2, .int .i64 6] 34)
  let w2 := w1.alloc (.cells #[.int .i64 9, .int .i64 1, .int .i64 281474976710656, .int .i64 1] 34)
  let w3 := w2.alloc (.cells #[.int .i64 3, .int .i64 0] 34)
  let w4 := w3.alloc (.cells #[.slice none 0 0, .slice (some ⟨w.heap.size, 0, none⟩) 1 1, .slice (some ⟨w.heap.size + 1, 0, none⟩) 2 2, .slice (some ⟨w.heap.size + 1 + 1, 0, none⟩) 1 1] 35)
  GapW w4 (w.heap.size + 1 + 1 + 1) ∧ Below w.heap.size w w4 := by
 intro w1 w2 w3 w4
 have b1 : Below w.heap.size w w1 := bel_alloc w _
 have b2 : Below w1.heap.size w1 w2 := bel_alloc w1 _
 have b3 : Below w2.heap.size w2 w3 := bel_alloc w2 _
 have b4 : Below w3.heap.size w3 w4 := bel_alloc w3 _
 have e1 : EV encP 2 w1 (.slice (some ⟨w.heap.size, 0, none⟩) 1 1) [(2, 6)] := EV.newL encP_len rfl rfl (Nat.le_refl _)
 have e2 : EV encP 2 w2 (.slice (some ⟨w1.heap.size, 0, none⟩) 2 2) [(9, 1), (281474976710656, 1)] := EV.newL encP_len rfl rfl (Nat.le_refl _)
 have e3 : EV encP 2 w3 (.slice (some ⟨w2.heap.size, 0, none⟩) 1 1) [(3, 0)] := EV.newL encP_len rfl rfl (Nat.le_refl _)
 have s1 : w1.heap.size = w.heap.size + 1 := by simp [w1]
 have s2 : w2.heap.size = w.heap.size + 1 + 1 := by simp [w2, s1]
 have s3 : w3.heap.size = w.heap.size + 1 + 1 + 1 := by simp [w3, s2]
 rw [s1] at e2
 rw [s2] at e3
 have hc : ∀ i u, (#[Value.slice none 0 0, .slice (some ⟨w.heap.size, 0, none⟩) 1 1, .slice (some ⟨w.heap.size + 1, 0, none⟩) 2 2, .slice (some ⟨w.heap.size + 1 + 1, 0, none⟩) 1 1])[i]? = some u → w4.cell? ⟨w.heap.size + 1 + 1 + 1, i, none⟩ = some u := fun i u hu => by
  rw [← s3]
  exact (cell_of_row w4 _ i _ _ (0, 0) (heap_alloc_new w3 _)).trans hu
 refine ⟨⟨fun i hi => ?_⟩, bstep (bstep (bstep b1 b2) b3) b4⟩
 have hi' : i = 0 ∨ i = 1 ∨ i = 2 ∨ i = 3 := by omega
 rcases hi' with rfl | rfl | rfl | rfl
 ·exact ⟨_, _, _, [], hc 0 _ rfl, (OV.nil (e := 0) w4 0).ev encP_len, Nat.zero_le _⟩
 ·exact ⟨_, _, _, _, hc 1 _ rfl, ((e1.below b2).below b3).below b4, by simp⟩
 ·exact ⟨_, _, _, _, hc 2 _ rfl, (e2.below b3).below b4, by simp⟩
 ·exact ⟨_, _, _, _, hc 3 _ rfl, e3.below b4, by simp⟩
end Go.Proofs.YtalophngappkhaaGreatDoor
namespace Go.Proofs.YtalophngappkhaaGreatDoor
open Go Go.RowKit Go.Shelf
attribute [local go_sem] Oper.semAt_some
set_option maxRecDepth 100000 in
set_option maxHeartbeats 3200000 in
theorem small_t19 (w wA : World) {u0 u1 u2 u3 u4 u5 u6 u7 u8 u9 u10 u11 u12 u13 u14 u15 u16 u17 u18 u19 u20 u21 u22 u23 u24 u25 u26 u27 u28 u29 u30 u31 u32 u33 u34 u35 u36 u37 u38 u39 u40 u41 u42 u43 u44 u45 u46 u47 u48 u49 u50 u51 u52 u53 u54 u55 u56 u57 u58 u59 u60 u61 u62 u63 u64 u65 u66 u67 u68 u69 u70 u71 u72 u73 u74 u75 u76 u77 u78 u79 u80 u81 u82 u83 u84 u85 u86 u87 u88 u89 u90 u91 u92 u93 u94 u95 u96 u97 u98 u99 u100 u101 u102 u103 u104 u105 u106 u107 u108 u109 u110 u111 u112 u113 u114 u115 u116 u117 u118 u119 u120 u121 u122 u123 u124 u125 u126 u127 u128 u129 u130 u131 u132 u133 u134 u135 u136 u137 u138 u139 u140 u141 u142 u143 u144 u145 u146 u147 u148 u149 u150 u151 u152 u153 u154 u155 u156 u157 u158 u159 u160 u161 u162 u163 u164 u165 u166 u167 u168 u169 u170 u171 u172 u173 u174 : Value} (hb : Below w.heap.size w wA) (hU : LaidAt w) :
  Code.wp Tryz.prog (tailR Tryz.f3 19) (bodyPost Tryz.prog Tryz.f3 fun r w' => r = .returned (.bool true) ∧ Below w.heap.size w w')
   ⟨#[u0, u1, u2, u3, u4, u5, u6, u7, u8, u9, u10, u11, u12, u13, u14, u15, u16, u17, u18, u19, u20, u21, u22, u23, u24, u25, u26, u27, u28, u29, u30, u31, u32, u33, u34, u35, u36, u37, u38, u39, u40, u41, u42, u43, u44, u45, u46, u47, u48, u49, u50, u51, u52, u53, u54, u55, u56, u57, u58, u59, u60, u61, u62, u63, u64, u65, u66, u67, u68, u69, u70, u71, u72, u73, u74, u75, u76, u77, u78, u79, u80, u81, u82, u83, u84, u85, u86, u87, u88, u89, u90, u91, u92, u93, u94, u95, u96, u97, u98, u99, u100, u101, u102, u103, u104, u105, u106, u107, u108, u109, u110, u111, u112, u113, u114, u115, u116, u117, u118, u119, u120, u121, u122, u123, u124, u125, u126, u127, u128, u129, u130, u131, u132, u133, u134, u135, u136, u137, u138, u139, u140, u141, u142, u143, u144, u145, u146, u147, u148, u149, u150, u151, u152, u153, u154, u155, u156, u157, u158, u159, u160, u161, u162, u163, u164, u165, u166, u167, u168, u169, u170, u171, u172, u173, u174], []⟩ wA := by
 conv => arg 2; whnf
 conv => arg 4; dsimp only
 have HB := Lib.hid hb
 have HU := Lib.hid hU
 clear hb hU
 go_upto_block 6 with fail
 have HZ0 := Lib.hid (EV.newL (w := wA) (e := 3) (xs := [-9223372036854775808, 0, 1, 2, 8, 9, 281474976710656, 281474976710657, 281474976710658, (9223372036854775807 : Int)]) (enc := encI) (n := 10) (c := 10) (cs := #[.int .i64 (-9223372036854775808), .int .i64 0, .int .i64 1, .int .i64 2, .int .i64 8, .int .i64 9, .int .i64 281474976710656, .int .i64 281474976710657, .int .i64 281474976710658, .int .i64 9223372036854775807]) encI_len rfl rfl (Nat.le_refl _))
 have HB0 := Lib.hid (bstep HB.out (bel_alloc wA (.cells #[.int .i64 (-9223372036854775808), .int .i64 0, .int .i64 1, .int .i64 2, .int .i64 8, .int .i64 9, .int .i64 281474976710656, .int .i64 281474976710657, .int .i64 281474976710658, .int .i64 9223372036854775807] 3)))
 have HL0 := Lib.hid (show ([-9223372036854775808, 0, 1, 2, 8, 9, 281474976710656, 281474976710657, 281474976710658, (9223372036854775807 : Int)]).length = 10 from rfl)
 generalize [-9223372036854775808, 0, 1, 2, 8, 9, 281474976710656, 281474976710657, 281474976710658, (9223372036854775807 : Int)] = zs at HZ0 HL0
 generalize wA.alloc (.cells #[.int .i64 (-9223372036854775808), .int .i64 0, .int .i64 1, .int .i64 2, .int .i64 8, .int .i64 9, .int .i64 281474976710656, .int .i64 281474976710657, .int .i64 281474976710658, .int .i64 9223372036854775807] 3) = wb at HZ0 HB0 ⊢
 generalize wA.heap.size = Z0 at HZ0 ⊢
 clear HB
 go_cut [] (fun wz => ∃ wq, wq = wz ∧ Below w.heap.size w wq)
 case first =>
  go_wp2
  go_loopg [86] 10 (fun k i wr => ∃ j : Nat, j + k = 10 ∧ i = .int .i64 j ∧ Below wb.heap.size wb wr)
  case atStart => exact ⟨0, by omega, rfl, Below.refl _ _⟩
  case round =>
   obtain ⟨j, hj, rfl, hb⟩ := hrel
   have HJ := Lib.hid hj
   have HBR := Lib.hid hb
   clear hj hb
   by_cases hlt : j < 10
   ·obtain ⟨z, hz⟩ : ∃ z, zs[j]? = some z := ⟨_, List.getElem?_eq_getElem (by rw [HL0.out]; exact hlt)⟩
    have hcz := ((HZ0.out.below HBR.out).row3 (by rw [HL0.out]; omega)).i1x hz
    rw [Nat.zero_add] at hcz
    go_upto_block 7 with fail
    generalize decide ((j : Int) < 10) = bj
    go_cut [] (fun wz => ∃ wq, wq = wz ∧ Below wb.heap.size wb wq)
    case first =>
     go_upto_block 8 with fail
     have HZ1 := Lib.hid (EV.newL (w := wr) (e := 3) (xs := [-1, 0, 1, 8, 281474976710657, 281474976710658, (9223372036854775807 : Int)]) (enc := encI) (n := 7) (c := 7) (cs := #[.int .i64 (-1), .int .i64 0, .int .i64 1, .int .i64 8, .int .i64 281474976710657, .int .i64 281474976710658, .int .i64 9223372036854775807]) encI_len rfl rfl (Nat.le_refl _))
     have HB1 := Lib.hid (bstep HBR.out (bel_alloc wr (.cells #[.int .i64 (-1), .int .i64 0, .int .i64 1, .int .i64 8, .int .i64 281474976710657, .int .i64 281474976710658, .int .i64 9223372036854775807] 3)))
     have HL1 := Lib.hid (show ([-1, 0, 1, 8, 281474976710657, 281474976710658, (9223372036854775807 : Int)]).length = 7 from rfl)
     generalize [-1, 0, 1, 8, 281474976710657, 281474976710658, (9223372036854775807 : Int)] = zt at HZ1 HL1
     generalize wr.alloc (.cells #[.int .i64 (-1), .int .i64 0, .int .i64 1, .int .i64 8, .int .i64 281474976710657, .int .i64 281474976710658, .int .i64 9223372036854775807] 3) = wc at HZ1 HB1 ⊢
     generalize wr.heap.size = Z1 at HZ1 ⊢
     clear hcz HBR
     go_wp2
     go_loopg [92] 7 (fun k i ws => ∃ p : Nat, p + k = 7 ∧ i = .int .i64 p ∧ Below wc.heap.size wc ws)
     case atStart => exact ⟨0, by omega, rfl, Below.refl _ _⟩
     case round =>
      obtain ⟨p, hp, rfl, hb⟩ := hrel
      have HPP := Lib.hid hp
      have HBS := Lib.hid hb
      clear hp hb
      by_cases hltp : p < 7
      ·obtain ⟨y, hy⟩ : ∃ y, zt[p]? = some y := ⟨_, List.getElem?_eq_getElem (by rw [HL1.out]; exact hltp)⟩
       have hcy := ((HZ1.out.below HBS.out).row3 (by rw [HL1.out]; omega)).i1x hy
       rw [Nat.zero_add] at hcy
       go_upto_block 9 with fail
       generalize decide ((p : Int) < 7) = bp
       go_cut [] (fun wz => ∃ wq, wq = wz ∧ Below wc.heap.size wc wq)
       case first =>
        go_upto_block 10 with fail
        obtain ⟨hg, hgb⟩ := gaps_new wr
        have HG := Lib.hid hg
        have HB2 := Lib.hid (bstep HBS.out hgb)
        clear hg hgb hcy HBS
        generalize (((wr.alloc (.cells #[.int .i64 2, .int .i64 6] 34)).alloc (.cells #[.int .i64 9, .int .i64 1, .int .i64 281474976710656, .int .i64 1] 34)).alloc (.cells #[.int .i64 3, .int .i64 0] 34)).alloc (.cells #[.slice none 0 0, .slice (some ⟨wr.heap.size, 0, none⟩) 1 1, .slice (some ⟨wr.heap.size + 1, 0, none⟩) 2 2, .slice (some ⟨wr.heap.size + 1 + 1, 0, none⟩) 1 1] 35) = wd at HG HB2 ⊢
        generalize wr.heap.size + 1 + 1 + 1 = G at HG ⊢
        generalize wr.heap.size + 1 + 1 = G2
        generalize wr.heap.size + 1 = G1
        generalize wr.heap.size = G0
        go_wp2
        go_loopg [105] 4 (fun k i ws => ∃ q : Nat, q + k = 4 ∧ i = .int .i64 q ∧ Below wd.heap.size wd ws)
        case atStart => exact ⟨0, by omega, rfl, Below.refl _ _⟩
        case round =>
         obtain ⟨q, hq, rfl, hb⟩ := hrel
         have HQQ := Lib.hid hq
         have HBT := Lib.hid hb
         clear hq hb
         by_cases hltq : q < 4
         ·obtain ⟨A, n, c, g, hcg, heg, hlg⟩ := (HG.out.below HBT.out).at_ q hltq
          have HEG := Lib.hid heg
          have HLG := Lib.hid hlg
          clear heg hlg
          go_upto_region 28 with fail
          clear hcg
          go_wp2_with fail
          refine (pick_ok wr 8 0).mono ?_
          rintro r w5 ⟨rfl, b5⟩
          unfold evA pickE
          dsimp only
          go_wp2_with fail
          refine (pick_ok w5 1 0).mono ?_
          rintro r w6 ⟨rfl, b6⟩
          unfold evA pickE
          dsimp only
          have hg6 := (HEG.out.below b5).below b6
          have hb6 := bstep (bstep HBT.out b5) b6
          have HE6 := Lib.hid (EV.newL (w := w6) (e := 28) (xs := [pickE 8 0, pickE 1 0]) (enc := encE) (n := 2) (c := 2) (cs := #[.int .i64 8, .int .i64 0, .int .u8 0, .int .u8 6, .int .i64 0, .int .i64 0, .int .i64 0, .int .i64 0, .int .i64 0, .int .u64 0, .int .i64 0, .int .i64 1, .int .i64 0, .int .u8 0, .int .u8 6, .int .i64 0, .int .i64 0, .int .i64 0, .int .i64 0, .int .i64 0, .int .u64 0, .int .i64 0]) encE_len rfl rfl (Nat.le_refl _))
          have HB6 := Lib.hid (bstep hb6 (bel_alloc w6 (.cells #[.int .i64 8, .int .i64 0, .int .u8 0, .int .u8 6, .int .i64 0, .int .i64 0, .int .i64 0, .int .i64 0, .int .i64 0, .int .u64 0, .int .i64 0, .int .i64 1, .int .i64 0, .int .u8 0, .int .u8 6, .int .i64 0, .int .i64 0, .int .i64 0, .int .i64 0, .int .i64 0, .int .u64 0, .int .i64 0] 28)))
          have HG6 := Lib.hid (hg6.below (bel_alloc w6 (.cells #[.int .i64 8, .int .i64 0, .int .u8 0, .int .u8 6, .int .i64 0, .int .i64 0, .int .i64 0, .int .i64 0, .int .i64 0, .int .u64 0, .int .i64 0, .int .i64 1, .int .i64 0, .int .u8 0, .int .u8 6, .int .i64 0, .int .i64 0, .int .i64 0, .int .i64 0, .int .i64 0, .int .u64 0, .int .i64 0] 28)))
          clear b5 b6 hg6 hb6 HEG HBT
          go_wp2_with fail
          refine (one_ok _ (.slice (some ⟨w6.heap.size, 0, none⟩) 2 2) (.slice none 0 0) (.slice A n c) [pickE 8 0, pickE 1 0] [] g 0 y z (z.tmod 2 == 0) HE6.out ((OV.nil (e := 0) _ 0).ev encI_len) HG6.out (by simp) (by simp) (by have := HLG.out; omega)).mono ?_
          rintro r w7 ⟨rfl, b7⟩
          have HB7 := Lib.hid (bstep HB6.out b7)
          clear b7 HB6 HE6 HG6
          go_wp2
          go_roundg (gk - 1)
          case measure => have := HQQ.out; omega
          case rel => exact ⟨q + 1, by have := HQQ.out; omega, by go_num, HB7.out⟩
         ·obtain rfl : q = 4 := by have := HQQ.out; omega
          go_wp2
          go_meet
          exact ⟨_, rfl, bstep HB2.out HBT.out⟩
       case rest =>
        obtain ⟨wq, rfl, hq⟩ := hcut
        clear hcy
        have HQ := Lib.hid hq
        go_wp2
        go_roundg (gk - 1)
        case measure => have := HPP.out; omega
        case rel => exact ⟨p + 1, by have := HPP.out; omega, by go_num, HQ.out⟩
      ·obtain rfl : p = 7 := by have := HPP.out; omega
       go_wp2
       go_meet
       exact ⟨_, rfl, bstep HB1.out HBS.out⟩
    case rest =>
     obtain ⟨wq, rfl, hq⟩ := hcut
     clear hcz
     have HQ := Lib.hid hq
     go_wp2
     go_roundg (gk - 1)
     case measure => have := HJ.out; omega
     case rel => exact ⟨j + 1, by have := HJ.out; omega, by go_num, HQ.out⟩
   ·obtain rfl : j = 10 := by have := HJ.out; omega
    go_wp2
    go_meet
    exact ⟨_, rfl, bstep HB0.out HBR.out⟩
 case rest =>
  obtain ⟨wq, rfl, hq⟩ := hcut
  refine (‹∀ (a : Act) (w : World), Code.wp _ _ _ a w → _› : ∀ (a : Act) (w : World), _ → _) _ _ (small_t33 w _ hq HU.out)
end Go.Proofs.YtalophngappkhaaGreatDoor
