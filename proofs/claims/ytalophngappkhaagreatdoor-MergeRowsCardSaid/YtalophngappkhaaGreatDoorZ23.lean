/- quantumlaw12.awake: the end | quantumlaw12.awake: the walk of the end. -/
import Derived.Test.YtalophngappkhaaGreatDoorZ22
set_option linter.unusedVariables false
set_option linter.unusedSimpArgs false
set_option linter.unusedSectionVars false
namespace Go.Proofs.YtalophngappkhaaGreatDoor
open Go Go.RowKit Go.Shelf
attribute [local go_sem] Oper.semAt_some

/-- merge.Blocks, where it is known what comes out. -/
theorem blocks_good (w : World) (v : Value) (bs : List (Value × Bck)) (hv : BksS w v bs) (ho : ∀ x ∈ bs, BlkOk x.2) (hl : ∀ x ∈ bs, x.2.evs.length ≤ 100000) (hn : bs.length ≤ 1000000) (hT : (flatR (rowsB bs)).length ≤ 100000000) (hla : LaidAt w) (M : Mg) (c : Int) (hres : ∀ m c', MrgRes (bs.map Prod.snd) m c' → c' = c ∧ m = M) :
    Calls Tryz.prog 23 #[v] w fun r w' => ∃ A1 n1 c1 A2 n2 c2 A3 n3 c3, r = .returned (.tuple #[mgA (.slice A1 n1 c1) (.slice A2 n2 c2) (.slice A3 n3 c3) M.lost M.next M.opn, .int .i64 c]) ∧ OV encE 11 28 w.heap.size w' (.slice A1 n1 c1) M.evs ∧ OV encI 1 3 w.heap.size w' (.slice A2 n2 c2) M.tw ∧ OV encP 2 34 w.heap.size w' (.slice A3 n3 c3) M.gaps ∧ Below w.heap.size w w' := by
  refine (blocks_ok w v bs hv ho hl hn hT hla).mono ?_
  rintro r w' ⟨ve, vt, vg, m, c', rfl, hm, h1, h2, h3, h4⟩
  obtain ⟨rfl, rfl⟩ := hres m c' hm
  obtain ⟨A1, c1, e1⟩ := (h1.ev encE_len).shape
  obtain ⟨A2, c2, e2⟩ := (h2.ev encI_len).shape
  obtain ⟨A3, c3, e3⟩ := (h3.ev encP_len).shape
  rw [e1] at h1 ⊢
  rw [e2] at h2 ⊢
  rw [e3] at h3 ⊢
  exact ⟨_, _, _, _, _, _, _, _, _, rfl, h1, h2, h3, h4⟩
theorem EV.nlen {α : Type} {enc : α → List Value} {k : Nat} {w : World} {A : Option Addr} {n c : Nat} {xs : List α} (h : EV enc k w (.slice A n c) xs) : n = xs.length := by
  obtain ⟨A', c', e⟩ := h.shape
  simp only [Value.slice.injEq] at e
  exact e.2.1
/-- What the example's blocks are. -/
structure AB (w W : World) (v va vb : Value) (n : Int) : Prop where
  bel : Below w.heap.size w W
  bks : OV encBk 5 24 w.heap.size W v [(va, bkA), (vb, bkB), (.slice none 0 0, bkE n)]
  ea : OV encE 11 28 w.heap.size W va [pickE 1 0, pickE 4 0]
  eb : OV encE 11 28 w.heap.size W vb [pickE 2 1, pickE 7 1]
theorem AB.below {w W W' : World} {v va vb : Value} {n : Int} (h : AB w W v va vb n) (hb : Below W.heap.size W W') : AB w W' v va vb n := ⟨bstep h.bel hb, h.bks.below hb, h.ea.below hb, h.eb.below hb⟩
theorem EV.nilv {α : Type} {enc : α → List Value} {k : Nat} {w : World} {A : Option Addr} {c : Nat} : EV enc k w (.slice A 0 c) [] := .inl ⟨rfl, A, c, rfl⟩
theorem AB.s3 {w W : World} {v va vb : Value} {n : Int} (h : AB w W v va vb n) : BksS W v [(va, bkA), (vb, bkB), (.slice none 0 0, bkE n)] :=
  ⟨h.bks.ev encBk_len, fun x hx => by
    simp only [List.mem_cons, List.not_mem_nil, or_false] at hx
    rcases hx with rfl | rfl | rfl
    · exact h.ea.ev encE_len
    · exact h.eb.ev encE_len
    · exact EV.nilv⟩
theorem AB.cell {w W : World} {g cp : Nat} {va vb : Value} {n : Int} (h : AB w W (.slice (some ⟨g, 0, none⟩) 3 cp) va vb n) : W.cell? ⟨g, 13, none⟩ = some (.int .i64 n) ∧ W.frozen? ⟨g, 13, none⟩ = false := by
  refine ⟨?_, h.bks.frz rfl 13⟩
  obtain ⟨b, o, c, hsl, _, hr⟩ := h.s3.row.row (by simp)
  simp only [Value.slice.injEq, Option.some.injEq, Addr.mk.injEq, and_true] at hsl
  obtain ⟨⟨rfl, rfl⟩, _⟩ := hsl
  have := (hr.bk (i := 2) rfl).2.2.2.1
  simpa [bkE] using this
theorem AB.set {w W : World} {g cp : Nat} {va vb : Value} {n : Int} (h : AB w W (.slice (some ⟨g, 0, none⟩) 3 cp) va vb n) (m : Int) : AB w (W.setCell ⟨g, 13, none⟩ (.int .i64 m)) (.slice (some ⟨g, 0, none⟩) 3 cp) va vb m := by
  obtain ⟨h1, h2⟩ := OV.setF encBk_len h.bks rfl (i := 2) (j := 3) (x := (.slice none 0 0, bkE n)) rfl (by omega) (.slice none 0 0, bkE m) (.int .i64 m) rfl
  have hg := (h.bks.block g rfl).1
  exact ⟨h.bel.grown h2 h.bel.size (fun k e => by cases e; exact hg), h1, h.ea.keep h2 (h.ea.ne h.bks (by decide)), h.eb.keep h2 (h.eb.ne h.bks (by decide))⟩
/-- The box of what is merged, with its slices. -/
structure MB (W : World) (X : Nat) (ve vt vg : Value) (m : Mg) : Prop where
  box : MgBox W X ve vt vg m.lost m.next m.opn
  ee : EV encE 11 W ve m.evs
  et : EV encI 1 W vt m.tw
  eg : EV encP 2 W vg m.gaps
theorem MB.below {W W' : World} {X : Nat} {ve vt vg : Value} {m : Mg} (h : MB W X ve vt vg m) (hb : Below W.heap.size W W') : MB W' X ve vt vg m := ⟨h.box.below hb, h.ee.below hb, h.et.below hb, h.eg.below hb⟩
theorem all_ok {n : Int} (h1 : 1 ≤ n) (h2 : n ≤ 281474976710657) {va vb vc : Value} : ∀ x ∈ [(va, bkA), (vb, bkB), (vc, bkE n)], BlkOk x.2 ∧ chkB x.2 = 0 ∧ x.2.evs.length ≤ 100000 := by
  intro x hx
  simp only [List.mem_cons, List.not_mem_nil, or_false] at hx
  rcases hx with rfl | rfl | rfl
  · exact ⟨bkA_ok.1, bkA_ok.2, show bkA.evs.length ≤ 100000 by decide⟩
  · exact ⟨bkB_ok.1, bkB_ok.2, show bkB.evs.length ≤ 100000 by decide⟩
  · exact ⟨(bkE_ok h1 h2).1, (bkE_ok h1 h2).2, Nat.zero_le _⟩
theorem ex_join {n : Int} : JoinRes ([bkA, bkB, bkE n].flatMap Bck.evs) exR [] 0 :=
  join_perm (l := [pickE 1 0, pickE 4 0, pickE 2 1, pickE 7 1]) (by decide) (by decide) (by decide)
theorem ex_join2 : JoinRes ([bkA, bkB].flatMap Bck.evs) exR [] 0 :=
  join_perm (show exR.Perm [pickE 1 0, pickE 4 0, pickE 2 1, pickE 7 1] by decide) (by decide) (by decide)
def exM (gaps : List (Int × Int)) (next : Int) (opn : Bool) : Mg := ⟨exR, [], gaps, 2, next, opn⟩
theorem ex_res8 {m : Mg} {c : Int} (h : MrgRes [bkA, bkB, bkE 8] m c) : c = 0 ∧ m = exM [(3, 1), (5, 2)] 8 false := by
  obtain ⟨h1, h2⟩ := mrg_of h (by simp) (fun b hb => by
    simp only [List.mem_cons, List.not_mem_nil, or_false] at hb
    rcases hb with rfl | rfl | rfl
    · exact bkA_ok.2
    · exact bkB_ok.2
    · exact (bkE_ok (by omega) (by omega)).2) ex_join
  refine ⟨h1, ?_⟩
  rw [h2]
  have e : max (nxtS exR) (endB [bkA, bkB, bkE 8]) = 8 := by decide
  have e2 : lostB [bkA, bkB, bkE 8] = 2 := by decide
  have e3 : endB [bkA, bkB, bkE 8] = 8 := by decide
  unfold mgOf exM
  rw [e, e2, e3, ex_gaps8]
  rfl
theorem ex_res9 {m : Mg} {c : Int} (h : MrgRes [bkA, bkB, bkE 9] m c) : c = 0 ∧ m = exM [(3, 1), (5, 2), (8, 1)] 9 false := by
  obtain ⟨h1, h2⟩ := mrg_of h (by simp) (fun b hb => by
    simp only [List.mem_cons, List.not_mem_nil, or_false] at hb
    rcases hb with rfl | rfl | rfl
    · exact bkA_ok.2
    · exact bkB_ok.2
    · exact (bkE_ok (by omega) (by omega)).2) ex_join
  refine ⟨h1, ?_⟩
  rw [h2]
  have e : max (nxtS exR) (endB [bkA, bkB, bkE 9]) = 9 := by decide
  have e2 : lostB [bkA, bkB, bkE 9] = 2 := by decide
  have e3 : endB [bkA, bkB, bkE 9] = 9 := by decide
  unfold mgOf exM
  rw [e, e2, e3, ex_gaps9]
  rfl
theorem ex_res2 {m : Mg} {c : Int} (h : MrgRes [bkA, bkB] m c) : c = 0 ∧ m = exM [(3, 1), (5, 2)] 8 true := by
  obtain ⟨h1, h2⟩ := mrg_of h (by simp) (fun b hb => by
    simp only [List.mem_cons, List.not_mem_nil, or_false] at hb
    rcases hb with rfl | rfl
    · exact bkA_ok.2
    · exact bkB_ok.2) ex_join2
  refine ⟨h1, ?_⟩
  rw [h2]
  have e : max (nxtS exR) (endB [bkA, bkB]) = 8 := by decide
  have e2 : lostB [bkA, bkB] = 2 := by decide
  have e3 : endB [bkA, bkB] = 0 := by decide
  unfold mgOf exM
  rw [e, e2, e3, ex_gaps8]
  rfl
theorem ex_res0 {m : Mg} {c : Int} (h : MrgRes [] m c) : c = 0 ∧ m = ⟨[], [], [], 0, 1, true⟩ := by
  obtain ⟨h1, h2⟩ := mrg_of h (by decide) (fun b hb => by cases hb) (join_perm (l := []) (R := []) (List.Perm.refl _) List.Pairwise.nil (by decide))
  refine ⟨h1, ?_⟩
  rw [h2]
  have e : max (nxtS []) (endB []) = 1 := by decide
  have e2 : lostB [] = 0 := by decide
  have e3 : endB [] = 0 := by decide
  unfold mgOf
  rw [e, e2, e3, ex_gaps0]
  rfl
end Go.Proofs.YtalophngappkhaaGreatDoor
namespace Go.Proofs.YtalophngappkhaaGreatDoor
open Go Go.RowKit Go.Shelf
attribute [local go_sem] Oper.semAt_some

set_option maxRecDepth 100000 in
set_option maxHeartbeats 800000 in
theorem awake_t12 (w wc : World) (g cp : Nat) (va vb : Value) {u0 u2 u3 u4 u5 u6 u7 u8 u9 u10 u11 u12 u13 u14 u15 u16 u17 u18 u19 u20 u21 u22 u23 u24 u25 u26 u27 u28 u29 u30 u31 u32 u33 u34 u35 u36 u37 u38 u39 u40 u41 u42 u43 u44 u45 u46 u47 u48 u49 u50 u51 u52 u53 u54 u55 u56 u57 u58 u59 u60 u61 u62 u63 u64 u65 u66 u67 u68 u69 u70 u71 u72 u73 u74 u75 u76 u77 u78 u79 u80 u81 u82 u83 u84 u85 u86 u87 u88 u89 u90 u91 u92 u93 u94 u95 u96 u97 u98 u99 u100 u101 u102 u103 u104 u105 u106 u107 u108 u109 u110 u111 u112 u113 u114 u115 u116 u117 u118 u119 u120 u121 u122 u123 u124 u125 u126 u127 u128 u129 u130 u131 u132 u133 u134 u135 u136 u137 u138 u139 u140 u141 u142 u143 u144 u145 u146 u147 u148 u149 u150 u151 u152 u153 u154 u155 u156 u157 u158 u159 u160 u161 u162 u163 u164 u165 u166 u167 u168 u169 u170 u171 u172 u173 u174 u175 u176 u177 u178 u179 u180 u181 u182 u183 u184 u185 u186 : Value} (h : AB w wc (.slice (some ⟨g, 0, none⟩) 3 cp) va vb 8) (hla : LaidAt w) :
    Code.wp Tryz.prog (tailR Tryz.f19 12) (bodyPost Tryz.prog Tryz.f19 (fun e w' => e = .returned (.bool true) ∧ Below w.heap.size w w'))
      ⟨#[u0, .slice (some ⟨g, 0, none⟩) 3 cp, u2, u3, u4, u5, u6, u7, u8, u9, u10, u11, u12, u13, u14, u15, u16, u17, u18, u19, u20, u21, u22, u23, u24, u25, u26, u27, u28, u29, u30, u31, u32, u33, u34, u35, u36, u37, u38, u39, u40, u41, u42, u43, u44, u45, u46, u47, u48, u49, u50, u51, u52, u53, u54, u55, u56, u57, u58, u59, u60, u61, u62, u63, u64, u65, u66, u67, u68, u69, u70, u71, u72, u73, u74, u75, u76, u77, u78, u79, u80, u81, u82, u83, u84, u85, u86, u87, u88, u89, u90, u91, u92, u93, u94, u95, u96, u97, u98, u99, u100, u101, u102, u103, u104, u105, u106, u107, u108, u109, u110, u111, u112, u113, u114, u115, u116, u117, u118, u119, u120, u121, u122, u123, u124, u125, u126, u127, u128, u129, u130, u131, u132, u133, u134, u135, u136, u137, u138, u139, u140, u141, u142, u143, u144, u145, u146, u147, u148, u149, u150, u151, u152, u153, u154, u155, u156, u157, u158, u159, u160, u161, u162, u163, u164, u165, u166, u167, u168, u169, u170, u171, u172, u173, u174, u175, u176, u177, u178, u179, u180, u181, u182, u183, u184, u185, u186], []⟩ wc := by
  conv => arg 2; whnf
  conv => arg 4; dsimp only
  have hcp : 3 ≤ cp := by
    obtain ⟨b, o, c, hsl, hcp, _⟩ := h.s3.row.row (by simp)
    simp only [List.length_cons, List.length_nil, Value.slice.injEq] at hsl hcp
    obtain ⟨_, _, rfl⟩ := hsl
    exact hcp
  have HCP := Lib.hid hcp
  have h2 : (2 : Int) ≤ (cp : Int) := by omega
  have HA := Lib.hid h
  have HL := Lib.hid hla
  have hs2 : BksS wc (.slice (some ⟨g, 0, none⟩) 2 cp) [(va, bkA), (vb, bkB)] := by
    refine ⟨?_, fun x hx => h.s3.evs x (by simp only [List.mem_cons, List.not_mem_nil, or_false] at hx ⊢; rcases hx with rfl | rfl <;> simp)⟩
    have := h.s3.row
    exact EV.row_take (j := 2) this (by simp) rfl
  have hq : ∀ x ∈ [(va, bkA), (vb, bkB)], BlkOk x.2 ∧ chkB x.2 = 0 ∧ x.2.evs.length ≤ 100000 := fun x hx => all_ok (n := 8) (vc := .slice none 0 0) (by omega) (by omega) x (by
    simp only [List.mem_cons, List.not_mem_nil, or_false] at hx ⊢
    rcases hx with rfl | rfl
    · exact .inl rfl
    · exact .inr (.inl rfl))
  have HC := Lib.hid (blocks_good wc _ _ hs2 (fun x hx => (hq x hx).1) (fun x hx => (hq x hx).2.2) (by simp) (by simp [flatR, rowsB, bkA, bkB]) (hla.below h.bel) (exM [(3, 1), (5, 2)] 8 true) 0 (fun m c' hm => ex_res2 hm))
  unfold mgA exM at HC
  dsimp only at HC
  clear h hla hs2 hcp hq
  go_wp2_with fail
  refine HC.out.mono ?_
  rintro r w1 ⟨A1, n1, c1, A2, n2, c2, A3, n3, c3, rfl, o1, o2, o3, b1⟩
  have HA1 := Lib.hid (HA.out.below b1)
  have ba := bel_alloc w1 (.cells #[.slice A1 n1 c1, .slice A2 n2 c2, .slice A3 n3 c3, .int .i64 2, .int .i64 8, .bool true] 39)
  have HM := Lib.hid (show MB (w1.alloc (.cells #[.slice A1 n1 c1, .slice A2 n2 c2, .slice A3 n3 c3, .int .i64 2, .int .i64 8, .bool true] 39)) w1.heap.size (.slice A1 n1 c1) (.slice A2 n2 c2) (.slice A3 n3 c3) (exM [(3, 1), (5, 2)] 8 true) from ⟨MgBox.new w1 (.slice A1 n1 c1) (.slice A2 n2 c2) (.slice A3 n3 c3) 2 8 true, (o1.ev encE_len).below ba, (o2.ev encI_len).below ba, (o3.ev encP_len).below ba⟩)
  have HA2 := Lib.hid (HA1.out.below ba)
  clear o1 o2 o3 b1 ba HC HA
  go_upto_region 13 with fail
  generalize w1.alloc (.cells #[.slice A1 n1 c1, .slice A2 n2 c2, .slice A3 n3 c3, .int .i64 2, .int .i64 8, .bool true] 39) = w2 at HM HA2 ⊢
  obtain ⟨X, hX⟩ : ∃ X, w1.heap.size = X := ⟨_, rfl⟩
  have HXG := Lib.hid (show g < X by rw [← hX]; exact (HA1.out.bks.block g rfl).2)
  rw [hX] at HM ⊢
  clear hX HA1
  have HF := Lib.hid (first_ok w2 (.slice A1 n1 c1) (.slice A2 n2 c2) (.slice A3 n3 c3) 2 8 7 true [(3, 1), (5, 2)] HM.out.eg (by decide))
  rw [show frsE [(3, 1), (5, 2)] 8 true 7 = (0, 123) by decide] at HF
  unfold mgA at HF
  have c0 := HM.out.box.c0
  have c1 := HM.out.box.c1
  have c2 := HM.out.box.c2
  have c3 := HM.out.box.c3
  have c4 := HM.out.box.c4
  have c5 := HM.out.box.c5
  unfold exM at c3 c4 c5
  dsimp only at HF c3 c4 c5
  go_wp2_with fail
  refine HF.out.mono ?_
  rintro r w3 ⟨rfl, b1⟩
  have HA3 := Lib.hid (HA2.out.below b1)
  have HM3 := Lib.hid (HM.out.below b1)
  clear c0 c1 c2 c3 c4 c5 HF HA2 HM b1
  have hcell := HA3.out.cell
  obtain ⟨q1, q2⟩ := hcell
  go_upto_region 15 with fail
  have HA4 := Lib.hid (HA3.out.set 9)
  have hgw : w.heap.size ≤ g := (HA3.out.bks.block g rfl).1
  have hm4 := Mod.setCell (a := w3) (p := ⟨g, 13, none⟩) (T := fun k => k = g) (.int .i64 9) rfl
  have HM4 := Lib.hid (show MgBox (w3.setCell ⟨g, 13, none⟩ (.int .i64 9)) X (.slice A1 n1 c1) (.slice A2 n2 c2) (.slice A3 n3 c3) 2 8 true from HM3.out.box.setOther (by show X ≠ g; have := HXG.out; omega) _)
  clear q1 q2 hgw hm4 HA3 HM3
  generalize w3.setCell ⟨g, 13, none⟩ (.int .i64 9) = w4 at HA4 HM4 ⊢
  have HC := Lib.hid (blocks_good w4 _ _ HA4.out.s3 (fun x hx => (all_ok (by omega) (by omega) x hx).1) (fun x hx => (all_ok (by omega) (by omega) x hx).2.2) (by simp) (by simp [flatR, rowsB, bkA, bkB, bkE]) (HL.out.below HA4.out.bel) (exM [(3, 1), (5, 2), (8, 1)] 9 false) 0 (fun m c' hm => ex_res9 hm))
  unfold mgA exM at HC
  dsimp only at HC
  go_wp2_with fail
  refine HC.out.mono ?_
  rintro r w5 ⟨B1, m1, d1, B2, m2, d2, B3, m3, d3, rfl, o1, o2, o3, b1⟩
  have HA5 := Lib.hid (HA4.out.below b1)
  have HM5 := Lib.hid (HM4.out.below b1)
  have ba := bel_alloc w5 (.cells #[.slice B1 m1 d1, .slice B2 m2 d2, .slice B3 m3 d3, .int .i64 2, .int .i64 9, .bool false] 39)
  have HN := Lib.hid (show MB (w5.alloc (.cells #[.slice B1 m1 d1, .slice B2 m2 d2, .slice B3 m3 d3, .int .i64 2, .int .i64 9, .bool false] 39)) w5.heap.size (.slice B1 m1 d1) (.slice B2 m2 d2) (.slice B3 m3 d3) (exM [(3, 1), (5, 2), (8, 1)] 9 false) from ⟨MgBox.new w5 (.slice B1 m1 d1) (.slice B2 m2 d2) (.slice B3 m3 d3) 2 9 false, (o1.ev encE_len).below ba, (o2.ev encI_len).below ba, (o3.ev encP_len).below ba⟩)
  have HA6 := Lib.hid (HA5.out.below ba)
  have HM6 := Lib.hid (HM5.out.below ba)
  clear o1 o2 o3 b1 ba HC HA4 HA5 HM4 HM5
  go_upto_region 16 with fail
  generalize w5.alloc (.cells #[.slice B1 m1 d1, .slice B2 m2 d2, .slice B3 m3 d3, .int .i64 2, .int .i64 9, .bool false] 39) = w6 at HN HA6 HM6 ⊢
  generalize w5.heap.size = Y at HN ⊢
  have HF := Lib.hid (first_ok w6 (.slice B1 m1 d1) (.slice B2 m2 d2) (.slice B3 m3 d3) 2 9 7 false [(3, 1), (5, 2), (8, 1)] HN.out.eg (by decide))
  rw [show frsE [(3, 1), (5, 2), (8, 1)] 9 false 7 = (8, 122) by decide] at HF
  unfold mgA at HF
  have c0 := HN.out.box.c0
  have c1 := HN.out.box.c1
  have c2 := HN.out.box.c2
  have c3 := HN.out.box.c3
  have c4 := HN.out.box.c4
  have c5 := HN.out.box.c5
  unfold exM at c3 c4 c5
  dsimp only at HF c3 c4 c5
  go_wp2_with fail
  refine HF.out.mono ?_
  rintro r w7 ⟨rfl, b1⟩
  have HA7 := Lib.hid (HA6.out.below b1)
  have HM7 := Lib.hid (HM6.out.below b1)
  clear c0 c1 c2 c3 c4 c5 HF HA6 HM6 HN b1
  have HC := Lib.hid (blocks_good w7 (.slice none 0 0) [] ⟨EV.nilv, fun x hx => (by cases hx)⟩ (fun x hx => (by cases hx)) (fun x hx => (by cases hx)) (by simp) (by simp [flatR, rowsB]) (HL.out.below HA7.out.bel) ⟨[], [], [], 0, 1, true⟩ 0 (fun m c' hm => ex_res0 hm))
  unfold mgA at HC
  dsimp only at HC
  go_wp2_with fail
  refine HC.out.mono ?_
  rintro r w8 ⟨B1, m1, d1, B2, m2, d2, B3, m3, d3, rfl, o1, o2, o3, b1⟩
  have HA8 := Lib.hid (HA7.out.below b1)
  have HM8 := Lib.hid (HM7.out.below b1)
  have ba := bel_alloc w8 (.cells #[.slice B1 m1 d1, .slice B2 m2 d2, .slice B3 m3 d3, .int .i64 0, .int .i64 1, .bool true] 39)
  have HN := Lib.hid (MgBox.new w8 (.slice B1 m1 d1) (.slice B2 m2 d2) (.slice B3 m3 d3) 0 1 true)
  have HA9 := Lib.hid (HA8.out.below ba)
  have HM9 := Lib.hid (HM8.out.below ba)
  clear o1 o2 o3 b1 ba HC HA7 HA8 HM7 HM8
  go_upto_region 18 with fail
  generalize w8.alloc (.cells #[.slice B1 m1 d1, .slice B2 m2 d2, .slice B3 m3 d3, .int .i64 0, .int .i64 1, .bool true] 39) = w9 at HN HA9 HM9 ⊢
  generalize w8.heap.size = Z at HN ⊢
  have e4 := HM9.out.c4
  have e5 := HM9.out.c5
  have f4 := HN.out.c4
  have f5 := HN.out.c5
  go_wp2
  go_ret
  exact ⟨rfl, HA9.out.bel⟩
end Go.Proofs.YtalophngappkhaaGreatDoor
