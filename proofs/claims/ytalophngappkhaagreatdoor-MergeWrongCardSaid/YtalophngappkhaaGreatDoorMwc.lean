/- MergeWrong: the lists that are no rows, the numbers beyond Next. -/
import Derived.Test.YtalophngappkhaaGreatDoorMwb
import Derived.Test.YtalophngappkhaaGreatDoorLo2
import Derived.Test.YtalophngappkhaaGreatDoorZ28
set_option linter.unusedVariables false
set_option linter.unusedSimpArgs false
set_option linter.unusedSectionVars false
namespace Go.Proofs.YtalophngappkhaaGreatDoor
open Go Go.RowKit Go.Shelf
attribute [local go_sem] Oper.semAt_some

theorem MgBox.grownO {α : Type} {enc : α → List Value} {k base : Nat} {e : TypeId} {xs : List α} {W W' : World} {Y : Nat} {ve vt vg u : Value} {lost next : Int} {opn : Bool} (h : MgBox W Y ve vt vg lost next opn) (ho : OV enc k e base W u xs) (hne : e ≠ 39) (hg : W.grownBy W' u.ownBlock) : MgBox W' Y ve vt vg lost next opn := h.grown hg fun hy => by
  rcases ho.2 with ⟨rfl, _⟩ | ⟨g', cap, cur, rfl, _, hg', _⟩
  · cases hy
  · obtain rfl : g' = Y := by simpa [Value.ownBlock] using hy
    rw [h.cell] at hg'
    cases hg'
    exact hne rfl
set_option maxRecDepth 100000 in
set_option maxHeartbeats 6400000 in
theorem wrong_t19 (w wc : World) (At : Option Addr) (nt ct cb co p cc : Nat) (tr : List Ev) (bs : List (Sl3 × Bck)) (nx n : Int) {u0 u1 u2 u3 u5 u6 u7 u8 u9 u10 u13 u14 u15 u16 u17 u18 u19 u20 u21 u22 u23 u24 u25 u26 u27 u28 u29 u30 u31 u32 u33 u34 u35 u36 u37 u38 u39 u40 u41 u42 u43 u44 u45 u46 u47 u48 u49 u50 u51 u52 u53 u54 u55 u56 u57 u58 u59 u60 u61 u62 u63 u64 u65 u66 u67 u68 u69 u70 u71 u72 u73 u74 u75 u76 u77 u78 u79 u80 u81 u82 u83 u84 u85 u86 u87 u88 u89 u90 u91 u92 u93 u94 u95 u96 u97 u98 u99 u100 u101 u102 u103 u104 u105 u106 u107 u108 u109 u110 u111 u112 u113 u114 u115 u116 u117 u118 u119 u120 u121 u122 u123 u124 u125 u126 u127 u128 u129 u130 u131 u132 u133 u134 u135 u136 u137 u138 u139 u140 u141 u142 u143 u144 u145 u146 u147 u148 u149 u150 u151 u152 u153 u154 u155 u156 u157 u158 u159 u160 u161 u162 u163 u164 : Value}
    (hT : Tr tr) (hL : (CutP.all bs nx).length = p + 1 ∧ p ≤ 40) (hC : CutR tr (bs.map Prod.snd) nx) (hev : EV encSb 5 wc (.slice (some ⟨cb, co, none⟩) (p + 1) cc) (CutP.all bs nx)) (hevs : ∀ y ∈ CutP.all bs nx, EV encE 11 wc (slV y.1) y.2.evs) (hla : LaidAt wc)
    (hvt : EV encE 11 wc (.slice At nt ct) tr) (hn : -9223372036854775808 ≤ n ∧ n ≤ 9223372036854775807) (hb : Below w.heap.size w wc) :
    Code.wp Tryz.prog (tailR Tryz.f4 19) (bodyPost Tryz.prog Tryz.f4 fun r w' => r = .returned (.bool true) ∧ Below w.heap.size w w')
      ⟨#[u0, u1, u2, u3, .int .i64 n, u5, u6, u7, u8, u9, u10, .slice At nt ct, .slice (some ⟨cb, co, none⟩) (p + 1) cc, u13, u14, u15, u16, u17, u18, u19, u20, u21, u22, u23, u24, u25, u26, u27, u28, u29, u30, u31, u32, u33, u34, u35, u36, u37, u38, u39, u40, u41, u42, u43, u44, u45, u46, u47, u48, u49, u50, u51, u52, u53, u54, u55, u56, u57, u58, u59, u60, u61, u62, u63, u64, u65, u66, u67, u68, u69, u70, u71, u72, u73, u74, u75, u76, u77, u78, u79, u80, u81, u82, u83, u84, u85, u86, u87, u88, u89, u90, u91, u92, u93, u94, u95, u96, u97, u98, u99, u100, u101, u102, u103, u104, u105, u106, u107, u108, u109, u110, u111, u112, u113, u114, u115, u116, u117, u118, u119, u120, u121, u122, u123, u124, u125, u126, u127, u128, u129, u130, u131, u132, u133, u134, u135, u136, u137, u138, u139, u140, u141, u142, u143, u144, u145, u146, u147, u148, u149, u150, u151, u152, u153, u154, u155, u156, u157, u158, u159, u160, u161, u162, u163, u164], []⟩ wc := by
  conv => arg 2; whnf
  conv => arg 4; dsimp only
  have HT := Lib.hid hT
  have HL := Lib.hid hL
  have HEV := Lib.hid hev
  have HES := Lib.hid hevs
  have HLA := Lib.hid hla
  have HVT := Lib.hid hvt
  have HB := Lib.hid hb
  have HGD := Lib.hid (show ∀ y ∈ CutP.all bs nx, BlkOk y.2 ∧ chkB y.2 = 0 ∧ y.2.evs.length ≤ 6 from fun y hy => hC.all hT (l := (CutP.all bs nx).map Prod.snd) (fun z hz => by rw [cut_all_snd] at hz; simpa using hz) y.2 (List.mem_map.2 ⟨y, hy, rfl⟩))
  obtain ⟨M, hM, hres⟩ := hC.mrg hT (List.Perm.refl _)
  have HMW := Lib.hid hM
  obtain ⟨lost, hlost⟩ : ∃ lost, lostB ((bs.map Prod.snd) ++ [bkE nx]) = lost := ⟨_, rfl⟩
  have he := hM.eq
  rw [hlost] at he
  obtain ⟨G, hG⟩ : ∃ G, gapsOf tr nx = G := ⟨_, rfl⟩
  rw [hG] at he
  subst he
  have HRES := Lib.hid (show ∀ m c, MrgRes ((CutP.all bs nx).map Prod.snd) m c → _ from fun m c h => hres m c (by rwa [cut_all_snd] at h))
  have HR := Lib.hid (show rightB G = true ∧ G.length ≤ 1000 from ⟨hM.right, hM.len.2⟩)
  have HX := Lib.hid (show 1 ≤ nx ∧ nx ≤ 1000 from hM.rng)
  have HLT := Lib.hid (show tr.length ≤ 40 from hT.len)
  have hn1 := hn.1
  have hn2 := hn.2
  have F1 := Lib.hid (show (frsE G nx false (min n 0)).2 = 2 from frs_low hM.right (.inl (by omega)))
  have F2 := Lib.hid (show (frsE G nx false (max n (nx + 1))).2 = 2 from frs_low hM.right (.inr (by omega)))
  have F3 := Lib.hid (show (frsE (G ++ [(1, 0)]) nx false 0).2 = 90 from frs_bad G nx 0 false)
  clear hT hL hC hev hevs hla hvt hb hn hM hres hlost hG
  go_wp2_with fail
  refine (clone_ev wc _ tr HVT.out (by have := HLT.out; omega)).mono ?_
  rintro r w1 ⟨v1, rfl, o1, b1⟩
  have HO1 := Lib.hid o1
  have HB1 := Lib.hid (bstep HB.out b1)
  have HBC := Lib.hid b1
  clear o1 b1
  go_wp2_with (at_builtin; refine wpList_app elemE encE_len encE_one rfl _ _ rfl _ _ rfl rfl (HO1.out.alloc _) (EV.newL (xs := [pickE 1 0, pickE 1 0]) (n := 2) (c := 2) encE_len rfl rfl (Nat.le_refl _)) ?q1 ?q2 ?_)
  case q1 => have := HLT.out; simp; omega
  case q2 => have := HBC.out.size; simp; omega
  intro v2 w2 o2 g2
  have HV2 := Lib.hid (show EV encE 11 w2 v2 (rowW tr) from o2.ev encE_len)
  have hal := bel_alloc w1 (.cells #[.int .i64 1, .int .i64 0, .int .u8 0, .int .u8 6, .int .i64 0, .int .i64 0, .int .i64 0, .int .i64 0, .int .i64 0, .int .u64 0, .int .i64 0, .int .i64 1, .int .i64 0, .int .u8 0, .int .u8 6, .int .i64 0, .int .i64 0, .int .i64 0, .int .i64 0, .int .i64 0, .int .u64 0, .int .i64 0] 28)
  have HB2 := Lib.hid ((bstep HBC.out hal).grown g2 (bstep HBC.out hal).size (fun k e => (HO1.out.block k e).1))
  clear o2 g2 hal HO1 HB1 HBC
  obtain ⟨A2, c2, hA2⟩ := HV2.out.shape
  obtain ⟨n2, hn2'⟩ : ∃ n2, (rowW tr).length = n2 := ⟨_, rfl⟩
  rw [hn2'] at hA2
  subst hA2
  clear hn2'
  have HE3 := Lib.hid (EV.newL (w := w2) (e := 22) (cs := #[.slice At nt ct, .slice A2 n2 c2]) (xs := [((.slice At nt ct, tr) : Value × List Ev), (.slice A2 n2 c2, rowW tr)]) (n := 2) (c := 2) (enc := encVs) (k := 1) (fun _ => rfl) rfl rfl (Nat.le_refl _))
  have HA3 := Lib.hid (bel_alloc w2 (.cells #[.slice At nt ct, .slice A2 n2 c2] 22))
  go_wp2_with fail
  refine (mrows_ok _ _ [(.slice At nt ct, tr), (.slice A2 n2 c2, rowW tr)] HE3.out (fun x hx => ?_) (fun e he => ?_) (by simp) (by unfold flatR; have := rowW_len HT.out; have := HLT.out; simp; omega) ((HLA.out.below HB2.out).below HA3.out).uses).mono ?_
  · simp only [List.mem_cons, List.not_mem_nil, or_false] at hx
    rcases hx with rfl | rfl
    · exact (HVT.out.below HB2.out).below HA3.out
    · exact HV2.out.below HA3.out
  · unfold flatR at he
    simp only [List.flatMap_cons, List.flatMap_nil, List.append_nil, List.mem_append] at he
    rcases he with he | he
    · exact (HT.out.ok e he).1
    · exact rowW_ok HT.out e he
  rintro r w4 ⟨va, vb, c, R, T, rfl, p1, p2, hrr, b4⟩
  obtain rfl := rows_wrong hrr
  have HB4 := Lib.hid (bstep HB2.out (bstep HA3.out b4))
  have HV4 := Lib.hid ((HV2.out.below HA3.out).below b4)
  clear HB2 HA3 HE3 HV2 b4 p1 p2 hrr
  go_wp2_with fail
  refine (split_ok w4 _ (rowW tr) HV4.out (rowW_ok HT.out) (by have := rowW_len HT.out; omega) (HLA.out.below HB4.out).uses).mono ?_
  rintro r w5 ⟨b5, ⟨_, rfl⟩ | ⟨h, _⟩⟩
  · have HB5 := Lib.hid (bstep HB4.out b5)
    clear HB4 HV4 b5
    go_wp2_with fail
    refine (blocks_sb w5 _ (CutP.all bs nx) (HEV.out.below HB5.out) (fun y hy => (HES.out y hy).below HB5.out) HGD.out (by rw [HL.out.1]; have := HL.out.2; omega) (HLA.out.below HB5.out) _ 0 HRES.out).mono ?_
    rintro r w6 ⟨A1, m1, d1, A3, m3, d3, A4, m4, d4, rfl, o1, o2, o3, b6⟩
    dsimp only at o1 o2 o3 ⊢
    have HMX := Lib.hid (MgBox.new w6 (.slice A1 m1 d1) (.slice A3 m3 d3) (.slice A4 m4 d4) lost nx false)
    have hal := bel_alloc w6 (.cells #[.slice A1 m1 d1, .slice A3 m3 d3, .slice A4 m4 d4, .int .i64 lost, .int .i64 nx, .bool false] 39)
    have HO1 := Lib.hid (o1.below hal)
    have HO3 := Lib.hid (o3.below hal)
    have HB7 := Lib.hid (bstep HB5.out (bstep b6 hal))
    have HS7 := Lib.hid (show w5.heap.size ≤ w6.heap.size from b6.size)
    have HS5 := Lib.hid (show wc.heap.size ≤ w5.heap.size from HB5.out.size)
    have HB5S := Lib.hid (Nat.le_refl wc.heap.size)
    clear o1 o2 o3 b6 hal HB5
    unfold mgA
    go_upto_region 23 with fail
    obtain ⟨Y, hY⟩ : ∃ Y, w6.heap.size = Y := ⟨_, rfl⟩
    rw [hY] at HMX HS7 ⊢
    have HYW := Lib.hid (show w6.heap.size = Y from hY)
    generalize w6.alloc (.cells #[.slice A1 m1 d1, .slice A3 m3 d3, .slice A4 m4 d4, .int .i64 lost, .int .i64 nx, .bool false] 39) = w7 at HMX HB7 HO1 HO3 ⊢
    clear hY
    have y0 := HMX.out.c0
    have y1 := HMX.out.c1
    have y2 := HMX.out.c2
    have y3 := HMX.out.c3
    have y4 := HMX.out.c4
    have y5 := HMX.out.c5
    have H1 := Lib.hid (first_ok w7 (.slice A1 m1 d1) (.slice A3 m3 d3) (.slice A4 m4 d4) lost nx (min n 0) false G (HO3.out.ev encP_len) (by have := HR.out.2; omega))
    unfold mgA at H1
    rw [F1.out] at H1
    go_wp2_with fail
    refine H1.out.mono ?_
    rintro r w8 ⟨rfl, b8⟩
    have HB8 := Lib.hid (bstep HB7.out b8)
    have HMX8 := Lib.hid (HMX.out.below b8)
    have HO18 := Lib.hid (HO1.out.below b8)
    have HO38 := Lib.hid (HO3.out.below b8)
    clear y0 y1 y2 y3 y4 y5 H1 HB7 HMX HO1 HO3 b8
    have y0 := HMX8.out.c0
    have y1 := HMX8.out.c1
    have y2 := HMX8.out.c2
    have y3 := HMX8.out.c3
    have y4 := HMX8.out.c4
    have y5 := HMX8.out.c5
    have H2 := Lib.hid (after_ok w8 (.slice A1 m1 d1) (.slice A3 m3 d3) (.slice A4 m4 d4) lost nx (max n (nx + 1)) false tr G (HO38.out.ev encP_len) (by have := HR.out.2; omega) (HO18.out.ev encE_len) (by have := HLT.out; omega))
    unfold mgA at H2
    rw [F2.out] at H2
    have hx1 := HX.out.1
    have hx2 := HX.out.2
    have hwr : IntKind.i64.wrap (nx + 1) = nx + 1 := IntWalk.i64_in _ (by omega)
    go_wp2_with fail
    refine H2.out.mono ?_
    rintro r w9 ⟨v9, rfl, _, b9⟩
    have HB9 := Lib.hid (bstep HB8.out b9)
    have HMX9 := Lib.hid (HMX8.out.below b9)
    have HO39 := Lib.hid (HO38.out.below b9)
    clear y0 y1 y2 y3 y4 y5 H2 HB8 HMX8 HO38 HO18 b9 hwr
    have y2 := HMX9.out.c2
    have f2 := HMX9.out.frz 2
    go_wp2_with (at_builtin; refine wpList_app elemR encP_len encP_one rfl _ _ rfl _ _ rfl rfl (HO39.out.alloc _) (EV.newL (xs := [((1, 0) : Int × Int)]) (n := 1) (c := 1) encP_len rfl rfl (Nat.le_refl _)) ?q1 ?q2 ?_)
    case q1 => have := HR.out.2; simp; omega
    case q2 => have h1 := HB9.out.size; have h2 := HMX9.out.lt; have h3 := HS7.out; simp; omega
    intro v10 w10 o10 g10
    have hal := bel_alloc w9 (.cells #[.int .i64 1, .int .i64 0] 34)
    have HB10 := Lib.hid ((bstep HB9.out hal).grown g10 (bstep HB9.out hal).size (fun k e => ((HO39.out.base_le (Nat.le_trans HB5S.out HS5.out)).block k e).1))
    have HMX10 := Lib.hid ((HMX9.out.below hal).grownO (HO39.out.alloc _) (by decide) g10)
    have HO10 := Lib.hid o10
    clear o10 g10 hal HB9 HMX9 HO39 y2 f2
    obtain ⟨A10, c10, hA10⟩ := (HO10.out.ev encP_len).shape
    obtain ⟨n10, hn10⟩ : ∃ n10, (G ++ [((1, 0) : Int × Int)]).length = n10 := ⟨_, rfl⟩
    rw [hn10] at hA10
    subst hA10
    clear hn10
    have f2 := HMX10.out.frz 2
    have y2 := HMX10.out.c2
    have hY1 := HS7.out
    have hY2 := HYW.out
    have HSY := Lib.hid (show wc.heap.size ≤ Y from by have := HB5S.out; have := HS5.out; omega)
    have HMD := Lib.hid (Mod.setCell (a := w10) (p := ⟨Y, 2, none⟩) (T := fun k => k = Y) (.slice A10 n10 c10) rfl)
    have HMX11 := Lib.hid (HMX10.out.set2 (.slice A10 n10 c10))
    have HO11 := Lib.hid (HO10.out.six HMX10.out.cell (by decide) HMD.out)
    have HB11 := Lib.hid (HB10.out.trans (HMD.out.below (B := wc.heap.size) (fun k hk e => by have := HSY.out; omega) HB10.out.size))
    clear hY1 hY2
    go_upto_region 26 with fail
    generalize w10.setCell ⟨Y, 2, none⟩ (.slice A10 n10 c10) = w11 at HMX11 HO11 HB11 ⊢
    clear f2 y2
    have y0 := HMX11.out.c0
    have y1 := HMX11.out.c1
    have y2 := HMX11.out.c2
    have y3 := HMX11.out.c3
    have y4 := HMX11.out.c4
    have y5 := HMX11.out.c5
    have H3 := Lib.hid (first_ok w11 (.slice A1 m1 d1) (.slice A3 m3 d3) (.slice A10 n10 c10) lost nx 0 false (G ++ [(1, 0)]) (HO11.out.ev encP_len) (by have := HR.out.2; simp; omega))
    unfold mgA at H3
    rw [F3.out] at H3
    go_wp2_with fail
    refine H3.out.mono ?_
    rintro r w12 ⟨rfl, b12⟩
    have HB12 := Lib.hid (bstep HB11.out b12)
    clear y0 y1 y2 y3 y4 y5 H3 HB11 HMX11 HO11 b12
    go_wp2
    go_ret
    exact ⟨rfl, bstep HB.out HB12.out⟩
  · exact absurd h (rowW_not tr)
end Go.Proofs.YtalophngappkhaaGreatDoor
