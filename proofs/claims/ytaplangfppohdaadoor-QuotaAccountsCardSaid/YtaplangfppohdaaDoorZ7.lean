/- Contract of quota.look. -/
import Derived.Test.YtaplangfppohdaaDoorZ6
import Derived.Test.YtaplangfppohdaaDoorZ2
set_option linter.unusedVariables false
set_option linter.unusedSimpArgs false
set_option linter.unusedSectionVars false
namespace Go.Proofs.YtaplangfppohdaaDoor
open Go.RowKit Go.Shelf Go.Maps
attribute [local go_sem] Oper.semAt_some

set_option maxRecDepth 100000 in
set_option maxHeartbeats 3200000 in
theorem look_tail (W0' w4 : World) (B0 gl c1 g b D nh ne cl : Nat) (A1 Al : Option Addr) (lb : Array Value) (hs : List (Int × Int)) (l : List Ev) (J : (Nat → Prop) → List Rn → World → Prop) (X0 : Nat → Prop) (T : Int → Option Int) (Post : Ending → World → Prop) {u1 u4 u5 u6 u7 u8 u10 u11 u12 u13 u16 u17 u18 u19 u20 u21 u22 u23 u24 u25 u26 u27 u28 u29 u30 u31 u32 u33 u34 u35 u36 u37 u38 u39 u40 u41 u42 u43 u44 u45 u46 u47 u48 u49 u50 u51 u52 u53 u54 u55 u56 u57 u58 u59 u60 u61 u62 u63 u64 u65 u66 u67 u68 u69 u70 u71 u72 u73 u74 u75 u76 u77 u78 u79 u80 u81 u82 u83 u84 u85 u86 u87 u88 u89 u90 u91 u92 u93 u94 u95 u96 u97 u98 u99 u100 u101 u102 u103 u104 u105 u106 u107 u108 u109 u110 : Value}
    (HNE : Hid (ne = l.length)) (HL : Hid (EV encE 11 W0' (.slice Al l.length cl) l)) (HLL : Hid (l.length ≤ 1000000)) (HLH : Hid (nh ≤ 1000000)) (HLG : Hid (gl ≤ 100000)) (HU : Hid (UsesAt W0')) (HO : Hid (∀ e ∈ l, EvOk e)) (HB : Hid (W0'.heap.size = B0))
    (HR : Hid (RanC B0 gl W0' J g lb)) (NO : Hid (∀ w', lookL gl hs l = none → Below B0 W0' w' → Post (.returned (.bool false)) w')) (YES : Hid (∀ w' X o, lookL gl hs l = some o → J X o w' → Post (.returned (.bool true)) w'))
    (HBB : Hid (B0 ≤ b ∧ ¬ X0 b)) (HT : Hid (homesR gl hs = some T)) (HD : Hid (B0 ≤ D ∧ ¬ X0 D)) (HC1 : Hid (Clk w4 D (fun _ => 0))) (HJ1 : Hid (J X0 [] w4)) (HM1 : Hid (MpV Tryd.prog 3 w4 b nh (mapT T))) :
    Code.wp Tryd.prog (tailR Tryd.f38 12) (bodyPost Tryd.prog Tryd.f38 Post)
      ⟨#[.slice A1 gl c1, u1, .slice Al ne cl, .func (.func g) #[] lb, u4, u5, u6, u7, u8, .map (some b), u10, u11, u12, u13, .pointer (some ⟨D, 0, none⟩), .int .i64 0, u16, u17, u18, u19, u20, u21, u22, u23, u24, u25, u26, u27, u28, u29, u30, u31, u32, u33, u34, u35, u36, u37, u38, u39, u40, u41, u42, u43, u44, u45, u46, u47, u48, u49, u50, u51, u52, u53, u54, u55, u56, u57, u58, u59, u60, u61, u62, u63, u64, u65, u66, u67, u68, u69, u70, u71, u72, u73, u74, u75, u76, u77, u78, u79, u80, u81, u82, u83, u84, u85, u86, u87, u88, u89, u90, u91, u92, u93, u94, u95, u96, u97, u98, u99, u100, u101, u102, u103, u104, u105, u106, u107, u108, u109, u110], []⟩ w4 := by
  conv => arg 2; whnf
  conv => arg 4; dsimp only
  go_wp2
  go_loopg [15, 57] ne (fun k lst i wr => ∃ (j : Nat) (s : Lk) (X : Nat → Prop), j + k = ne ∧ lst = .int .i64 s.last ∧ i = .int .i64 j ∧ runO (stepL gl) (lk0 T) (l.take j) = some s ∧ MpV Tryd.prog 3 wr b (nh + j) (mapT s.T) ∧ Clk wr D s.clk ∧ J X s.out wr ∧ ¬ X b ∧ ¬ X D)
  case atStart => exact ⟨0, lk0 T, X0, by omega, rfl, rfl, rfl, HM1.out, HC1.out, HJ1.out, HBB.out.2, HD.out.2⟩
  case round =>
    clear HC1 HJ1 HM1
    obtain ⟨j, s, X, hj, rfl, rfl, hrun, hm, hcl, hjj, hxb, hxd⟩ := hrel
    have HJ := Lib.hid hj
    have HRUN := Lib.hid hrun
    have HJJ := Lib.hid hjj
    have HXB := Lib.hid (And.intro hxb hxd)
    have HCL := Lib.hid hcl
    have HM := Lib.hid hm
    have HBW := Lib.hid (HR.out.low _ _ _ hjj)
    have HLK := Lib.hid (show LkOk gl s from runO_inv (LkOk gl) (lk0_ok (homes_ok HT.out)) (fun s x s' hx hs hst => step_ok (HO.out x (List.mem_of_mem_take hx)) hs hst) hrun)
    clear hj hrun hjj hxb hxd hcl hm
    by_cases hlt : j < ne
    · have hev := HL.out.below (HB.out ▸ HBW.out)
      obtain ⟨bb, off, c', hsl, hcc, hrr⟩ := hev.row (by have := HNE.out; omega)
      cases hsl
      obtain ⟨e, hx⟩ : ∃ e, l[j]? = some e := ⟨_, List.getElem?_eq_getElem (by rw [← HNE.out]; exact hlt)⟩
      have HNX := Lib.hid (look_next (gl := gl) hx HRUN.out)
      have HEO := Lib.hid (HO.out e (List.mem_of_getElem? hx))
      obtain ⟨g0, g1, g2, g3, g4, g5, g6, g7, g8, g9, g10⟩ := hrr.ev hx
      clear hev hrr hcc hx
      have HEV := Lib.hid (evp_new wr e)
      have HDEAD := Lib.hid (fun (h : stepL gl s e = none) => look_none (hs := hs) HT.out (HNX.out.trans h))
      obtain ⟨E, hE⟩ : ∃ E, E = wr.heap.size := ⟨_, rfl⟩
      have HNM := Lib.hid (show nh + j < 1000000000 from by have := HJ.out; have := HLL.out; have := HLH.out; have := HNE.out; omega)
      have HA := Lib.hid (bel_alloc wr (.cells (ev0 e) 59))
      have HM1 := Lib.hid (HM.out.below HA.out)
      have HC1 := Lib.hid (HCL.out.same (Below.heap_alloc wr (.cells (ev0 e) 59) D HCL.out.lt))
      have HJ1 := Lib.hid (HR.out.stay _ _ _ (wr.alloc (.cells (ev0 e) 59)) (fun _ => False) HJJ.out (Mod.alloc _) (fun _ h => h.elim))
      have HB1 := Lib.hid (HR.out.low _ _ _ HJ1.out)
      have HXE := Lib.hid (show ¬ X wr.heap.size from fun h => by obtain ⟨_, ob, h2, _⟩ := HR.out.blk _ _ _ HJJ.out _ h; have := (Array.getElem?_eq_some_iff.1 h2).1; omega)
      have HBX := Lib.hid (show b < wr.heap.size ∧ D < wr.heap.size from ⟨HM.out.lt, HCL.out.lt⟩)
      clear HM HCL HJJ
      obtain ⟨eseq, etime, ecpu, ekind, etask, egrp, eto, ewt, eticks, emask, egot⟩ := e
      unfold ev0 at *
      dsimp only at *
      obtain ⟨e0, e1, e2, e3, e4, e5, e6, e7, e8, e9, e10⟩ := (And.intro HEV.out.c0 (And.intro HEV.out.c1 (And.intro HEV.out.c2 (And.intro HEV.out.c3 (And.intro HEV.out.c4 (And.intro HEV.out.c5 (And.intro HEV.out.c6 (And.intro HEV.out.c7 (And.intro HEV.out.c8 (And.intro HEV.out.c9 HEV.out.c10))))))))))
      dsimp only at e0 e1 e2 e3 e4 e5 e6 e7 e8 e9 e10
      rw [← hE] at e0 e1 e2 e3 e4 e5 e6 e7 e8 e9 e10 HBX HA HXE
      go_upto_region 15 with fail
      rw [← hE]
      clear hE HEV g0 g1 g2 g3 g4 g5 g6 g7 g8 g9 g10
      generalize wr.alloc (.cells #[.int .i64 eseq, .int .i64 etime, .int .u8 ecpu, .int .u8 ekind, .int .i64 etask, .int .i64 egrp, .int .i64 eto, .int .i64 ewt, .int .i64 eticks, .int .u64 emask, .int .i64 egot] 59) = wa at HA HM1 HC1 HJ1 HB1 e0 e1 e2 e3 e4 e5 e6 e7 e8 e9 e10 ⊢
      obtain ⟨c, rfl⟩ : ∃ c : Nat, ecpu = (c : Int) := ⟨ecpu.toNat, by have := HEO.out.cpu.1; dsimp only at this; omega⟩
      have HCK := Lib.hid (fun wz (h : Below wa.heap.size wa wz) => echeck_ok wz ⟨eseq, etime, (c : Int), ekind, etask, egrp, eto, ewt, eticks, emask, egot⟩ HEO.out (HU.out.low (HB1.out.trans (h.mono (HB.out ▸ HB1.out.size))) (by rw [HB.out]; exact Nat.le_refl _)))
      unfold evA at HCK
      dsimp only at HCK
      obtain ⟨ck, hck⟩ : ∃ ck, chkEv ⟨eseq, etime, (c : Int), ekind, etask, egrp, eto, ewt, eticks, emask, egot⟩ = ck := ⟨_, rfl⟩
      have HCV := Lib.hid hck
      rw [hck] at HCK
      clear hck
      by_cases h0 : ck = 0
      · subst h0
        have HF := Lib.hid (chk_facts HCV.out)
        have HC64 := Lib.hid (show c < 64 from by have := HF.out.2.2.1; dsimp only at this; omega)
        have i1 : (0 : Int) ≤ (c : Int) := by omega
        have i2 : (c : Int) < 64 := by have := HC64.out; omega
        have HTK := Lib.hid (show 0 ≤ eticks ∧ eticks ≤ 4294967295 from by
          by_cases hk : ekind = 5
          · have := chk_tick HCV.out hk; dsimp only at this; omega
          · have := chk_noticks HCV.out hk; dsimp only at this; omega)
        have HWR := Lib.hid (show IntKind.i64.wrap (etime - eticks) = etime - eticks from IntWalk.i64_in _ (by have := HTK.out; have := HF.out.2.1; dsimp only at this; omega))
        by_cases h1 : eseq ≤ s.last
        · have d1 : decide (eseq ≤ s.last) = true := by simp [h1]
          have HS := Lib.hid (fun (wz : World) (h : Below wa.heap.size wa wz) => show (fun wz => wz.cell? ⟨E, 0, none⟩ = some (.int .i64 eseq) ∧ wz.cell? ⟨E, 1, none⟩ = some (.int .i64 etime) ∧ wz.cell? ⟨E, 2, none⟩ = some (.int .u8 (c : Int)) ∧ wz.cell? ⟨E, 3, none⟩ = some (.int .u8 ekind) ∧ wz.cell? ⟨E, 4, none⟩ = some (.int .i64 etask) ∧ wz.cell? ⟨E, 5, none⟩ = some (.int .i64 egrp) ∧ wz.cell? ⟨E, 6, none⟩ = some (.int .i64 eto) ∧ wz.cell? ⟨E, 7, none⟩ = some (.int .i64 ewt) ∧ wz.cell? ⟨E, 8, none⟩ = some (.int .i64 eticks) ∧ wz.cell? ⟨E, 9, none⟩ = some (.int .u64 emask) ∧ wz.cell? ⟨E, 10, none⟩ = some (.int .i64 egot) ∧ Below wa.heap.size wa wz) wz from ⟨(below_cell h e0), (below_cell h e1), (below_cell h e2), (below_cell h e3), (below_cell h e4), (below_cell h e5), (below_cell h e6), (below_cell h e7), (below_cell h e8), (below_cell h e9), (below_cell h e10), h⟩)
          refine wp_region_held_drew (S := (fun wz => wz.cell? ⟨E, 0, none⟩ = some (.int .i64 eseq) ∧ wz.cell? ⟨E, 1, none⟩ = some (.int .i64 etime) ∧ wz.cell? ⟨E, 2, none⟩ = some (.int .u8 (c : Int)) ∧ wz.cell? ⟨E, 3, none⟩ = some (.int .u8 ekind) ∧ wz.cell? ⟨E, 4, none⟩ = some (.int .i64 etask) ∧ wz.cell? ⟨E, 5, none⟩ = some (.int .i64 egrp) ∧ wz.cell? ⟨E, 6, none⟩ = some (.int .i64 eto) ∧ wz.cell? ⟨E, 7, none⟩ = some (.int .i64 ewt) ∧ wz.cell? ⟨E, 8, none⟩ = some (.int .i64 eticks) ∧ wz.cell? ⟨E, 9, none⟩ = some (.int .u64 emask) ∧ wz.cell? ⟨E, 10, none⟩ = some (.int .i64 egot) ∧ Below wa.heap.size wa wz)) (by kernel_rfl) (HS.out _ (below_drew (Below.refl _ _))) (fun hh => ?_)
          refine wpAnyH_takeW (i := 0) (d := some 61) (v := ?_) (by kernel_rfl) (by kernel_rfl) (by kernel_rfl) (by kernel_rfl) (fun _ _ _ h => h) ?_ hh ?_
          rotate_left
          · (intro o ho w hSw; obtain rfl := Option.some.inj ho; clear ho; (try dsimp only at hSw ⊢); go_simp; (try with_reducible rfl))
          simp only [Act.put, List.setIfInBounds_toArray, List.set_cons_zero, List.set_cons_succ]
          refine wpAnyH_ready (rs := [1]) (by kernel_rfl) (by simp) (AllReadyH.cons rfl (fun K hK => ?_) AllReadyH.nil)
          go_simp
          refine (HCK.out _ (below_drew (Below.refl _ _))).mono ?_
          rintro r wz ⟨rfl, hbz⟩
          have HBZ := Lib.hid (below_drew (Below.refl wa.heap.size wa) |>.trans hbz)
          clear hbz
          refine hK.out _ _ (HS.out _ HBZ.out) (fun hh2 => ?_)
          clear hK K hh
          have hh := hh2
          clear hh2
          try simp only [Act.put, List.setIfInBounds_toArray, List.set_cons_zero, List.set_cons_succ]
          refine wpAnyH_takeW (i := 2) (d := some 63) (v := ?_) (by kernel_rfl) (by kernel_rfl) (by kernel_rfl) (by kernel_rfl) (fun _ _ _ h => h) ?_ hh ?_
          rotate_left
          · (intro o ho w hSw; obtain rfl := Option.some.inj ho; clear ho; (try dsimp only at hSw ⊢); go_simp; (try with_reducible rfl))
          simp only [Act.put, List.setIfInBounds_toArray, List.set_cons_zero, List.set_cons_succ]
          refine wpAnyH_takeW (i := 3) (d := some 64) (v := ?_) (by kernel_rfl) (by kernel_rfl) (by kernel_rfl) (by kernel_rfl) (fun _ _ _ h => h) ?_ hh ?_
          rotate_left
          · (intro o ho w hSw; obtain rfl := Option.some.inj ho; clear ho; (try dsimp only at hSw ⊢); go_simp; (try with_reducible rfl))
          simp only [Act.put, List.setIfInBounds_toArray, List.set_cons_zero, List.set_cons_succ]
          refine wpAnyH_takeW (i := 4) (d := some 65) (v := ?_) (by kernel_rfl) (by kernel_rfl) (by kernel_rfl) (by kernel_rfl) (fun _ _ _ h => h) ?_ hh ?_
          rotate_left
          · (intro o ho w hSw; obtain rfl := Option.some.inj ho; clear ho; (try dsimp only at hSw ⊢); go_simp; (try with_reducible rfl))
          simp only [Act.put, List.setIfInBounds_toArray, List.set_cons_zero, List.set_cons_succ]
          refine wpAnyH_takeW (i := 5) (d := some 66) (v := ?_) (by kernel_rfl) (by kernel_rfl) (by kernel_rfl) (by kernel_rfl) (fun _ _ _ h => h) ?_ hh ?_
          rotate_left
          · (intro o ho w hSw; obtain rfl := Option.some.inj ho; clear ho; (try dsimp only at hSw ⊢); go_simp; (try with_reducible rfl))
          simp only [Act.put, List.setIfInBounds_toArray, List.set_cons_zero, List.set_cons_succ]
          refine wpAnyH_takeW (i := 6) (d := some 67) (v := ?_) (by kernel_rfl) (by kernel_rfl) (by kernel_rfl) (by kernel_rfl) (fun _ _ _ h => h) ?_ hh ?_
          rotate_left
          · (intro o ho w hSw; obtain rfl := Option.some.inj ho; clear ho; (try dsimp only at hSw ⊢); go_simp; (try with_reducible rfl))
          simp only [Act.put, List.setIfInBounds_toArray, List.set_cons_zero, List.set_cons_succ]
          refine wpAnyH_takeW (i := 7) (d := some 68) (v := ?_) (by kernel_rfl) (by kernel_rfl) (by kernel_rfl) (by kernel_rfl) (fun _ _ _ h => h) ?_ hh ?_
          rotate_left
          · (intro o ho w hSw; obtain rfl := Option.some.inj ho; clear ho; (try dsimp only at hSw ⊢); go_simp; (try with_reducible rfl))
          simp only [Act.put, List.setIfInBounds_toArray, List.set_cons_zero, List.set_cons_succ]
          refine wpAnyH_takeW (i := 8) (d := some 69) (v := ?_) (by kernel_rfl) (by kernel_rfl) (by kernel_rfl) (by kernel_rfl) (fun _ _ _ h => h) ?_ hh ?_
          rotate_left
          · (intro o ho w hSw; obtain rfl := Option.some.inj ho; clear ho; (try dsimp only at hSw ⊢); go_simp; (try with_reducible rfl))
          simp only [Act.put, List.setIfInBounds_toArray, List.set_cons_zero, List.set_cons_succ]
          refine wpAnyH_takeW (i := 9) (d := some 70) (v := ?_) (by kernel_rfl) (by kernel_rfl) (by kernel_rfl) (by kernel_rfl) (fun _ _ _ h => h) ?_ hh ?_
          rotate_left
          · (intro o ho w hSw; obtain rfl := Option.some.inj ho; clear ho; (try dsimp only at hSw ⊢); go_simp; (try with_reducible rfl))
          simp only [Act.put, List.setIfInBounds_toArray, List.set_cons_zero, List.set_cons_succ]
          refine wpAnyH_takeU (i := 10) (d := some 71) (by kernel_rfl) (by kernel_rfl) (by kernel_rfl) (by kernel_rfl) (fun _ _ _ h => h) hh ?_
          simp only [Act.put, List.setIfInBounds_toArray, List.set_cons_zero, List.set_cons_succ]
          refine wpAnyH_takeU (i := 11) (d := some 72) (by kernel_rfl) (by kernel_rfl) (by kernel_rfl) (by kernel_rfl) (fun _ _ _ h => h) hh ?_
          simp only [Act.put, List.setIfInBounds_toArray, List.set_cons_zero, List.set_cons_succ]
          refine wpAnyH_takeU (i := 12) (d := some 73) (by kernel_rfl) (by kernel_rfl) (by kernel_rfl) (by kernel_rfl) (fun _ _ _ h => h) hh ?_
          simp only [Act.put, List.setIfInBounds_toArray, List.set_cons_zero, List.set_cons_succ]
          refine wpAnyH_takeU (i := 13) (d := some 74) (by kernel_rfl) (by kernel_rfl) (by kernel_rfl) (by kernel_rfl) (fun _ _ _ h => h) hh ?_
          simp only [Act.put, List.setIfInBounds_toArray, List.set_cons_zero, List.set_cons_succ]
          refine wpAnyH_takeU (i := 14) (d := some 75) (by kernel_rfl) (by kernel_rfl) (by kernel_rfl) (by kernel_rfl) (fun _ _ _ h => h) hh ?_
          simp only [Act.put, List.setIfInBounds_toArray, List.set_cons_zero, List.set_cons_succ]
          refine wpAnyH_takeU (i := 15) (d := some 76) (by kernel_rfl) (by kernel_rfl) (by kernel_rfl) (by kernel_rfl) (fun _ _ _ h => h) hh ?_
          simp only [Act.put, List.setIfInBounds_toArray, List.set_cons_zero, List.set_cons_succ]
          refine wpAnyH_takeU (i := 16) (d := some 77) (by kernel_rfl) (by kernel_rfl) (by kernel_rfl) (by kernel_rfl) (fun _ _ _ h => h) hh ?_
          simp only [Act.put, List.setIfInBounds_toArray, List.set_cons_zero, List.set_cons_succ]
          refine wpAnyH_takeU (i := 17) (d := some 78) (by kernel_rfl) (by kernel_rfl) (by kernel_rfl) (by kernel_rfl) (fun _ _ _ h => h) hh ?_
          simp only [Act.put, List.setIfInBounds_toArray, List.set_cons_zero, List.set_cons_succ]
          refine wpAnyH_takeU (i := 18) (d := some 79) (by kernel_rfl) (by kernel_rfl) (by kernel_rfl) (by kernel_rfl) (fun _ _ _ h => h) hh ?_
          simp only [Act.put, List.setIfInBounds_toArray, List.set_cons_zero, List.set_cons_succ]
          refine wpAnyH_takeU (i := 19) (d := some 80) (by kernel_rfl) (by kernel_rfl) (by kernel_rfl) (by kernel_rfl) (fun _ _ _ h => h) hh ?_
          simp only [Act.put, List.setIfInBounds_toArray, List.set_cons_zero, List.set_cons_succ]
          refine wpAnyH_takeW (i := 20) (d := some 81) (v := ?_) (by kernel_rfl) (by kernel_rfl) (by kernel_rfl) (by kernel_rfl) (fun _ _ _ h => h) ?_ hh ?_
          rotate_left
          · (intro o ho w hSw; obtain rfl := Option.some.inj ho; clear ho; (try dsimp only at hSw ⊢); go_simp; (try with_reducible rfl))
          simp only [Act.put, List.setIfInBounds_toArray, List.set_cons_zero, List.set_cons_succ]
          refine wpAnyH_done (by kernel_rfl) ?_ _
          clear hh HS
          have HDD := Lib.hid (HDEAD.out (step_bad (.inr (.inl h1))))
          clear d1 i1 i2
          go_wp2
          try go_ret
          exact NO.out _ HDD.out (HB1.out.trans (HBZ.out.mono (HB.out ▸ HB1.out.size)))
        · have HQ1 := Lib.hid h1
          have d1 : decide (eseq ≤ s.last) = false := by simp; omega
          clear h1
          by_cases h2 : etime - eticks < s.clk c
          · have d2 : decide (etime - eticks < s.clk c) = true := by simp [h2]
            have w1 := HWR.out
            have HS := Lib.hid (fun (wz : World) (h : Below wa.heap.size wa wz) => show (fun wz => wz.cell? ⟨E, 0, none⟩ = some (.int .i64 eseq) ∧ wz.cell? ⟨E, 1, none⟩ = some (.int .i64 etime) ∧ wz.cell? ⟨E, 2, none⟩ = some (.int .u8 (c : Int)) ∧ wz.cell? ⟨E, 3, none⟩ = some (.int .u8 ekind) ∧ wz.cell? ⟨E, 4, none⟩ = some (.int .i64 etask) ∧ wz.cell? ⟨E, 5, none⟩ = some (.int .i64 egrp) ∧ wz.cell? ⟨E, 6, none⟩ = some (.int .i64 eto) ∧ wz.cell? ⟨E, 7, none⟩ = some (.int .i64 ewt) ∧ wz.cell? ⟨E, 8, none⟩ = some (.int .i64 eticks) ∧ wz.cell? ⟨E, 9, none⟩ = some (.int .u64 emask) ∧ wz.cell? ⟨E, 10, none⟩ = some (.int .i64 egot) ∧ wz.cell? ⟨D, c, none⟩ = some (.int .i64 (s.clk c)) ∧ Below wa.heap.size wa wz) wz from ⟨(below_cell h e0), (below_cell h e1), (below_cell h e2), (below_cell h e3), (below_cell h e4), (below_cell h e5), (below_cell h e6), (below_cell h e7), (below_cell h e8), (below_cell h e9), (below_cell h e10), (below_cell h (HC1.out c HC64.out).1), h⟩)
            refine wp_region_held_drew (S := (fun wz => wz.cell? ⟨E, 0, none⟩ = some (.int .i64 eseq) ∧ wz.cell? ⟨E, 1, none⟩ = some (.int .i64 etime) ∧ wz.cell? ⟨E, 2, none⟩ = some (.int .u8 (c : Int)) ∧ wz.cell? ⟨E, 3, none⟩ = some (.int .u8 ekind) ∧ wz.cell? ⟨E, 4, none⟩ = some (.int .i64 etask) ∧ wz.cell? ⟨E, 5, none⟩ = some (.int .i64 egrp) ∧ wz.cell? ⟨E, 6, none⟩ = some (.int .i64 eto) ∧ wz.cell? ⟨E, 7, none⟩ = some (.int .i64 ewt) ∧ wz.cell? ⟨E, 8, none⟩ = some (.int .i64 eticks) ∧ wz.cell? ⟨E, 9, none⟩ = some (.int .u64 emask) ∧ wz.cell? ⟨E, 10, none⟩ = some (.int .i64 egot) ∧ wz.cell? ⟨D, c, none⟩ = some (.int .i64 (s.clk c)) ∧ Below wa.heap.size wa wz)) (by kernel_rfl) (HS.out _ (below_drew (Below.refl _ _))) (fun hh => ?_)
            refine wpAnyH_takeW (i := 0) (d := some 61) (v := ?_) (by kernel_rfl) (by kernel_rfl) (by kernel_rfl) (by kernel_rfl) (fun _ _ _ h => h) ?_ hh ?_
            rotate_left
            · (intro o ho w hSw; obtain rfl := Option.some.inj ho; clear ho; (try dsimp only at hSw ⊢); go_simp; (try with_reducible rfl))
            simp only [Act.put, List.setIfInBounds_toArray, List.set_cons_zero, List.set_cons_succ]
            refine wpAnyH_ready (rs := [1]) (by kernel_rfl) (by simp) (AllReadyH.cons rfl (fun K hK => ?_) AllReadyH.nil)
            go_simp
            refine (HCK.out _ (below_drew (Below.refl _ _))).mono ?_
            rintro r wz ⟨rfl, hbz⟩
            have HBZ := Lib.hid (below_drew (Below.refl wa.heap.size wa) |>.trans hbz)
            clear hbz
            refine hK.out _ _ (HS.out _ HBZ.out) (fun hh2 => ?_)
            clear hK K hh
            have hh := hh2
            clear hh2
            try simp only [Act.put, List.setIfInBounds_toArray, List.set_cons_zero, List.set_cons_succ]
            refine wpAnyH_takeW (i := 2) (d := some 63) (v := ?_) (by kernel_rfl) (by kernel_rfl) (by kernel_rfl) (by kernel_rfl) (fun _ _ _ h => h) ?_ hh ?_
            rotate_left
            · (intro o ho w hSw; obtain rfl := Option.some.inj ho; clear ho; (try dsimp only at hSw ⊢); go_simp; (try with_reducible rfl))
            simp only [Act.put, List.setIfInBounds_toArray, List.set_cons_zero, List.set_cons_succ]
            refine wpAnyH_takeW (i := 3) (d := some 64) (v := ?_) (by kernel_rfl) (by kernel_rfl) (by kernel_rfl) (by kernel_rfl) (fun _ _ _ h => h) ?_ hh ?_
            rotate_left
            · (intro o ho w hSw; obtain rfl := Option.some.inj ho; clear ho; (try dsimp only at hSw ⊢); go_simp; (try with_reducible rfl))
            simp only [Act.put, List.setIfInBounds_toArray, List.set_cons_zero, List.set_cons_succ]
            refine wpAnyH_takeW (i := 4) (d := some 65) (v := ?_) (by kernel_rfl) (by kernel_rfl) (by kernel_rfl) (by kernel_rfl) (fun _ _ _ h => h) ?_ hh ?_
            rotate_left
            · (intro o ho w hSw; obtain rfl := Option.some.inj ho; clear ho; (try dsimp only at hSw ⊢); go_simp; (try with_reducible rfl))
            simp only [Act.put, List.setIfInBounds_toArray, List.set_cons_zero, List.set_cons_succ]
            refine wpAnyH_takeW (i := 5) (d := some 66) (v := ?_) (by kernel_rfl) (by kernel_rfl) (by kernel_rfl) (by kernel_rfl) (fun _ _ _ h => h) ?_ hh ?_
            rotate_left
            · (intro o ho w hSw; obtain rfl := Option.some.inj ho; clear ho; (try dsimp only at hSw ⊢); go_simp; (try with_reducible rfl))
            simp only [Act.put, List.setIfInBounds_toArray, List.set_cons_zero, List.set_cons_succ]
            refine wpAnyH_takeW (i := 6) (d := some 67) (v := ?_) (by kernel_rfl) (by kernel_rfl) (by kernel_rfl) (by kernel_rfl) (fun _ _ _ h => h) ?_ hh ?_
            rotate_left
            · (intro o ho w hSw; obtain rfl := Option.some.inj ho; clear ho; (try dsimp only at hSw ⊢); go_simp; (try with_reducible rfl))
            simp only [Act.put, List.setIfInBounds_toArray, List.set_cons_zero, List.set_cons_succ]
            refine wpAnyH_takeW (i := 7) (d := some 68) (v := ?_) (by kernel_rfl) (by kernel_rfl) (by kernel_rfl) (by kernel_rfl) (fun _ _ _ h => h) ?_ hh ?_
            rotate_left
            · (intro o ho w hSw; obtain rfl := Option.some.inj ho; clear ho; (try dsimp only at hSw ⊢); go_simp; (try with_reducible rfl))
            simp only [Act.put, List.setIfInBounds_toArray, List.set_cons_zero, List.set_cons_succ]
            refine wpAnyH_takeW (i := 8) (d := some 69) (v := ?_) (by kernel_rfl) (by kernel_rfl) (by kernel_rfl) (by kernel_rfl) (fun _ _ _ h => h) ?_ hh ?_
            rotate_left
            · (intro o ho w hSw; obtain rfl := Option.some.inj ho; clear ho; (try dsimp only at hSw ⊢); go_simp; (try with_reducible rfl))
            simp only [Act.put, List.setIfInBounds_toArray, List.set_cons_zero, List.set_cons_succ]
            refine wpAnyH_takeW (i := 9) (d := some 70) (v := ?_) (by kernel_rfl) (by kernel_rfl) (by kernel_rfl) (by kernel_rfl) (fun _ _ _ h => h) ?_ hh ?_
            rotate_left
            · (intro o ho w hSw; obtain rfl := Option.some.inj ho; clear ho; (try dsimp only at hSw ⊢); go_simp; (try with_reducible rfl))
            simp only [Act.put, List.setIfInBounds_toArray, List.set_cons_zero, List.set_cons_succ]
            refine wpAnyH_takeW (i := 10) (d := some 71) (v := ?_) (by kernel_rfl) (by kernel_rfl) (by kernel_rfl) (by kernel_rfl) (fun _ _ _ h => h) ?_ hh ?_
            rotate_left
            · (intro o ho w hSw; obtain rfl := Option.some.inj ho; clear ho; (try dsimp only at hSw ⊢); go_simp; (try with_reducible rfl))
            simp only [Act.put, List.setIfInBounds_toArray, List.set_cons_zero, List.set_cons_succ]
            refine wpAnyH_takeW (i := 11) (d := some 72) (v := ?_) (by kernel_rfl) (by kernel_rfl) (by kernel_rfl) (by kernel_rfl) (fun _ _ _ h => h) ?_ hh ?_
            rotate_left
            · (intro o ho w hSw; obtain rfl := Option.some.inj ho; clear ho; (try dsimp only at hSw ⊢); go_simp; (try with_reducible rfl))
            simp only [Act.put, List.setIfInBounds_toArray, List.set_cons_zero, List.set_cons_succ]
            refine wpAnyH_takeW (i := 12) (d := some 73) (v := ?_) (by kernel_rfl) (by kernel_rfl) (by kernel_rfl) (by kernel_rfl) (fun _ _ _ h => h) ?_ hh ?_
            rotate_left
            · (intro o ho w hSw; obtain rfl := Option.some.inj ho; clear ho; (try dsimp only at hSw ⊢); go_simp; (try with_reducible rfl))
            simp only [Act.put, List.setIfInBounds_toArray, List.set_cons_zero, List.set_cons_succ]
            refine wpAnyH_takeW (i := 13) (d := some 74) (v := ?_) (by kernel_rfl) (by kernel_rfl) (by kernel_rfl) (by kernel_rfl) (fun _ _ _ h => h) ?_ hh ?_
            rotate_left
            · (intro o ho w hSw; obtain rfl := Option.some.inj ho; clear ho; (try dsimp only at hSw ⊢); go_simp; (try with_reducible rfl))
            simp only [Act.put, List.setIfInBounds_toArray, List.set_cons_zero, List.set_cons_succ]
            refine wpAnyH_takeW (i := 14) (d := some 75) (v := ?_) (by kernel_rfl) (by kernel_rfl) (by kernel_rfl) (by kernel_rfl) (fun _ _ _ h => h) ?_ hh ?_
            rotate_left
            · (intro o ho w hSw; obtain rfl := Option.some.inj ho; clear ho; (try dsimp only at hSw ⊢); go_simp; (try with_reducible rfl))
            simp only [Act.put, List.setIfInBounds_toArray, List.set_cons_zero, List.set_cons_succ]
            refine wpAnyH_takeW (i := 15) (d := some 76) (v := ?_) (by kernel_rfl) (by kernel_rfl) (by kernel_rfl) (by kernel_rfl) (fun _ _ _ h => h) ?_ hh ?_
            rotate_left
            · (intro o ho w hSw; obtain rfl := Option.some.inj ho; clear ho; (try dsimp only at hSw ⊢); go_simp; (try with_reducible rfl))
            simp only [Act.put, List.setIfInBounds_toArray, List.set_cons_zero, List.set_cons_succ]
            refine wpAnyH_takeW (i := 16) (d := some 77) (v := ?_) (by kernel_rfl) (by kernel_rfl) (by kernel_rfl) (by kernel_rfl) (fun _ _ _ h => h) ?_ hh ?_
            rotate_left
            · (intro o ho w hSw; obtain rfl := Option.some.inj ho; clear ho; (try dsimp only at hSw ⊢); go_simp; (try with_reducible rfl))
            simp only [Act.put, List.setIfInBounds_toArray, List.set_cons_zero, List.set_cons_succ]
            refine wpAnyH_takeW (i := 17) (d := some 78) (v := ?_) (by kernel_rfl) (by kernel_rfl) (by kernel_rfl) (by kernel_rfl) (fun _ _ _ h => h) ?_ hh ?_
            rotate_left
            · (intro o ho w hSw; obtain rfl := Option.some.inj ho; clear ho; (try dsimp only at hSw ⊢); go_simp; (try with_reducible rfl))
            simp only [Act.put, List.setIfInBounds_toArray, List.set_cons_zero, List.set_cons_succ]
            refine wpAnyH_takeW (i := 18) (d := some 79) (v := ?_) (by kernel_rfl) (by kernel_rfl) (by kernel_rfl) (by kernel_rfl) (fun _ _ _ h => h) ?_ hh ?_
            rotate_left
            · (intro o ho w hSw; obtain rfl := Option.some.inj ho; clear ho; (try dsimp only at hSw ⊢); go_simp; (try with_reducible rfl))
            simp only [Act.put, List.setIfInBounds_toArray, List.set_cons_zero, List.set_cons_succ]
            refine wpAnyH_takeW (i := 19) (d := some 80) (v := ?_) (by kernel_rfl) (by kernel_rfl) (by kernel_rfl) (by kernel_rfl) (fun _ _ _ h => h) ?_ hh ?_
            rotate_left
            · (intro o ho w hSw; obtain rfl := Option.some.inj ho; clear ho; (try dsimp only at hSw ⊢); go_simp; (try with_reducible rfl))
            simp only [Act.put, List.setIfInBounds_toArray, List.set_cons_zero, List.set_cons_succ]
            refine wpAnyH_takeW (i := 20) (d := some 81) (v := ?_) (by kernel_rfl) (by kernel_rfl) (by kernel_rfl) (by kernel_rfl) (fun _ _ _ h => h) ?_ hh ?_
            rotate_left
            · (intro o ho w hSw; obtain rfl := Option.some.inj ho; clear ho; (try dsimp only at hSw ⊢); go_simp; (try with_reducible rfl))
            simp only [Act.put, List.setIfInBounds_toArray, List.set_cons_zero, List.set_cons_succ]
            refine wpAnyH_done (by kernel_rfl) ?_ _
            clear hh HS
            have HDD := Lib.hid (HDEAD.out (step_bad (.inr (.inr h2))))
            clear d1 d2 w1 i1 i2
            go_wp2
            try go_ret
            exact NO.out _ HDD.out (HB1.out.trans (HBZ.out.mono (HB.out ▸ HB1.out.size)))
          · have d2 : decide (etime - eticks < s.clk c) = false := by simp; omega
            have HQ2 := Lib.hid h2
            clear h2
            have w1 := HWR.out
            have HS := Lib.hid (fun (wz : World) (h : Below wa.heap.size wa wz) => show (fun wz => wz.cell? ⟨E, 0, none⟩ = some (.int .i64 eseq) ∧ wz.cell? ⟨E, 1, none⟩ = some (.int .i64 etime) ∧ wz.cell? ⟨E, 2, none⟩ = some (.int .u8 (c : Int)) ∧ wz.cell? ⟨E, 3, none⟩ = some (.int .u8 ekind) ∧ wz.cell? ⟨E, 4, none⟩ = some (.int .i64 etask) ∧ wz.cell? ⟨E, 5, none⟩ = some (.int .i64 egrp) ∧ wz.cell? ⟨E, 6, none⟩ = some (.int .i64 eto) ∧ wz.cell? ⟨E, 7, none⟩ = some (.int .i64 ewt) ∧ wz.cell? ⟨E, 8, none⟩ = some (.int .i64 eticks) ∧ wz.cell? ⟨E, 9, none⟩ = some (.int .u64 emask) ∧ wz.cell? ⟨E, 10, none⟩ = some (.int .i64 egot) ∧ wz.cell? ⟨D, c, none⟩ = some (.int .i64 (s.clk c)) ∧ Below wa.heap.size wa wz) wz from ⟨(below_cell h e0), (below_cell h e1), (below_cell h e2), (below_cell h e3), (below_cell h e4), (below_cell h e5), (below_cell h e6), (below_cell h e7), (below_cell h e8), (below_cell h e9), (below_cell h e10), (below_cell h (HC1.out c HC64.out).1), h⟩)
            refine wp_region_held_drew (S := (fun wz => wz.cell? ⟨E, 0, none⟩ = some (.int .i64 eseq) ∧ wz.cell? ⟨E, 1, none⟩ = some (.int .i64 etime) ∧ wz.cell? ⟨E, 2, none⟩ = some (.int .u8 (c : Int)) ∧ wz.cell? ⟨E, 3, none⟩ = some (.int .u8 ekind) ∧ wz.cell? ⟨E, 4, none⟩ = some (.int .i64 etask) ∧ wz.cell? ⟨E, 5, none⟩ = some (.int .i64 egrp) ∧ wz.cell? ⟨E, 6, none⟩ = some (.int .i64 eto) ∧ wz.cell? ⟨E, 7, none⟩ = some (.int .i64 ewt) ∧ wz.cell? ⟨E, 8, none⟩ = some (.int .i64 eticks) ∧ wz.cell? ⟨E, 9, none⟩ = some (.int .u64 emask) ∧ wz.cell? ⟨E, 10, none⟩ = some (.int .i64 egot) ∧ wz.cell? ⟨D, c, none⟩ = some (.int .i64 (s.clk c)) ∧ Below wa.heap.size wa wz)) (by kernel_rfl) (HS.out _ (below_drew (Below.refl _ _))) (fun hh => ?_)
            refine wpAnyH_takeW (i := 0) (d := some 61) (v := ?_) (by kernel_rfl) (by kernel_rfl) (by kernel_rfl) (by kernel_rfl) (fun _ _ _ h => h) ?_ hh ?_
            rotate_left
            · (intro o ho w hSw; obtain rfl := Option.some.inj ho; clear ho; (try dsimp only at hSw ⊢); go_simp; (try with_reducible rfl))
            simp only [Act.put, List.setIfInBounds_toArray, List.set_cons_zero, List.set_cons_succ]
            refine wpAnyH_ready (rs := [1]) (by kernel_rfl) (by simp) (AllReadyH.cons rfl (fun K hK => ?_) AllReadyH.nil)
            go_simp
            refine (HCK.out _ (below_drew (Below.refl _ _))).mono ?_
            rintro r wz ⟨rfl, hbz⟩
            have HBZ := Lib.hid (below_drew (Below.refl wa.heap.size wa) |>.trans hbz)
            clear hbz
            refine hK.out _ _ (HS.out _ HBZ.out) (fun hh2 => ?_)
            clear hK K hh
            have hh := hh2
            clear hh2
            try simp only [Act.put, List.setIfInBounds_toArray, List.set_cons_zero, List.set_cons_succ]
            refine wpAnyH_takeW (i := 2) (d := some 63) (v := ?_) (by kernel_rfl) (by kernel_rfl) (by kernel_rfl) (by kernel_rfl) (fun _ _ _ h => h) ?_ hh ?_
            rotate_left
            · (intro o ho w hSw; obtain rfl := Option.some.inj ho; clear ho; (try dsimp only at hSw ⊢); go_simp; (try with_reducible rfl))
            simp only [Act.put, List.setIfInBounds_toArray, List.set_cons_zero, List.set_cons_succ]
            refine wpAnyH_takeW (i := 3) (d := some 64) (v := ?_) (by kernel_rfl) (by kernel_rfl) (by kernel_rfl) (by kernel_rfl) (fun _ _ _ h => h) ?_ hh ?_
            rotate_left
            · (intro o ho w hSw; obtain rfl := Option.some.inj ho; clear ho; (try dsimp only at hSw ⊢); go_simp; (try with_reducible rfl))
            simp only [Act.put, List.setIfInBounds_toArray, List.set_cons_zero, List.set_cons_succ]
            refine wpAnyH_takeW (i := 4) (d := some 65) (v := ?_) (by kernel_rfl) (by kernel_rfl) (by kernel_rfl) (by kernel_rfl) (fun _ _ _ h => h) ?_ hh ?_
            rotate_left
            · (intro o ho w hSw; obtain rfl := Option.some.inj ho; clear ho; (try dsimp only at hSw ⊢); go_simp; (try with_reducible rfl))
            simp only [Act.put, List.setIfInBounds_toArray, List.set_cons_zero, List.set_cons_succ]
            refine wpAnyH_takeW (i := 5) (d := some 66) (v := ?_) (by kernel_rfl) (by kernel_rfl) (by kernel_rfl) (by kernel_rfl) (fun _ _ _ h => h) ?_ hh ?_
            rotate_left
            · (intro o ho w hSw; obtain rfl := Option.some.inj ho; clear ho; (try dsimp only at hSw ⊢); go_simp; (try with_reducible rfl))
            simp only [Act.put, List.setIfInBounds_toArray, List.set_cons_zero, List.set_cons_succ]
            refine wpAnyH_takeW (i := 6) (d := some 67) (v := ?_) (by kernel_rfl) (by kernel_rfl) (by kernel_rfl) (by kernel_rfl) (fun _ _ _ h => h) ?_ hh ?_
            rotate_left
            · (intro o ho w hSw; obtain rfl := Option.some.inj ho; clear ho; (try dsimp only at hSw ⊢); go_simp; (try with_reducible rfl))
            simp only [Act.put, List.setIfInBounds_toArray, List.set_cons_zero, List.set_cons_succ]
            refine wpAnyH_takeW (i := 7) (d := some 68) (v := ?_) (by kernel_rfl) (by kernel_rfl) (by kernel_rfl) (by kernel_rfl) (fun _ _ _ h => h) ?_ hh ?_
            rotate_left
            · (intro o ho w hSw; obtain rfl := Option.some.inj ho; clear ho; (try dsimp only at hSw ⊢); go_simp; (try with_reducible rfl))
            simp only [Act.put, List.setIfInBounds_toArray, List.set_cons_zero, List.set_cons_succ]
            refine wpAnyH_takeW (i := 8) (d := some 69) (v := ?_) (by kernel_rfl) (by kernel_rfl) (by kernel_rfl) (by kernel_rfl) (fun _ _ _ h => h) ?_ hh ?_
            rotate_left
            · (intro o ho w hSw; obtain rfl := Option.some.inj ho; clear ho; (try dsimp only at hSw ⊢); go_simp; (try with_reducible rfl))
            simp only [Act.put, List.setIfInBounds_toArray, List.set_cons_zero, List.set_cons_succ]
            refine wpAnyH_takeW (i := 9) (d := some 70) (v := ?_) (by kernel_rfl) (by kernel_rfl) (by kernel_rfl) (by kernel_rfl) (fun _ _ _ h => h) ?_ hh ?_
            rotate_left
            · (intro o ho w hSw; obtain rfl := Option.some.inj ho; clear ho; (try dsimp only at hSw ⊢); go_simp; (try with_reducible rfl))
            simp only [Act.put, List.setIfInBounds_toArray, List.set_cons_zero, List.set_cons_succ]
            refine wpAnyH_takeW (i := 10) (d := some 71) (v := ?_) (by kernel_rfl) (by kernel_rfl) (by kernel_rfl) (by kernel_rfl) (fun _ _ _ h => h) ?_ hh ?_
            rotate_left
            · (intro o ho w hSw; obtain rfl := Option.some.inj ho; clear ho; (try dsimp only at hSw ⊢); go_simp; (try with_reducible rfl))
            simp only [Act.put, List.setIfInBounds_toArray, List.set_cons_zero, List.set_cons_succ]
            refine wpAnyH_takeW (i := 11) (d := some 72) (v := ?_) (by kernel_rfl) (by kernel_rfl) (by kernel_rfl) (by kernel_rfl) (fun _ _ _ h => h) ?_ hh ?_
            rotate_left
            · (intro o ho w hSw; obtain rfl := Option.some.inj ho; clear ho; (try dsimp only at hSw ⊢); go_simp; (try with_reducible rfl))
            simp only [Act.put, List.setIfInBounds_toArray, List.set_cons_zero, List.set_cons_succ]
            refine wpAnyH_takeW (i := 12) (d := some 73) (v := ?_) (by kernel_rfl) (by kernel_rfl) (by kernel_rfl) (by kernel_rfl) (fun _ _ _ h => h) ?_ hh ?_
            rotate_left
            · (intro o ho w hSw; obtain rfl := Option.some.inj ho; clear ho; (try dsimp only at hSw ⊢); go_simp; (try with_reducible rfl))
            simp only [Act.put, List.setIfInBounds_toArray, List.set_cons_zero, List.set_cons_succ]
            refine wpAnyH_takeW (i := 13) (d := some 74) (v := ?_) (by kernel_rfl) (by kernel_rfl) (by kernel_rfl) (by kernel_rfl) (fun _ _ _ h => h) ?_ hh ?_
            rotate_left
            · (intro o ho w hSw; obtain rfl := Option.some.inj ho; clear ho; (try dsimp only at hSw ⊢); go_simp; (try with_reducible rfl))
            simp only [Act.put, List.setIfInBounds_toArray, List.set_cons_zero, List.set_cons_succ]
            refine wpAnyH_takeW (i := 14) (d := some 75) (v := ?_) (by kernel_rfl) (by kernel_rfl) (by kernel_rfl) (by kernel_rfl) (fun _ _ _ h => h) ?_ hh ?_
            rotate_left
            · (intro o ho w hSw; obtain rfl := Option.some.inj ho; clear ho; (try dsimp only at hSw ⊢); go_simp; (try with_reducible rfl))
            simp only [Act.put, List.setIfInBounds_toArray, List.set_cons_zero, List.set_cons_succ]
            refine wpAnyH_takeW (i := 15) (d := some 76) (v := ?_) (by kernel_rfl) (by kernel_rfl) (by kernel_rfl) (by kernel_rfl) (fun _ _ _ h => h) ?_ hh ?_
            rotate_left
            · (intro o ho w hSw; obtain rfl := Option.some.inj ho; clear ho; (try dsimp only at hSw ⊢); go_simp; (try with_reducible rfl))
            simp only [Act.put, List.setIfInBounds_toArray, List.set_cons_zero, List.set_cons_succ]
            refine wpAnyH_takeW (i := 16) (d := some 77) (v := ?_) (by kernel_rfl) (by kernel_rfl) (by kernel_rfl) (by kernel_rfl) (fun _ _ _ h => h) ?_ hh ?_
            rotate_left
            · (intro o ho w hSw; obtain rfl := Option.some.inj ho; clear ho; (try dsimp only at hSw ⊢); go_simp; (try with_reducible rfl))
            simp only [Act.put, List.setIfInBounds_toArray, List.set_cons_zero, List.set_cons_succ]
            refine wpAnyH_takeW (i := 17) (d := some 78) (v := ?_) (by kernel_rfl) (by kernel_rfl) (by kernel_rfl) (by kernel_rfl) (fun _ _ _ h => h) ?_ hh ?_
            rotate_left
            · (intro o ho w hSw; obtain rfl := Option.some.inj ho; clear ho; (try dsimp only at hSw ⊢); go_simp; (try with_reducible rfl))
            simp only [Act.put, List.setIfInBounds_toArray, List.set_cons_zero, List.set_cons_succ]
            refine wpAnyH_takeW (i := 18) (d := some 79) (v := ?_) (by kernel_rfl) (by kernel_rfl) (by kernel_rfl) (by kernel_rfl) (fun _ _ _ h => h) ?_ hh ?_
            rotate_left
            · (intro o ho w hSw; obtain rfl := Option.some.inj ho; clear ho; (try dsimp only at hSw ⊢); go_simp; (try with_reducible rfl))
            simp only [Act.put, List.setIfInBounds_toArray, List.set_cons_zero, List.set_cons_succ]
            refine wpAnyH_takeW (i := 19) (d := some 80) (v := ?_) (by kernel_rfl) (by kernel_rfl) (by kernel_rfl) (by kernel_rfl) (fun _ _ _ h => h) ?_ hh ?_
            rotate_left
            · (intro o ho w hSw; obtain rfl := Option.some.inj ho; clear ho; (try dsimp only at hSw ⊢); go_simp; (try with_reducible rfl))
            simp only [Act.put, List.setIfInBounds_toArray, List.set_cons_zero, List.set_cons_succ]
            refine wpAnyH_takeW (i := 20) (d := some 81) (v := ?_) (by kernel_rfl) (by kernel_rfl) (by kernel_rfl) (by kernel_rfl) (fun _ _ _ h => h) ?_ hh ?_
            rotate_left
            · (intro o ho w hSw; obtain rfl := Option.some.inj ho; clear ho; (try dsimp only at hSw ⊢); go_simp; (try with_reducible rfl))
            simp only [Act.put, List.setIfInBounds_toArray, List.set_cons_zero, List.set_cons_succ]
            refine wpAnyH_done (by kernel_rfl) ?_ _
            clear hh HS
            clear d1 d2 w1 i1 i2
            have HM2 := Lib.hid (HM1.out.below HBZ.out)
            have HC2 := Lib.hid (HC1.out.same (HBZ.out.block D HC1.out.lt))
            have HJ2 := Lib.hid (HR.out.stay _ _ _ wz (fun _ => False) HJ1.out (Mod.of_below HBZ.out) (fun _ h => h.elim))
            have HB2 := Lib.hid (HR.out.low _ _ _ HJ2.out)
            replace e0 := below_cell HBZ.out e0
            replace e1 := below_cell HBZ.out e1
            replace e2 := below_cell HBZ.out e2
            replace e3 := below_cell HBZ.out e3
            replace e4 := below_cell HBZ.out e4
            replace e5 := below_cell HBZ.out e5
            replace e6 := below_cell HBZ.out e6
            replace e7 := below_cell HBZ.out e7
            replace e8 := below_cell HBZ.out e8
            replace e9 := below_cell HBZ.out e9
            replace e10 := below_cell HBZ.out e10
            have KG := Lib.hid (keyI HEO.out.got)
            have MG := Lib.hid (mapT_at s.T egot).1
            dsimp only at KG
            have DOES := Lib.hid (does_ok' wz b (nh + j) gl c1 A1 s.T ⟨eseq, etime, (c : Int), ekind, etask, egrp, eto, ewt, eticks, emask, egot⟩ HM2.out HNM.out HEO.out HLG.out)
            unfold evA DoesPost at DOES
            dsimp only at DOES
            clear HM1 HC1 HJ1 HB1 HBZ HCK
            go_wp2_with (at_lookup; refine wpList_lookV (k := 3) (e := 3) (z := .int .i64 0) rfl _ _ (by rfl) lawI Tryd.underlying148 (zeroI _) (by rfl) HM2.out _ _ (by rfl) KG.out ?_)
            rw [MG.out]
            refine DOES.out.mono ?_
            rintro r w6 ⟨rfl, hgr, hmm⟩
            cases hd : doesL gl s.T ⟨eseq, etime, (c : Int), ekind, etask, egrp, eto, ewt, eticks, emask, egot⟩ with
            | none =>
              have HDD := Lib.hid (HDEAD.out (step_dead hd))
              have HB6 := Lib.hid (HB2.out.grown hgr (HB.out ▸ HB2.out.size) (fun k hk => by cases hk; exact HBB.out.1))
              clear hd hgr hmm
              go_wp2
              try go_ret
              exact NO.out _ HDD.out HB6.out
            | some T' =>
              have HST := Lib.hid (step_good HCV.out (by have := HQ1.out; dsimp only; omega) (by have := HQ2.out; dsimp only; omega) hd)
              dsimp only at HST
              have HTI := Lib.hid (fun (hk : ekind = 5) (hg : 0 < egot) => does_tick (e := ⟨eseq, etime, (c : Int), ekind, etask, egrp, eto, ewt, eticks, emask, egot⟩) hk hg hd)
              have HRK := Lib.hid (ran_ok HEO.out HLK.out HCV.out (by have := HQ2.out; dsimp only; omega) hd)
              have HM6 := Lib.hid (hmm T' hd)
              have HC6 := Lib.hid (HC2.out.same (hgr.block D HC2.out.lt (fun h => by cases h; exact HC2.out.ne_map HM2.out rfl)))
              have HJ6 := Lib.hid (HR.out.stay _ _ _ w6 (fun k => k = b) HJ2.out (mod_grown hgr) (fun k h => by subst h; exact ⟨HBB.out.1, HXB.out.1⟩))
              have hEb : ∀ k u, wz.cell? ⟨E, k, none⟩ = some u → w6.cell? ⟨E, k, none⟩ = some u := fun k u h => (World.cell?_of_block (a := ⟨E, k, none⟩) (hgr.block E (cell_lt h) (fun h => by cases h; have := HBX.out.1; omega))).trans h
              replace e0 := hEb _ _ e0
              replace e1 := hEb _ _ e1
              replace e2 := hEb _ _ e2
              replace e3 := hEb _ _ e3
              replace e4 := hEb _ _ e4
              replace e5 := hEb _ _ e5
              replace e6 := hEb _ _ e6
              replace e7 := hEb _ _ e7
              replace e8 := hEb _ _ e8
              replace e9 := hEb _ _ e9
              replace e10 := hEb _ _ e10
              clear hEb hd hgr hmm HM2 HC2 HJ2 HB2 DOES
              by_cases hk : ekind = 5
              · by_cases hgt : 0 < egot
                · have HRO := Lib.hid (show ranOf s.T ⟨eseq, etime, (c : Int), ekind, etask, egrp, eto, ewt, eticks, emask, egot⟩ = [⟨(c : Int), etime, eticks, (s.T egot).getD 0⟩] from if_pos ⟨hk, hgt⟩)
                  have HS8 := Lib.hid (step_ok HEO.out HLK.out HST.out)
                  have HCALL := Lib.hid (HR.out.call X s.out w6 ⟨eseq, etime, (c : Int), ekind, etask, egrp, eto, ewt, eticks, emask, egot⟩ ((s.T egot).getD 0) HJ6.out HEO.out (by have h1 := run_len HRUN.out; have h2 : (l.take j).length ≤ j := List.length_take_le _ _; have h3 := HLL.out; have h4 := HNE.out; have h5 : (lk0 T).out.length = 0 := rfl; omega) (fun x hx => (HS8.out.each x (by dsimp only; rw [HRO.out]; exact hx)).1) (by have := HS8.out.apart; dsimp only at this; rw [HRO.out] at this; exact this))
                  unfold evA at HCALL
                  dsimp only at HCALL
                  have eg := HR.out.eg
                  subst hk
                  clear HTI HRK
                  go_wp2_with fail
                  refine HCALL.out.mono ?_
                  rintro r w7 ⟨⟨v, rfl⟩, X', hj7, hx7, hm7⟩
                  have hs6 := HC6.out.lt
                  have hb6 := HM6.out.lt
                  replace e0 := hm7.cell e0 HXE.out
                  replace e1 := hm7.cell e1 HXE.out
                  replace e2 := hm7.cell e2 HXE.out
                  have HM7 := Lib.hid (HM6.out.same (hm7.block b hb6 HXB.out.1))
                  have HC7 := Lib.hid (HC6.out.same (hm7.block D hs6 HXB.out.2))
                  have HJ7 := Lib.hid hj7
                  have HX7 := Lib.hid (show ¬ X' b ∧ ¬ X' D from ⟨fun h => by rcases hx7 b h with h | h; exact HXB.out.1 h; omega, fun h => by rcases hx7 D h with h | h; exact HXB.out.2 h; omega⟩)
                  clear hj7 hx7 hm7 hs6 hb6 eg HCALL HM6 HC6 HJ6 e3 e4 e5 e6 e7 e8 e9 e10
                  obtain ⟨q1, q2⟩ := HC7.out c HC64.out
                  have i1 : (0 : Int) ≤ (c : Int) := by omega
                  have i2 : (c : Int) < 64 := by have := HC64.out; omega
                  go_wp2_with fail
                  go_still_tail 8, (by kernel_rfl)
                  change wpList _ _ _ _ _ w7.drew
                  have q1 : w7.drew.cell? ⟨D, c, none⟩ = some (.int .i64 (s.clk c)) := q1
                  have q2 : w7.drew.frozen? ⟨D, c, none⟩ = false := q2
                  have HM8 := Lib.hid (HM7.out.below (below_drew (Below.refl _ _)))
                  have HC8 := Lib.hid (show Clk w7.drew D s.clk from HC7.out)
                  have HJ8 := Lib.hid (HR.out.stay _ _ _ w7.drew (fun _ => False) HJ7.out Mod.drew (fun _ h => h.elim))
                  generalize w7.drew = wd at q1 q2 HM8 HC8 HJ8 ⊢
                  have HM9 := Lib.hid (HM8.out.setCell (p := ⟨D, c, none⟩) (fun h => HC8.out.ne_map HM8.out h.symm) (.int .i64 etime))
                  have HC9 := Lib.hid (HC8.out.set HC64.out etime)
                  have HJ9 := Lib.hid (HR.out.stay _ _ _ (wd.setCell ⟨D, c, none⟩ (.int .i64 etime)) (fun k => k = D) HJ8.out (Mod.setCell _ rfl) (fun k h => by subst h; exact ⟨HD.out.1, HX7.out.2⟩))
                  clear HM8 HC8 HJ8
                  have hnl : ne ≤ 1000000 := by have := HLL.out; have := HNE.out; omega
                  go_wp2
                  go_roundg (gk - 1)
                  case measure => have := HJ.out; omega
                  case rel => exact ⟨j + 1, _, X', by have := HJ.out; omega, rfl, by go_num, HNX.out.trans HST.out, HM9.out, HC9.out, (by rw [HRO.out]; exact HJ9.out), HX7.out⟩
                · have hgt' : decide (0 < egot) = false := by simp; omega
                  have HRO := Lib.hid (show ranOf s.T ⟨eseq, etime, (c : Int), ekind, etask, egrp, eto, ewt, eticks, emask, egot⟩ = [] from if_neg (fun h => hgt h.2))
                  have HJ7 := Lib.hid (show J X (s.out ++ ranOf s.T ⟨eseq, etime, (c : Int), ekind, etask, egrp, eto, ewt, eticks, emask, egot⟩) w6 from by rw [HRO.out, List.append_nil]; exact HJ6.out)
                  subst hk
                  clear HTI HRK HJ6 e4 e5 e6 e7 e8 e9 hgt
                  obtain ⟨q1, q2⟩ := HC6.out c HC64.out
                  have i1 : (0 : Int) ≤ (c : Int) := by omega
                  have i2 : (c : Int) < 64 := by have := HC64.out; omega
                  go_wp2_with fail
                  go_still_tail 8, (by kernel_rfl)
                  change wpList _ _ _ _ _ w6.drew
                  have q1 : w6.drew.cell? ⟨D, c, none⟩ = some (.int .i64 (s.clk c)) := q1
                  have q2 : w6.drew.frozen? ⟨D, c, none⟩ = false := q2
                  have HM8 := Lib.hid (HM6.out.below (below_drew (Below.refl _ _)))
                  have HC8 := Lib.hid (show Clk w6.drew D s.clk from HC6.out)
                  have HJ8 := Lib.hid (HR.out.stay _ _ _ w6.drew (fun _ => False) HJ7.out Mod.drew (fun _ h => h.elim))
                  generalize w6.drew = wd at q1 q2 HM8 HC8 HJ8 ⊢
                  have HM9 := Lib.hid (HM8.out.setCell (p := ⟨D, c, none⟩) (fun h => HC8.out.ne_map HM8.out h.symm) (.int .i64 etime))
                  have HC9 := Lib.hid (HC8.out.set HC64.out etime)
                  have HJ9 := Lib.hid (HR.out.stay _ _ _ (wd.setCell ⟨D, c, none⟩ (.int .i64 etime)) (fun k => k = D) HJ8.out (Mod.setCell _ rfl) (fun k h => by subst h; exact ⟨HD.out.1, HXB.out.2⟩))
                  clear HM8 HC8 HJ8
                  have hnl : ne ≤ 1000000 := by have := HLL.out; have := HNE.out; omega
                  go_wp2
                  go_roundg (gk - 1)
                  case measure => have := HJ.out; omega
                  case rel => exact ⟨j + 1, _, X, by have := HJ.out; omega, rfl, by go_num, HNX.out.trans HST.out, HM9.out, HC9.out, HJ9.out, HXB.out⟩
              · have hk' : (ekind == 5) = false := by simp [hk]
                have HRO := Lib.hid (show ranOf s.T ⟨eseq, etime, (c : Int), ekind, etask, egrp, eto, ewt, eticks, emask, egot⟩ = [] from if_neg (fun h => hk h.1))
                have HJ7 := Lib.hid (show J X (s.out ++ ranOf s.T ⟨eseq, etime, (c : Int), ekind, etask, egrp, eto, ewt, eticks, emask, egot⟩) w6 from by rw [HRO.out, List.append_nil]; exact HJ6.out)
                clear HTI HRK HJ6 e4 e5 e6 e7 e8 e9 hk
                obtain ⟨q1, q2⟩ := HC6.out c HC64.out
                have i1 : (0 : Int) ≤ (c : Int) := by omega
                have i2 : (c : Int) < 64 := by have := HC64.out; omega
                go_wp2_with fail
                go_still_tail 8, (by kernel_rfl)
                change wpList _ _ _ _ _ w6.drew
                have q1 : w6.drew.cell? ⟨D, c, none⟩ = some (.int .i64 (s.clk c)) := q1
                have q2 : w6.drew.frozen? ⟨D, c, none⟩ = false := q2
                have HM8 := Lib.hid (HM6.out.below (below_drew (Below.refl _ _)))
                have HC8 := Lib.hid (show Clk w6.drew D s.clk from HC6.out)
                have HJ8 := Lib.hid (HR.out.stay _ _ _ w6.drew (fun _ => False) HJ7.out Mod.drew (fun _ h => h.elim))
                generalize w6.drew = wd at q1 q2 HM8 HC8 HJ8 ⊢
                have HM9 := Lib.hid (HM8.out.setCell (p := ⟨D, c, none⟩) (fun h => HC8.out.ne_map HM8.out h.symm) (.int .i64 etime))
                have HC9 := Lib.hid (HC8.out.set HC64.out etime)
                have HJ9 := Lib.hid (HR.out.stay _ _ _ (wd.setCell ⟨D, c, none⟩ (.int .i64 etime)) (fun k => k = D) HJ8.out (Mod.setCell _ rfl) (fun k h => by subst h; exact ⟨HD.out.1, HXB.out.2⟩))
                clear HM8 HC8 HJ8
                have hnl : ne ≤ 1000000 := by have := HLL.out; have := HNE.out; omega
                go_wp2
                go_roundg (gk - 1)
                case measure => have := HJ.out; omega
                case rel => exact ⟨j + 1, _, X, by have := HJ.out; omega, rfl, by go_num, HNX.out.trans HST.out, HM9.out, HC9.out, HJ9.out, HXB.out⟩
      · have d0 : (ck != 0) = true := by simp [h0]
        have d0' : decide (ck = 0) = false := by simp [h0]
        have HN0 := Lib.hid h0
        clear h0
        have HS := Lib.hid (fun (wz : World) (h : Below wa.heap.size wa wz) => show (fun wz => wz.cell? ⟨E, 0, none⟩ = some (.int .i64 eseq) ∧ wz.cell? ⟨E, 1, none⟩ = some (.int .i64 etime) ∧ wz.cell? ⟨E, 2, none⟩ = some (.int .u8 (c : Int)) ∧ wz.cell? ⟨E, 3, none⟩ = some (.int .u8 ekind) ∧ wz.cell? ⟨E, 4, none⟩ = some (.int .i64 etask) ∧ wz.cell? ⟨E, 5, none⟩ = some (.int .i64 egrp) ∧ wz.cell? ⟨E, 6, none⟩ = some (.int .i64 eto) ∧ wz.cell? ⟨E, 7, none⟩ = some (.int .i64 ewt) ∧ wz.cell? ⟨E, 8, none⟩ = some (.int .i64 eticks) ∧ wz.cell? ⟨E, 9, none⟩ = some (.int .u64 emask) ∧ wz.cell? ⟨E, 10, none⟩ = some (.int .i64 egot) ∧ Below wa.heap.size wa wz) wz from ⟨(below_cell h e0), (below_cell h e1), (below_cell h e2), (below_cell h e3), (below_cell h e4), (below_cell h e5), (below_cell h e6), (below_cell h e7), (below_cell h e8), (below_cell h e9), (below_cell h e10), h⟩)
        refine wp_region_held_drew (S := (fun wz => wz.cell? ⟨E, 0, none⟩ = some (.int .i64 eseq) ∧ wz.cell? ⟨E, 1, none⟩ = some (.int .i64 etime) ∧ wz.cell? ⟨E, 2, none⟩ = some (.int .u8 (c : Int)) ∧ wz.cell? ⟨E, 3, none⟩ = some (.int .u8 ekind) ∧ wz.cell? ⟨E, 4, none⟩ = some (.int .i64 etask) ∧ wz.cell? ⟨E, 5, none⟩ = some (.int .i64 egrp) ∧ wz.cell? ⟨E, 6, none⟩ = some (.int .i64 eto) ∧ wz.cell? ⟨E, 7, none⟩ = some (.int .i64 ewt) ∧ wz.cell? ⟨E, 8, none⟩ = some (.int .i64 eticks) ∧ wz.cell? ⟨E, 9, none⟩ = some (.int .u64 emask) ∧ wz.cell? ⟨E, 10, none⟩ = some (.int .i64 egot) ∧ Below wa.heap.size wa wz)) (by kernel_rfl) (HS.out _ (below_drew (Below.refl _ _))) (fun hh => ?_)
        refine wpAnyH_takeW (i := 0) (d := some 61) (v := ?_) (by kernel_rfl) (by kernel_rfl) (by kernel_rfl) (by kernel_rfl) (fun _ _ _ h => h) ?_ hh ?_
        rotate_left
        · (intro o ho w hSw; obtain rfl := Option.some.inj ho; clear ho; (try dsimp only at hSw ⊢); go_simp; (try with_reducible rfl))
        simp only [Act.put, List.setIfInBounds_toArray, List.set_cons_zero, List.set_cons_succ]
        refine wpAnyH_ready (rs := [1]) (by kernel_rfl) (by simp) (AllReadyH.cons rfl (fun K hK => ?_) AllReadyH.nil)
        go_simp
        refine (HCK.out _ (below_drew (Below.refl _ _))).mono ?_
        rintro r wz ⟨rfl, hbz⟩
        have HBZ := Lib.hid (below_drew (Below.refl wa.heap.size wa) |>.trans hbz)
        clear hbz
        refine hK.out _ _ (HS.out _ HBZ.out) (fun hh2 => ?_)
        clear hK K hh
        have hh := hh2
        clear hh2
        try simp only [Act.put, List.setIfInBounds_toArray, List.set_cons_zero, List.set_cons_succ]
        refine wpAnyH_takeW (i := 2) (d := some 63) (v := ?_) (by kernel_rfl) (by kernel_rfl) (by kernel_rfl) (by kernel_rfl) (fun _ _ _ h => h) ?_ hh ?_
        rotate_left
        · (intro o ho w hSw; obtain rfl := Option.some.inj ho; clear ho; (try dsimp only at hSw ⊢); go_simp; (try with_reducible rfl))
        simp only [Act.put, List.setIfInBounds_toArray, List.set_cons_zero, List.set_cons_succ]
        refine wpAnyH_takeW (i := 3) (d := some 64) (v := ?_) (by kernel_rfl) (by kernel_rfl) (by kernel_rfl) (by kernel_rfl) (fun _ _ _ h => h) ?_ hh ?_
        rotate_left
        · (intro o ho w hSw; obtain rfl := Option.some.inj ho; clear ho; (try dsimp only at hSw ⊢); go_simp; (try with_reducible rfl))
        simp only [Act.put, List.setIfInBounds_toArray, List.set_cons_zero, List.set_cons_succ]
        refine wpAnyH_takeU (i := 4) (d := some 65) (by kernel_rfl) (by kernel_rfl) (by kernel_rfl) (by kernel_rfl) (fun _ _ _ h => h) hh ?_
        simp only [Act.put, List.setIfInBounds_toArray, List.set_cons_zero, List.set_cons_succ]
        refine wpAnyH_takeU (i := 5) (d := some 66) (by kernel_rfl) (by kernel_rfl) (by kernel_rfl) (by kernel_rfl) (fun _ _ _ h => h) hh ?_
        simp only [Act.put, List.setIfInBounds_toArray, List.set_cons_zero, List.set_cons_succ]
        refine wpAnyH_takeU (i := 6) (d := some 67) (by kernel_rfl) (by kernel_rfl) (by kernel_rfl) (by kernel_rfl) (fun _ _ _ h => h) hh ?_
        simp only [Act.put, List.setIfInBounds_toArray, List.set_cons_zero, List.set_cons_succ]
        refine wpAnyH_takeU (i := 7) (d := some 68) (by kernel_rfl) (by kernel_rfl) (by kernel_rfl) (by kernel_rfl) (fun _ _ _ h => h) hh ?_
        simp only [Act.put, List.setIfInBounds_toArray, List.set_cons_zero, List.set_cons_succ]
        refine wpAnyH_takeW (i := 8) (d := some 69) (v := ?_) (by kernel_rfl) (by kernel_rfl) (by kernel_rfl) (by kernel_rfl) (fun _ _ _ h => h) ?_ hh ?_
        rotate_left
        · (intro o ho w hSw; obtain rfl := Option.some.inj ho; clear ho; (try dsimp only at hSw ⊢); go_simp; (try with_reducible rfl))
        simp only [Act.put, List.setIfInBounds_toArray, List.set_cons_zero, List.set_cons_succ]
        refine wpAnyH_takeW (i := 9) (d := some 70) (v := ?_) (by kernel_rfl) (by kernel_rfl) (by kernel_rfl) (by kernel_rfl) (fun _ _ _ h => h) ?_ hh ?_
        rotate_left
        · (intro o ho w hSw; obtain rfl := Option.some.inj ho; clear ho; (try dsimp only at hSw ⊢); go_simp; (try with_reducible rfl))
        simp only [Act.put, List.setIfInBounds_toArray, List.set_cons_zero, List.set_cons_succ]
        refine wpAnyH_takeU (i := 10) (d := some 71) (by kernel_rfl) (by kernel_rfl) (by kernel_rfl) (by kernel_rfl) (fun _ _ _ h => h) hh ?_
        simp only [Act.put, List.setIfInBounds_toArray, List.set_cons_zero, List.set_cons_succ]
        refine wpAnyH_takeU (i := 11) (d := some 72) (by kernel_rfl) (by kernel_rfl) (by kernel_rfl) (by kernel_rfl) (fun _ _ _ h => h) hh ?_
        simp only [Act.put, List.setIfInBounds_toArray, List.set_cons_zero, List.set_cons_succ]
        refine wpAnyH_takeU (i := 12) (d := some 73) (by kernel_rfl) (by kernel_rfl) (by kernel_rfl) (by kernel_rfl) (fun _ _ _ h => h) hh ?_
        simp only [Act.put, List.setIfInBounds_toArray, List.set_cons_zero, List.set_cons_succ]
        refine wpAnyH_takeU (i := 13) (d := some 74) (by kernel_rfl) (by kernel_rfl) (by kernel_rfl) (by kernel_rfl) (fun _ _ _ h => h) hh ?_
        simp only [Act.put, List.setIfInBounds_toArray, List.set_cons_zero, List.set_cons_succ]
        refine wpAnyH_takeU (i := 14) (d := some 75) (by kernel_rfl) (by kernel_rfl) (by kernel_rfl) (by kernel_rfl) (fun _ _ _ h => h) hh ?_
        simp only [Act.put, List.setIfInBounds_toArray, List.set_cons_zero, List.set_cons_succ]
        refine wpAnyH_takeU (i := 15) (d := some 76) (by kernel_rfl) (by kernel_rfl) (by kernel_rfl) (by kernel_rfl) (fun _ _ _ h => h) hh ?_
        simp only [Act.put, List.setIfInBounds_toArray, List.set_cons_zero, List.set_cons_succ]
        refine wpAnyH_takeU (i := 16) (d := some 77) (by kernel_rfl) (by kernel_rfl) (by kernel_rfl) (by kernel_rfl) (fun _ _ _ h => h) hh ?_
        simp only [Act.put, List.setIfInBounds_toArray, List.set_cons_zero, List.set_cons_succ]
        refine wpAnyH_takeU (i := 17) (d := some 78) (by kernel_rfl) (by kernel_rfl) (by kernel_rfl) (by kernel_rfl) (fun _ _ _ h => h) hh ?_
        simp only [Act.put, List.setIfInBounds_toArray, List.set_cons_zero, List.set_cons_succ]
        refine wpAnyH_takeU (i := 18) (d := some 79) (by kernel_rfl) (by kernel_rfl) (by kernel_rfl) (by kernel_rfl) (fun _ _ _ h => h) hh ?_
        simp only [Act.put, List.setIfInBounds_toArray, List.set_cons_zero, List.set_cons_succ]
        refine wpAnyH_takeU (i := 19) (d := some 80) (by kernel_rfl) (by kernel_rfl) (by kernel_rfl) (by kernel_rfl) (fun _ _ _ h => h) hh ?_
        simp only [Act.put, List.setIfInBounds_toArray, List.set_cons_zero, List.set_cons_succ]
        refine wpAnyH_takeW (i := 20) (d := some 81) (v := ?_) (by kernel_rfl) (by kernel_rfl) (by kernel_rfl) (by kernel_rfl) (fun _ _ _ h => h) ?_ hh ?_
        rotate_left
        · (intro o ho w hSw; obtain rfl := Option.some.inj ho; clear ho; (try dsimp only at hSw ⊢); go_simp; (try with_reducible rfl))
        simp only [Act.put, List.setIfInBounds_toArray, List.set_cons_zero, List.set_cons_succ]
        refine wpAnyH_done (by kernel_rfl) ?_ _
        clear hh HS
        have HDD := Lib.hid (HDEAD.out (step_bad (.inl (by rw [HCV.out]; exact HN0.out))))
        clear d0 d0'
        go_wp2
        try go_ret
        exact NO.out _ HDD.out (HB1.out.trans (HBZ.out.mono (HB.out ▸ HB1.out.size)))
    · obtain rfl : ne = j := by have := HJ.out; omega
      have HLO := Lib.hid (show lookL gl hs l = some s.out from by
        have := HRUN.out
        rw [HNE.out, List.take_of_length_le (Nat.le_refl _)] at this
        unfold lookL
        rw [HT.out, Option.bind_some, this]; rfl)
      clear hlt
      go_wp2
      try go_ret
      exact YES.out _ _ _ HLO.out HJJ.out
end Go.Proofs.YtaplangfppohdaaDoor
