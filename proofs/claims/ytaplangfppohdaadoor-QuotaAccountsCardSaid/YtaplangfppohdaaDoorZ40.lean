/- The reference of layer 28: Account, its last loop | The reference of layer 28: Account; Over. -/
import Derived.Test.YtaplangfppohdaaDoorZ39
set_option linter.unusedVariables false
set_option linter.unusedSimpArgs false
set_option linter.unusedSectionVars false
namespace Go.Proofs.YtaplangfppohdaaDoor
open Go.RowKit Go.Shelf
attribute [local go_sem] Oper.semAt_some

theorem elemRU : ElemT Tryd.prog 125 128 5 40 := ⟨Tryd.underlying125, by
  have h : (Tryd.prog.info? 128).map (fun i => (i.zero, i.size, i.bytes)) = some (some (.agg #[.int .i64 0, .int .i64 0, .int .i64 0, .int .i64 0, .int .i64 0]), 5, 40) := by kernel_rfl
  obtain ⟨i, h1, h2, h3, h4⟩ := info_parts h
  exact ⟨i, _, h1, h2, h3, h4, rfl⟩, by omega, by omega⟩
theorem new_ruseM {W : World} {u : Us} {m : Nat} (hm : W.heap.size = m) : EV encUs 5 (W.alloc (.cells #[.int .i64 u.r, .int .i64 u.c, .int .i64 u.p, .int .i64 u.t, .int .i64 u.d] 128)) (.slice (some ⟨m, 0, none⟩) 1 1) [u] := by subst hm; exact EV.new1 rfl (Nat.le_refl _)
set_option maxRecDepth 100000 in
set_option maxHeartbeats 6400000 in
theorem racc_t18 (w5 : World) (G cg R cr no co : Nat) (Ag Ar Ao : Option Addr) (gs : List (Int × Int)) (rs : List Ru) (o : List Rn) (Post : Ending → World → Prop) {u2 u3 u4 u5 u6 u7 u8 u9 u10 u11 u13 u14 u15 u16 u17 u18 u19 u20 u21 u22 u23 u24 u25 u26 u27 u28 u29 u30 u31 u32 u33 u34 u35 u36 u37 u38 u39 u40 u41 u42 u43 u44 u45 u46 u47 u48 u49 u50 u51 u52 u53 u54 u55 u56 u57 u58 u59 u60 u61 u62 u63 u64 u65 u66 u67 u68 u69 u70 u71 u72 u73 u74 u75 u76 u77 u78 u79 u80 u81 u82 u83 u84 u85 u86 u87 u88 u89 u90 u91 u92 u93 u94 u95 u96 u97 u98 u99 u100 u101 u102 u103 u104 u105 u106 u107 u108 u109 u110 u111 u112 u113 u114 u115 u116 u117 u118 u119 u120 u121 u122 u123 u124 u125 u126 u127 u128 u129 u130 u131 u132 u133 u134 u135 u136 : Value}
    (HG : Hid (EV encG 2 w5 (.slice Ag G cg) gs ∧ gs.length = G ∧ G ≤ 100000)) (HR : Hid (EV encRu 3 w5 (.slice Ar R cr) rs ∧ rs.length = R ∧ R ≤ 100 ∧ ∀ i, i < rs.length → RuOk G (ruAt rs i)))
    (HO : Hid (EV encRn 4 w5 (.slice Ao no co) o ∧ o.length = no ∧ no ≤ 1000000 ∧ (∀ t ∈ o, RnOk G t) ∧ Apart o)) (HS : Hid (allN gs rs o ≤ 65536))
    (FIN : Hid (∀ v w', OV encUs 5 128 w5.heap.size w' v (usesL gs rs o) → Below w5.heap.size w5 w' → Post (.returned (.tuple #[v, .int .i64 0])) w')) :
    Code.wp Tryd.prog (tailR Tryd.f55 18) (bodyPost Tryd.prog Tryd.f55 Post)
      ⟨#[.slice Ag G cg, .slice Ar R cr, u2, u3, u4, u5, u6, u7, u8, u9, u10, u11, .slice Ao no co, u13, u14, u15, u16, u17, u18, u19, u20, u21, u22, u23, u24, u25, u26, u27, u28, u29, u30, u31, u32, u33, u34, u35, u36, u37, u38, u39, u40, u41, u42, u43, u44, u45, u46, u47, u48, u49, u50, u51, u52, u53, u54, u55, u56, u57, u58, u59, u60, u61, u62, u63, u64, u65, u66, u67, u68, u69, u70, u71, u72, u73, u74, u75, u76, u77, u78, u79, u80, u81, u82, u83, u84, u85, u86, u87, u88, u89, u90, u91, u92, u93, u94, u95, u96, u97, u98, u99, u100, u101, u102, u103, u104, u105, u106, u107, u108, u109, u110, u111, u112, u113, u114, u115, u116, u117, u118, u119, u120, u121, u122, u123, u124, u125, u126, u127, u128, u129, u130, u131, u132, u133, u134, u135, u136], []⟩ w5 := by
  conv => arg 2; whnf
  conv => arg 4; dsimp only
  have hR := HR.out.2.2.1
  go_wp2
  go_loopg [17, 18, 19, 20, 21, 22] R (fun k v i _ _ _ _ wr => ∃ j : Nat, j + k = R ∧ i = .int .i64 j ∧ OV encUs 5 128 w5.heap.size wr v (usesI gs rs o j) ∧ Below w5.heap.size w5 wr)
  case atStart => exact ⟨0, by omega, rfl, OV.nil _ _, Below.refl _ _⟩
  case round =>
    obtain ⟨j, hj, rfl, hov, hb⟩ := hrel
    have HJ := Lib.hid hj
    have HOV := Lib.hid hov
    have HB := Lib.hid hb
    clear hj hov hb
    by_cases hlt : j < R
    · have hjr : j < rs.length := by rw [HR.out.2.1]; exact hlt
      have HRJ := Lib.hid (HR.out.2.2.2 j hjr)
      have HS1 := Lib.hid (Nat.le_trans (allN_one (gs := gs) (o := o) hjr) HS.out)
      have HIL := Lib.hid (show (usesI gs rs o j).length ≤ 500000000 from by
        have h1 := usesI_len HS.out j (by omega)
        have : j * (64 * 65536) ≤ 100 * (64 * 65536) := Nat.mul_le_mul_right _ (by omega)
        omega)
      have HIS := Lib.hid (usesI_succ (gs := gs) (rs := rs) (o := o) j)
      have HCL := Lib.hid (fun c => usesC_len (gs := gs) (rs := rs) (o := o) j HS1.out c)
      have HCZ := Lib.hid (fun c => usesC_succ (gs := gs) (rs := rs) (o := o) j c)
      have HRW := Lib.hid (show ∀ W : World, Below w5.heap.size w5 W → ∃ b off c, (Value.slice Ar R cr) = .slice (some ⟨b, off, none⟩) R c ∧ R ≤ c ∧ W.cell? ⟨b, off + j * 3, none⟩ = some (.int .i64 (ruAt rs j).g) ∧ W.cell? ⟨b, off + j * 3 + 1, none⟩ = some (.int .i64 (ruAt rs j).p) ∧ W.cell? ⟨b, off + j * 3 + 2, none⟩ = some (.int .i64 (ruAt rs j).l) from fun W hW => by
        obtain ⟨b, off, c, h1, h2, h3⟩ := (HR.out.1.below hW).row (by rw [HR.out.2.1]; omega)
        rw [HR.out.2.1] at h1 h2
        obtain ⟨r0, r1, r2⟩ := h3.ru hjr
        exact ⟨b, off, c, h1, h2, r0, r1, r2⟩)
      obtain ⟨br, fr, cr', hs1, hcr, _, _, _⟩ := HRW.out wr HB.out
      simp only [Value.slice.injEq, true_and] at hs1
      obtain ⟨rfl, rfl⟩ := hs1
      replace HRW := Lib.hid (show ∀ W : World, Below w5.heap.size w5 W → W.cell? ⟨br, fr + j * 3, none⟩ = some (.int .i64 (ruAt rs j).g) ∧ W.cell? ⟨br, fr + j * 3 + 1, none⟩ = some (.int .i64 (ruAt rs j).p) ∧ W.cell? ⟨br, fr + j * 3 + 2, none⟩ = some (.int .i64 (ruAt rs j).l) from fun W hW => by
        obtain ⟨b, off, c, h1, h2, h3⟩ := HRW.out W hW
        simp only [Value.slice.injEq, Option.some.injEq, Addr.mk.injEq, true_and, and_true] at h1
        obtain ⟨⟨rfl, rfl⟩, _⟩ := h1
        exact h3)
      have HUSE := Lib.hid (fun (W : World) (hW : Below w5.heap.size w5 W) (c : Nat) (hc : c < 64) => use_ok W (.slice Ag G cg) (.slice Ao no co) gs (ruAt rs j) c o (HG.out.1.below hW) (HO.out.1.below hW) (by have := HG.out; omega) (by have := HO.out; omega) (by have := HRJ.out; rw [← HG.out.2.1] at this; exact this) hc (by have := HO.out.2.2.2.1; rw [← HG.out.2.1] at this; exact this) HO.out.2.2.2.2 HS1.out)
      have HPO := Lib.hid (show ∀ c : Nat, PartsOk (usedAt gs (ruAt rs j) c o) ∧ (usedAt gs (ruAt rs j) c o).length ≤ 65536 from fun c => by
        refine ⟨?_, Nat.le_trans (used_len1 o) HS1.out⟩
        have hr := HRJ.out
        unfold RuOk at hr
        exact acc_partsOk' (p := (ruAt rs j).p.toNat) (by omega) (by omega) (used_acc (n := G) (by omega) o HO.out.2.2.2.1 HO.out.2.2.2.2 _ (by omega) (fun t ht _ => by have := HO.out.2.2.2.1 t ht; unfold RnOk at this; omega)))
      have HLI := Lib.hid (show LimOk (ruAt rs j).l from by have hr := HRJ.out; unfold RuOk at hr; unfold LimOk; omega)
      generalize ruAt rs j = r at HRW HUSE HPO HLI HCZ HRJ
      obtain ⟨rg, rp, rl⟩ := r
      dsimp only at HRW HUSE HLI HCZ
      generalize usesI gs rs o j = UI at HOV HIL HIS
      go_upto_block 6 with fail
      go_wp2
      go_loopg [17, 19, 20, 21, 22] 64 (fun k v i _ _ _ wr => ∃ c : Nat, c + k = 64 ∧ i = .int .i64 c ∧ OV encUs 5 128 w5.heap.size wr v (UI ++ usesC gs rs o j c) ∧ Below w5.heap.size w5 wr)
      case atStart => exact ⟨0, by omega, rfl, by rw [show usesC gs rs o j 0 = [] from rfl, List.append_nil]; exact HOV.out, HB.out⟩
      case round =>
        obtain ⟨c, hc, rfl, hov, hb⟩ := hrel
        have HC := Lib.hid hc
        have HOVc := Lib.hid hov
        have HBc := Lib.hid hb
        clear hc hov hb HOV HB
        by_cases hc64 : c < 64
        · obtain ⟨r0, r1, r2⟩ := HRW.out wr HBc.out
          have HCLc := Lib.hid (show (usesC gs rs o j c).length ≤ 64 * 65536 from Nat.le_trans (HCL.out c) (Nat.mul_le_mul_right 65536 (Nat.le_of_lt hc64)))
          have HCZc := Lib.hid (HCZ.out c)
          have hpo := HPO.out c
          have HU := Lib.hid (HUSE.out wr HBc.out c hc64)
          generalize usesC gs rs o j c = UC at HOVc HCLc HCZc
          generalize usedAt gs ⟨rg, rp, rl⟩ c o = ps at HU hpo HCZc
          go_wp2_with fail
          refine HU.out.mono ?_
          rintro e w6 ⟨vp, rfl, op0, b6⟩
          obtain ⟨wB, op⟩ : ∃ wB, OV encG 2 90 wB w6 vp ps := ⟨_, op0⟩
          clear op0
          have HB6 := Lib.hid (HBc.out.trans (b6.mono HBc.out.size))
          have HOV6 := Lib.hid (HOVc.out.below b6)
          obtain ⟨q0, q1, q2⟩ := HRW.out w6 HB6.out
          have HDB := Lib.hid (rdebts_in w6 vp ps rl (op.ev encG_len) hpo.1 HLI.out hpo.2)
          have HPL := Lib.hid hpo
          clear r0 r1 r2 HU hpo b6 q0 q1
          go_wp2_with fail
          refine HDB.out.mono ?_
          rintro e w7 ⟨vd, rfl, od, b7⟩
          have HB7 := Lib.hid (HB6.out.trans (b7.mono HB6.out.size))
          have HOV7 := Lib.hid (HOV6.out.below b7)
          have HOP := Lib.hid (op.below b7)
          have HOD := Lib.hid od
          obtain ⟨Ap, cp, hvp⟩ := (HOP.out.ev encG_len).shape
          obtain ⟨Ad, cd, hvd⟩ := (HOD.out.ev encI_len).shape
          rw [debtsL_len] at hvd
          obtain ⟨K, hK⟩ : ∃ K, ps.length = K := ⟨_, rfl⟩
          have HK := Lib.hid hK
          rw [hK] at hvp hvd
          subst hvp hvd
          have hK6 : K ≤ 65536 := by rw [← hK]; exact HPL.out.2
          clear op od b7 HDB q2 hK
          go_wp2
          go_loopg [17, 22] K (fun k v i wr => ∃ m : Nat, m + k = K ∧ i = .int .i64 m ∧ OV encUs 5 128 w5.heap.size wr v (UI ++ UC ++ (usesOf j c rl ps).take m) ∧ OV encG 2 90 wB wr (.slice Ap K cp) ps ∧ OV encI 1 3 w6.heap.size wr (.slice Ad K cd) (debtsL ps rl) ∧ Below w5.heap.size w5 wr)
          case atStart => exact ⟨0, by omega, rfl, by rw [List.take_zero, List.append_nil]; exact HOV7.out, HOP.out, HOD.out, HB7.out⟩
          case round =>
            obtain ⟨m, hm, rfl, hov, hop, hod, hb⟩ := hrel
            have HM := Lib.hid hm
            have HOVm := Lib.hid hov
            have HOPm := Lib.hid hop
            have HODm := Lib.hid hod
            have HBm := Lib.hid hb
            clear hm hov hop hod hb HOV7 HOP HOD HB7
            by_cases hmK : m < K
            · obtain ⟨pb, po, pc, hsp, hpc, hpr⟩ := (HOPm.out.ev encG_len).row (by rw [HK.out]; omega)
              rw [HK.out] at hsp hpc
              simp only [Value.slice.injEq, true_and] at hsp
              obtain ⟨rfl, rfl⟩ := hsp
              obtain ⟨db, dO, dc, hsd, hdc, hdr⟩ := (HODm.out.ev encI_len).row (by rw [debtsL_len, HK.out]; omega)
              rw [debtsL_len, HK.out] at hsd hdc
              simp only [Value.slice.injEq, true_and] at hsd
              obtain ⟨rfl, rfl⟩ := hsd
              have hpx : ps[m]? = some (partAt ps m) := by simp [partAt, List.getElem?_eq_getElem (show m < ps.length by rw [HK.out]; exact hmK)]
              obtain ⟨p0, p1⟩ := hpr.grp hpx
              have d0 := hdr m _ (debts_get (lim := rl) (show m < ps.length by rw [HK.out]; exact hmK)) 0 _ rfl
              simp only [Nat.mul_one, Nat.add_zero] at d0
              have HUS := Lib.hid (usesOf_succ (i := j) (c := (c : Int)) (lim := rl) (show m < ps.length by rw [HK.out]; exact hmK))
              have HUL := Lib.hid (show (UI ++ UC ++ (usesOf j c rl ps).take m).length ≤ 600000000 from by
                rw [List.length_append, List.length_append, List.length_take]
                have := HIL.out
                have := HCLc.out
                omega)
              clear hpr hdr hpx
              generalize partAt ps m = pm at p0 p1 HUS
              generalize debtAt ps rl (m + 1) = dm at d0 HUS
              obtain ⟨L, hL⟩ : ∃ L, UI ++ UC ++ (usesOf j c rl ps).take m = L := ⟨_, rfl⟩
              have HLQ := Lib.hid hL
              rw [hL] at HOVm HUL
              clear hL
              obtain ⟨pm1, pm2⟩ := pm
              dsimp only at p0 p1
              have K1 := Lib.hid (show (0 : Int) ≤ (m : Int) ∧ (m : Int) < (K : Int) ∧ (m : Int).toNat = m from by omega)
              go_wp2_with fail
              refine wp_region_dag (by kernel_rfl) 21 rfl (fun i => i == 18 || i == 19 || i == 20) (fun x => ⟨#[.slice Ag G cg, .slice (some ⟨br, fr, none⟩) R cr, u2, u3, u4, u5, u6, u7, u8, u9, u10, u11, .slice Ao no co, u13, u14, u15, u16, x 20, .int .i64 (j : Nat), .int .i64 (c : Nat), .slice (some ⟨pb, po, none⟩) K cp, .slice (some ⟨db, dO, none⟩) K cd, .int .i64 (m : Nat), u23, u24, u25, u26, u27, u28, u29, u30, u31, u32, u33, u34, u35, u36, u37, u38, u39, u40, u41, u42, u43, u44, u45, u46, u47, u48, u49, u50, u51, u52, u53, u54, u55, u56, u57, u58, u59, u60, u61, u62, u63, u64, u65, u66, u67, u68, u69, u70, u71, u72, u73, u74, u75, u76, u77, u78, u79, u80, u81, u82, u83, u84, .int .i64 (j : Nat), .slice (some ⟨br, fr, none⟩) R cr, .int .i64 (R : Nat), .bool true, u89, u90, .int .i64 (c : Nat), .bool true, u93, u94, .slice Ag G cg, .slice (some ⟨br, fr, none⟩) R cr, .int .i64 (j : Nat), .pointer (some ⟨br, fr + j * 3, none⟩), .agg #[.int .i64 rg, .int .i64 rp, .int .i64 rl], .int .i64 (c : Nat), .slice Ao no co, .slice (some ⟨pb, po, none⟩) K cp, .slice (some ⟨pb, po, none⟩) K cp, .slice (some ⟨br, fr, none⟩) R cr, .int .i64 (j : Nat), .pointer (some ⟨br, fr + j * 3, none⟩), .pointer (some ⟨br, fr + j * 3 + 2, none⟩), .int .i64 rl, .slice (some ⟨db, dO, none⟩) K cd, .int .i64 (m : Nat), .slice (some ⟨pb, po, none⟩) K cp, .int .i64 (K : Nat), .bool true, u114, u115, x 0, x 1, x 2, x 3, x 4, x 5, x 6, x 7, x 8, x 9, x 10, x 11, x 12, x 13, x 14, x 15, x 16, x 17, x 18, x 19, u136], []⟩) (fun iF vF => match iF with | 0 => vF = u17 | 1 => vF = .int .i64 (j : Nat) | 2 => vF = .int .i64 (c : Nat) | 3 => vF = .slice (some ⟨pb, po, none⟩) K cp | 4 => vF = .int .i64 (m : Nat) | 5 => vF = .pointer (some ⟨pb, po + m * 2, none⟩) | 6 => vF = .pointer (some ⟨pb, po + m * 2, none⟩) | 7 => vF = .int .i64 pm1 | 8 => vF = .slice (some ⟨pb, po, none⟩) K cp | 9 => vF = .int .i64 (m : Nat) | 10 => vF = .pointer (some ⟨pb, po + m * 2, none⟩) | 11 => vF = .pointer (some ⟨pb, po + m * 2 + 1, none⟩) | 12 => vF = .int .i64 pm2 | 13 => vF = .slice (some ⟨db, dO, none⟩) K cd | 14 => vF = .int .i64 (m : Nat) | 15 => vF = .pointer (some ⟨db, dO + m, none⟩) | 16 => vF = .int .i64 dm | 17 => vF = .agg #[.int .i64 (j : Nat), .int .i64 (c : Nat), .int .i64 pm1, .int .i64 pm2, .int .i64 dm] | _ => True)
                (fun d x W => (d 19 = false → Below wr.heap.size wr W) ∧ (d 18 = true → d 19 = false → EV encUs 5 W (x 18) [(⟨(j : Int), (c : Int), pm1, pm2, dm⟩ : Us)]) ∧ (d 19 = true → OV encUs 5 128 w5.heap.size W (x 19) (L ++ [(⟨(j : Int), (c : Int), pm1, pm2, dm⟩ : Us)]) ∧ Below w5.heap.size w5 W ∧ OV encG 2 90 wB W (.slice (some ⟨pb, po, none⟩) K cp) ps ∧ OV encI 1 3 w6.heap.size W (.slice (some ⟨db, dO, none⟩) K cd) (debtsL ps rl)) ∧ (d 20 = true → x 20 = x 19) ∧ (d 20 = false → x 20 = u17)) ?hB (by kernel_rfl) (by kernel_rfl) ?hpure ?hmem ?hend (fun i => (#[u116, u117, u118, u119, u120, u121, u122, u123, u124, u125, u126, u127, u128, u129, u130, u131, u132, u133, u134, u135, u17] : Array Value).getD i undef) rfl ?hstart
              case hstart =>
                try dsimp only
                exact ⟨fun _ => below_drew (Below.refl _ _), fun h => (by cases h), fun h => (by cases h), fun h => (by cases h), fun _ => rfl⟩
              case hB =>
                intro d d' x i v W hi hm h
                have g18 : ¬ 18 = i := by rintro rfl; exact absurd (show true = false from hi) (by simp)
                have e18 : d' 18 = d 18 := hm 18 rfl
                have g19 : ¬ 19 = i := by rintro rfl; exact absurd (show true = false from hi) (by simp)
                have e19 : d' 19 = d 19 := hm 19 rfl
                have g20 : ¬ 20 = i := by rintro rfl; exact absurd (show true = false from hi) (by simp)
                have e20 : d' 20 = d 20 := hm 20 rfl
                try dsimp only at h ⊢
                rw [upd_ne g18, upd_ne g19, upd_ne g20, e18, e19, e20]
                exact h
              case hpure =>
                intro iF o hi hnm ho d x W hB hd hdn hnd hcl Kq hK
                rcases (show iF = 0 ∨ iF = 1 ∨ iF = 2 ∨ iF = 3 ∨ iF = 4 ∨ iF = 5 ∨ iF = 6 ∨ iF = 7 ∨ iF = 8 ∨ iF = 9 ∨ iF = 10 ∨ iF = 11 ∨ iF = 12 ∨ iF = 13 ∨ iF = 14 ∨ iF = 15 ∨ iF = 16 ∨ iF = 17 ∨ iF = 18 ∨ iF = 19 ∨ iF = 20 by omega) with rfl | rfl | rfl | rfl | rfl | rfl | rfl | rfl | rfl | rfl | rfl | rfl | rfl | rfl | rfl | rfl | rfl | rfl | rfl | rfl | rfl
                · obtain rfl := Option.some.inj ho
                  have hm20 : d 20 = false := notyet (i := 20) hcl (hnd 19 (by kernel_rfl)) (by kernel_rfl)
                  have ez := hB.2.2.2.2 hm20
                  clear ho hd hdn hnd hcl hB hnm hi
                  simp only [upd, reduceIte, Nat.reduceEqDiff, ez] at hK
                  try dsimp only
                  try rw [ez]
                  go_simp
                  exact hK _ (by first | rfl | exact ez)
                · obtain rfl := Option.some.inj ho
                  clear ho hd hdn hnd hcl hB hnm hi
                  simp only [upd, reduceIte, Nat.reduceEqDiff] at hK
                  try dsimp only
                  go_simp
                  exact hK _ rfl
                · obtain rfl := Option.some.inj ho
                  clear ho hd hdn hnd hcl hB hnm hi
                  simp only [upd, reduceIte, Nat.reduceEqDiff] at hK
                  try dsimp only
                  go_simp
                  exact hK _ rfl
                · obtain rfl := Option.some.inj ho
                  clear ho hd hdn hnd hcl hB hnm hi
                  simp only [upd, reduceIte, Nat.reduceEqDiff] at hK
                  try dsimp only
                  go_simp
                  exact hK _ rfl
                · obtain rfl := Option.some.inj ho
                  clear ho hd hdn hnd hcl hB hnm hi
                  simp only [upd, reduceIte, Nat.reduceEqDiff] at hK
                  try dsimp only
                  go_simp
                  exact hK _ rfl
                · obtain rfl := Option.some.inj ho
                  have e3 : x 3 = .slice (some ⟨pb, po, none⟩) K cp := hd 3 (by kernel_rfl) (by kernel_rfl)
                  have e4 : x 4 = .int .i64 (m : Nat) := hd 4 (by kernel_rfl) (by kernel_rfl)
                  have i1 := K1.out
                  clear ho hd hdn hnd hcl hB hnm hi
                  simp only [upd, reduceIte, Nat.reduceEqDiff, e3, e4] at hK
                  try dsimp only
                  go_simp
                  exact hK _ rfl
                · obtain rfl := Option.some.inj ho
                  have e5 : x 5 = .pointer (some ⟨pb, po + m * 2, none⟩) := hd 5 (by kernel_rfl) (by kernel_rfl)
                  clear ho hd hdn hnd hcl hB hnm hi
                  simp only [upd, reduceIte, Nat.reduceEqDiff, e5] at hK
                  try dsimp only
                  go_simp
                  exact hK _ rfl
                · obtain rfl := Option.some.inj ho
                  have e6 : x 6 = .pointer (some ⟨pb, po + m * 2, none⟩) := hd 6 (by kernel_rfl) (by kernel_rfl)
                  have hm19 : d 19 = false := notyet (i := 19) hcl (notyet (i := 18) hcl (hnd 17 (by kernel_rfl)) (by kernel_rfl)) (by kernel_rfl)
                  have hb := hB.1 hm19
                  have q0 := below_cell hb p0
                  have q1 := below_cell hb p1
                  have q2 := below_cell hb d0
                  clear ho hd hdn hnd hcl hB hnm hi
                  simp only [upd, reduceIte, Nat.reduceEqDiff, e6] at hK
                  try dsimp only
                  go_simp
                  exact hK _ rfl
                · obtain rfl := Option.some.inj ho
                  clear ho hd hdn hnd hcl hB hnm hi
                  simp only [upd, reduceIte, Nat.reduceEqDiff] at hK
                  try dsimp only
                  go_simp
                  exact hK _ rfl
                · obtain rfl := Option.some.inj ho
                  clear ho hd hdn hnd hcl hB hnm hi
                  simp only [upd, reduceIte, Nat.reduceEqDiff] at hK
                  try dsimp only
                  go_simp
                  exact hK _ rfl
                · obtain rfl := Option.some.inj ho
                  have e8 : x 8 = .slice (some ⟨pb, po, none⟩) K cp := hd 8 (by kernel_rfl) (by kernel_rfl)
                  have e9 : x 9 = .int .i64 (m : Nat) := hd 9 (by kernel_rfl) (by kernel_rfl)
                  have i1 := K1.out
                  clear ho hd hdn hnd hcl hB hnm hi
                  simp only [upd, reduceIte, Nat.reduceEqDiff, e8, e9] at hK
                  try dsimp only
                  go_simp
                  exact hK _ rfl
                · obtain rfl := Option.some.inj ho
                  have e10 : x 10 = .pointer (some ⟨pb, po + m * 2, none⟩) := hd 10 (by kernel_rfl) (by kernel_rfl)
                  clear ho hd hdn hnd hcl hB hnm hi
                  simp only [upd, reduceIte, Nat.reduceEqDiff, e10] at hK
                  try dsimp only
                  go_simp
                  exact hK _ rfl
                · obtain rfl := Option.some.inj ho
                  have e11 : x 11 = .pointer (some ⟨pb, po + m * 2 + 1, none⟩) := hd 11 (by kernel_rfl) (by kernel_rfl)
                  have hm19 : d 19 = false := notyet (i := 19) hcl (notyet (i := 18) hcl (hnd 17 (by kernel_rfl)) (by kernel_rfl)) (by kernel_rfl)
                  have hb := hB.1 hm19
                  have q0 := below_cell hb p0
                  have q1 := below_cell hb p1
                  have q2 := below_cell hb d0
                  clear ho hd hdn hnd hcl hB hnm hi
                  simp only [upd, reduceIte, Nat.reduceEqDiff, e11] at hK
                  try dsimp only
                  go_simp
                  exact hK _ rfl
                · obtain rfl := Option.some.inj ho
                  clear ho hd hdn hnd hcl hB hnm hi
                  simp only [upd, reduceIte, Nat.reduceEqDiff] at hK
                  try dsimp only
                  go_simp
                  exact hK _ rfl
                · obtain rfl := Option.some.inj ho
                  clear ho hd hdn hnd hcl hB hnm hi
                  simp only [upd, reduceIte, Nat.reduceEqDiff] at hK
                  try dsimp only
                  go_simp
                  exact hK _ rfl
                · obtain rfl := Option.some.inj ho
                  have e13 : x 13 = .slice (some ⟨db, dO, none⟩) K cd := hd 13 (by kernel_rfl) (by kernel_rfl)
                  have e14 : x 14 = .int .i64 (m : Nat) := hd 14 (by kernel_rfl) (by kernel_rfl)
                  have i1 := K1.out
                  clear ho hd hdn hnd hcl hB hnm hi
                  simp only [upd, reduceIte, Nat.reduceEqDiff, e13, e14] at hK
                  try dsimp only
                  go_simp
                  exact hK _ rfl
                · obtain rfl := Option.some.inj ho
                  have e15 : x 15 = .pointer (some ⟨db, dO + m, none⟩) := hd 15 (by kernel_rfl) (by kernel_rfl)
                  have hm19 : d 19 = false := notyet (i := 19) hcl (notyet (i := 18) hcl (hnd 17 (by kernel_rfl)) (by kernel_rfl)) (by kernel_rfl)
                  have hb := hB.1 hm19
                  have q0 := below_cell hb p0
                  have q1 := below_cell hb p1
                  have q2 := below_cell hb d0
                  clear ho hd hdn hnd hcl hB hnm hi
                  simp only [upd, reduceIte, Nat.reduceEqDiff, e15] at hK
                  try dsimp only
                  go_simp
                  exact hK _ rfl
                · obtain rfl := Option.some.inj ho
                  have e1 : x 1 = .int .i64 (j : Nat) := hd 1 (by kernel_rfl) (by kernel_rfl)
                  have e2 : x 2 = .int .i64 (c : Nat) := hd 2 (by kernel_rfl) (by kernel_rfl)
                  have e7 : x 7 = .int .i64 pm1 := hd 7 (by kernel_rfl) (by kernel_rfl)
                  have e12 : x 12 = .int .i64 pm2 := hd 12 (by kernel_rfl) (by kernel_rfl)
                  have e16 : x 16 = .int .i64 dm := hd 16 (by kernel_rfl) (by kernel_rfl)
                  clear ho hd hdn hnd hcl hB hnm hi
                  simp only [upd, reduceIte, Nat.reduceEqDiff, e1, e2, e7, e12, e16] at hK
                  try dsimp only
                  go_simp
                  exact hK _ rfl
                · exact absurd (show true = false from hnm) (by simp)
                · exact absurd (show true = false from hnm) (by simp)
                · exact absurd (show true = false from hnm) (by simp)
              case hmem =>
                intro iF o hi hmm ho d d' x W hB hd hdn hnd hdi hdi' hdm hcl Kq hK
                rcases (show iF = 0 ∨ iF = 1 ∨ iF = 2 ∨ iF = 3 ∨ iF = 4 ∨ iF = 5 ∨ iF = 6 ∨ iF = 7 ∨ iF = 8 ∨ iF = 9 ∨ iF = 10 ∨ iF = 11 ∨ iF = 12 ∨ iF = 13 ∨ iF = 14 ∨ iF = 15 ∨ iF = 16 ∨ iF = 17 ∨ iF = 18 ∨ iF = 19 ∨ iF = 20 by omega) with rfl | rfl | rfl | rfl | rfl | rfl | rfl | rfl | rfl | rfl | rfl | rfl | rfl | rfl | rfl | rfl | rfl | rfl | rfl | rfl | rfl
                · exact absurd (show false = true from hmm) (by simp)
                · exact absurd (show false = true from hmm) (by simp)
                · exact absurd (show false = true from hmm) (by simp)
                · exact absurd (show false = true from hmm) (by simp)
                · exact absurd (show false = true from hmm) (by simp)
                · exact absurd (show false = true from hmm) (by simp)
                · exact absurd (show false = true from hmm) (by simp)
                · exact absurd (show false = true from hmm) (by simp)
                · exact absurd (show false = true from hmm) (by simp)
                · exact absurd (show false = true from hmm) (by simp)
                · exact absurd (show false = true from hmm) (by simp)
                · exact absurd (show false = true from hmm) (by simp)
                · exact absurd (show false = true from hmm) (by simp)
                · exact absurd (show false = true from hmm) (by simp)
                · exact absurd (show false = true from hmm) (by simp)
                · exact absurd (show false = true from hmm) (by simp)
                · exact absurd (show false = true from hmm) (by simp)
                · exact absurd (show false = true from hmm) (by simp)
                · obtain rfl := Option.some.inj ho
                  have e17 : x 17 = .agg #[.int .i64 (j : Nat), .int .i64 (c : Nat), .int .i64 pm1, .int .i64 pm2, .int .i64 dm] := hd 17 (by kernel_rfl) (by kernel_rfl)
                  have dm19 : d' 19 = d 19 := hdm 19 (by omega)
                  have dm20 : d' 20 = d 20 := hdm 20 (by omega)
                  have dz19 : d 19 = false := hnd 19 (by kernel_rfl)
                  have dz20 : d 20 = false := notyet (i := 20) hcl (hnd 19 (by kernel_rfl)) (by kernel_rfl)
                  obtain ⟨hb, ha, hx, hc, hcn⟩ := hB
                  have HCN := Lib.hid hcn
                  clear hcn
                  have hb := hb dz19
                  clear ha hx hc
                  clear ho hd hdn hnd hcl hmm
                  simp only [upd, reduceIte, Nat.reduceEqDiff, e17] at hK
                  try dsimp only
                  go_simp
                  refine hK _ _ ?_
                  try dsimp only
                  rw [dm19, dm20, hdi']
                  exact ⟨fun _ => hb.trans (((Below.refl _ W).alloc (Nat.le_refl _) _).mono hb.size), fun _ _ => new_ruseM rfl, fun h => (by rw [dz19] at h; cases h), fun h => (by rw [dz20] at h; cases h), HCN.out⟩
                · obtain rfl := Option.some.inj ho
                  have e0 : x 0 = u17 := hd 0 (by kernel_rfl) (by kernel_rfl)
                  have dm18 : d' 18 = d 18 := hdm 18 (by omega)
                  have dm20 : d' 20 = d 20 := hdm 20 (by omega)
                  have dn18 : d 18 = true := hdn 18 (by kernel_rfl)
                  have dz20 : d 20 = false := hnd 20 (by kernel_rfl)
                  obtain ⟨hb, ha, hx, hc, hcn⟩ := hB
                  have HCN := Lib.hid hcn
                  clear hcn
                  have hb := hb hdi
                  have hy := ha dn18 hdi
                  clear ha hx hc
                  clear ho hd hdn hnd hcl hmm
                  simp only [upd, reduceIte, Nat.reduceEqDiff, e0] at hK
                  try dsimp only
                  refine wp_app elemRU encUs_len encUs_one (.tmp 116) (.tmp 134) rfl u17 (x 18) (by rw [← e0]; rfl) rfl (HOVm.out.below hb) hy (by have := HUL.out; simp; omega) (Nat.le_trans HBm.out.size hb.size) ?_
                  intro v1 w1 o1 g1
                  go_simp
                  refine hK _ _ ?_
                  try dsimp only
                  rw [dm18, dm20, hdi']
                  exact ⟨fun h => (by cases h), fun _ h => (by cases h), fun _ => ⟨o1, (HBm.out.trans (hb.mono HBm.out.size)).grown g1 (Nat.le_trans HBm.out.size hb.size) (fun q hq => (HOVm.out.block q hq).1), (HOPm.out.below hb).keep g1 ((HOPm.out.below hb).ne (HOVm.out.below hb) (by decide)), (HODm.out.below hb).keep g1 ((HODm.out.below hb).ne (HOVm.out.below hb) (by decide))⟩, fun h => (by rw [dz20] at h; cases h), HCN.out⟩
                · obtain rfl := Option.some.inj ho
                  have dm18 : d' 18 = d 18 := hdm 18 (by omega)
                  have dm19 : d' 19 = d 19 := hdm 19 (by omega)
                  have dn19 : d 19 = true := hdn 19 (by kernel_rfl)
                  obtain ⟨_, _, hx, _, _⟩ := hB
                  clear ho hd hdn hnd hcl hmm
                  simp only [upd, reduceIte, Nat.reduceEqDiff] at hK
                  try dsimp only
                  go_simp
                  refine hK _ _ ?_
                  try dsimp only
                  rw [dm18, dm19, hdi']
                  exact ⟨fun h => (by rw [dn19] at h; cases h), fun _ h => (by rw [dn19] at h; cases h), hx, fun _ => rfl, fun h => (by cases h)⟩
              case hend =>
                intro d x W hall hB hd
                obtain ⟨_, _, hx, hc, _⟩ := hB
                obtain ⟨ox, bx, kx0, kx1⟩ := hx (hall 19 (by omega))
                have ec := hc (hall 20 (by omega))
                clear hd hx hc hall
                try dsimp only
                rw [ec]
                clear ec
                generalize x 19 = vx at ox ⊢
                generalize x 0 = y0
                generalize x 1 = y1
                generalize x 2 = y2
                generalize x 3 = y3
                generalize x 4 = y4
                generalize x 5 = y5
                generalize x 6 = y6
                generalize x 7 = y7
                generalize x 8 = y8
                generalize x 9 = y9
                generalize x 10 = y10
                generalize x 11 = y11
                generalize x 12 = y12
                generalize x 13 = y13
                generalize x 14 = y14
                generalize x 15 = y15
                generalize x 16 = y16
                generalize x 17 = y17
                generalize x 18 = y18
                have HO9 := Lib.hid ox
                have HB9 := Lib.hid bx
                have HP9 := Lib.hid kx0
                have HD9 := Lib.hid kx1
                clear ox bx kx0 kx1 p0 p1 d0
                go_wp2
                go_roundg (gk - 1)
                case measure => have := HM.out; omega
                case rel => exact ⟨m + 1, by have := HM.out; omega, by go_num, by rw [HUS.out, ← List.append_assoc, HLQ.out]; exact HO9.out, HP9.out, HD9.out, HB9.out⟩
            · obtain rfl : K = m := by have := HM.out; omega
              have HT := Lib.hid (show (usesOf j c rl ps).take K = usesOf j c rl ps from by rw [List.take_of_length_le (by rw [usesOf_len, HK.out]; exact Nat.le_refl _)])
              go_wp2
              go_roundg (64 - (c + 1))
              case measure => have := HC.out; omega
              case rel => exact ⟨c + 1, by have := HC.out; omega, by go_num, by rw [HCZc.out, ← HT.out, ← List.append_assoc]; exact HOVm.out, HBm.out⟩
        · obtain rfl : c = 64 := by have := HC.out; omega
          go_wp2
          go_roundg (R - (j + 1))
          case measure => have := HJ.out; omega
          case rel => exact ⟨j + 1, by have := HJ.out; omega, by go_num, by rw [HIS.out]; exact HOVc.out, HBc.out⟩
    · obtain rfl : R = j := by have := HJ.out; omega
      have HF := Lib.hid HOV.out
      rw [← HR.out.2.1, usesI_all] at HF
      go_wp2
      exact FIN.out _ _ HF.out HB.out
end Go.Proofs.YtaplangfppohdaaDoor
namespace Go.Proofs.YtaplangfppohdaaDoor
open Go.RowKit Go.Shelf
attribute [local go_sem] Oper.semAt_some

theorem run_lenO {n : Nat} : ∀ (l : List Ev) (s s' : Lk), runO (stepL n) s l = some s' → s'.out.length ≤ s.out.length + l.length
  | [], s, s', h => by rw [runO_nil] at h; cases h; simp
  | e :: r, s, s', h => by
    rw [runO_cons] at h
    cases hs : stepL n s e with
    | none => rw [hs] at h; cases h
    | some s1 =>
      rw [hs] at h
      have h1 := run_lenO r s1 s' h
      unfold stepL at hs
      split at hs
      · cases hs
      · obtain ⟨T, _, rfl⟩ := Option.map_eq_some_iff.1 hs
        have h2 : (ranOf s.T e).length ≤ 1 := by unfold ranOf; split <;> simp
        dsimp only at h1
        rw [List.length_append] at h1
        rw [List.length_cons]; omega
theorem look_len {n : Nat} {hs : List (Int × Int)} {l : List Ev} {o : List Rn} (h : lookL n hs l = some o) : o.length ≤ l.length := by
  unfold lookL at h
  obtain ⟨T, h1, h2⟩ := Option.bind_eq_some_iff.1 h
  obtain ⟨s, h3, rfl⟩ := Option.map_eq_some_iff.1 h2
  have := run_lenO l _ _ h3
  unfold lk0 at this
  simpa using this
theorem held3c {w wz wz' : World} {p0 p1 p2 : Addr} {u0 u1 u2 : Value} (h : wz.cell? p0 = some u0 ∧ wz.cell? p1 = some u1 ∧ wz.cell? p2 = some u2 ∧ Below w.heap.size w wz) (k : Below wz.heap.size wz wz') :
    wz'.cell? p0 = some u0 ∧ wz'.cell? p1 = some u1 ∧ wz'.cell? p2 = some u2 ∧ Below w.heap.size w wz' := ⟨below_cell k h.1, below_cell k h.2.1, below_cell k h.2.2.1, h.2.2.2.trans (k.mono h.2.2.2.size)⟩
theorem allN_nil (gs : List (Int × Int)) (o : List Rn) : allN gs [] o = 0 := by
  unfold allN
  induction o with
  | nil => rfl
  | cons x r ih => rw [List.map_cons, List.sum_cons, ih]; rfl
set_option maxRecDepth 100000 in
set_option maxHeartbeats 6400000 in
theorem raccount_ok (w : World) (v1 v2 vh vl : Value) (gs : List (Int × Int)) (rs : List Ru) (hs : List (Int × Int)) (l : List Ev) (h1 : EV encG 2 w v1 gs) (h2 : EV encRu 3 w v2 rs) (hh : EV encG 2 w vh hs) (hl : EV encE 11 w vl l)
    (lg : gs.length ≤ 100000) (lr : rs.length ≤ 100) (lh : hs.length ≤ 100000) (ll : l.length ≤ 100000)
    (ho : ∀ e ∈ l, EvOk e) (hho : ∀ h ∈ hs, (-9223372036854775808 ≤ h.1 ∧ h.1 ≤ 9223372036854775807) ∧ (-9223372036854775808 ≤ h.2 ∧ h.2 ≤ 9223372036854775807)) :
    Calls Tryd.prog 55 #[v1, v2, vh, vl] w fun r w' => ∃ v, r = .returned (.tuple #[v, .int .i64 (accE gs rs hs l)]) ∧ OV encUs 5 128 w.heap.size w' v (accL gs rs hs l) ∧ Below w.heap.size w w' := by
  obtain ⟨A1, c1, rfl⟩ := h1.shape
  obtain ⟨A2, c2, rfl⟩ := h2.shape
  have HCK := Lib.hid (rqcheck_ok w _ _ gs rs h1 h2 lg (by omega))
  have HLK := Lib.hid (fun (W : World) (hb : Below w.heap.size w W) => rlook_ok W _ vh vl gs hs l (h1.below hb) (hh.below hb) (hl.below hb) lg lh ll ho hho)
  have HLO := Lib.hid (fun o (h : lookL gs.length hs l = some o) => look_ok ho h)
  have HAE := Lib.hid (show ∀ c, (chkR gs rs).2 = c → c ≠ 0 → accE gs rs hs l = c ∧ accL gs rs hs l = [] from fun c hc h0 => by
    have h : accE gs rs hs l = c := by unfold accE; rw [if_pos (by rw [hc]; exact h0), hc]
    exact ⟨h, by unfold accL; rw [if_neg (by rw [h]; exact h0)]⟩)
  have HAN := Lib.hid (show (chkR gs rs).2 = 0 → lookL gs.length hs l = none → accE gs rs hs l = 281 ∧ accL gs rs hs l = [] from fun hc hn => by
    have h : accE gs rs hs l = 281 := by unfold accE; rw [if_neg (by rw [hc]; simp), hn]
    exact ⟨h, by unfold accL; rw [if_neg (by rw [h]; decide)]⟩)
  have HAS := Lib.hid (show ∀ o, (chkR gs rs).2 = 0 → lookL gs.length hs l = some o → (65536 < allN gs rs o → accE gs rs hs l = 5 ∧ accL gs rs hs l = []) ∧ (¬ 65536 < allN gs rs o → accE gs rs hs l = 0 ∧ accL gs rs hs l = usesL gs rs o) from fun o hc hs' => by
    refine ⟨fun h5 => ?_, fun h5 => ?_⟩
    · have h : accE gs rs hs l = 5 := by unfold accE; rw [if_neg (by rw [hc]; simp), hs']; dsimp only; rw [if_pos h5]
      exact ⟨h, by unfold accL; rw [if_neg (by rw [h]; decide)]⟩
    · have h : accE gs rs hs l = 0 := by unfold accE; rw [if_neg (by rw [hc]; simp), hs']; dsimp only; rw [if_neg h5]
      exact ⟨h, by unfold accL; rw [if_pos h, hs']⟩)
  obtain ⟨n, hn⟩ : ∃ n, l.length = n := ⟨_, rfl⟩
  obtain ⟨G, hG⟩ : ∃ G, gs.length = G := ⟨_, rfl⟩
  obtain ⟨R, hR⟩ : ∃ R, rs.length = R := ⟨_, rfl⟩
  have HG := Lib.hid (show EV encG 2 w (.slice A1 G c1) gs ∧ gs.length = G ∧ G ≤ 100000 from ⟨by rw [← hG]; exact h1, hG, by omega⟩)
  have HR := Lib.hid (show EV encRu 3 w (.slice A2 R c2) rs ∧ rs.length = R ∧ R ≤ 100 from ⟨by rw [← hR]; exact h2, hR, by omega⟩)
  have HRO := Lib.hid (show (chkR gs rs).2 = 0 → ∀ i, i < rs.length → RuOk G (ruAt rs i) from fun hc => by
    rw [← hG]
    refine rules_ok ?_
    unfold chkR at hc
    split at hc
    · exact absurd hc (by simp)
    · split at hc
      · exact absurd hc (by simp)
      · assumption)
  rw [hG] at HCK HLK HLO HAN HAS ⊢
  rw [hR] at HCK ⊢
  obtain ⟨q0, hq0⟩ : ∃ q0, (chkR gs rs).1 = q0 := ⟨_, rfl⟩
  obtain ⟨q1, hq1⟩ : ∃ q1, (chkR gs rs).2 = q1 := ⟨_, rfl⟩
  rw [hq0, hq1] at HCK
  rw [hq1] at HAE HAN HAS HRO
  have HOL := Lib.hid (show ∀ o, lookL G hs l = some o → o.length ≤ l.length ∧ l.length ≤ 100000 from fun o h => ⟨look_len h, ll⟩)
  clear h1 h2 hh hl ho hho hn hG hR lg lr lh ll hq0 hq1
  by_cases hc : q1 = 0
  · subst hc
    cases hlk : lookL G hs l with
    | none =>
      obtain ⟨e1, e2⟩ := HAN.out rfl hlk
      have E := Lib.hid (And.intro e1 e2)
      rw [hlk] at HLK
      clear e1 e2 hlk
      rw [E.out.1, E.out.2]
      go_enter Tryd.func55, Tryd.ntmps55
      go_wp2_with fail
      refine HCK.out.mono ?_
      rintro e w2 ⟨rfl, b2⟩
      have HB2 := Lib.hid b2
      clear HCK b2
      go_wp2_with fail
      refine (HLK.out w2 HB2.out).mono ?_
      rintro e w3 ⟨v, rfl, _, b3⟩
      go_wp2
      go_ret2
      exact ⟨_, rfl, OV.nil _ _, HB2.out.trans (b3.mono HB2.out.size)⟩
    | some o =>
      have HO := Lib.hid (HLO.out o hlk)
      have HO2 := Lib.hid (HOL.out o hlk)
      have HE := Lib.hid (HAS.out o rfl hlk)
      have HRK := Lib.hid (HRO.out rfl)
      rw [hlk] at HLK
      clear hlk HOL HLO HAN HAS HAE HRO
      obtain ⟨Post, hPost⟩ : ∃ P : Ending → World → Prop, P = (fun (r : Ending) (w' : World) => ∃ v, r = .returned (.tuple #[v, .int .i64 (accE gs rs hs l)]) ∧ OV encUs 5 128 w.heap.size w' v (accL gs rs hs l) ∧ Below w.heap.size w w') := ⟨_, rfl⟩
      have HP5 := Lib.hid (show 65536 < allN gs rs o → ∀ w', Below w.heap.size w w' → Post (.returned (.tuple #[.slice none 0 0, .int .i64 5])) w' from by
        intro h w' hb
        obtain ⟨e1, e2⟩ := HE.out.1 h
        rw [hPost, e1, e2]
        exact ⟨_, rfl, OV.nil _ _, hb⟩)
      have HP0 := Lib.hid (show ¬ 65536 < allN gs rs o → ∀ v w', OV encUs 5 128 w.heap.size w' v (usesL gs rs o) → Below w.heap.size w w' → Post (.returned (.tuple #[v, .int .i64 0])) w' from by
        intro h v w' ho hb
        obtain ⟨e1, e2⟩ := HE.out.2 h
        rw [hPost, e1, e2]
        exact ⟨_, rfl, ho, hb⟩)
      rw [← hPost]
      clear hPost HE
      go_enter Tryd.func55, Tryd.ntmps55
      go_wp2_with fail
      refine HCK.out.mono ?_
      rintro e w2 ⟨rfl, b2⟩
      have HB2 := Lib.hid b2
      clear HCK b2
      go_wp2_with fail
      refine (HLK.out w2 HB2.out).mono ?_
      rintro e w3 ⟨vo, rfl, o3, b3⟩
      have HB3 := Lib.hid (HB2.out.trans (b3.mono HB2.out.size))
      rw [Option.getD_some] at o3
      obtain ⟨Ao, co, hvo⟩ := (o3.ev encRn_len).shape
      obtain ⟨no, hno⟩ : ∃ no, o.length = no := ⟨_, rfl⟩
      rw [hno] at hvo
      subst hvo
      have HNO := Lib.hid hno
      have HEO := Lib.hid (o3.ev encRn_len)
      have hno5 : no ≤ 100000 := by have := HO2.out; omega
      clear o3 b3 HLK HB2 hno
      have HAL := Lib.hid (show allN gs rs o ≤ 100000 * (100 * 4294967295) from by
        have h := allN_le (gs := gs) (n := G) HRK.out HO.out.1
        refine Nat.le_trans h ?_
        rw [HNO.out]
        exact Nat.mul_le_mul hno5 (Nat.mul_le_mul_right _ (by rw [HR.out.2.1]; exact HR.out.2.2))
        )
      have hR1 := HR.out.2.2
      go_upto_block 0 with fail
      go_cut [14] (fun v wx => v = .int .i64 (allN gs rs o : Nat) ∧ Below w3.heap.size w3 wx)
      case first =>
        go_wp2
        go_loopg [14, 15, 16] R (fun k v i _ wr => ∃ j : Nat, j + k = R ∧ i = .int .i64 j ∧ v = .int .i64 (allN gs (rs.take j) o : Nat) ∧ Below w3.heap.size w3 wr)
        case atStart => exact ⟨0, by omega, rfl, by rw [List.take_zero, allN_nil]; rfl, Below.refl _ _⟩
        case round =>
          obtain ⟨j, hj, rfl, rfl, hb⟩ := hrel
          have HJ := Lib.hid hj
          have HB := Lib.hid hb
          clear hj hb
          by_cases hlt : j < R
          · have hjr : j < rs.length := by rw [HR.out.2.1]; exact hlt
            have HRJ := Lib.hid (HRK.out j hjr)
            have HAR := Lib.hid (allN_rule (gs := gs) (o := o) hjr)
            have HAL2 := Lib.hid (Nat.le_trans (allN_rtake (gs := gs) (rs := rs) (o := o) (j + 1)) HAL.out)
            obtain ⟨br, fr, cr, hs1, hcr, hrr⟩ := (HR.out.1.below (HB3.out.trans (HB.out.mono HB3.out.size))).row (by rw [HR.out.2.1]; omega)
            rw [HR.out.2.1] at hs1 hcr
            simp only [Value.slice.injEq, true_and] at hs1
            obtain ⟨rfl, rfl⟩ := hs1
            have HRW := Lib.hid (show ∀ W : World, Below w3.heap.size w3 W → W.cell? ⟨br, fr + j * 3, none⟩ = some (.int .i64 (ruAt rs j).g) ∧ W.cell? ⟨br, fr + j * 3 + 1, none⟩ = some (.int .i64 (ruAt rs j).p) from fun W hW => by
              obtain ⟨b, off, c, h1, h2, h3⟩ := (HR.out.1.below (HB3.out.trans (hW.mono HB3.out.size))).row (by rw [HR.out.2.1]; omega)
              simp only [Value.slice.injEq, Option.some.injEq, Addr.mk.injEq, true_and, and_true] at h1
              obtain ⟨⟨rfl, rfl⟩, _⟩ := h1
              obtain ⟨r0, r1, _⟩ := h3.ru hjr
              exact ⟨r0, r1⟩)
            rw [HAR.out] at HAL2
            generalize ruAt rs j = r at HRJ HAR HAL2 HRW
            generalize allN gs (rs.take j) o = P0 at HAR HAL2 ⊢
            obtain ⟨p, hp⟩ : ∃ p : Nat, r.p = p := ⟨r.p.toNat, by have := HRJ.out; unfold RuOk at this; omega⟩
            have HPP := Lib.hid (show r.p = (p : Int) ∧ r.p.toNat = p ∧ 1 ≤ p ∧ p ≤ 4294967296 from by have := HRJ.out; unfold RuOk at this; omega)
            clear hrr hp
            go_upto_block 2 with fail
            go_wp2
            go_loopg [14, 16] no (fun k v i wr => ∃ m : Nat, m + k = no ∧ i = .int .i64 m ∧ v = .int .i64 ((P0 + allN gs [r] (o.take m) : Nat) : Int) ∧ Below w3.heap.size w3 wr)
            case atStart => exact ⟨0, by omega, rfl, by rw [List.take_zero]; simp [allN], HB.out⟩
            case round =>
              obtain ⟨m, hm, rfl, rfl, hb⟩ := hrel
              have HM := Lib.hid hm
              have HBm := Lib.hid hb
              clear hm hb HB
              by_cases hml : m < no
              · obtain ⟨t, ht⟩ : ∃ t, o[m]? = some t := ⟨_, List.getElem?_eq_getElem (by rw [HNO.out]; exact hml)⟩
                have HTK := Lib.hid (allN_tick (gs := gs) (rs := [r]) ht)
                have htok := HO.out.1 t (List.mem_of_getElem? ht)
                have HLE := Lib.hid (allN_take (gs := gs) (rs := [r]) (o := o) (m + 1))
                obtain ⟨b, off, c', hs1, hcc, hrr⟩ := (HEO.out.below HBm.out).row (by rw [HNO.out]; omega)
                rw [HNO.out] at hs1 hcc
                simp only [Value.slice.injEq, true_and] at hs1
                obtain ⟨rfl, rfl⟩ := hs1
                obtain ⟨_, t1, t2, t3⟩ := hrr.rn ht
                obtain ⟨r0, r1⟩ := HRW.out _ HBm.out
                rw [HPP.out.1] at r1
                obtain ⟨tm, htm⟩ : ∃ tm : Nat, t.time = tm := ⟨t.time.toNat, by unfold RnOk at htok; omega⟩
                obtain ⟨tk, htk⟩ : ∃ tk : Nat, t.ticks = tk := ⟨t.ticks.toNat, by unfold RnOk at htok; omega⟩
                have HTT := Lib.hid (show 1 ≤ tk ∧ tk ≤ tm ∧ tm ≤ 281474976710656 from by unfold RnOk at htok; omega)
                have HTN := Lib.hid (show tickN r t = manyN tm tk p from by unfold tickN; rw [htm, htk, HPP.out.2.1]; rfl)
                rw [htm] at t1
                rw [htk] at t2
                rw [cnt_one, HTN.out] at HTK
                have i1 : (0 : Int) ≤ (m : Int) := by omega
                have i2 : (m : Int) < (no : Int) := by omega
                have i3 : (m : Int).toNat = m := by omega
                have i4 : (0 : Int) ≤ (j : Int) := by omega
                have i5 : (j : Int) < (R : Int) := by omega
                have i6 : (j : Int).toNat = j := by omega
                have HTC := Lib.hid (And.intro t1 t2)
                clear hrr ht htok htm htk HTN
                go_wp2_with fail
                go_still_tail 11, (by kernel_rfl)
                change wpList _ _ _ _ _ wr.drew
                have HB5 := Lib.hid (below_drew HBm.out)
                have t1 : wr.drew.cell? ⟨b, off + m * 4 + 1, none⟩ = some (.int .i64 (tm : Nat)) := t1
                have t2 : wr.drew.cell? ⟨b, off + m * 4 + 2, none⟩ = some (.int .i64 (tk : Nat)) := t2
                generalize wr.drew = wd at HB5 t1 t2 ⊢
                clear t3 r0 r1 HBm HTC
                go_wp2_with fail
                refine (above_ok wd _ gs r.g t.grp (HG.out.1.below (HB3.out.trans (HB5.out.mono HB3.out.size))) (by have := HG.out; omega)).mono ?_
                rintro e w6 ⟨rfl, b6⟩
                have HB6 := Lib.hid (HB5.out.trans (b6.mono HB5.out.size))
                have t1 := below_cell b6 t1
                have t2 := below_cell b6 t2
                have r1 := (HRW.out _ HB6.out).2
                rw [HPP.out.1] at r1
                clear b6 HB5
                cases hh : (pathL gs t.grp).contains r.g with
                | false =>
                  have HTK2 := Lib.hid (show allN gs [r] (o.take (m + 1)) = allN gs [r] (o.take m) from by rw [HTK.out, if_neg (by rw [show hitB gs r t = false from hh]; simp), Nat.add_zero])
                  clear hh t1 t2 r1
                  go_wp2
                  go_roundg (gk - 1)
                  case measure => have := HM.out; omega
                  case rel => exact ⟨m + 1, by have := HM.out; omega, by go_num, by rw [HTK2.out]; go_num, HB6.out⟩
                | true =>
                  have HTK2 := Lib.hid (show allN gs [r] (o.take (m + 1)) = allN gs [r] (o.take m) + manyN tm tk p from by rw [HTK.out, if_pos (show hitB gs r t = true from hh)])
                  have hbd : P0 + (allN gs [r] (o.take m) + manyN tm tk p) ≤ 100000 * (100 * 4294967295) := by
                    have h1 := HLE.out
                    have h2 := HAL2.out
                    rw [HTK2.out] at h1
                    omega
                  clear hh
                  have HQ := Lib.hid (show P0 + allN gs [r] (o.take (m + 1)) = P0 + allN gs [r] (o.take m) + manyN tm tk p from by rw [HTK2.out]; omega)
                  clear HTK HTK2 HLE
                  generalize allN gs [r] (o.take m) = P1 at hbd HQ ⊢
                  obtain ⟨P2, hP2⟩ : ∃ P2, manyN tm tk p = P2 := ⟨_, rfl⟩
                  rw [hP2] at hbd HQ
                  have HCO := Lib.hid (fun W => rcount_ok W tm tk p HTT.out.1 HTT.out.2.1 HTT.out.2.2 HPP.out.2.2.1 HPP.out.2.2.2)
                  rw [hP2] at HCO
                  clear hP2
                  have xw : IntKind.i64.wrap ((P0 : Int) + (P1 : Int) + (P2 : Int)) = (P0 : Int) + (P1 : Int) + (P2 : Int) := IntWalk.i64_in _ (by omega)
                  go_wp2_with fail
                  go_region_held3 (fun wz => wz.cell? ⟨b, off + m * 4 + 1, none⟩ = some (.int .i64 (tm : Nat)) ∧ wz.cell? ⟨b, off + m * 4 + 2, none⟩ = some (.int .i64 (tk : Nat)) ∧ wz.cell? ⟨br, fr + j * 3 + 1, none⟩ = some (.int .i64 (p : Nat)) ∧ Below w6.heap.size w6 wz)
                    (first
                      | exact held3c (by assumption) hbz
                      | assumption
                      | exact ⟨t1, t2, r1, below_drew (Below.refl _ _)⟩)
                    ((go_at_call 70; refine (HCO.out _).mono ?_; rintro e wz ⟨rfl, hbz⟩))
                  rename_i hh
                  have HB8 := Lib.hid (HB6.out.trans (hh.2.2.2.mono HB6.out.size))
                  clear hh hbz t1 t2 r1
                  go_wp2
                  go_roundg (gk - 1)
                  case measure => have := HM.out; omega
                  case rel => exact ⟨m + 1, by have := HM.out; omega, by go_num, by rw [HQ.out]; go_num, HB8.out⟩
              · obtain rfl : no = m := by have := HM.out; omega
                have HT := Lib.hid (show o.take no = o from by rw [← HNO.out, List.take_length])
                go_wp2
                go_roundg (R - (j + 1))
                case measure => have := HJ.out; omega
                case rel => exact ⟨j + 1, by have := HJ.out; omega, by go_num, by rw [HAR.out, HT.out], HBm.out⟩
          · obtain rfl : R = j := by have := HJ.out; omega
            have HT := Lib.hid (show rs.take R = rs from by rw [← HR.out.2.1, List.take_length])
            rw [HT.out]
            go_wp2
            go_meet
            exact ⟨rfl, HB.out⟩
      case rest =>
        obtain ⟨rfl, hb⟩ := hcut
        have HBX := Lib.hid hb
        have hsz := HB3.out.size
        have HB4 := Lib.hid (HB3.out.trans (hb.mono hsz))
        clear hb
        by_cases h5 : 65536 < allN gs rs o
        · have hd : decide ((65536 : Int) < (allN gs rs o : Int)) = true := by simp; omega
          have hd2 : decide (65536 < allN gs rs o) = true := by simp; omega
          go_wp2
          exact HP5.out h5 _ HB4.out
        · have H5 := Lib.hid h5
          go_upto_if 84 with fail
          have HF := Lib.hid (HP0.out h5)
          obtain ⟨w4, hw4⟩ : ∃ w4, w4 = wc := ⟨_, rfl⟩
          subst hw4
          go_cut [] (fun wx => wx = w4)
          case first =>
            have hd : decide ((65536 : Int) < (allN gs rs o : Int)) = false := by simp; omega
            have hd2 : decide (65536 < allN gs rs o) = false := by simp; omega
            go_wp2
            go_meet
            rfl
          case rest =>
            subst hcut
            have hs4 := HB4.out.size
            refine (‹∀ (a : Act) (w : World), Code.wp _ _ _ a w → _› : ∀ (a : Act) (w : World), _ → _) _ _ (racc_t18 _ G c1 R c2 no co A1 A2 Ao gs rs o Post (Lib.hid ⟨HG.out.1.below HB4.out, HG.out.2⟩) (Lib.hid ⟨HR.out.1.below HB4.out, HR.out.2.1, HR.out.2.2, HRK.out⟩) (Lib.hid ⟨HEO.out.below HBX.out, HNO.out, by omega, HO.out.1, HO.out.2⟩) (Lib.hid (by have := H5.out; omega)) (Lib.hid fun v w' ho hb => HF.out v w' (ho.base_le hs4) (HB4.out.trans (hb.mono hs4))))
  · obtain ⟨e1, e2⟩ := HAE.out q1 rfl hc
    have E := Lib.hid (And.intro e1 e2)
    have hcd : (q1 != 0) = true := by simp [hc]
    clear e1 e2 hc
    rw [E.out.1, E.out.2]
    go_enter Tryd.func55, Tryd.ntmps55
    go_wp2_with fail
    refine HCK.out.mono ?_
    rintro e w2 ⟨rfl, b2⟩
    go_wp2
    go_ret2
    exact ⟨_, rfl, OV.nil _ _, b2⟩
end Go.Proofs.YtaplangfppohdaaDoor
