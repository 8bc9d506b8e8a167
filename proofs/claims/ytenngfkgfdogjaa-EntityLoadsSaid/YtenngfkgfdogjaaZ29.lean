/- The walk of the law EntityWalk: its loops. -/
import Derived.Test.YtenngfkgfdogjaaZ28
set_option linter.unusedVariables false
set_option linter.unusedSimpArgs false
set_option linter.unusedSectionVars false
namespace Go.Proofs.Ytenngfkgfdogjaa
open Go Go.RowKit Go.Shelf
attribute [local go_sem] Oper.semAt_some

theorem held3b {w wz wz' : World} {p0 p1 p2 : Addr} {u0 u1 u2 : Value} (h : wz.cell? p0 = some u0 ∧ wz.cell? p1 = some u1 ∧ wz.cell? p2 = some u2 ∧ Below w.heap.size w wz) (k : Below wz.heap.size wz wz') :
    wz'.cell? p0 = some u0 ∧ wz'.cell? p1 = some u1 ∧ wz'.cell? p2 = some u2 ∧ Below w.heap.size w wz' :=
  ⟨below_cell k h.1, below_cell k h.2.1, below_cell k h.2.2.1, below_step h.2.2.2 k⟩
theorem held7b {w wz wz' : World} {p0 p1 p2 p3 p4 p5 p6 : Addr} {u0 u1 u2 u3 u4 u5 u6 : Value} (h : wz.cell? p0 = some u0 ∧ wz.cell? p1 = some u1 ∧ wz.cell? p2 = some u2 ∧ wz.cell? p3 = some u3 ∧ wz.cell? p4 = some u4 ∧ wz.cell? p5 = some u5 ∧ wz.cell? p6 = some u6 ∧ Below w.heap.size w wz) (k : Below wz.heap.size wz wz') :
    wz'.cell? p0 = some u0 ∧ wz'.cell? p1 = some u1 ∧ wz'.cell? p2 = some u2 ∧ wz'.cell? p3 = some u3 ∧ wz'.cell? p4 = some u4 ∧ wz'.cell? p5 = some u5 ∧ wz'.cell? p6 = some u6 ∧ Below w.heap.size w wz' :=
  ⟨below_cell k h.1, below_cell k h.2.1, below_cell k h.2.2.1, below_cell k h.2.2.2.1, below_cell k h.2.2.2.2.1, below_cell k h.2.2.2.2.2.1, below_cell k h.2.2.2.2.2.2.1, below_step h.2.2.2.2.2.2.2 k⟩
/-- The next group on the way, and where it lies in the path. -/
theorem walk_nx {s : St} {cpu : Int} {ws : List Ky} {q : List Nat} {t : Tk} (h : WalkR s cpu 0 ws q t) (hs : Shp s) {j : Nat} (hj : j + 1 < ws.length) {k : Ky} (hk : ws[j]? = some k) :
    ∃ x : Nat, q[j + 1]? = some x ∧ x < s.gs.length ∧ k = spKey s cpu x ∧ (path s.gs t.g.toNat)[ws.length - 1 - (j + 1)]? = some x := by
  obtain ⟨x, h1, h2, h3⟩ := h.nxt j k hj hk
  exact ⟨x, h1, h2, h3, by rw [h.way_get hs hj]; exact h1⟩
/-- The spot q of group g in memory: its V. -/
theorem StAt.spotU {w : World} {c : StC} {s : St} (h : StAt w c s) (hs : Shp s) {g q G N : Nat} (hG : s.gs.length = G) (hN : s.n = (N : Nat)) (hg : g < G) (hq : q < N) :
    ∃ x y bs os cs bx ox cx, s.ss[g]? = some x ∧ x.2[q]? = some y ∧ c.vs = .slice (some ⟨bs, os, none⟩) G cs ∧ w.cell? ⟨bs, os + g, none⟩ = some (.slice (some ⟨bx, ox, none⟩) N cx) ∧ x.1 = .slice (some ⟨bx, ox, none⟩) N cx ∧ w.cell? ⟨bx, ox + q * 3, none⟩ = some (.int .u64 y.v) ∧ spotV s g (q : Nat) = y := by
  have hl := hs.ss
  obtain ⟨x, hx⟩ : ∃ x, s.ss[g]? = some x := ⟨_, List.getElem?_eq_getElem (by omega)⟩
  have hxm := List.mem_of_getElem? hx
  have hxn : x.2.length = N := by have := hs.row x hxm; omega
  obtain ⟨y, hy⟩ : ∃ y, x.2[q]? = some y := ⟨_, List.getElem?_eq_getElem (by omega)⟩
  obtain ⟨bs, os, cs, hv, _, r⟩ := h.es.1.row (by omega)
  obtain ⟨bx, ox, cx, hv2, _, r2⟩ := (h.es.2 x hxm).row (by omega)
  have hc := r g x hx 0 _ rfl
  simp only [Nat.mul_one, Nat.add_zero] at hc
  rw [hv2, hxn] at hc
  rw [hl, hG] at hv
  rw [hxn] at hv2
  exact ⟨x, y, bs, os, cs, bx, ox, cx, hx, hy, hv, hc, hv2, (r2.sp hy).1, spotV_get hx hy⟩
set_option maxRecDepth 100000 in
set_option maxHeartbeats 6400000 in
theorem walk_t18 (w w0 : World) (X base base2 base3 : Nat) (c : StC) (s : St) (q : Nat) (vw vp : Value) (ws : List Ky) (gq : List Nat) (t : Tk) {u0 u1 u2 u3 u4 u5 u6 u7 u8 u9 u10 u14 u15 u16 u17 u18 u19 u21 u22 u23 u24 u25 u26 u27 u28 u29 u30 u31 u32 u33 u34 u35 u36 u37 u38 u39 u40 u41 u42 u43 u44 u45 u46 u47 u48 u49 u50 u51 u52 u53 u54 u55 u56 u57 u58 u59 u60 u61 u62 u63 u64 u65 u66 u67 u68 u69 u70 u71 u72 u73 u74 u75 u76 u77 u78 u79 u80 u81 u82 u83 u84 u85 u86 u87 u88 u89 u90 u91 u92 u93 u94 u95 u96 u97 u98 u99 u100 u101 u102 u103 u104 u105 u106 u107 u108 u109 u110 u111 u112 u113 u114 u115 u116 u117 u118 u119 u120 u121 u122 u123 u124 u125 u126 u127 u128 u129 u130 u131 u132 u133 u134 u135 u136 u137 u138 u139 u140 u141 u142 u143 u144 u145 u146 u147 u148 u149 u150 u151 u152 u153 u154 u155 u156 u157 u158 u159 u160 u161 u162 u163 u164 u165 u166 u167 u168 u169 u170 u171 u172 u173 u174 u175 u176 u177 u178 u179 u180 u181 u182 u183 u184 u185 u186 u187 u188 u189 u190 u191 u192 u193 u194 u195 u196 u197 u198 u199 u200 u201 u202 u203 u204 u205 : Value} (o : StO base w0 c s) (bx : StBox w0 X c s) (hb : Below w.heap.size w w0) (hs : Shp s) (hq : (q : Int) < s.n)
    (hw : WalkR s (q : Nat) 0 ws gq t) (ow : OV encY 3 24 base2 w0 vw ws) (op : OV encI 1 3 base3 w0 vp (ints (path s.gs t.g.toNat))) :
    Code.wp Try.prog (tailR Try.f7 18) (bodyPost Try.prog Try.f7 fun e w' => e = .returned (.bool true) ∧ Below w.heap.size w w')
      ⟨#[u0, u1, u2, u3, u4, u5, u6, u7, u8, u9, u10, .pointer (some ⟨X, 0, none⟩), .int .i64 (q : Nat), vw, u14, u15, u16, u17, u18, u19, vp, u21, u22, u23, u24, u25, u26, u27, u28, u29, u30, u31, u32, u33, u34, u35, u36, u37, u38, u39, u40, u41, u42, u43, u44, u45, u46, u47, u48, u49, u50, u51, u52, u53, u54, u55, u56, u57, u58, u59, u60, u61, u62, u63, u64, u65, u66, u67, u68, u69, u70, u71, u72, u73, u74, u75, u76, u77, u78, u79, u80, u81, u82, u83, u84, u85, u86, u87, u88, u89, u90, u91, u92, u93, u94, u95, u96, u97, u98, u99, u100, u101, u102, u103, u104, u105, u106, u107, u108, u109, u110, u111, u112, u113, u114, u115, u116, u117, u118, u119, u120, u121, u122, u123, u124, u125, u126, u127, u128, u129, u130, u131, u132, u133, u134, u135, u136, u137, u138, u139, u140, u141, u142, u143, u144, u145, u146, u147, u148, u149, u150, u151, u152, u153, u154, u155, u156, u157, u158, u159, u160, u161, u162, u163, u164, u165, u166, u167, u168, u169, u170, u171, u172, u173, u174, u175, u176, u177, u178, u179, u180, u181, u182, u183, u184, u185, u186, u187, u188, u189, u190, u191, u192, u193, u194, u195, u196, u197, u198, u199, u200, u201, u202, u203, u204, u205], []⟩ w0 := by
  conv => arg 2; whnf
  conv => arg 4; dsimp only
  obtain ⟨N, hN⟩ : ∃ N : Nat, s.n = (N : Nat) := ⟨s.n.toNat, by have := hs.n1; omega⟩
  obtain ⟨G, hG⟩ : ∃ G, s.gs.length = G := ⟨_, rfl⟩
  have HN := Lib.hid hN
  have HGL := Lib.hid hG
  have hN1 : N ≤ 64 := by have := hs.n2; omega
  have hG1 : G ≤ 256 := by have := (right_iff.1 hs.right).many; omega
  have hqN : q < N := by omega
  obtain ⟨L, hL⟩ : ∃ L, ws.length = L := ⟨_, rfl⟩
  have HL := Lib.hid hL
  have hPL := hw.way_len hs
  rw [hL] at hPL
  have hLG : L ≤ 256 := by
    have h1 := hw.task
    have h2 := tks_g hs.tks t h1.1
    have := path_le hs.bef t.g.toNat (by omega)
    omega
  have hL0 : 0 < L := by have := hw.pos; omega
  obtain ⟨Aw, cw, rfl⟩ := (ow.ev encY_len).shape
  obtain ⟨Ap, cp, rfl⟩ := (op.ev encI_len).shape
  have HPI := Lib.hid (show (ints (path s.gs t.g.toNat)).length = L by unfold ints; rw [List.length_map]; exact hPL)
  have F : Facts w0 [sSA c s, sSB X c s] := ⟨o.at, bx, trivial⟩
  have HF := Lib.hid F
  have HB := Lib.hid hb
  have HS := Lib.hid hs
  have HW := Lib.hid hw
  have OW := Lib.hid ow
  have OP := Lib.hid op
  rw [HPI.out] at OP ⊢
  rw [hL] at OW ⊢
  have hsz := hb.size
  clear o bx hb hs hw ow op F hN hG hL hPL hq
  go_wp2_with fail
  go_loopg [127] L (fun k i wr => ∃ j : Nat, j + k = L ∧ i = .int .i64 j ∧ Below w0.heap.size w0 wr)
  case atStart => exact ⟨0, by omega, rfl, Below.refl _ _⟩
  case round =>
    obtain ⟨j, hj, rfl, hbr⟩ := hrel
    have HJ := Lib.hid hj
    have HBR := Lib.hid hbr
    have hsw := hbr.size
    clear hj
    by_cases hlt : j < L
    · have hd : decide ((j : Int) < (L : Int)) = true := by rw [decide_eq_true_eq]; omega
      obtain ⟨⟨kv, kz, ki⟩, hk⟩ : ∃ k, ws[j]? = some k := ⟨_, List.getElem?_eq_getElem (by rw [HL.out]; exact hlt)⟩
      obtain ⟨x, l, hx, hxG, hm⟩ := HW.out.fst j _ hk
      have HX := Lib.hid hx
      have HM := Lib.hid hm
      have HK := Lib.hid hk
      have hpx := HW.out.way_get HS.out (i := j) (by rw [HL.out]; exact hlt)
      rw [HL.out, hx] at hpx
      obtain ⟨r, hr⟩ : ∃ r, L - 1 - j = r := ⟨_, rfl⟩
      rw [hr] at hpx
      obtain ⟨b, off, c', hv, _, rr⟩ := ((OW.out.below hbr).ev encY_len).row (by rw [HL.out]; omega)
      rw [HL.out] at hv
      simp only [Value.slice.injEq] at hv
      obtain ⟨rfl, _, rfl⟩ := hv
      obtain ⟨c0, c1, c2⟩ := rr.ky hk
      dsimp only at c0 c1 c2
      obtain ⟨bp, op, cp', hvp, _, rp⟩ := ((OP.out.below hbr).ev encI_len).row (by rw [HPI.out]; omega)
      rw [HPI.out] at hvp
      simp only [Value.slice.injEq] at hvp
      obtain ⟨rfl, _, rfl⟩ := hvp
      have p0 := rp.i1 (i := r) (x := (x : Int)) (by unfold ints; rw [List.getElem?_map, hpx]; rfl)
      have w1 : IntKind.i64.wrap ((L : Int) - 1 - j) = (r : Int) := by rw [IntWalk.i64_in _ (by omega)]; omega
      have w2 : (0 : Int) ≤ (r : Int) := by omega
      have w3 : (r : Int) < (L : Int) := by omega
      have HR := Lib.hid hr
      clear hbr hk hx hm hpx rr rp hr
      go_upto_region 21 with fail
      have A1 := bel_alloc wr (.cells #[.int .u64 kv, .bool kz, .int .i64 ki] 24)
      have K := newK wr ⟨kv, kz, ki⟩ rfl
      dsimp only at K
      obtain ⟨d0, d1, d2⟩ := K.ky (i := 0) rfl
      dsimp only at d0 d1 d2
      simp only [Nat.zero_mul, Nat.add_zero, Nat.zero_add] at d0 d1 d2
      have p0 := below_cell A1 p0
      generalize wr.alloc (.cells #[.int .u64 kv, .bool kz, .int .i64 ki] 24) = wa at A1 K d0 d1 d2 p0 ⊢
      have BA := Lib.hid (HBR.out.trans (A1.mono hsw))
      obtain ⟨Z, hZ⟩ : ∃ Z, wr.heap.size = Z := ⟨_, rfl⟩
      rw [hZ] at d0 d1 d2 ⊢
      have FA := HF.out.below BA.out
      have ME := Lib.hid (mem_ok HS.out wa c (x : Nat) (q : Nat) (FA.get 0) (by omega) (by omega) (by omega) (by rw [HN.out]; omega))
      rw [HM.out] at ME
      obtain ⟨b0, b1, b2, b3, b4, b5, b6⟩ := (FA.get 1 : StBox wa X c s).cell
      unfold StC.val StC.cells at ME
      have D := Lib.hid (fun W (h : Below wa.heap.size wa W) => (⟨below_cell h d0, below_cell h d1, below_cell h d2⟩ : W.cell? ⟨Z, 0, none⟩ = some (.int .u64 kv) ∧ W.cell? ⟨Z, 1, none⟩ = some (.bool kz) ∧ W.cell? ⟨Z, 2, none⟩ = some (.int .i64 ki)))
      clear A1 K c0 c1 c2 FA hZ d0 d1 d2
      go_wp2_with fail
      refine ME.out.mono ?_
      rintro e w3 ⟨v, rfl, om, b3'⟩
      obtain ⟨dd0, dd1, dd2⟩ := D.out w3 b3'
      have OM := Lib.hid om
      have B3 := Lib.hid (BA.out.trans (b3'.mono BA.out.size))
      obtain ⟨Am, cm, hvm⟩ := (om.ev encY_len).shape
      obtain ⟨NM, hNM⟩ : ∃ n, ((⟨kv, kz, ki⟩ : Ky) :: l).length = n := ⟨_, rfl⟩
      rw [hNM] at hvm
      subst hvm
      have HNM := Lib.hid hNM
      have hNM1 : NM ≤ 70000 := by have := memL_len s x (q : Nat); rw [HM.out, hNM] at this; have := HS.out.len; have := HGL.out; omega
      have CT := Lib.hid (fun W (h : Below w3.heap.size w3 W) => contains_key W (.slice Am NM cm) (⟨kv, kz, ki⟩ :: l) ⟨kv, kz, ki⟩ ((OM.out.below h).ev encY_len) (by rw [HNM.out]; omega))
      dsimp only at CT
      clear om hNM b0 b1 b2 b3 b4 b5 b6 p0 ME
      have FX := Lib.hid (HF.out.below B3.out)
      have hQN := Lib.hid hqN
      have SX := Lib.hid (fun (hl : j + 1 < L) => walk_nx HW.out HS.out (HL.out.symm ▸ hl) HK.out)
      rw [HL.out] at SX
      have OPX := Lib.hid (OP.out.below B3.out)
      have HMM := Lib.hid HM.out
      clear HBR BA D HK HX HM
      go_upto_region 23 with fail
      go_cut [194] (fun x wx => x = .bool false ∧ Below w3.heap.size w3 wx)
      case first =>
        have w0' : IntKind.i64.wrap ((L : Int) - 1) = (L : Int) - 1 := IntWalk.i64_in _ (by omega)
        by_cases hl : j + 1 = L
        · have hd2 : decide ((j : Int) < (L : Int) - 1) = false := by rw [decide_eq_false_iff_not]; omega
          clear FX SX OPX hl hNM1
          refine wp_region_held_drew (S := fun wz => wz.cell? ⟨Z, 0, none⟩ = some (.int .u64 kv) ∧ wz.cell? ⟨Z, 1, none⟩ = some (.bool kz) ∧ wz.cell? ⟨Z, 2, none⟩ = some (.int .i64 ki) ∧ Below w3.heap.size w3 wz) (by kernel_rfl) ⟨dd0, dd1, dd2, below_drew (Below.refl _ _)⟩ (fun hh => ?_)
          refine wpAnyH_takeW (i := 0) (d := some 147) (v := ?_) (by kernel_rfl) (by kernel_rfl) (by kernel_rfl) (by kernel_rfl) (fun _ _ _ h => h) ?_ hh ?_
          rotate_left
          · (intro o ho w hSw; obtain rfl := Option.some.inj ho; clear ho; (try dsimp only at hSw ⊢); go_simp; (try with_reducible rfl))
          simp only [Act.put, List.setIfInBounds_toArray, List.set_cons_zero, List.set_cons_succ]
          refine wpAnyH_takeW (i := 1) (d := some 148) (v := ?_) (by kernel_rfl) (by kernel_rfl) (by kernel_rfl) (by kernel_rfl) (fun _ _ _ h => h) ?_ hh ?_
          rotate_left
          · (intro o ho w hSw; obtain rfl := Option.some.inj ho; clear ho; (try dsimp only at hSw ⊢); go_simp; (try with_reducible rfl))
          simp only [Act.put, List.setIfInBounds_toArray, List.set_cons_zero, List.set_cons_succ]
          refine wpAnyH_takeW (i := 2) (d := some 149) (v := ?_) (by kernel_rfl) (by kernel_rfl) (by kernel_rfl) (by kernel_rfl) (fun _ _ _ h => h) ?_ hh ?_
          rotate_left
          · (intro o ho w hSw; obtain rfl := Option.some.inj ho; clear ho; (try dsimp only at hSw ⊢); go_simp; (try with_reducible rfl))
          simp only [Act.put, List.setIfInBounds_toArray, List.set_cons_zero, List.set_cons_succ]
          refine wpAnyH_takeW (i := 3) (d := some 150) (v := ?_) (by kernel_rfl) (by kernel_rfl) (by kernel_rfl) (by kernel_rfl) (fun _ _ _ h => h) ?_ hh ?_
          rotate_left
          · (intro o ho w hSw; obtain rfl := Option.some.inj ho; clear ho; (try dsimp only at hSw ⊢); go_simp; (try with_reducible rfl))
          simp only [Act.put, List.setIfInBounds_toArray, List.set_cons_zero, List.set_cons_succ]
          refine wpAnyH_takeW (i := 4) (d := some 151) (v := ?_) (by kernel_rfl) (by kernel_rfl) (by kernel_rfl) (by kernel_rfl) (fun _ _ _ h => h) ?_ hh ?_
          rotate_left
          · (intro o ho w hSw; obtain rfl := Option.some.inj ho; clear ho; (try dsimp only at hSw ⊢); go_simp; (try with_reducible rfl))
          simp only [Act.put, List.setIfInBounds_toArray, List.set_cons_zero, List.set_cons_succ]
          refine wpAnyH_ready (rs := [5]) (by kernel_rfl) (by simp) (AllReadyH.cons rfl (fun K hK => ?_) AllReadyH.nil)
          go_simp
          go_at_call 22
          refine (CT.out _ (below_drew (Below.refl _ _))).mono ?_
          rintro e wz ⟨bz, rfl, hbi, hbz⟩
          obtain rfl : bz = true := hbi.2 (List.mem_cons_self ..)
          clear hbi
          refine hK.out _ _ (held3b hh hbz) (fun hHeld2 => ?_)
          clear hK K
          try simp only [Act.put, List.setIfInBounds_toArray, List.set_cons_zero, List.set_cons_succ]
          clear hh
          have hh := hHeld2
          clear hHeld2
          refine wpAnyH_takeW (i := 6) (d := some 153) (v := ?_) (by kernel_rfl) (by kernel_rfl) (by kernel_rfl) (by kernel_rfl) (fun _ _ _ h => h) ?_ hh ?_
          rotate_left
          · (intro o ho w hSw; obtain rfl := Option.some.inj ho; clear ho; (try dsimp only at hSw ⊢); go_simp; (try with_reducible rfl))
          simp only [Act.put, List.setIfInBounds_toArray, List.set_cons_zero, List.set_cons_succ]
          refine wpAnyH_takeW (i := 7) (d := some 154) (v := ?_) (by kernel_rfl) (by kernel_rfl) (by kernel_rfl) (by kernel_rfl) (fun _ _ _ h => h) ?_ hh ?_
          rotate_left
          · (intro o ho w hSw; obtain rfl := Option.some.inj ho; clear ho; (try dsimp only at hSw ⊢); go_simp; (try with_reducible rfl))
          simp only [Act.put, List.setIfInBounds_toArray, List.set_cons_zero, List.set_cons_succ]
          refine wpAnyH_takeW (i := 8) (d := some 155) (v := ?_) (by kernel_rfl) (by kernel_rfl) (by kernel_rfl) (by kernel_rfl) (fun _ _ _ h => h) ?_ hh ?_
          rotate_left
          · (intro o ho w hSw; obtain rfl := Option.some.inj ho; clear ho; (try dsimp only at hSw ⊢); go_simp; (try with_reducible rfl))
          simp only [Act.put, List.setIfInBounds_toArray, List.set_cons_zero, List.set_cons_succ]
          refine wpAnyH_takeW (i := 9) (d := some 156) (v := ?_) (by kernel_rfl) (by kernel_rfl) (by kernel_rfl) (by kernel_rfl) (fun _ _ _ h => h) ?_ hh ?_
          rotate_left
          · (intro o ho w hSw; obtain rfl := Option.some.inj ho; clear ho; (try dsimp only at hSw ⊢); go_simp; (try with_reducible rfl))
          simp only [Act.put, List.setIfInBounds_toArray, List.set_cons_zero, List.set_cons_succ]
          refine wpAnyH_takeW (i := 10) (d := some 157) (v := ?_) (by kernel_rfl) (by kernel_rfl) (by kernel_rfl) (by kernel_rfl) (fun _ _ _ h => h) ?_ hh ?_
          rotate_left
          · (intro o ho w hSw; obtain rfl := Option.some.inj ho; clear ho; (try dsimp only at hSw ⊢); go_simp; (try with_reducible rfl))
          simp only [Act.put, List.setIfInBounds_toArray, List.set_cons_zero, List.set_cons_succ]
          refine wpAnyH_takeW (i := 11) (d := some 158) (v := ?_) (by kernel_rfl) (by kernel_rfl) (by kernel_rfl) (by kernel_rfl) (fun _ _ _ h => h) ?_ hh ?_
          rotate_left
          · (intro o ho w hSw; obtain rfl := Option.some.inj ho; clear ho; (try dsimp only at hSw ⊢); go_simp; (try with_reducible rfl))
          simp only [Act.put, List.setIfInBounds_toArray, List.set_cons_zero, List.set_cons_succ]
          refine wpAnyH_takeW (i := 12) (d := some 159) (v := ?_) (by kernel_rfl) (by kernel_rfl) (by kernel_rfl) (by kernel_rfl) (fun _ _ _ h => h) ?_ hh ?_
          rotate_left
          · (intro o ho w hSw; obtain rfl := Option.some.inj ho; clear ho; (try dsimp only at hSw ⊢); go_simp; (try with_reducible rfl))
          simp only [Act.put, List.setIfInBounds_toArray, List.set_cons_zero, List.set_cons_succ]
          refine wpAnyH_takeW (i := 13) (d := some 160) (v := ?_) (by kernel_rfl) (by kernel_rfl) (by kernel_rfl) (by kernel_rfl) (fun _ _ _ h => h) ?_ hh ?_
          rotate_left
          · (intro o ho w hSw; obtain rfl := Option.some.inj ho; clear ho; (try dsimp only at hSw ⊢); go_simp; (try with_reducible rfl))
          simp only [Act.put, List.setIfInBounds_toArray, List.set_cons_zero, List.set_cons_succ]
          refine wpAnyH_takeW (i := 14) (d := some 161) (v := ?_) (by kernel_rfl) (by kernel_rfl) (by kernel_rfl) (by kernel_rfl) (fun _ _ _ h => h) ?_ hh ?_
          rotate_left
          · (intro o ho w hSw; obtain rfl := Option.some.inj ho; clear ho; (try dsimp only at hSw ⊢); go_simp; (try with_reducible rfl))
          simp only [Act.put, List.setIfInBounds_toArray, List.set_cons_zero, List.set_cons_succ]
          refine wpAnyH_takeU (i := 15) (d := some 162) (by kernel_rfl) (by kernel_rfl) (by kernel_rfl) (by kernel_rfl) (fun _ _ _ h => h) hh ?_
          simp only [Act.put, List.setIfInBounds_toArray, List.set_cons_zero, List.set_cons_succ]
          refine wpAnyH_takeU (i := 16) (d := some 163) (by kernel_rfl) (by kernel_rfl) (by kernel_rfl) (by kernel_rfl) (fun _ _ _ h => h) hh ?_
          simp only [Act.put, List.setIfInBounds_toArray, List.set_cons_zero, List.set_cons_succ]
          refine wpAnyH_takeU (i := 17) (d := some 164) (by kernel_rfl) (by kernel_rfl) (by kernel_rfl) (by kernel_rfl) (fun _ _ _ h => h) hh ?_
          simp only [Act.put, List.setIfInBounds_toArray, List.set_cons_zero, List.set_cons_succ]
          refine wpAnyH_takeU (i := 18) (d := some 165) (by kernel_rfl) (by kernel_rfl) (by kernel_rfl) (by kernel_rfl) (fun _ _ _ h => h) hh ?_
          simp only [Act.put, List.setIfInBounds_toArray, List.set_cons_zero, List.set_cons_succ]
          refine wpAnyH_takeU (i := 19) (d := some 166) (by kernel_rfl) (by kernel_rfl) (by kernel_rfl) (by kernel_rfl) (fun _ _ _ h => h) hh ?_
          simp only [Act.put, List.setIfInBounds_toArray, List.set_cons_zero, List.set_cons_succ]
          refine wpAnyH_takeU (i := 20) (d := some 167) (by kernel_rfl) (by kernel_rfl) (by kernel_rfl) (by kernel_rfl) (fun _ _ _ h => h) hh ?_
          simp only [Act.put, List.setIfInBounds_toArray, List.set_cons_zero, List.set_cons_succ]
          refine wpAnyH_takeU (i := 21) (d := some 168) (by kernel_rfl) (by kernel_rfl) (by kernel_rfl) (by kernel_rfl) (fun _ _ _ h => h) hh ?_
          simp only [Act.put, List.setIfInBounds_toArray, List.set_cons_zero, List.set_cons_succ]
          refine wpAnyH_takeU (i := 22) (d := some 169) (by kernel_rfl) (by kernel_rfl) (by kernel_rfl) (by kernel_rfl) (fun _ _ _ h => h) hh ?_
          simp only [Act.put, List.setIfInBounds_toArray, List.set_cons_zero, List.set_cons_succ]
          refine wpAnyH_takeU (i := 23) (d := some 170) (by kernel_rfl) (by kernel_rfl) (by kernel_rfl) (by kernel_rfl) (fun _ _ _ h => h) hh ?_
          simp only [Act.put, List.setIfInBounds_toArray, List.set_cons_zero, List.set_cons_succ]
          refine wpAnyH_takeU (i := 24) (d := some 171) (by kernel_rfl) (by kernel_rfl) (by kernel_rfl) (by kernel_rfl) (fun _ _ _ h => h) hh ?_
          simp only [Act.put, List.setIfInBounds_toArray, List.set_cons_zero, List.set_cons_succ]
          refine wpAnyH_takeU (i := 25) (d := some 172) (by kernel_rfl) (by kernel_rfl) (by kernel_rfl) (by kernel_rfl) (fun _ _ _ h => h) hh ?_
          simp only [Act.put, List.setIfInBounds_toArray, List.set_cons_zero, List.set_cons_succ]
          refine wpAnyH_takeU (i := 26) (d := some 173) (by kernel_rfl) (by kernel_rfl) (by kernel_rfl) (by kernel_rfl) (fun _ _ _ h => h) hh ?_
          simp only [Act.put, List.setIfInBounds_toArray, List.set_cons_zero, List.set_cons_succ]
          refine wpAnyH_takeU (i := 27) (d := some 174) (by kernel_rfl) (by kernel_rfl) (by kernel_rfl) (by kernel_rfl) (fun _ _ _ h => h) hh ?_
          simp only [Act.put, List.setIfInBounds_toArray, List.set_cons_zero, List.set_cons_succ]
          refine wpAnyH_takeU (i := 28) (d := some 175) (by kernel_rfl) (by kernel_rfl) (by kernel_rfl) (by kernel_rfl) (fun _ _ _ h => h) hh ?_
          simp only [Act.put, List.setIfInBounds_toArray, List.set_cons_zero, List.set_cons_succ]
          refine wpAnyH_takeU (i := 29) (d := some 176) (by kernel_rfl) (by kernel_rfl) (by kernel_rfl) (by kernel_rfl) (fun _ _ _ h => h) hh ?_
          simp only [Act.put, List.setIfInBounds_toArray, List.set_cons_zero, List.set_cons_succ]
          refine wpAnyH_takeU (i := 30) (d := some 177) (by kernel_rfl) (by kernel_rfl) (by kernel_rfl) (by kernel_rfl) (fun _ _ _ h => h) hh ?_
          simp only [Act.put, List.setIfInBounds_toArray, List.set_cons_zero, List.set_cons_succ]
          refine wpAnyH_takeU (i := 31) (d := some 178) (by kernel_rfl) (by kernel_rfl) (by kernel_rfl) (by kernel_rfl) (fun _ _ _ h => h) hh ?_
          simp only [Act.put, List.setIfInBounds_toArray, List.set_cons_zero, List.set_cons_succ]
          refine wpAnyH_takeU (i := 32) (d := some 179) (by kernel_rfl) (by kernel_rfl) (by kernel_rfl) (by kernel_rfl) (fun _ _ _ h => h) hh ?_
          simp only [Act.put, List.setIfInBounds_toArray, List.set_cons_zero, List.set_cons_succ]
          refine wpAnyH_takeU (i := 33) (d := some 180) (by kernel_rfl) (by kernel_rfl) (by kernel_rfl) (by kernel_rfl) (fun _ _ _ h => h) hh ?_
          simp only [Act.put, List.setIfInBounds_toArray, List.set_cons_zero, List.set_cons_succ]
          refine wpAnyH_takeU (i := 34) (d := some 181) (by kernel_rfl) (by kernel_rfl) (by kernel_rfl) (by kernel_rfl) (fun _ _ _ h => h) hh ?_
          simp only [Act.put, List.setIfInBounds_toArray, List.set_cons_zero, List.set_cons_succ]
          refine wpAnyH_takeU (i := 35) (d := some 182) (by kernel_rfl) (by kernel_rfl) (by kernel_rfl) (by kernel_rfl) (fun _ _ _ h => h) hh ?_
          simp only [Act.put, List.setIfInBounds_toArray, List.set_cons_zero, List.set_cons_succ]
          refine wpAnyH_takeU (i := 36) (d := some 183) (by kernel_rfl) (by kernel_rfl) (by kernel_rfl) (by kernel_rfl) (fun _ _ _ h => h) hh ?_
          simp only [Act.put, List.setIfInBounds_toArray, List.set_cons_zero, List.set_cons_succ]
          refine wpAnyH_takeU (i := 37) (d := some 184) (by kernel_rfl) (by kernel_rfl) (by kernel_rfl) (by kernel_rfl) (fun _ _ _ h => h) hh ?_
          simp only [Act.put, List.setIfInBounds_toArray, List.set_cons_zero, List.set_cons_succ]
          refine wpAnyH_takeU (i := 38) (d := some 185) (by kernel_rfl) (by kernel_rfl) (by kernel_rfl) (by kernel_rfl) (fun _ _ _ h => h) hh ?_
          simp only [Act.put, List.setIfInBounds_toArray, List.set_cons_zero, List.set_cons_succ]
          refine wpAnyH_takeU (i := 39) (d := some 186) (by kernel_rfl) (by kernel_rfl) (by kernel_rfl) (by kernel_rfl) (fun _ _ _ h => h) hh ?_
          simp only [Act.put, List.setIfInBounds_toArray, List.set_cons_zero, List.set_cons_succ]
          refine wpAnyH_takeU (i := 40) (d := some 187) (by kernel_rfl) (by kernel_rfl) (by kernel_rfl) (by kernel_rfl) (fun _ _ _ h => h) hh ?_
          simp only [Act.put, List.setIfInBounds_toArray, List.set_cons_zero, List.set_cons_succ]
          refine wpAnyH_takeU (i := 41) (d := some 188) (by kernel_rfl) (by kernel_rfl) (by kernel_rfl) (by kernel_rfl) (fun _ _ _ h => h) hh ?_
          simp only [Act.put, List.setIfInBounds_toArray, List.set_cons_zero, List.set_cons_succ]
          refine wpAnyH_takeU (i := 42) (d := some 189) (by kernel_rfl) (by kernel_rfl) (by kernel_rfl) (by kernel_rfl) (fun _ _ _ h => h) hh ?_
          simp only [Act.put, List.setIfInBounds_toArray, List.set_cons_zero, List.set_cons_succ]
          refine wpAnyH_takeU (i := 43) (d := some 190) (by kernel_rfl) (by kernel_rfl) (by kernel_rfl) (by kernel_rfl) (fun _ _ _ h => h) hh ?_
          simp only [Act.put, List.setIfInBounds_toArray, List.set_cons_zero, List.set_cons_succ]
          refine wpAnyH_takeU (i := 44) (d := some 191) (by kernel_rfl) (by kernel_rfl) (by kernel_rfl) (by kernel_rfl) (fun _ _ _ h => h) hh ?_
          simp only [Act.put, List.setIfInBounds_toArray, List.set_cons_zero, List.set_cons_succ]
          refine wpAnyH_takeU (i := 45) (d := some 192) (by kernel_rfl) (by kernel_rfl) (by kernel_rfl) (by kernel_rfl) (fun _ _ _ h => h) hh ?_
          simp only [Act.put, List.setIfInBounds_toArray, List.set_cons_zero, List.set_cons_succ]
          refine wpAnyH_takeW (i := 46) (d := some 193) (v := ?_) (by kernel_rfl) (by kernel_rfl) (by kernel_rfl) (by kernel_rfl) (fun _ _ _ h => h) ?_ hh ?_
          rotate_left
          · (intro o ho w hSw; obtain rfl := Option.some.inj ho; clear ho; (try dsimp only at hSw ⊢); go_simp; (try with_reducible rfl))
          simp only [Act.put, List.setIfInBounds_toArray, List.set_cons_zero, List.set_cons_succ]
          refine wpAnyH_takeW (i := 47) (d := some 194) (v := ?_) (by kernel_rfl) (by kernel_rfl) (by kernel_rfl) (by kernel_rfl) (fun _ _ _ h => h) ?_ hh ?_
          rotate_left
          · (intro o ho w hSw; obtain rfl := Option.some.inj ho; clear ho; (try dsimp only at hSw ⊢); go_simp; (try with_reducible rfl))
          simp only [Act.put, List.setIfInBounds_toArray, List.set_cons_zero, List.set_cons_succ]
          refine wpAnyH_done (by kernel_rfl) ?_ _
          have BF := Lib.hid hh.2.2.2
          clear hh
          go_wp2_with fail
          go_meet
          exact ⟨rfl, BF.out⟩
        · obtain ⟨x', hx', hxg, he, hpt⟩ := SX.out (by omega)
          obtain ⟨rfl, rfl, rfl⟩ : kv = (spotV s x' (q : Nat)).v ∧ kz = true ∧ ki = (x' : Int) := by
            unfold spKey at he
            simpa using he
          have hl' := Lib.hid hl
          clear hl hNM1
          obtain ⟨_, y, bs, os, cs, bx, ox, cx, _, _, hvs, hcs, _, hyv, hsp⟩ := (FX.out.get 0 : StAt w3 c s).spotU HS.out HGL.out HN.out (by rw [← HGL.out]; exact hxg) hQN.out
          obtain ⟨b0, b1, b2, b3, b4, b5, b6⟩ := (FX.out.get 1 : StBox w3 X c s).cell
          rw [hvs] at b6
          obtain ⟨r', hr'⟩ : ∃ r', L - 2 - j = r' := ⟨_, rfl⟩
          have hpt2 : (path s.gs t.g.toNat)[r']? = some x' := by rw [← hr', show L - 2 - j = L - 1 - (j + 1) by omega]; exact hpt
          have rp := (OPX.out.ev encI_len).row3 (by rw [HPI.out]; omega)
          have p0 := rp.i1 (i := r') (x := (x' : Int)) (by unfold ints; rw [List.getElem?_map, hpt2]; rfl)
          rw [hsp] at CT dd0 ⊢
          obtain ⟨yv, hyv'⟩ : ∃ yv, y.v = yv := ⟨_, rfl⟩
          rw [hyv'] at CT dd0 hyv ⊢
          have hl2 : j + 1 < L := by have := hl'.out; omega
          have w2 : IntKind.i64.wrap ((L : Int) - 2) = (L : Int) - 2 := IntWalk.i64_in _ (by omega)
          have w3' : IntKind.i64.wrap ((L : Int) - 2 - j) = (r' : Int) := by rw [IntWalk.i64_in _ (by omega)]; omega
          have w4 : (0 : Int) ≤ (r' : Int) := by omega
          have w5 : (r' : Int) < (L : Int) := by omega
          have w5' : r' < L := by omega
          have hxG2 : x' < G := by rw [← HGL.out]; exact hxg
          have hd2 : decide ((j : Int) < (L : Int) - 1) = true := by rw [decide_eq_true_eq]; omega
          clear FX SX OPX hx' hxg he hpt hvs hsp hyv' hr' hpt2 rp b0 b1 b2 b3 b4 b5
          first | (go_region_held3 (fun wz => wz.cell? ⟨Z, 0, none⟩ = some (.int .u64 yv) ∧ wz.cell? ⟨Z, 1, none⟩ = some (.bool true) ∧ wz.cell? ⟨Z, 2, none⟩ = some (.int .i64 x') ∧ wz.cell? ⟨X, 6, none⟩ = some (.slice (some ⟨bs, os, none⟩) G cs) ∧ wz.cell? ⟨bs, os + x', none⟩ = some (.slice (some ⟨bx, ox, none⟩) N cx) ∧ wz.cell? ⟨bx, ox + q * 3, none⟩ = some (.int .u64 yv) ∧ wz.cell? ⟨bp, op + r', none⟩ = some (.int .i64 x') ∧ Below w3.heap.size w3 wz)
            (first
              | exact held7b (by assumption) hbz
              | assumption
              | exact ⟨dd0, dd1, dd2, b6, hcs, hyv, p0, below_drew (Below.refl _ _)⟩)
            (first
              | (go_at_call 22; refine (CT.out _ (by first | assumption | exact (‹_ ∧ _ ∧ _ ∧ _ ∧ _ ∧ _ ∧ _ ∧ Below w3.heap.size w3 _›).2.2.2.2.2.2.2)).mono ?_; rintro e wz ⟨bz, rfl, hbi, hbz⟩; obtain rfl : bz = true := hbi.2 (List.mem_cons_self ..); clear hbi))) | fail
          all_goals
            rename_i hh
            have BF := Lib.hid hh.2.2.2.2.2.2.2
            clear hh
            go_wp2_with fail
            go_meet
            exact ⟨rfl, BF.out⟩
      case rest =>
      obtain ⟨rfl, bb⟩ := hcut
      have BB := Lib.hid (B3.out.trans (bb.mono B3.out.size))
      have MN := Lib.hid (fst_min HS.out (g := (x : Nat)) (cpu := (q : Nat)) HMM.out)
      rw [HMM.out] at MN
      have LV := Lib.hid (fun W (m : Ky) (hm : m ∈ (⟨kv, kz, ki⟩ : Ky) :: l) => by have := less_ok W m ⟨kv, kz, ki⟩; rw [MN.out m hm] at this; exact this)
      dsimp only at LV
      have OMW := Lib.hid ((OM.out.below bb).ev encY_len)
      have DD := Lib.hid (fun W (h : Below wc.heap.size wc W) => (⟨below_cell h (below_cell bb dd0), below_cell h (below_cell bb dd1), below_cell h (below_cell bb dd2)⟩ : W.cell? ⟨Z, 0, none⟩ = some (.int .u64 kv) ∧ W.cell? ⟨Z, 1, none⟩ = some (.bool kz) ∧ W.cell? ⟨Z, 2, none⟩ = some (.int .i64 ki)))
      have hsz3 := BB.out.size
      clear bb dd0 dd1 dd2 OM CT FX SX OPX B3 MN HMM
      obtain ⟨w4, hw4⟩ : ∃ w4, w4 = wc := ⟨_, rfl⟩
      subst hw4
      go_wp2_with fail
      go_loopg [197] NM (fun k i wr => ∃ m : Nat, m + k = NM ∧ i = .int .i64 m ∧ Below w4.heap.size w4 wr)
      case atStart => exact ⟨0, by omega, rfl, Below.refl _ _⟩
      case round =>
        obtain ⟨m, hm, rfl, hbm⟩ := hrel
        have HMJ := Lib.hid hm
        have HBM := Lib.hid hbm
        have hsm := hbm.size
        clear hm
        by_cases hlm : m < NM
        · have hdm : decide ((m : Int) < (NM : Int)) = true := by rw [decide_eq_true_eq]; omega
          obtain ⟨⟨mv, mz, mi⟩, hk⟩ : ∃ k', ((⟨kv, kz, ki⟩ : Ky) :: l)[m]? = some k' := ⟨_, List.getElem?_eq_getElem (by rw [HNM.out]; exact hlm)⟩
          have LM := Lib.hid (fun W => LV.out W _ (List.mem_of_getElem? hk))
          dsimp only at LM
          obtain ⟨b, off, c', hv, _, rr⟩ := (OMW.out.below hbm).row (by rw [HNM.out]; omega)
          rw [HNM.out] at hv
          simp only [Value.slice.injEq] at hv
          obtain ⟨rfl, _, rfl⟩ := hv
          obtain ⟨c0, c1, c2⟩ := rr.ky hk
          dsimp only at c0 c1 c2
          clear hk rr
          go_upto_region 28 with fail
          have A1 := bel_alloc wr (.cells #[.int .u64 mv, .bool mz, .int .i64 mi] 24)
          have K := newK wr ⟨mv, mz, mi⟩ rfl
          dsimp only at K
          obtain ⟨d0, d1, d2⟩ := K.ky (i := 0) rfl
          dsimp only at d0 d1 d2
          simp only [Nat.zero_mul, Nat.add_zero, Nat.zero_add] at d0 d1 d2
          generalize wr.alloc (.cells #[.int .u64 mv, .bool mz, .int .i64 mi] 24) = w5 at A1 K d0 d1 d2 ⊢
          have B5 := Lib.hid (HBM.out.trans (A1.mono hsm))
          obtain ⟨e0, e1, e2⟩ := DD.out w5 B5.out
          clear A1 K c0 c1 c2 hbm
          go_wp2_with fail
          refine (LM.out _).mono ?_
          rintro e w6 ⟨rfl, b6'⟩
          have B6 := Lib.hid (B5.out.trans (b6'.mono B5.out.size))
          clear b6' d0 d1 d2 e0 e1 e2
          go_wp2
          go_roundg (gk - 1)
          case measure => have := HMJ.out; omega
          case rel => exact ⟨m + 1, by have := HMJ.out; omega, by go_num, B6.out⟩
        · have hdm : decide ((m : Int) < (NM : Int)) = false := by rw [decide_eq_false_iff_not]; omega
          clear hbm
          go_wp2
          go_roundg (L - (j + 1))
          case measure => have := HJ.out; omega
          case rel => exact ⟨j + 1, by omega, by go_num, BB.out.trans (HBM.out.mono hsz3)⟩
    · have hd : decide ((j : Int) < (L : Int)) = false := by rw [decide_eq_false_iff_not]; omega
      clear hbr
      go_wp2
      go_ret
      exact ⟨rfl, HB.out.trans (HBR.out.mono hsz)⟩
end Go.Proofs.Ytenngfkgfdogjaa
