/- quantumlaw21.Made: the spots, and the whole | quantumlaw21.Made: the tasks | quantumlaw21.Made: the beginning, where the groups and the clocks are made. -/
import Derived.Test.YtenngfkgfdogjaaZ23
import Derived.Test.YtenngfkgfdogjaaZ13
import Derived.Laws.ResultCell
import Derived.Deep.OwnRows
set_option linter.unusedVariables false
set_option linter.unusedSimpArgs false
set_option linter.unusedSectionVars false
namespace Go.Proofs.Ytenngfkgfdogjaa
open Go Go.RowKit Go.Shelf
attribute [local go_sem] Oper.semAt_some

theorem Md.mod {w wx wy : World} {X B : Nat} {c : StC} {s : St} (h : Md w X c s wx) (hm : Mod (fun q => q = B) wx wy) (hb : B = wx.heap.size) : Md w X c s wy :=
  h.below ⟨hm.os, hm.tape, hm.output, hm.size, fun k hk => hm.block k hk (by omega)⟩
theorem range_snoc {α : Type} (f : Nat → α) (q : Nat) : (List.range (q + 1)).map f = (List.range q).map f ++ [f q] := by rw [List.range_succ, List.map_append]; rfl
theorem OV.rows' {base : Nat} {e : TypeId} {w : World} {v : Value} {ys : List (SV × List Sp)} (h : OV encR 1 e base w v (ys.map rowOf)) : OV encW 1 e base w v ys := by
  unfold OV at *; rw [flatW, List.length_map] at h; exact h
/-- One more row of spots. -/
theorem Md.apps {w W w1 : World} {X : Nat} {c : StC} {s : St} {v' : Value} {rows : List (SV × List Sp)} {p : SV} {l : List Sp} (M : Md w X c s W) (hs : s.ss = rows.map rowOf) (o1 : OV encW 1 52 w.heap.size w1 v' (rows ++ [(p, l)])) (g1 : W.grownBy w1 c.vs.ownBlock)
    (ol : OV encS 3 51 w.heap.size W p.v l) : Md w X { c with vs := v' } { s with ss := (rows ++ [(p, l)]).map rowOf } (w1.setCell ⟨X, 6, none⟩ v') ∧ StBox w1 X c s := by
  have b1 : StBox w1 X c s := (grown_same g1 M.bx.lt (M.o.os.ne_bx M.bx (by decide))).trans M.bx
  have hz : ZBox w1 w.heap.size := (grown_same g1 M.zb.lt (M.o.os.ne_z M.zb (by decide))).trans M.zb
  have o : StO w.heap.size w1 { c with vs := v' } { s with ss := (rows ++ [(p, l)]).map rowOf } :=
    ⟨M.o.og.keep g1 (M.o.og.ne M.o.os (by decide)), M.o.oc.keep g1 (M.o.oc.ne M.o.os (by decide)), M.o.ou.keep g1 (M.o.ou.ne M.o.os (by decide)), M.o.ot.keep g1 (M.o.ot.ne M.o.os (by decide)), o1.rows, fun x hx => by
      rw [List.map_append, List.mem_append, ← hs] at hx
      rcases hx with hx | hx
      · exact (M.o.orr x hx).keep g1 ((M.o.orr x hx).ne M.o.os (by decide))
      · simp at hx; subst hx; exact ol.keep g1 (ol.ne M.o.os (by decide))⟩
  have hb : Below w.heap.size w w1 := M.bel.grown g1 M.bel.size (fun k hk => (M.o.os.block k hk).1)
  exact ⟨⟨b1.set rfl, o.setbx b1 6 v', hz.other (fun e => by have := M.ne; have : X = w.heap.size := e; omega), hb.setCell (p := ⟨X, 6, none⟩) (by have := M.ne; show _ ≤ X; omega) _, M.ne⟩, b1⟩
/-- The rows' blocks are not the same. -/
def RowsP (rows : List (SV × List Sp)) : Prop := rows.Pairwise fun a b => a.1.v.ownBlock ≠ b.1.v.ownBlock
set_option maxRecDepth 100000 in
set_option maxHeartbeats 3200000 in
theorem made_t11 (w wc : World) (X n : Nat) (vs : Value) (c : StC) (gs : List (Int × Int)) (ts : List Tk) (sl : List Nat) {u0 u1 u2 u4 u5 u6 u7 u11 u12 u13 u14 u15 u16 u17 u18 u19 u20 u21 u22 u23 u24 u25 u26 u27 u28 u29 u30 u31 u32 u33 u34 u35 u36 u37 u38 u39 u40 u41 u42 u43 u44 u45 u46 u47 u48 u49 u50 u51 u52 u53 u54 u55 u56 u57 u58 u59 u60 u61 u62 u63 u64 u65 u66 u67 u68 u69 u70 u71 u72 u73 u74 u75 u76 u77 u78 u79 u80 u81 u82 u83 u84 u85 u86 u87 u88 u89 u90 u91 u92 u93 u94 u95 u96 u97 u98 u99 u100 u101 u102 u103 u104 u105 u106 u107 u108 u109 u110 u111 u112 u113 u114 u115 u116 u117 u118 u119 u120 u121 u122 u123 u124 u125 u126 u127 u128 u129 u130 u131 u132 u133 u134 u135 u136 u137 u138 u139 u140 u141 : Value} (hm : Md w X c (madX n gs ts []) wc) (hsl : EV encU16 1 w vs sl) (hlt : ∀ n ∈ sl, n < 65536) (hlen : sl.length ≤ 9223372036854775807) (hn1 : 1 ≤ n) (hn2 : n ≤ 8) (hg1 : 1 ≤ gs.length) (hg2 : gs.length ≤ 11) :
    Code.wp Try.prog (tailR Try.f15 11) (bodyPost Try.prog Try.f15 fun e w' => ∃ c' rows, e = .returned (c'.val (madX n gs ts (rows.map rowOf))) ∧ StO w.heap.size w' c' (madX n gs ts (rows.map rowOf)) ∧ rows.map Prod.snd = (List.range gs.length).map (madR sl n) ∧ RowsP rows ∧ Below w.heap.size w w')
      ⟨#[u0, u1, u2, vs, u4, u5, u6, u7, .pointer (some ⟨w.heap.size, 0, none⟩), .int .i64 n, .pointer (some ⟨X, 0, none⟩), u11, u12, u13, u14, u15, u16, u17, u18, u19, u20, u21, u22, u23, u24, u25, u26, u27, u28, u29, u30, u31, u32, u33, u34, u35, u36, u37, u38, u39, u40, u41, u42, u43, u44, u45, u46, u47, u48, u49, u50, u51, u52, u53, u54, u55, u56, u57, u58, u59, u60, u61, u62, u63, u64, u65, u66, u67, u68, u69, u70, u71, u72, u73, u74, u75, u76, u77, u78, u79, u80, u81, u82, u83, u84, u85, u86, u87, u88, u89, u90, u91, u92, u93, u94, u95, u96, u97, u98, u99, u100, u101, u102, u103, u104, u105, u106, u107, u108, u109, u110, u111, u112, u113, u114, u115, u116, u117, u118, u119, u120, u121, u122, u123, u124, u125, u126, u127, u128, u129, u130, u131, u132, u133, u134, u135, u136, u137, u138, u139, u140, u141], []⟩ wc := by
  conv => arg 2; whnf
  conv => arg 4; dsimp only
  have HM := Lib.hid hm
  have HSL := Lib.hid hsl
  have HLT := Lib.hid hlt
  obtain ⟨A3, c3, rfl⟩ := hsl.shape
  obtain ⟨m, hml⟩ : ∃ m, sl.length = m := ⟨_, rfl⟩
  have HML := Lib.hid hml
  rw [hml] at HSL hlen ⊢
  obtain ⟨Ag, cg, hvg⟩ := (hm.o.og.ev encG_len).shape
  change c.vg = .slice Ag gs.length cg at hvg
  obtain ⟨b0, b1, b2, b3, b4, b5, b6⟩ := hm.bx.cell
  rw [hvg] at b2
  obtain ⟨G, hG⟩ : ∃ G, gs.length = G := ⟨_, rfl⟩
  have HG := Lib.hid hG
  rw [hG] at b2 hg1 hg2
  clear hm hlt hsl hml hvg hG b0 b1 b3 b4 b5 b6
  go_upto_block 2 with fail
  go_cut [] (fun wx => ∃ c rows, rows.map Prod.snd = (List.range G).map (madR sl n) ∧ RowsP rows ∧ Md w X c (madX n gs ts (rows.map rowOf)) wx)
  case first =>
    go_wp2_with fail
    go_loopg [91] G (fun k i wr => ∃ (g : Nat) (c : StC) (rows : List (SV × List Sp)), g + k = G ∧ i = .int .i64 g ∧ rows.map Prod.snd = (List.range g).map (madR sl n) ∧ RowsP rows ∧ Md w X c (madX n gs ts (rows.map rowOf)) wr)
    case atStart => exact ⟨0, c, [], by omega, rfl, rfl, List.Pairwise.nil, HM.out⟩
    case round =>
      obtain ⟨g, c, rows, hj, rfl, hr, hp, hm⟩ := hrel
      have HP := Lib.hid hp
      have HJ := Lib.hid hj
      have HM := Lib.hid hm
      have HR := Lib.hid hr
      clear hj hm hr hp
      by_cases hlt : g < G
      · have hd : decide ((g : Int) < (G : Int)) = true := by rw [decide_eq_true_eq]; omega
        obtain ⟨wo, hwo⟩ : ∃ wo, wo = wr := ⟨_, rfl⟩
        subst hwo
        go_upto_block 4 with fail
        go_cut [16] (fun vl wx => OV encS 3 51 wo.heap.size wx vl (madR sl n g) ∧ Below wo.heap.size wo wx)
        case first =>
          go_wp2_with fail
          go_loopg [16, 95] n (fun k vl i wq => ∃ q : Nat, q + k = n ∧ i = .int .i64 q ∧ OV encS 3 51 wo.heap.size wq vl ((List.range q).map (spotOf sl n g)) ∧ Below wo.heap.size wo wq)
          case atStart => exact ⟨0, by omega, rfl, OV.nil _ _, Below.refl _ _⟩
          case round =>
            obtain ⟨q, hq, rfl, ho, hm⟩ := hrel
            have HQ := Lib.hid hq
            have HO := Lib.hid ho
            have HMQ := Lib.hid hm
            clear hq ho hm
            by_cases hlq : q < n
            · have hd2 : decide ((q : Int) < (n : Int)) = true := by rw [decide_eq_true_eq]; omega
              go_upto_region 19 with fail
              generalize hwv : wr.alloc (.cells #[.int .u64 0, .int .u32 0, .int .u64 0] 51) = wv
              have HS0 := Lib.hid (show SpB wv wr.heap.size 0 0 by rw [← hwv]; exact heap_alloc_new wr _)
              have HBV := Lib.hid (show Below wr.heap.size wr wv by rw [← hwv]; exact bel_alloc _ _)
              clear hwv
              obtain ⟨B, hB⟩ : ∃ B, wr.heap.size = B := ⟨_, rfl⟩
              have HBB := Lib.hid hB
              rw [hB] at HS0 ⊢
              clear hB
              go_upto_if 101 with fail
              go_cut [] (fun W => Mod (fun k => k = B) wv W ∧ SpB W B (spotOf sl n g q).v (spotOf sl n g q).fl)
              case first =>
                by_cases hm0 : m = 0
                · have hd3 : decide (0 < (m : Int)) = false := by rw [decide_eq_false_iff_not]; omega
                  have E := Lib.hid (show spotOf sl n g q = ⟨0, 0, 0⟩ by unfold spotOf; rw [if_pos (by rw [HML.out]; exact hm0)])
                  go_wp2_with fail
                  go_meet
                  exact ⟨Mod.refl _ _, by rw [E.out]; exact HS0.out⟩
                · have hd3 : decide (0 < (m : Int)) = true := by rw [decide_eq_true_eq]; omega
                  have hpos : 0 < m := by omega
                  obtain ⟨b3, o3, c3', hv3, _, hr3⟩ := HSL.out.row (by rw [HML.out]; omega)
                  rw [HML.out] at hv3
                  simp only [Value.slice.injEq] at hv3
                  obtain ⟨rfl, _, rfl⟩ := hv3
                  obtain ⟨gn, hgn⟩ : ∃ gn, g * n = gn := ⟨_, rfl⟩
                  have hgl : gn ≤ 88 := by rw [← hgn]; exact Nat.mul_le_mul (show g ≤ 11 by omega) hn2
                  have hgi : (g : Int) * (n : Int) = (gn : Int) := by rw [← hgn]; exact (Int.natCast_mul g n).symm
                  obtain ⟨kn, hkn⟩ : ∃ kn, gn + q = kn := ⟨_, rfl⟩
                  have hki : (gn : Int) + (q : Int) = (kn : Int) := by omega
                  have hkl : kn ≤ 1000 := by omega
                  have hb3 := hr3.lt (by rw [HML.out]; omega) (fun x => by rw [encU16_len]; omega)
                  have hsz := HM.out.bel.size
                  have hsz2 := HMQ.out.size
                  have E := Lib.hid (show spotOf sl n g q = ⟨if g = 0 then 0 else ((sl.getD (kn % m) 0 : Nat) : Int), 0, ((sl.getD ((kn + 1) % m) 0 : Nat) : Int)⟩ by unfold spotOf; rw [if_neg (by rw [HML.out]; exact hm0), HML.out, hgn, hkn])
                  have HR3 := Lib.hid (hr3.below ((HM.out.bel.trans (HMQ.out.mono hsz)).trans (HBV.out.mono (by omega))))
                  clear hr3
                  go_upto_region 21 with fail
                  refine made_r21 wv B b3 o3 c3 m kn _ _ sl HS0.out HR3.out (by have := HBB.out; omega) HLT.out HML.out (by omega) hlen hkl rfl rfl _ ?_
                  intros
                  rename_i W hmo hs
                  obtain ⟨c0, c1, c2⟩ := hs.cell
                  have f0 := hs.frz 0
                  have HMO := Lib.hid hmo
                  have HS := Lib.hid hs
                  clear hmo hs
                  by_cases h0 : g = 0
                  · have E2 := Lib.hid (show spotOf sl n g q = ⟨0, 0, ((sl.getD ((kn + 1) % m) 0 : Nat) : Int)⟩ by rw [E.out, if_pos h0])
                    have hg0 : (g : Int) = 0 := by omega
                    have hg0' : ((g : Int) == 0) = true := by rw [hg0]; rfl
                    go_wp2
                    go_meet
                    exact ⟨HMO.out.trans (Mod.setCell _ rfl), by rw [E2.out]; exact HS.out.set0 _⟩
                  · have E2 := Lib.hid (show spotOf sl n g q = ⟨((sl.getD (kn % m) 0 : Nat) : Int), 0, ((sl.getD ((kn + 1) % m) 0 : Nat) : Int)⟩ by rw [E.out, if_neg h0])
                    have hg0 : ¬ (g : Int) = 0 := by omega
                    have hg0' : ((g : Int) == 0) = false := by simpa using hg0
                    go_wp2
                    go_meet
                    exact ⟨HMO.out, by rw [E2.out]; exact HS.out⟩
              case rest =>
                obtain ⟨hmo, hsb⟩ := hcut
                have hsz := HMQ.out.size
                have hBB := HBB.out
                have B2 := Lib.hid (HBV.out.trans (hmo.below (B := wr.heap.size) (fun k hk e => by omega) HBV.out.size))
                have OQ := Lib.hid (HO.out.below B2.out)
                obtain ⟨c0, c1, c2⟩ := hsb.cell
                have BW := Lib.hid (HMQ.out.trans (B2.out.mono hsz))
                have hsw := BW.out.size
                have SN := Lib.hid (range_snoc (spotOf sl n g) q)
                have HV := Lib.hid (show spotOf sl n g q = ⟨(spotOf sl n g q).v, 0, (spotOf sl n g q).fl⟩ by unfold spotOf; split <;> rfl)
                generalize spotOf sl n g q = so at c0 c1 c2 SN HV
                clear hmo hsb hBB
                refine (‹∀ (a : Act) (w : World), Code.wp _ _ _ a w → _› : ∀ (a : Act) (w : World), _ → _) _ _ ?_
                go_wp2_with (at_builtin; go_loud (refine wpList_app elemS encS_len encS_one rfl _ _ rfl _ _ rfl rfl (OQ.out.alloc _) (EV.new1 (x := so) (by rw [HV.out]; rfl) (Nat.le_refl _)) ?q1 ?q2 ?_))
                case q1 => simp; omega
                case q2 => simp; omega
                intro v1 w1 o1 g1
                have F1 := Lib.hid (show Below wo.heap.size wo w1 from (BW.out.alloc hsw _).grown g1 (by simp; omega) (fun k hk => (OQ.out.block k hk).1))
                have O1 := Lib.hid o1
                clear o1 g1 c0 c1 c2
                go_wp2
                go_roundg (gk - 1)
                case measure => have := HQ.out; omega
                case rel => exact ⟨q + 1, by have := HQ.out; omega, by go_num, by rw [SN.out]; exact O1.out, F1.out⟩
            · have hd2 : decide ((q : Int) < (n : Int)) = false := by rw [decide_eq_false_iff_not]; omega
              have hqn : q = n := by have := HQ.out; omega
              go_wp2
              go_meet
              exact ⟨by rw [hqn] at HO; exact HO.out, HMQ.out⟩
        case rest =>
          obtain ⟨ol, hbl⟩ := hcut
          obtain ⟨Al, cl, rfl⟩ := (ol.ev encS_len).shape
          have hml : (madR sl n g).length = n := by simp [madR]
          rw [hml] at ol ⊢
          have M1 := Lib.hid (HM.out.below hbl)
          obtain ⟨As, cs, hvs⟩ := (M1.out.o.os.ev encR_len).shape
          change c.vs = .slice As (rows.map rowOf).length cs at hvs
          rw [List.length_map] at hvs
          have hrl : rows.length = g := by have := congrArg List.length HR.out; simpa using this
          rw [hrl] at hvs
          obtain ⟨b0, b1, b2, b3, b4, b5, b6⟩ := M1.out.bx.cell
          rw [hvs] at b6
          have HVS := Lib.hid hvs
          have HRL := Lib.hid hrl
          have hsw := hbl.size
          have hMs := M1.out.bel.size
          have OW := Lib.hid (show OV encW 1 52 w.heap.size wc (.slice As g cs) rows from HVS.out ▸ M1.out.o.os.rows')
          have OL := Lib.hid (show OV encS 3 51 wo.heap.size wc (SV.v (Al, n, cl)) (madR sl n g) from ol)
          have NE := Lib.hid (show ∀ x ∈ rows, x.1.v.ownBlock ≠ (SV.v (Al, n, cl)).ownBlock from fun x hx => by
            have hxl : 0 < x.2.length := by
              have : x.2 ∈ rows.map Prod.snd := List.mem_map.2 ⟨x, hx, rfl⟩
              rw [HR.out] at this
              obtain ⟨y, _, hy⟩ := List.mem_map.1 this
              rw [← hy]; simp [madR]; omega
            obtain ⟨g1, cp1, e1, _, h1⟩ := (HM.out.o.orr (rowOf x) (List.mem_map.2 ⟨x, hx, rfl⟩)).form hxl
            obtain ⟨g2, cp2, e2, h2, _⟩ := OL.out.form (by rw [hml]; omega)
            change x.1.v = _ at e1
            rw [e1, e2]
            simp [Value.ownBlock]; omega)
          clear ol hbl hvs hrl b0 b1 b2 b3 b4 b5 hml
          refine (‹∀ (a : Act) (w : World), Code.wp _ _ _ a w → _› : ∀ (a : Act) (w : World), _ → _) _ _ ?_
          go_wp2_with (at_builtin; go_loud (refine wpList_app elemW encW_len encW_one rfl _ _ rfl _ _ rfl rfl (OW.out.alloc _) (EV.new1 (x := ((Al, n, cl), madR sl n g)) rfl (Nat.le_refl _)) ?q1 ?q2 ?_))
          case q1 => rw [HRL.out]; simp; omega
          case q2 => simp; omega
          intro v1 w1 o1 g1
          obtain ⟨M2, bx1⟩ := Md.apps (M1.out.below (bel_alloc _ _)) rfl o1 (by rw [HVS.out]; exact g1) ((OL.out.base_le HM.out.bel.size).alloc _)
          obtain ⟨_, _, _, _, _, _, c6⟩ := bx1.cell
          rw [HVS.out] at c6
          have r6 := bx1.frz 6
          obtain ⟨A1, c1, rfl⟩ := (o1.ev encW_len).shape
          rw [show (rows ++ [((Al, n, cl), madR sl n g)]).length = g + 1 by simp [HRL.out]] at M2 ⊢
          have HM2 := Lib.hid M2
          have RS := Lib.hid (range_snoc (madR sl n) g)
          clear M2 bx1 o1 g1 b6
          go_wp2
          go_roundg (gk - 1)
          case measure => have := HJ.out; omega
          case rel => exact ⟨g + 1, _, rows ++ [((Al, n, cl), madR sl n g)], by have := HJ.out; omega, by go_num, by rw [List.map_append, HR.out, RS.out]; rfl, List.pairwise_append.2 ⟨HP.out, List.pairwise_singleton _ _, fun x hx y hy => by rw [List.mem_singleton] at hy; subst hy; exact NE.out x hx⟩, HM2.out⟩
      · have hjN : g = G := by have := HJ.out; omega
        have hd : decide ((g : Int) < (G : Int)) = false := by rw [decide_eq_false_iff_not]; omega
        go_wp2
        go_meet
        exact ⟨c, rows, hjN ▸ HR.out, HP.out, HM.out⟩
  case rest =>
  obtain ⟨c, rows, hr, hp, hm⟩ := hcut
  obtain ⟨b0, b1, b2, b3, b4, b5, b6⟩ := hm.bx.cell
  obtain ⟨z1, z2, z3, z4, z5, z6, z7⟩ := hm.zb.cell
  have f0 := hm.zb.frz 0
  have f1 := hm.zb.frz 1
  have f2 := hm.zb.frz 2
  have f3 := hm.zb.frz 3
  have f4 := hm.zb.frz 4
  have f5 := hm.zb.frz 5
  have f6 := hm.zb.frz 6
  obtain ⟨Ag, cg, hg⟩ := (hm.o.og.ev encG_len).shape
  obtain ⟨Ac, cc, hc⟩ := (hm.o.oc.ev encI_len).shape
  obtain ⟨Au, cu, hu⟩ := (hm.o.ou.ev encI_len).shape
  obtain ⟨At, ct, ht⟩ := (hm.o.ot.ev encT_len).shape
  obtain ⟨As, cs, hs⟩ := (hm.o.os.ev encR_len).shape
  generalize (madX n gs ts (rows.map rowOf)).gs.length = lg at hg
  generalize (madX n gs ts (rows.map rowOf)).cl.length = lc at hc
  generalize (madX n gs ts (rows.map rowOf)).cu.length = lu at hu
  generalize (madX n gs ts (rows.map rowOf)).ts.length = lt at ht
  generalize (madX n gs ts (rows.map rowOf)).ss.length = ls at hs
  change wc.cell? ⟨X, 0, none⟩ = some (.int .i64 (n : Nat)) at b0
  change wc.cell? ⟨X, 1, none⟩ = some (.int .u64 0) at b1
  rw [hg] at b2
  rw [hc] at b3
  rw [hu] at b4
  rw [ht] at b5
  rw [hs] at b6
  have HMM := Lib.hid hm
  have HH := Lib.hid (And.intro hg (And.intro hc (And.intro hu (And.intro ht hs))))
  clear hm hg hc hu ht hs
  go_wp2
  have E7 := Lib.hid (fill7 (B := w.heap.size) HMM.out.zb (.int .i64 (n : Nat)) (.int .u64 0) (.slice Ag lg cg) (.slice Ac lc cc) (.slice Au lu cu) (.slice At lt ct) (.slice As ls cs))
  clear z1 z2 z3 z4 z5 z6 z7 f0 f1 f2 f3 f4 f5 f6 b0 b1 b2 b3 b4 b5 b6
  refine bodyPost_ret (results_cell_row rfl _ _ w.heap.size _ _ _ _ rfl E7.out Try.underlying38 rfl (by kernel_rfl)) rfl ?_
  obtain ⟨hg, hc, hu, ht, hs⟩ := HH.out
  have z := HMM.out.zb
  have o := HMM.out.o
  refine ⟨⟨.slice Ag lg cg, .slice Ac lc cc, .slice Au lu cu, .slice At lt ct, .slice As ls cs⟩, rows, rfl, ⟨?_, ?_, ?_, ?_, ?_, fun x hx => ?_⟩, by rw [HG.out]; exact hr, hp, ?_⟩
  · exact (hg ▸ o.og).set7 z (by decide) _ _ _ _ _ _ _
  · exact (hc ▸ o.oc).set7 z (by decide) _ _ _ _ _ _ _
  · exact (hu ▸ o.ou).set7 z (by decide) _ _ _ _ _ _ _
  · exact (ht ▸ o.ot).set7 z (by decide) _ _ _ _ _ _ _
  · exact (hs ▸ o.os).set7 z (by decide) _ _ _ _ _ _ _
  · exact (o.orr x hx).set7 z (by decide) _ _ _ _ _ _ _
  · exact ((((((HMM.out.bel.setCell (p := ⟨w.heap.size, 0, none⟩) (Nat.le_refl _) _).setCell (p := ⟨w.heap.size, 1, none⟩) (Nat.le_refl _) _).setCell (p := ⟨w.heap.size, 2, none⟩) (Nat.le_refl _) _).setCell (p := ⟨w.heap.size, 3, none⟩) (Nat.le_refl _) _).setCell (p := ⟨w.heap.size, 4, none⟩) (Nat.le_refl _) _).setCell (p := ⟨w.heap.size, 5, none⟩) (Nat.le_refl _) _).setCell (p := ⟨w.heap.size, 6, none⟩) (Nat.le_refl _) _
end Go.Proofs.Ytenngfkgfdogjaa
namespace Go.Proofs.Ytenngfkgfdogjaa
open Go Go.RowKit Go.Shelf
attribute [local go_sem] Oper.semAt_some

theorem run_shl1 {k : Nat} (hk : k < 8) {z : Int} (hz : z = (k : Int)) (w : World) : (Op.shift .shl .u64 1 .i64 z).run Try.prog w = .ok (.int .u64 ((2 ^ k : Nat) : Int)) w := by
  subst hz
  obtain rfl | rfl | rfl | rfl | rfl | rfl | rfl | rfl : k = 0 ∨ k = 1 ∨ k = 2 ∨ k = 3 ∨ k = 4 ∨ k = 5 ∨ k = 6 ∨ k = 7 := by omega
  all_goals rfl

/-- The boxes that the region reads. -/
structure MdC (X P : Nat) (c : StC) (s : St) (t : Sm) (w : World) : Prop where
  bx : StBox w X c s
  pb : w.heap[P]? = some (.cells #[.int .u16 t.g, .int .u16 t.wt, .int .u16 t.v, .int .u8 t.cpu, .bool t.rdy] 72 (0, 0))
theorem MdC.below {X P : Nat} {c : StC} {s : St} {t : Sm} {w w' : World} (h : MdC X P c s t w) (hb : Below w.heap.size w w') : MdC X P c s t w' :=
  ⟨h.bx.below hb, (hb.block P (Array.getElem?_eq_some_iff.1 h.pb).1).trans h.pb⟩
theorem MdC.get {X P : Nat} {c : StC} {s : St} {t : Sm} {w : World} (h : MdC X P c s t w) : w.cell? ⟨X, 2, none⟩ = some c.vg ∧ w.cell? ⟨X, 5, none⟩ = some c.vt ∧ w.cell? ⟨P, 0, none⟩ = some (.int .u16 t.g) ∧ w.cell? ⟨P, 1, none⟩ = some (.int .u16 t.wt) ∧ w.cell? ⟨P, 2, none⟩ = some (.int .u16 t.v) ∧ w.cell? ⟨P, 4, none⟩ = some (.bool t.rdy) := by
  obtain ⟨_, _, b2, _, _, b5, _⟩ := h.bx.cell
  have hc := fun i => cell_of_row w P i _ _ (0, 0) h.pb
  exact ⟨b2, b5, (hc 0).trans rfl, (hc 1).trans rfl, (hc 2).trans rfl, (hc 4).trans rfl⟩
theorem OV.ne_cells {α : Type} {enc : α → List Value} {k base P : Nat} {e t : TypeId} {w : World} {v : Value} {xs : List α} {cs : Array Value} {fz : Nat × Nat} (h : OV enc k e base w v xs) (hb : w.heap[P]? = some (.cells cs t fz)) (he : e ≠ t) : v.ownBlock = none ∨ v.ownBlock ≠ some P := by
  rcases h.2 with ⟨rfl, _⟩ | ⟨g', cap', cur, rfl, _, hg, _⟩
  · exact .inl rfl
  · right
    intro he2
    obtain rfl : g' = P := by simpa [Value.ownBlock] using he2
    rw [hb] at hg
    simp at hg
    exact he hg.2.1.symm
/-- Where region 9 stands when k of its three last operations are done. -/
def MdK (w : World) (X P : Nat) (c : StC) (s : St) (t : Sm) (T : Tk) (k : Nat) (x : Nat → Value) (W : World) : Prop :=
  (k ≤ 2 → MdC X P c s t W) ∧ (k ≤ 1 → Md w X c s W) ∧ (k = 1 → EV encT 8 W (x 24) [T]) ∧
  (k = 2 → (∃ A n cp, x 25 = .slice A n cp) ∧ Md w X { c with vt := x 25 } { s with ts := s.ts ++ [T] } (W.setCell ⟨X, 5, none⟩ (x 25))) ∧
  (k = 3 → ∃ v, Md w X { c with vt := v } { s with ts := s.ts ++ [T] } W)
set_option maxRecDepth 100000 in
set_option maxHeartbeats 6400000 in
theorem made_r9 (w wa : World) (X P : Nat) (c : StC) (s : St) (gs : List (Int × Int)) (n I : Nat) (t : Sm) {u0 u1 u2 u3 u4 u5 u6 u7 u8 u12 u15 u16 u17 u18 u19 u20 u21 u22 u23 u24 u25 u26 u27 u28 u29 u30 u31 u32 u33 u34 u35 u36 u37 u38 u39 u40 u41 u42 u43 u44 u45 u46 u47 u48 u49 u50 u51 u52 u53 u54 u55 u56 u57 u58 u59 u60 u61 u62 u63 u64 u65 u66 u67 u68 u69 u70 u71 u72 u73 u74 u75 u76 u77 u78 u79 u80 u81 u82 u83 u84 u85 u86 u87 u88 u89 u90 u91 u92 u93 u94 u95 u96 u97 u98 u99 u100 u101 u102 u103 u104 u105 u106 u107 u108 u109 u110 u111 u112 u113 u114 u115 u116 u117 u118 u119 u120 u121 u122 u123 u124 u125 u126 u127 u128 u129 u130 u131 u132 u133 u134 u135 u136 u137 u138 u139 u140 u141 : Value} (M : Md w X c s wa) (pb : wa.heap[P]? = some (.cells #[.int .u16 t.g, .int .u16 t.wt, .int .u16 t.v, .int .u8 t.cpu, .bool t.rdy] 72 (0, 0)))
    (st : SmOk t) (hn1 : 1 ≤ n) (hn2 : n ≤ 8) (hg1 : 1 ≤ gs.length) (hg2 : gs.length ≤ 11) (hI : I ≤ 90) (hj : s.ts.length ≤ 100) (hgs : s.gs = gs) (Q : Exit → Act → World → Prop)
    (hQ : ∀ (u59 u60 u61 u62 u63 u64 u65 u66 u67 u68 u69 u70 u71 u72 u73 u74 u75 u76 u77 u78 u79 u80 u81 u82 u83 u84 u85 : Value) (v : Value) (W : World), Md w X { c with vt := v } { s with ts := s.ts ++ [mkTk n gs.length I t] } W →
      Q .normal ⟨#[u0, u1, u2, u3, u4, u5, u6, u7, u8, .int .i64 n, .pointer (some ⟨X, 0, none⟩), .int .i64 ((I : Int) + (1 + (t.v : Int) % 3)), u12, .pointer (some ⟨P, 0, none⟩), .int .i64 ((t.cpu : Int) % (n : Int)), u15, u16, u17, u18, u19, u20, u21, u22, u23, u24, u25, u26, u27, u28, u29, u30, u31, u32, u33, u34, u35, u36, u37, u38, u39, u40, u41, u42, u43, u44, u45, u46, u47, u48, u49, u50, u51, u52, u53, u54, u55, u56, u57, u58, u59, u60, u61, u62, u63, u64, u65, u66, u67, u68, u69, u70, u71, u72, u73, u74, u75, u76, u77, u78, u79, u80, u81, u82, u83, u84, u85, u86, u87, u88, u89, u90, u91, u92, u93, u94, u95, u96, u97, u98, u99, u100, u101, u102, u103, u104, u105, u106, u107, u108, u109, u110, u111, u112, u113, u114, u115, u116, u117, u118, u119, u120, u121, u122, u123, u124, u125, u126, u127, u128, u129, u130, u131, u132, u133, u134, u135, u136, u137, u138, u139, u140, u141], []⟩ W) :
    Code.wp Try.prog (tailR Try.f15 9) Q
      ⟨#[u0, u1, u2, u3, u4, u5, u6, u7, u8, .int .i64 n, .pointer (some ⟨X, 0, none⟩), .int .i64 ((I : Int) + (1 + (t.v : Int) % 3)), u12, .pointer (some ⟨P, 0, none⟩), .int .i64 ((t.cpu : Int) % (n : Int)), u15, u16, u17, u18, u19, u20, u21, u22, u23, u24, u25, u26, u27, u28, u29, u30, u31, u32, u33, u34, u35, u36, u37, u38, u39, u40, u41, u42, u43, u44, u45, u46, u47, u48, u49, u50, u51, u52, u53, u54, u55, u56, u57, u58, u59, u60, u61, u62, u63, u64, u65, u66, u67, u68, u69, u70, u71, u72, u73, u74, u75, u76, u77, u78, u79, u80, u81, u82, u83, u84, u85, u86, u87, u88, u89, u90, u91, u92, u93, u94, u95, u96, u97, u98, u99, u100, u101, u102, u103, u104, u105, u106, u107, u108, u109, u110, u111, u112, u113, u114, u115, u116, u117, u118, u119, u120, u121, u122, u123, u124, u125, u126, u127, u128, u129, u130, u131, u132, u133, u134, u135, u136, u137, u138, u139, u140, u141], []⟩ wa := by
  conv => arg 2; whnf
  conv => arg 4; dsimp only
  obtain ⟨st1, st2, st3, st4⟩ := st
  obtain ⟨At, ct, hvt⟩ := (M.o.ot.ev encT_len).shape
  obtain ⟨Ag, cg, hvg⟩ := (M.o.og.ev encG_len).shape
  obtain ⟨j, hjl⟩ : ∃ j, s.ts.length = j := ⟨_, rfl⟩
  rw [hjl] at hvt hj
  rw [hgs] at hvg
  have HVT := Lib.hid hvt
  have HLN := Lib.hid hjl
  have hge : ¬ gs = [] := by rintro rfl; simp at hg1
  have wg : IntKind.i64.wrap (t.g : Int) = t.g := IntWalk.i64_in _ (by omega)
  have tg : (t.g : Int).tmod (gs.length : Int) = ((t.g % gs.length : Nat) : Int) := rfl
  have ww : IntKind.i64.wrap (t.wt : Int) = t.wt := IntWalk.i64_in _ (by omega)
  have w1 : IntKind.i64.wrap (1 + (t.wt : Int)) = 1 + t.wt := IntWalk.i64_in _ (by omega)
  have wv : IntKind.u64.wrap (t.v : Int) = t.v := IntWalk.u64_in _ (by omega)
  have hsh := run_shl1 (k := t.cpu % n) (by have := Nat.mod_lt t.cpu (show 0 < n by omega); omega) (z := (t.cpu : Int) % (n : Int)) (by omega)
  obtain ⟨T, hT⟩ : ∃ T, mkTk n gs.length I t = T := ⟨_, rfl⟩
  have HTT := Lib.hid hT
  rw [hT] at hQ
  have HQ := Lib.hid hQ
  clear hQ hT
  refine wp_region_chain (by kernel_rfl) 28 rfl 3 (fun m => match m with | 0 => 24 | 1 => 25 | _ => 27) (fun x => ⟨#[u0, u1, u2, u3, u4, u5, u6, u7, u8, .int .i64 n, .pointer (some ⟨X, 0, none⟩), .int .i64 ((I : Int) + (1 + (t.v : Int) % 3)), u12, .pointer (some ⟨P, 0, none⟩), .int .i64 ((t.cpu : Int) % (n : Int)), u15, u16, u17, u18, u19, u20, u21, u22, u23, u24, u25, u26, u27, u28, u29, u30, u31, u32, u33, u34, u35, u36, u37, u38, u39, u40, u41, u42, u43, u44, u45, u46, u47, u48, u49, u50, u51, u52, u53, u54, u55, u56, u57, u58, x 0, x 1, x 2, x 3, x 4, x 5, x 6, x 7, x 8, x 9, x 10, x 11, x 12, x 13, x 14, x 15, x 16, x 17, x 18, x 19, x 20, x 21, x 22, x 23, x 24, x 25, x 26, u86, u87, u88, u89, u90, u91, u92, u93, u94, u95, u96, u97, u98, u99, u100, u101, u102, u103, u104, u105, u106, u107, u108, u109, u110, u111, u112, u113, u114, u115, u116, u117, u118, u119, u120, u121, u122, u123, u124, u125, u126, u127, u128, u129, u130, u131, u132, u133, u134, u135, u136, u137, u138, u139, u140, u141], []⟩) (fun i v => match i with | 0 => v = .pointer (some ⟨X, 5, none⟩) | 1 => v = .slice At j ct | 2 => v = .int .i64 ((I : Int) + (1 + (t.v : Int) % 3)) | 3 => v = .pointer (some ⟨P, 0, none⟩) | 4 => v = .int .u16 (t.g : Nat) | 5 => v = .int .i64 (t.g : Nat) | 6 => v = .pointer (some ⟨X, 0, none⟩) | 7 => v = .pointer (some ⟨X, 2, none⟩) | 8 => v = .slice Ag gs.length cg | 9 => v = .int .i64 (gs.length : Nat) | 10 => v = .int .i64 ((t.g % gs.length : Nat) : Int) | 11 => v = .pointer (some ⟨P, 1, none⟩) | 12 => v = .int .u16 (t.wt : Nat) | 13 => v = .int .i64 (t.wt : Nat) | 14 => v = .int .i64 (1 + (t.wt : Int)) | 15 => v = .int .i64 ((t.cpu : Int) % (n : Int)) | 16 => v = .int .i64 ((t.cpu : Int) % (n : Int)) | 17 => v = .int .u64 ((2 ^ (t.cpu % n) : Nat) : Int) | 18 => v = .pointer (some ⟨P, 4, none⟩) | 19 => v = .bool t.rdy | 20 => v = .pointer (some ⟨P, 2, none⟩) | 21 => v = .int .u16 (t.v : Nat) | 22 => v = .int .u64 (t.v : Nat) | 23 => v = .agg #[.int .i64 ((I : Int) + (1 + (t.v : Int) % 3)), .int .i64 ((t.g % gs.length : Nat) : Int), .int .i64 (1 + (t.wt : Int)), .int .i64 ((t.cpu : Int) % (n : Int)), .int .u64 ((2 ^ (t.cpu % n) : Nat) : Int), .bool t.rdy, .int .u64 (t.v : Int), .int .u32 0] | 26 => v = .pointer (some ⟨X, 5, none⟩) | _ => True)
    (MdK w X P c s t T) (by kernel_rfl) ?hB (by kernel_rfl) (by kernel_rfl) ?hpure ?hchain ?hend (fun i => (#[u59, u60, u61, u62, u63, u64, u65, u66, u67, u68, u69, u70, u71, u72, u73, u74, u75, u76, u77, u78, u79, u80, u81, u82, u83, u84, u85, undef] : Array Value).getD i undef) rfl ?hstart
  case hstart =>
    exact ⟨fun _ => ⟨M.bx, pb⟩, fun _ => M.below (below_drew (Below.refl _ _)), fun h => by omega, fun h => by omega, fun h => by omega⟩
  case hB =>
    intro k x i v W hi h
    have h24 : ¬ 24 = i := by rintro rfl; exact absurd (show true = false from hi) (by simp)
    have h25 : ¬ 25 = i := by rintro rfl; exact absurd (show true = false from hi) (by simp)
    unfold MdK at *
    rw [upd_ne h24, upd_ne h25]
    exact h
  case hpure =>
    intro i o hi hnc ho k x W hk hB hd hbf hx K hK
    rcases (show i = 0 ∨ i = 1 ∨ i = 2 ∨ i = 3 ∨ i = 4 ∨ i = 5 ∨ i = 6 ∨ i = 7 ∨ i = 8 ∨ i = 9 ∨ i = 10 ∨ i = 11 ∨ i = 12 ∨ i = 13 ∨ i = 14 ∨ i = 15 ∨ i = 16 ∨ i = 17 ∨ i = 18 ∨ i = 19 ∨ i = 20 ∨ i = 21 ∨ i = 22 ∨ i = 23 ∨ i = 24 ∨ i = 25 ∨ i = 26 ∨ i = 27 by omega) with rfl | rfl | rfl | rfl | rfl | rfl | rfl | rfl | rfl | rfl | rfl | rfl | rfl | rfl | rfl | rfl | rfl | rfl | rfl | rfl | rfl | rfl | rfl | rfl | rfl | rfl | rfl | rfl
    · obtain rfl := Option.some.inj ho
      clear ho hd hx hbf hB hnc hi
      simp only [upd, reduceIte, Nat.reduceEqDiff] at hK
      dsimp only
      go_simp
      exact hK _ rfl
    · obtain rfl := Option.some.inj ho
      have e0 : x 0 = .pointer (some ⟨X, 5, none⟩) := hd 0 (by kernel_rfl) (by kernel_rfl)
      have hk2 : k < 3 := by
        rcases Nat.lt_or_ge k 3 with h | h
        · exact h
        · exact absurd (show false = true from (hx 2 (by omega)).symm.trans (by kernel_rfl)) (by simp)
      have cel := hB.1 (by omega)
      obtain ⟨b2, b5, p0, p1, p2, p4⟩ := cel.get
      rw [hvg] at b2
      rw [hvt] at b5
      clear cel
      clear ho hd hx hbf hB hnc hi
      simp only [upd, reduceIte, Nat.reduceEqDiff, e0] at hK
      dsimp only
      go_simp
      exact hK _ rfl
    · obtain rfl := Option.some.inj ho
      clear ho hd hx hbf hB hnc hi
      simp only [upd, reduceIte, Nat.reduceEqDiff] at hK
      dsimp only
      go_simp
      exact hK _ rfl
    · obtain rfl := Option.some.inj ho
      clear ho hd hx hbf hB hnc hi
      simp only [upd, reduceIte, Nat.reduceEqDiff] at hK
      dsimp only
      go_simp
      exact hK _ rfl
    · obtain rfl := Option.some.inj ho
      have e3 : x 3 = .pointer (some ⟨P, 0, none⟩) := hd 3 (by kernel_rfl) (by kernel_rfl)
      have hk2 : k < 3 := by
        rcases Nat.lt_or_ge k 3 with h | h
        · exact h
        · exact absurd (show false = true from (hx 2 (by omega)).symm.trans (by kernel_rfl)) (by simp)
      have cel := hB.1 (by omega)
      obtain ⟨b2, b5, p0, p1, p2, p4⟩ := cel.get
      rw [hvg] at b2
      rw [hvt] at b5
      clear cel
      clear ho hd hx hbf hB hnc hi
      simp only [upd, reduceIte, Nat.reduceEqDiff, e3] at hK
      dsimp only
      go_simp
      exact hK _ rfl
    · obtain rfl := Option.some.inj ho
      have e4 : x 4 = .int .u16 (t.g : Nat) := hd 4 (by kernel_rfl) (by kernel_rfl)
      clear ho hd hx hbf hB hnc hi
      simp only [upd, reduceIte, Nat.reduceEqDiff, e4] at hK
      dsimp only
      go_simp
      exact hK _ rfl
    · obtain rfl := Option.some.inj ho
      clear ho hd hx hbf hB hnc hi
      simp only [upd, reduceIte, Nat.reduceEqDiff] at hK
      dsimp only
      go_simp
      exact hK _ rfl
    · obtain rfl := Option.some.inj ho
      have e6 : x 6 = .pointer (some ⟨X, 0, none⟩) := hd 6 (by kernel_rfl) (by kernel_rfl)
      clear ho hd hx hbf hB hnc hi
      simp only [upd, reduceIte, Nat.reduceEqDiff, e6] at hK
      dsimp only
      go_simp
      exact hK _ rfl
    · obtain rfl := Option.some.inj ho
      have e7 : x 7 = .pointer (some ⟨X, 2, none⟩) := hd 7 (by kernel_rfl) (by kernel_rfl)
      have hk2 : k < 3 := by
        rcases Nat.lt_or_ge k 3 with h | h
        · exact h
        · exact absurd (show false = true from (hx 2 (by omega)).symm.trans (by kernel_rfl)) (by simp)
      have cel := hB.1 (by omega)
      obtain ⟨b2, b5, p0, p1, p2, p4⟩ := cel.get
      rw [hvg] at b2
      rw [hvt] at b5
      clear cel
      clear ho hd hx hbf hB hnc hi
      simp only [upd, reduceIte, Nat.reduceEqDiff, e7] at hK
      dsimp only
      go_simp
      exact hK _ rfl
    · obtain rfl := Option.some.inj ho
      have e8 : x 8 = .slice Ag gs.length cg := hd 8 (by kernel_rfl) (by kernel_rfl)
      clear ho hd hx hbf hB hnc hi
      simp only [upd, reduceIte, Nat.reduceEqDiff, e8] at hK
      dsimp only
      go_simp
      exact hK _ rfl
    · obtain rfl := Option.some.inj ho
      have e5 : x 5 = .int .i64 (t.g : Nat) := hd 5 (by kernel_rfl) (by kernel_rfl)
      have e9 : x 9 = .int .i64 (gs.length : Nat) := hd 9 (by kernel_rfl) (by kernel_rfl)
      clear ho hd hx hbf hB hnc hi
      simp only [upd, reduceIte, Nat.reduceEqDiff, e5, e9] at hK
      dsimp only
      go_simp
      exact hK _ rfl
    · obtain rfl := Option.some.inj ho
      clear ho hd hx hbf hB hnc hi
      simp only [upd, reduceIte, Nat.reduceEqDiff] at hK
      dsimp only
      go_simp
      exact hK _ rfl
    · obtain rfl := Option.some.inj ho
      have e11 : x 11 = .pointer (some ⟨P, 1, none⟩) := hd 11 (by kernel_rfl) (by kernel_rfl)
      have hk2 : k < 3 := by
        rcases Nat.lt_or_ge k 3 with h | h
        · exact h
        · exact absurd (show false = true from (hx 2 (by omega)).symm.trans (by kernel_rfl)) (by simp)
      have cel := hB.1 (by omega)
      obtain ⟨b2, b5, p0, p1, p2, p4⟩ := cel.get
      rw [hvg] at b2
      rw [hvt] at b5
      clear cel
      clear ho hd hx hbf hB hnc hi
      simp only [upd, reduceIte, Nat.reduceEqDiff, e11] at hK
      dsimp only
      go_simp
      exact hK _ rfl
    · obtain rfl := Option.some.inj ho
      have e12 : x 12 = .int .u16 (t.wt : Nat) := hd 12 (by kernel_rfl) (by kernel_rfl)
      clear ho hd hx hbf hB hnc hi
      simp only [upd, reduceIte, Nat.reduceEqDiff, e12] at hK
      dsimp only
      go_simp
      exact hK _ rfl
    · obtain rfl := Option.some.inj ho
      have e13 : x 13 = .int .i64 (t.wt : Nat) := hd 13 (by kernel_rfl) (by kernel_rfl)
      clear ho hd hx hbf hB hnc hi
      simp only [upd, reduceIte, Nat.reduceEqDiff, e13] at hK
      dsimp only
      go_simp
      exact hK _ rfl
    · obtain rfl := Option.some.inj ho
      clear ho hd hx hbf hB hnc hi
      simp only [upd, reduceIte, Nat.reduceEqDiff] at hK
      dsimp only
      go_simp
      exact hK _ rfl
    · obtain rfl := Option.some.inj ho
      clear ho hd hx hbf hB hnc hi
      simp only [upd, reduceIte, Nat.reduceEqDiff] at hK
      dsimp only
      go_simp
      exact hK _ rfl
    · obtain rfl := Option.some.inj ho
      have e16 : x 16 = .int .i64 ((t.cpu : Int) % (n : Int)) := hd 16 (by kernel_rfl) (by kernel_rfl)
      clear ho hd hx hbf hB hnc hi
      simp only [upd, reduceIte, Nat.reduceEqDiff, e16] at hK
      dsimp only
      go_simp
      exact hK _ rfl
    · obtain rfl := Option.some.inj ho
      clear ho hd hx hbf hB hnc hi
      simp only [upd, reduceIte, Nat.reduceEqDiff] at hK
      dsimp only
      go_simp
      exact hK _ rfl
    · obtain rfl := Option.some.inj ho
      have e18 : x 18 = .pointer (some ⟨P, 4, none⟩) := hd 18 (by kernel_rfl) (by kernel_rfl)
      have hk2 : k < 3 := by
        rcases Nat.lt_or_ge k 3 with h | h
        · exact h
        · exact absurd (show false = true from (hx 2 (by omega)).symm.trans (by kernel_rfl)) (by simp)
      have cel := hB.1 (by omega)
      obtain ⟨b2, b5, p0, p1, p2, p4⟩ := cel.get
      rw [hvg] at b2
      rw [hvt] at b5
      clear cel
      clear ho hd hx hbf hB hnc hi
      simp only [upd, reduceIte, Nat.reduceEqDiff, e18] at hK
      dsimp only
      go_simp
      exact hK _ rfl
    · obtain rfl := Option.some.inj ho
      clear ho hd hx hbf hB hnc hi
      simp only [upd, reduceIte, Nat.reduceEqDiff] at hK
      dsimp only
      go_simp
      exact hK _ rfl
    · obtain rfl := Option.some.inj ho
      have e20 : x 20 = .pointer (some ⟨P, 2, none⟩) := hd 20 (by kernel_rfl) (by kernel_rfl)
      have hk2 : k < 3 := by
        rcases Nat.lt_or_ge k 3 with h | h
        · exact h
        · exact absurd (show false = true from (hx 2 (by omega)).symm.trans (by kernel_rfl)) (by simp)
      have cel := hB.1 (by omega)
      obtain ⟨b2, b5, p0, p1, p2, p4⟩ := cel.get
      rw [hvg] at b2
      rw [hvt] at b5
      clear cel
      clear ho hd hx hbf hB hnc hi
      simp only [upd, reduceIte, Nat.reduceEqDiff, e20] at hK
      dsimp only
      go_simp
      exact hK _ rfl
    · obtain rfl := Option.some.inj ho
      have e21 : x 21 = .int .u16 (t.v : Nat) := hd 21 (by kernel_rfl) (by kernel_rfl)
      clear ho hd hx hbf hB hnc hi
      simp only [upd, reduceIte, Nat.reduceEqDiff, e21] at hK
      dsimp only
      go_simp
      exact hK _ rfl
    · obtain rfl := Option.some.inj ho
      have e2 : x 2 = .int .i64 ((I : Int) + (1 + (t.v : Int) % 3)) := hd 2 (by kernel_rfl) (by kernel_rfl)
      have e10 : x 10 = .int .i64 ((t.g % gs.length : Nat) : Int) := hd 10 (by kernel_rfl) (by kernel_rfl)
      have e14 : x 14 = .int .i64 (1 + (t.wt : Int)) := hd 14 (by kernel_rfl) (by kernel_rfl)
      have e15 : x 15 = .int .i64 ((t.cpu : Int) % (n : Int)) := hd 15 (by kernel_rfl) (by kernel_rfl)
      have e17 : x 17 = .int .u64 ((2 ^ (t.cpu % n) : Nat) : Int) := hd 17 (by kernel_rfl) (by kernel_rfl)
      have e19 : x 19 = .bool t.rdy := hd 19 (by kernel_rfl) (by kernel_rfl)
      have e22 : x 22 = .int .u64 (t.v : Nat) := hd 22 (by kernel_rfl) (by kernel_rfl)
      clear ho hd hx hbf hB hnc hi
      simp only [upd, reduceIte, Nat.reduceEqDiff, e2, e10, e14, e15, e17, e19, e22] at hK
      dsimp only
      go_simp
      exact hK _ rfl
    · exact absurd (show true = false from hnc) (by simp)
    · exact absurd (show true = false from hnc) (by simp)
    · obtain rfl := Option.some.inj ho
      clear ho hd hx hbf hB hnc hi
      simp only [upd, reduceIte, Nat.reduceEqDiff] at hK
      dsimp only
      go_simp
      exact hK _ rfl
    · exact absurd (show true = false from hnc) (by simp)
  case hchain =>
    intro k o hk ho x W hB hd K hK
    rcases (show k = 0 ∨ k = 1 ∨ k = 2 by omega) with rfl | rfl | rfl
    · obtain rfl := Option.some.inj ho
      have e23 : x 23 = .agg #[.int .i64 ((I : Int) + (1 + (t.v : Int) % 3)), .int .i64 ((t.g % gs.length : Nat) : Int), .int .i64 (1 + (t.wt : Int)), .int .i64 ((t.cpu : Int) % (n : Int)), .int .u64 ((2 ^ (t.cpu % n) : Nat) : Int), .bool t.rdy, .int .u64 (t.v : Int), .int .u32 0] := hd 23 (by kernel_rfl) (by kernel_rfl)
      clear ho hd hk
      obtain ⟨cel, hM, _⟩ := hB
      have hM := hM (by omega)
      simp only [upd, reduceIte, Nat.reduceEqDiff, e23] at hK
      dsimp only
      go_simp
      exact hK _ _ ⟨fun _ => (cel (by omega)).below (bel_alloc _ _), fun _ => hM.below (bel_alloc _ _), fun _ => by rw [← HTT.out]; exact EV.new1 (x := mkTk n gs.length I t) (by simp [encT, mkTk, nextI]) (Nat.le_refl _), fun h => by omega, fun h => by omega⟩
    · obtain rfl := Option.some.inj ho
      have e1 : x 1 = .slice At j ct := hd 1 (by kernel_rfl) (by kernel_rfl)
      clear ho hd hk
      obtain ⟨cel, hM, hE, _⟩ := hB
      have hM := hM (by omega)
      have hE : EV encT 8 W (x 24) [T] := hE rfl
      simp only [upd, reduceIte, Nat.reduceEqDiff, e1] at hK
      dsimp only
      refine wp_app elemT encT_len encT_one (.tmp 60) (.tmp 83) rfl (.slice At j ct) (x 24) e1 rfl (HVT.out ▸ hM.o.ot) hE (by rw [HLN.out]; simp; omega) hM.bel.size ?_
      intro v1 w1 o1 g1
      obtain ⟨A1, c1, rfl⟩ := (o1.ev encT_len).shape
      have g2 : W.grownBy w1 c.vt.ownBlock := by rw [HVT.out]; exact g1
      have M1 := Md.app hM o1 g2
      rw [show (s.ts ++ [T]).length = j + 1 by simp [HLN.out]] at M1
      have cl1 : MdC X P c s t w1 := ⟨Md.app_box hM g2, (grown_same g2 (Array.getElem?_eq_some_iff.1 (cel (by omega)).pb).1 (hM.o.ot.ne_cells (cel (by omega)).pb (by decide))).trans (cel (by omega)).pb⟩
      go_simp
      exact hK _ _ ⟨fun _ => cl1, fun h => by omega, fun h => by omega, fun _ => ⟨⟨_, _, _, rfl⟩, M1⟩, fun h => by omega⟩
    · obtain rfl := Option.some.inj ho
      have e26 : x 26 = .pointer (some ⟨X, 5, none⟩) := hd 26 (by kernel_rfl) (by kernel_rfl)
      clear ho hd hk
      obtain ⟨cel, _, _, h2, _⟩ := hB
      obtain ⟨⟨A, n5, cp, e25⟩, hM⟩ := h2 rfl
      obtain ⟨_, c5, _⟩ := (cel (by omega)).get
      have fr5 := (cel (by omega)).bx.frz 5
      rw [e25] at hM
      clear cel h2
      simp only [upd, reduceIte, Nat.reduceEqDiff, e26, e25] at hK
      dsimp only
      go_simp
      exact hK undef _ ⟨fun h => by omega, fun h => by omega, fun h => by omega, fun h => by omega, fun _ => ⟨_, hM⟩⟩
  case hend =>
    intro x W hB hd
    obtain ⟨v, hM⟩ := hB.2.2.2.2 rfl
    exact HQ.out _ _ _ _ _ _ _ _ _ _ _ _ _ _ _ _ _ _ _ _ _ _ _ _ _ _ _ v W hM
def MdPost (w : World) (n : Nat) (gs : List (Int × Int)) (ts : List Tk) (sl : List Nat) (e : Ending) (w' : World) : Prop :=
  ∃ c' rows, e = .returned (c'.val (madX n gs ts (rows.map rowOf))) ∧ StO w.heap.size w' c' (madX n gs ts (rows.map rowOf)) ∧ rows.map Prod.snd = (List.range gs.length).map (madR sl n) ∧ RowsP rows ∧ Below w.heap.size w w'
set_option maxRecDepth 100000 in
set_option maxHeartbeats 3200000 in
theorem made_t3 (w wc : World) (X n : Nat) (vt vs : Value) (c : StC) (gs : List (Int × Int)) (ts : List Sm) (sl : List Nat) {u0 u1 u4 u5 u6 u7 u11 u12 u13 u14 u15 u16 u17 u18 u19 u20 u21 u22 u23 u24 u25 u26 u27 u28 u29 u30 u31 u32 u33 u34 u35 u36 u37 u38 u39 u40 u41 u42 u43 u44 u45 u46 u47 u48 u49 u50 u51 u52 u53 u54 u55 u56 u57 u58 u59 u60 u61 u62 u63 u64 u65 u66 u67 u68 u69 u70 u71 u72 u73 u74 u75 u76 u77 u78 u79 u80 u81 u82 u83 u84 u85 u86 u87 u88 u89 u90 u91 u92 u93 u94 u95 u96 u97 u98 u99 u100 u101 u102 u103 u104 u105 u106 u107 u108 u109 u110 u111 u112 u113 u114 u115 u116 u117 u118 u119 u120 u121 u122 u123 u124 u125 u126 u127 u128 u129 u130 u131 u132 u133 u134 u135 u136 u137 u138 u139 u140 u141 : Value} (hm : Md w X c (mad0 n gs) wc) (hw : EV encM 5 w vt ts) (hlen : ts.length ≤ 9223372036854775807) (hts : ∀ t ∈ ts, SmOk t)
    (hsl : EV encU16 1 w vs sl) (hlt : ∀ n ∈ sl, n < 65536) (hlen3 : sl.length ≤ 9223372036854775807) (hn1 : 1 ≤ n) (hn2 : n ≤ 8) (hg1 : 1 ≤ gs.length) (hg2 : gs.length ≤ 11) :
    Code.wp Try.prog (tailR Try.f15 3) (bodyPost Try.prog Try.f15 (MdPost w n gs (madT n gs.length 0 (ts.take 30)) sl))
      ⟨#[u0, u1, vt, vs, u4, u5, u6, u7, .pointer (some ⟨w.heap.size, 0, none⟩), .int .i64 n, .pointer (some ⟨X, 0, none⟩), u11, u12, u13, u14, u15, u16, u17, u18, u19, u20, u21, u22, u23, u24, u25, u26, u27, u28, u29, u30, u31, u32, u33, u34, u35, u36, u37, u38, u39, u40, u41, u42, u43, u44, u45, u46, u47, u48, u49, u50, u51, u52, u53, u54, u55, u56, u57, u58, u59, u60, u61, u62, u63, u64, u65, u66, u67, u68, u69, u70, u71, u72, u73, u74, u75, u76, u77, u78, u79, u80, u81, u82, u83, u84, u85, u86, u87, u88, u89, u90, u91, u92, u93, u94, u95, u96, u97, u98, u99, u100, u101, u102, u103, u104, u105, u106, u107, u108, u109, u110, u111, u112, u113, u114, u115, u116, u117, u118, u119, u120, u121, u122, u123, u124, u125, u126, u127, u128, u129, u130, u131, u132, u133, u134, u135, u136, u137, u138, u139, u140, u141], []⟩ wc := by
  conv => arg 2; whnf
  conv => arg 4; dsimp only
  unfold MdPost
  have HM := Lib.hid (show Md w X c (madX n gs (madT n gs.length 0 (ts.take 0)) []) wc from hm)
  have HTS := Lib.hid hts
  clear hm hts
  rcases Nat.eq_zero_or_pos ts.length with h0 | h0
  · obtain rfl : ts = [] := List.eq_nil_of_length_eq_zero h0
    obtain ⟨A, cc, rfl⟩ := hw.shape
    clear hw hlen h0
    go_upto_block 0 with fail
    go_cut [11] (fun _ wx => Md w X c (madX n gs [] []) wx)
    case first =>
      go_wp2_with fail
      refine wp_loop_rounds 1 ?_
      rw [rounds_succ]
      go_wp2
      go_meet
      exact HM.out
    case rest =>
      refine (‹∀ (a : Act) (w : World), Code.wp _ _ _ a w → _› : ∀ (a : Act) (w : World), _ → _) _ _ (made_t11 w _ X n vs c gs _ sl hcut hsl hlt hlen3 hn1 hn2 hg1 hg2)
  obtain ⟨b, off, cap, rfl, hcap, her⟩ := hw.row h0
  have HER := Lib.hid her
  clear hw her
  obtain ⟨NT, hNT⟩ : ∃ NT, ts.length = NT := ⟨_, rfl⟩
  rw [hNT] at hcap h0 hlen ⊢
  by_cases h30 : NT ≤ 30
  case pos =>
    go_upto_block 0 with fail
    go_cut [11] (fun _ wx => ∃ c, Md w X c (madX n gs (madT n gs.length 0 (ts.take NT)) []) wx)
    case first =>
      go_wp2_with fail
      go_loopg [11, 43] NT (fun k vi i wr => ∃ j : Nat, j + k = NT ∧ i = .int .i64 j ∧ vi = .int .i64 (lastI 0 (ts.take j) : Nat) ∧ ∃ c, Md w X c (madX n gs (madT n gs.length 0 (ts.take j)) []) wr)
      case atStart => exact ⟨0, by omega, rfl, rfl, c, HM.out⟩
      case round =>
        obtain ⟨j, hj, rfl, rfl, c, hm⟩ := hrel
        have HJ := Lib.hid hj
        have HM := Lib.hid hm
        clear hj hm
        by_cases hlt : j < NT
        · have hd : decide ((j : Int) < (NT : Int)) = true := by rw [decide_eq_true_eq]; omega
          obtain ⟨t, ht⟩ : ∃ t, ts[j]? = some t := ⟨_, List.getElem?_eq_getElem (by omega)⟩
          have hb := HM.out.bel
          obtain ⟨d0, d1, d2, d3, d4⟩ := (HER.out.below hb).sm ht
          obtain ⟨s1, s2, s3, s4⟩ := HTS.out t (List.mem_of_getElem? ht)
          have hI := lastI_le (ts.take j) 0
          have hjl : (ts.take j).length ≤ 30 := by rw [List.length_take]; omega
          obtain ⟨I, hI2⟩ : ∃ I, lastI 0 (ts.take j) = I := ⟨_, rfl⟩
          rw [hI2] at hI ⊢
          have hI3 : I ≤ 90 := by omega
          have HI := Lib.hid hI2
          have HT := Lib.hid ht
          clear hI hI2 hjl ht
          go_upto_region 9 with fail
          have MA := Lib.hid (HM.out.below (bel_alloc wr (.cells #[.int .u16 t.g, .int .u16 t.wt, .int .u16 t.v, .int .u8 t.cpu, .bool t.rdy] 72)))
          have PB := Lib.hid (heap_alloc_new wr (.cells #[.int .u16 t.g, .int .u16 t.wt, .int .u16 t.v, .int .u8 t.cpu, .bool t.rdy] 72))
          have HNX := Lib.hid (show madT n gs.length 0 (ts.take (j + 1)) = madT n gs.length 0 (ts.take j) ++ [mkTk n gs.length I t] ∧ lastI 0 (ts.take (j + 1)) = nextI I t by
            rw [List.take_add_one, HT.out, Option.toList_some, madT_snoc, lastI_snoc, HI.out]; exact ⟨rfl, rfl⟩)
          refine made_r9 w _ X wr.heap.size c _ gs n I t MA.out PB.out ⟨s1, s2, s3, s4⟩ hn1 hn2 hg1 hg2 hI3 (by show (madT _ _ _ _).length ≤ _; rw [madT_len, List.length_take]; omega) rfl _ ?_
          intros
          rename_i v W M1
          have HM1 := Lib.hid M1
          clear M1 d0 d1 d2 d3 d4 hb
          go_wp2
          go_roundg (gk - 1)
          case measure => have := HJ.out; omega
          case rel => exact ⟨j + 1, by have := HJ.out; omega, by go_num, by rw [HNX.out.2]; simp [nextI], _, by rw [HNX.out.1]; exact HM1.out⟩
        · have hjN : j = NT := by have := HJ.out; omega
          have hd : decide ((j : Int) < (NT : Int)) = false := by rw [decide_eq_false_iff_not]; omega
          go_wp2
          go_meet
          exact ⟨c, hjN ▸ HM.out⟩
    case rest =>
      obtain ⟨c, hm⟩ := hcut
      have htk : ts.take NT = ts.take 30 := by rw [List.take_of_length_le (by omega), List.take_of_length_le (by omega)]
      rw [htk] at hm
      refine (‹∀ (a : Act) (w : World), Code.wp _ _ _ a w → _› : ∀ (a : Act) (w : World), _ → _) _ _ (made_t11 w _ X n vs c gs _ sl hm hsl hlt hlen3 hn1 hn2 hg1 hg2)
  case neg =>
    go_upto_block 0 with fail
    go_cut [11] (fun _ wx => ∃ c, Md w X c (madX n gs (madT n gs.length 0 (ts.take 30)) []) wx)
    case first =>
      go_wp2_with fail
      go_loopg [11, 43] 30 (fun k vi i wr => ∃ j : Nat, j + k = 30 ∧ i = .int .i64 j ∧ vi = .int .i64 (lastI 0 (ts.take j) : Nat) ∧ ∃ c, Md w X c (madX n gs (madT n gs.length 0 (ts.take j)) []) wr)
      case atStart => exact ⟨0, by omega, rfl, rfl, c, HM.out⟩
      case round =>
        obtain ⟨j, hj, rfl, rfl, c, hm⟩ := hrel
        have HJ := Lib.hid hj
        have HM := Lib.hid hm
        clear hj hm
        by_cases hlt : j < 30
        · have hd : decide ((j : Int) < (30 : Int)) = true := by rw [decide_eq_true_eq]; omega
          obtain ⟨t, ht⟩ : ∃ t, ts[j]? = some t := ⟨_, List.getElem?_eq_getElem (by omega)⟩
          have hb := HM.out.bel
          obtain ⟨d0, d1, d2, d3, d4⟩ := (HER.out.below hb).sm ht
          obtain ⟨s1, s2, s3, s4⟩ := HTS.out t (List.mem_of_getElem? ht)
          have hI := lastI_le (ts.take j) 0
          have hjl : (ts.take j).length ≤ 30 := by rw [List.length_take]; omega
          obtain ⟨I, hI2⟩ : ∃ I, lastI 0 (ts.take j) = I := ⟨_, rfl⟩
          rw [hI2] at hI ⊢
          have hI3 : I ≤ 90 := by omega
          have HI := Lib.hid hI2
          have HT := Lib.hid ht
          clear hI hI2 hjl ht
          go_upto_region 9 with fail
          have MA := Lib.hid (HM.out.below (bel_alloc wr (.cells #[.int .u16 t.g, .int .u16 t.wt, .int .u16 t.v, .int .u8 t.cpu, .bool t.rdy] 72)))
          have PB := Lib.hid (heap_alloc_new wr (.cells #[.int .u16 t.g, .int .u16 t.wt, .int .u16 t.v, .int .u8 t.cpu, .bool t.rdy] 72))
          have HNX := Lib.hid (show madT n gs.length 0 (ts.take (j + 1)) = madT n gs.length 0 (ts.take j) ++ [mkTk n gs.length I t] ∧ lastI 0 (ts.take (j + 1)) = nextI I t by
            rw [List.take_add_one, HT.out, Option.toList_some, madT_snoc, lastI_snoc, HI.out]; exact ⟨rfl, rfl⟩)
          refine made_r9 w _ X wr.heap.size c _ gs n I t MA.out PB.out ⟨s1, s2, s3, s4⟩ hn1 hn2 hg1 hg2 hI3 (by show (madT _ _ _ _).length ≤ _; rw [madT_len, List.length_take]; omega) rfl _ ?_
          intros
          rename_i v W M1
          have HM1 := Lib.hid M1
          clear M1 d0 d1 d2 d3 d4 hb
          go_wp2
          go_roundg (gk - 1)
          case measure => have := HJ.out; omega
          case rel => exact ⟨j + 1, by have := HJ.out; omega, by go_num, by rw [HNX.out.2]; simp [nextI], _, by rw [HNX.out.1]; exact HM1.out⟩
        · have hjN : j = 30 := by have := HJ.out; omega
          have hd : decide ((j : Int) < (30 : Int)) = false := by rw [decide_eq_false_iff_not]; omega
          go_wp2
          go_meet
          exact ⟨c, hjN ▸ HM.out⟩
    case rest =>
      obtain ⟨c, hm⟩ := hcut
      have htk : ts.take 30 = ts.take 30 := rfl
      rw [htk] at hm
      refine (‹∀ (a : Act) (w : World), Code.wp _ _ _ a w → _› : ∀ (a : Act) (w : World), _ → _) _ _ (made_t11 w _ X n vs c gs _ sl hm hsl hlt hlen3 hn1 hn2 hg1 hg2)
end Go.Proofs.Ytenngfkgfdogjaa
namespace Go.Proofs.Ytenngfkgfdogjaa
open Go Go.RowKit Go.Shelf
attribute [local go_sem] Oper.semAt_some

theorem run_mk {t e : TypeId} {n : Nat} (ht : Try.prog.underlying t = some (.slice e)) (he : e = 3) (hn : n ≤ 64) (w : World) : (Instr.makeSlice t (.int .i64 n) (.int .i64 n)).run Try.prog w = .ok (.slice (some ⟨w.heap.size, 0, none⟩) n n) (w.alloc (.cells (Array.replicate n (.int .i64 0)) 3)) := by
  subst he
  have h := run_make_row' (P := Try.prog) t 3 (.int .i64 0) 8 ht (by kernel_rfl) rfl .i64 .i64 n (by omega) (by omega) w
  rw [show madeCells #[Value.int .i64 0] n = Array.replicate n (.int .i64 0) from Array.toList_inj.1 (by rw [toList_madeCells_one]; simp)] at h
  exact h

/-- What the operations of the region are worth. -/
def MdF (base : Nat) (n L M : Nat) (vg vg' : Value) (gs : List (Int × Int)) : Nat → Value → World → Prop
  | 0, v, _ => v = .int .i64 n
  | 1, v, _ => v = vg
  | 2, v, _ => v = vg
  | 3, v, _ => v = .int .i64 L
  | 4, v, _ => v = .int .i64 M
  | 5, v, _ => v = vg'
  | 6, v, w => OV encG 2 82 base w v gs
  | 7, v, w => ∃ u, v = .agg #[.int .i64 n, .int .u64 0, u] ∧ OV encG 2 82 base w u gs
  | 8, v, _ => v = .int .i64 n
  | 9, v, w => OV encI 1 3 base w v (List.replicate n 0)
  | 10, v, _ => v = .int .i64 n
  | 11, v, w => OV encI 1 3 base w v (List.replicate n 0)
  | 12, v, w => ∃ u a b, v = .agg #[.int .i64 n, .int .u64 0, u, a, b, .slice none 0 0, .slice none 0 0] ∧ OV encG 2 82 base w u gs ∧ OV encI 1 3 base w a (List.replicate n 0) ∧ OV encI 1 3 base w b (List.replicate n 0)
  | 13, v, w => ∃ X, v = .pointer (some ⟨X, 0, none⟩) ∧ ZBox w X ∧ base < X
  | _, _, _ => True
theorem MdF.mono {base n L M : Nat} {vg vg' : Value} {gs : List (Int × Int)} (i : Nat) (v : Value) (w w' : World) (hb : Below w.heap.size w w') (h : MdF base n L M vg vg' gs i v w) : MdF base n L M vg vg' gs i v w' := by
  match i with
  | 0 | 1 | 2 | 3 | 4 | 5 | 8 | 10 => exact h
  | 6 | 9 | 11 => exact OV.below h hb
  | 7 => obtain ⟨u, e, o⟩ := h; exact ⟨u, e, o.below hb⟩
  | 12 => obtain ⟨u, a, b, e, o1, o2, o3⟩ := h; exact ⟨u, a, b, e, o1.below hb, o2.below hb, o3.below hb⟩
  | 13 => obtain ⟨X, e, z, hx⟩ := h; exact ⟨X, e, z.below hb, hx⟩
  | _ + 14 => trivial
/-- What stays true about the world. -/
structure MdB (w : World) (vg' : Value) (ns : List Nat) (W : World) : Prop where
  bel : Below w.heap.size w W
  sz : w.heap.size < W.heap.size
  zb : ZBox W w.heap.size
  eg : EV encU16 1 W vg' ns
theorem MdB.mono {w : World} {vg' : Value} {ns : List Nat} (W W' : World) (hb : Below W.heap.size W W') (h : MdB w vg' ns W) : MdB w vg' ns W' :=
  ⟨h.bel.trans (hb.mono h.bel.size), Nat.lt_of_lt_of_le h.sz hb.size, h.zb.below hb, h.eg.below hb⟩

set_option maxRecDepth 100000 in
set_option maxHeartbeats 12800000 in
theorem made_t2 (w w1 : World) (A : Option Addr) (L c M : Nat) (vg' vt vs : Value) (ns : List Nat) (n : Nat) {u4 u5 u6 u7 u10 u11 u12 u13 u14 u15 u16 u17 u18 u19 u20 u21 u22 u23 u24 u25 u26 u27 u28 u29 u30 u31 u32 u33 u34 u35 u36 u37 u38 u39 u40 u41 u42 u43 u44 u45 u46 u47 u48 u49 u50 u51 u52 u53 u54 u55 u56 u57 u58 u59 u60 u61 u62 u63 u64 u65 u66 u67 u68 u69 u70 u71 u72 u73 u74 u75 u76 u77 u78 u79 u80 u81 u82 u83 u84 u85 u86 u87 u88 u89 u90 u91 u92 u93 u94 u95 u96 u97 u98 u99 u100 u101 u102 u103 u104 u105 u106 u107 u108 u109 u110 u111 u112 u113 u114 u115 u116 u117 u118 u119 u120 u121 u122 u123 u124 u125 u126 u127 u128 u129 u130 u131 u132 u133 u134 u135 u136 u137 u138 u139 u140 u141 : Value} (cp : Value) (hb : MdB w vg' ns w1) (hn1 : 1 ≤ n) (hn2 : n ≤ 8) (hlt : ∀ n ∈ ns, n < 65536) (hlen : ns.length ≤ 10)
    (hM : min L 10 = M) (hLc : L ≤ c) (hv : vg' = .slice A M c) (gs : List (Int × Int)) (hgs : madG ns = gs) (ts : List Sm) (sl : List Nat) (hw : EV encM 5 w vt ts) (hlent : ts.length ≤ 9223372036854775807) (hts : ∀ t ∈ ts, SmOk t)
    (hsl : EV encU16 1 w vs sl) (hlts : ∀ n ∈ sl, n < 65536) (hlen3 : sl.length ≤ 9223372036854775807) (hg1 : 1 ≤ gs.length) (hg2 : gs.length ≤ 11) :
    Code.wp Try.prog (tailR Try.f15 2) (bodyPost Try.prog Try.f15 (MdPost w n gs (madT n gs.length 0 (ts.take 30)) sl))
      ⟨#[cp, .slice A L c, vt, vs, u4, u5, u6, u7, .pointer (some ⟨w.heap.size, 0, none⟩), .int .i64 n, u10, u11, u12, u13, u14, u15, u16, u17, u18, u19, u20, u21, u22, u23, u24, u25, u26, u27, u28, u29, u30, u31, u32, u33, u34, u35, u36, u37, u38, u39, u40, u41, u42, u43, u44, u45, u46, u47, u48, u49, u50, u51, u52, u53, u54, u55, u56, u57, u58, u59, u60, u61, u62, u63, u64, u65, u66, u67, u68, u69, u70, u71, u72, u73, u74, u75, u76, u77, u78, u79, u80, u81, u82, u83, u84, u85, u86, u87, u88, u89, u90, u91, u92, u93, u94, u95, u96, u97, u98, u99, u100, u101, u102, u103, u104, u105, u106, u107, u108, u109, u110, u111, u112, u113, u114, u115, u116, u117, u118, u119, u120, u121, u122, u123, u124, u125, u126, u127, u128, u129, u130, u131, u132, u133, u134, u135, u136, u137, u138, u139, u140, u141], []⟩ w1 := by
  conv => arg 2; whnf
  conv => arg 4; dsimp only
  have HW := Lib.hid hw
  have HSL := Lib.hid hsl
  have HTS := Lib.hid hts
  have HLS := Lib.hid hlts
  clear hw hsl hts hlts
  have hmk := run_mk (n := n) Try.underlying34 rfl (by omega)
  apply wp_seq_k; intro K0 hK0
  go_cut [10] (fun p wx => ∃ X c, p = .pointer (some ⟨X, 0, none⟩) ∧ Md w X c (mad0 n gs) wx)
  case first =>
    refine wp_region_last (by kernel_rfl) 14 rfl (fun w w' => Below w.heap.size w w') (fun x => ⟨#[cp, .slice A L c, vt, vs, u4, u5, u6, u7, .pointer (some ⟨w.heap.size, 0, none⟩), .int .i64 n, x 13, u11, u12, u13, u14, u15, u16, u17, u18, u19, u20, u21, u22, u23, x 0, x 1, x 2, x 3, x 4, x 5, x 6, x 7, x 8, x 9, x 10, x 11, x 12, u37, u38, u39, u40, u41, u42, u43, u44, u45, u46, u47, u48, u49, u50, u51, u52, u53, u54, u55, u56, u57, u58, u59, u60, u61, u62, u63, u64, u65, u66, u67, u68, u69, u70, u71, u72, u73, u74, u75, u76, u77, u78, u79, u80, u81, u82, u83, u84, u85, u86, u87, u88, u89, u90, u91, u92, u93, u94, u95, u96, u97, u98, u99, u100, u101, u102, u103, u104, u105, u106, u107, u108, u109, u110, u111, u112, u113, u114, u115, u116, u117, u118, u119, u120, u121, u122, u123, u124, u125, u126, u127, u128, u129, u130, u131, u132, u133, u134, u135, u136, u137, u138, u139, u140, u141], []⟩)
      (MdF w.heap.size n L M (.slice A L c) vg' gs) (MdB w vg' ns) MdF.mono MdB.mono (by kernel_rfl) (by kernel_rfl) (by kernel_rfl) ?_ ?_ (fun i => (#[u24, u25, u26, u27, u28, u29, u30, u31, u32, u33, u34, u35, u36, u10] : Array Value).getD i undef) rfl ⟨below_drew hb.bel, hb.sz, hb.zb, hb.eg⟩
    · intro i o hi ho x W hB hd K hK
      clear hb hK0
      rcases (show i = 0 ∨ i = 1 ∨ i = 2 ∨ i = 3 ∨ i = 4 ∨ i = 5 ∨ i = 6 ∨ i = 7 ∨ i = 8 ∨ i = 9 ∨ i = 10 ∨ i = 11 ∨ i = 12 ∨ i = 13 by omega) with rfl | rfl | rfl | rfl | rfl | rfl | rfl | rfl | rfl | rfl | rfl | rfl | rfl | rfl
      all_goals obtain rfl := Option.some.inj ho
      all_goals clear ho hi
      all_goals simp only [upd, reduceIte, Nat.reduceEqDiff] at hK
      all_goals dsimp only
      · clear hd
        go_simp
        exact hK _ _ (Below.refl _ _) rfl
      · clear hd
        go_simp
        exact hK _ _ (Below.refl _ _) rfl
      · clear hd
        go_simp
        exact hK _ _ (Below.refl _ _) rfl
      · have e2 : x 2 = .slice A L c := hd 2 (by kernel_rfl)
        clear hd
        simp only [e2] at hK
        go_simp
        exact hK _ _ (Below.refl _ _) rfl
      · have e3 : x 3 = .int .i64 L := hd 3 (by kernel_rfl)
        clear hd
        simp only [e3] at hK
        go_simp
        exact hK _ _ (Below.refl _ _) (congrArg (Value.int .i64) (by first | omega | (split <;> omega)))
      · have e1 : x 1 = .slice A L c := hd 1 (by kernel_rfl)
        have e4 : x 4 = .int .i64 M := hd 4 (by kernel_rfl)
        have hm0 : (0 : Int) ≤ (M : Int) := by omega
        have hmc : (M : Int) ≤ (c : Int) := by omega
        have hmc' : M ≤ c := by omega
        clear hd
        simp only [e1, e4] at hK
        go_simp
        exact hK _ _ (Below.refl _ _) hv.symm
      · have e5 : x 5 = vg' := hd 5 (by kernel_rfl)
        clear hd
        simp only [e5, hv] at hK
        go_simp
        go_at_call 40
        have eg := hB.eg
        rw [hv] at eg
        refine (made_walk W _ ns eg hlt (by omega)).mono ?_
        rintro e wz ⟨r, rfl, og, bb⟩
        rw [hgs] at og
        go_simp
        exact hK _ _ bb (og.base_le hB.bel.size)
      · have e0 : x 0 = .int .i64 n := hd 0 (by kernel_rfl)
        have o6 : OV encG 2 82 w.heap.size W (x 6) gs := hd 6 (by kernel_rfl)
        obtain ⟨A6, c6, e6⟩ := (o6.ev encG_len).shape
        rw [e6] at o6
        clear hd
        simp only [e0, e6] at hK
        go_simp
        exact hK _ _ (Below.refl _ _) ⟨_, rfl, o6⟩
      · clear hd
        go_simp
        exact hK _ _ (Below.refl _ _) rfl
      · have e8 : x 8 = .int .i64 n := hd 8 (by kernel_rfl)
        clear hd
        simp only [e8] at hK
        go_simp
        exact hK _ _ (bel_alloc _ _) (ov_zeros rfl hB.bel.size (by omega))
      · clear hd
        go_simp
        exact hK _ _ (Below.refl _ _) rfl
      · have e10 : x 10 = .int .i64 n := hd 10 (by kernel_rfl)
        clear hd
        simp only [e10] at hK
        go_simp
        exact hK _ _ (bel_alloc _ _) (ov_zeros rfl hB.bel.size (by omega))
      · obtain ⟨u, e7, o7⟩ : ∃ u, x 7 = .agg #[.int .i64 n, .int .u64 0, u] ∧ OV encG 2 82 w.heap.size W u gs := hd 7 (by kernel_rfl)
        have o9 : OV encI 1 3 w.heap.size W (x 9) (List.replicate n 0) := hd 9 (by kernel_rfl)
        have o11 : OV encI 1 3 w.heap.size W (x 11) (List.replicate n 0) := hd 11 (by kernel_rfl)
        obtain ⟨A7, c7, rfl⟩ := (o7.ev encG_len).shape
        obtain ⟨A9, c9, e9⟩ := (o9.ev encI_len).shape
        obtain ⟨A11, c11, e11⟩ := (o11.ev encI_len).shape
        rw [e9] at o9
        rw [e11] at o11
        clear hd
        simp only [e7, e9, e11, List.length_replicate] at hK
        rw [List.length_replicate] at o9 o11
        go_simp
        exact hK _ _ (Below.refl _ _) ⟨_, _, _, rfl, o7, o9, o11⟩
      · clear hd
        go_simp
        exact hK _ _ (bel_alloc _ _) ⟨_, rfl, zbox_new rfl, hB.sz⟩
    · intro o ho x W hB hd K hK
      clear hb hK0
      obtain rfl := Option.some.inj ho
      clear ho
      dsimp only
      obtain ⟨u, a, b, e12, o1, o2, o3⟩ : ∃ u a b, x 12 = .agg #[.int .i64 n, .int .u64 0, u, a, b, .slice none 0 0, .slice none 0 0] ∧ OV encG 2 82 w.heap.size W u gs ∧ OV encI 1 3 w.heap.size W a (List.replicate n 0) ∧ OV encI 1 3 w.heap.size W b (List.replicate n 0) := hd 12 (by omega)
      obtain ⟨X, e13, zX, hX⟩ : ∃ X, x 13 = .pointer (some ⟨X, 0, none⟩) ∧ ZBox W X ∧ w.heap.size < X := hd 13 (by omega)
      obtain ⟨A1, c1, rfl⟩ := (o1.ev encG_len).shape
      obtain ⟨A2, c2, rfl⟩ := (o2.ev encI_len).shape
      obtain ⟨A3, c3, rfl⟩ := (o3.ev encI_len).shape
      rw [List.length_replicate] at o2 o3
      obtain ⟨z0, z1, z2, z3, z4, z5, z6⟩ := zX.cell
      have f0 := zX.frz 0
      have f1 := zX.frz 1
      have f2 := zX.frz 2
      have f3 := zX.frz 3
      have f4 := zX.frz 4
      have f5 := zX.frz 5
      have f6 := zX.frz 6
      clear hd
      go_simp
      refine hK _ _ ?_
      go_wp2_with fail
      go_meet
      exact ⟨X, _, rfl, md_of hB.zb zX (by omega) hB.bel o1 o2 o3 (by omega)⟩
  case rest =>
    obtain ⟨X, c', rfl, hm⟩ := hcut
    exact hK0 _ _ (made_t3 w _ X n vt vs c' gs ts sl hm HW.out hlent HTS.out HSL.out HLS.out hlen3 hn1 hn2 hg1 hg2)
set_option maxRecDepth 100000 in
set_option maxHeartbeats 3200000 in
theorem made21_ok (w : World) (cpus : Nat) (vg vt vs : Value) (ns : List Nat) (ts : List Sm) (sl : List Nat) (hc : cpus < 256) (hg : EV encU16 1 w vg ns) (hlt : ∀ n ∈ ns, n < 65536) (hlen : ns.length ≤ 9223372036854775807)
    (hw : EV encM 5 w vt ts) (hlent : ts.length ≤ 9223372036854775807) (hts : ∀ t ∈ ts, SmOk t) (hsl : EV encU16 1 w vs sl) (hlts : ∀ n ∈ sl, n < 65536) (hlen3 : sl.length ≤ 9223372036854775807) :
    Calls Try.prog 15 #[.int .u8 (cpus : Nat), vg, vt, vs] w (MdPost w (madN cpus) (madG (ns.take 10)) (madT (madN cpus) (madG (ns.take 10)).length 0 (ts.take 30)) sl) := by
  have hN : 1 ≤ madN cpus ∧ madN cpus ≤ 8 := by unfold madN; omega
  have hNi : 1 + (cpus : Int) % 8 = ((madN cpus : Nat) : Int) := by unfold madN; omega
  obtain ⟨_, hgl⟩ := madG_len10 hlt
  obtain ⟨A, c, L, e, hL, hLc⟩ : ∃ A c L, vg = .slice A L c ∧ ns.length = L ∧ L ≤ c := by
    rcases Nat.eq_zero_or_pos ns.length with h0 | h0
    · obtain ⟨A, c, e⟩ := hg.shape; exact ⟨A, c, _, e, rfl, by omega⟩
    · obtain ⟨b, off, c, e, h, _⟩ := hg.row h0; exact ⟨_, c, _, e, rfl, h⟩
  subst e
  have hEV : EV encU16 1 w (.slice A (min L 10) c) (ns.take 10) := by
    rcases Nat.eq_zero_or_pos ns.length with h0 | h0
    · obtain rfl : ns = [] := List.eq_nil_of_length_eq_zero h0
      obtain rfl : L = 0 := hL.symm
      exact EV.nil _ _
    · obtain ⟨b, off, c', e, _, _⟩ := hg.row h0
      rw [hL] at e
      simp only [Value.slice.injEq] at e
      obtain ⟨rfl, _, rfl⟩ := e
      have h := EV.row_take (j := min L 10) hg (by omega) hL.symm
      have ht : ns.take (min L 10) = ns.take 10 := by
        rcases Nat.le_total L 10 with h | h
        · rw [Nat.min_eq_left h, List.take_of_length_le (by omega), List.take_of_length_le (by omega)]
        · rw [Nat.min_eq_right h]
      rwa [ht] at h
  have HE := Lib.hid hEV
  have HW := Lib.hid hw
  have HTS := Lib.hid hts
  have HSL := Lib.hid hsl
  have HLS := Lib.hid hlts
  have HLT := Lib.hid hlt
  obtain ⟨n, hn⟩ : ∃ n, madN cpus = n := ⟨_, rfl⟩
  rw [hn] at hN hNi ⊢
  obtain ⟨gs, hgs⟩ : ∃ gs, madG (ns.take 10) = gs := ⟨_, rfl⟩
  rw [hgs] at hgl ⊢
  have HGS := Lib.hid hgs
  clear hEV hw hts hsl hlts hlt hg hn hgs
  go_enter Try.func15, Try.ntmps15
  go_upto_region 1 with fail
  generalize hw1 : w.alloc (.cells #[.int .i64 0, .int .u64 0, .slice none 0 0, .slice none 0 0, .slice none 0 0, .slice none 0 0, .slice none 0 0] 38) = w1
  have HB := Lib.hid (show MdB w (.slice A (min L 10) c) (ns.take 10) w1 from ⟨by rw [← hw1]; exact bel_alloc _ _, by rw [← hw1]; simp, by rw [← hw1]; exact zbox_new rfl, HE.out.below (by rw [← hw1]; exact bel_alloc _ _)⟩)
  clear hw1
  go_cut [9] (fun v wx => v = .int .i64 (n : Nat) ∧ wx = w1)
  case first =>
    go_wp2_with fail
    go_meet
    exact ⟨rfl, rfl⟩
  case rest =>
    obtain ⟨rfl, rfl⟩ := hcut
    refine (‹∀ (a : Act) (w : World), Code.wp _ _ _ a w → _› : ∀ (a : Act) (w : World), _ → _) _ _ (made_t2 w _ A L c _ _ vt vs (ns.take 10) n _ HB.out hN.1 hN.2 (fun m hm => HLT.out m (List.mem_of_mem_take hm)) (by rw [List.length_take]; omega) rfl hLc rfl gs HGS.out ts sl HW.out hlent HTS.out HSL.out HLS.out hlen3 (by omega) (by omega))
end Go.Proofs.Ytenngfkgfdogjaa
