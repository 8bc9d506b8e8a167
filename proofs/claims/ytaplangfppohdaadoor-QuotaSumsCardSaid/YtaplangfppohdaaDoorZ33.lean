/- QuotaSums: the walk through the times that were used. -/
import Derived.Test.YtaplangfppohdaaDoorZ32
set_option linter.unusedVariables false
set_option linter.unusedSimpArgs false
set_option linter.unusedSectionVars false
namespace Go.Proofs.YtaplangfppohdaaDoor
open Go.RowKit Go.Shelf Go.Maps
attribute [local go_sem] Oper.semAt_some

theorem timesT_len (a p n : Nat) : (timesT a p n).length = n := by simp [timesT]
theorem pairsJ_le {gs : List (Int × Int)} {g p : Nat} {hs : List (Int × Int)} {l : List Ev} {j k : Nat} (h : j ≤ k) : (pairsJ gs g p hs l j).length ≤ (pairsJ gs g p hs l k).length := by
  obtain ⟨d, rfl⟩ : ∃ d, k = j + d := ⟨k - j, by omega⟩
  clear h
  induction d with
  | zero => exact Nat.le_refl _
  | succ d ih =>
    refine Nat.le_trans ih ?_
    show _ ≤ (pairsJ gs g p hs l (j + d + 1)).length
    unfold pairsJ
    rw [List.range_succ, List.flatMap_append, List.length_append]
    omega
theorem sub_len {α : Type} [BEq α] [LawfulBEq α] {l m : List α} (hn : l.Nodup) (h : ∀ x ∈ l, x ∈ m) : l.length ≤ m.length := by
  induction l generalizing m with
  | nil => simp
  | cons x r ih =>
    rw [List.nodup_cons] at hn
    have hx := h x (by simp)
    have h2 := ih (m := m.erase x) hn.2 (fun y hy => (List.mem_erase_of_ne (by rintro rfl; exact hn.1 hy)).2 (h y (by simp [hy])))
    rw [List.length_erase_of_mem hx] at h2
    have := List.length_pos_of_mem hx
    rw [List.length_cons]; omega
theorem Cnt.le {L : List (Int × Int)} {F : Lit → Option Value} {c : Nat} (h : Cnt L F c) : c ≤ L.length := by
  obtain ⟨K, h1, h2, h3⟩ := h.2.1
  rw [← h3]
  exact sub_len h1 fun q hq => (h2 q).1 hq
theorem MpC.cell_ne {P : Program} {k : TypeId} {w : World} {b c : Nat} {F : Lit → Option Value} (h : MpC P k w b c F) {p : Addr} {u : Value} (hc : w.cell? p = some u) : some p.block ≠ some b := by
  intro e
  obtain ⟨D, ⟨es, clock, h1, _⟩, _⟩ := h
  obtain ⟨o, ho, hi⟩ := cells_of_cell hc
  rw [Option.some.inj e, h1] at ho
  cases ho
  cases hi
theorem EV.grm {α : Type} {enc : α → List Value} {n : Nat} {w w' : World} {v : Value} {xs : List α} {P : Program} {k : TypeId} {b c : Nat} {F : Lit → Option Value} (h : EV enc n w v xs) (hm : MpC P k w b c F) (hg : w.grownBy w' (some b)) : EV enc n w' v xs :=
  h.keep fun _ _ hc => hg.cell hc (hm.cell_ne hc)

set_option maxRecDepth 100000 in
set_option maxHeartbeats 3200000 in
theorem sums_mid (w5 : World) (RB p g n mb ne ce : Nat) (Ae : Option Addr) (vh vu : Value) (nu cu : Nat) (Au : Option Addr) (us : List Us) (gs hs : List (Int × Int)) (l : List Ev) (Post : Ending → World → Prop) {u0 u1 u2 u3 u4 u5 u6 u7 u8 u9 u10 u11 u14 u17 u19 u21 u22 u23 u24 u25 u26 u27 u28 u29 u30 u31 u32 u33 u34 u35 u36 u37 u38 u39 u40 u41 u42 u43 u44 u45 u46 u47 u48 u49 u50 u51 u52 u53 u54 u55 u56 u57 u58 u59 u60 u61 u62 u63 u64 u65 u66 u67 u68 u69 u70 u71 u72 u73 u74 u75 u76 u77 u78 u79 u80 u81 u82 u83 u84 u85 u86 u87 u88 u89 u90 u91 u92 u93 u94 u95 u96 u97 u98 u99 u100 u101 u102 u103 u104 u105 u106 u107 u108 u109 u110 u111 u112 u113 u114 u115 u116 u117 u118 u119 u120 u121 u122 u123 u124 u125 u126 u127 u128 u129 u130 u131 u132 u133 u134 u135 u136 u137 u138 u139 u140 u141 u142 u143 u144 u145 u146 u147 u148 u149 u150 u151 u152 u153 u154 u155 u156 u157 u158 u159 u160 u161 u162 u163 u164 u165 u166 u167 u168 u169 u170 u171 u172 u173 u174 u175 u176 u177 u178 u179 u180 u181 u182 u183 u184 u185 u186 u187 u188 u189 u190 u191 u192 u193 u194 u195 u196 u197 u198 u199 u200 u201 u202 : Value}
    (HE : Hid (EV encE 11 w5 (.slice Ae ne ce) l ∧ l.length = ne ∧ ne ≤ 1000 ∧ (∀ e ∈ l, EvOk e))) (HH : Hid (EV encG 2 w5 vh hs ∧ hs.length ≤ 1000000 ∧ ∀ h ∈ hs, I64 h.1 ∧ I64 h.2))
    (HUN : Hid (EV encI 1 w5 vu (underL gs g) ∧ (underL gs g).length ≤ 1000)) (HRB : Hid (w5.cell? ⟨RB, 1, none⟩ = some (.int .i64 (p : Nat)))) (hp : 1 ≤ p ∧ p ≤ 1000)
    (HT : Hid (∀ e ∈ l, 0 ≤ e.ticks ∧ e.ticks ≤ 200 ∧ e.ticks ≤ e.time ∧ e.time ≤ 281474976710656 ∧ 0 ≤ e.cpu ∧ e.cpu < 64))
    (HM : Hid (MpC Tryd.prog 77 w5 mb 0 (fun _ => none)))
    (HLEN : Hid ((pairsJ gs g p hs l l.length).length ≤ 100000))
    (HUS : Hid (EV encUs 5 w5 (.slice Au nu cu) us ∧ us.length = nu ∧ nu ≤ 1000000000)) (HSO : Hid (∀ (c : Nat) (F : Lit → Option Value), Cnt (pairsJ gs g p hs l l.length) F c → SOk p us F ∧ nu = c))
    (FIN : Hid (∀ w', Below mb w5 w' → Post (.returned (.bool true)) w')) :
    Code.wp Tryd.prog (tailR Tryd.f9 12) (bodyPost Tryd.prog Tryd.f9 Post)
      ⟨#[u0, u1, u2, u3, u4, u5, u6, u7, u8, u9, u10, u11, vh, .slice Ae ne ce, u14, .pointer (some ⟨RB, 0, none⟩), .slice Au nu cu, u17, vu, u19, .map (some mb), u21, u22, u23, u24, u25, u26, u27, u28, u29, u30, u31, u32, u33, u34, u35, u36, u37, u38, u39, u40, u41, u42, u43, u44, u45, u46, u47, u48, u49, u50, u51, u52, u53, u54, u55, u56, u57, u58, u59, u60, u61, u62, u63, u64, u65, u66, u67, u68, u69, u70, u71, u72, u73, u74, u75, u76, u77, u78, u79, u80, u81, u82, u83, u84, u85, u86, u87, u88, u89, u90, u91, u92, u93, u94, u95, u96, u97, u98, u99, u100, u101, u102, u103, u104, u105, u106, u107, u108, u109, u110, u111, u112, u113, u114, u115, u116, u117, u118, u119, u120, u121, u122, u123, u124, u125, u126, u127, u128, u129, u130, u131, u132, u133, u134, u135, u136, u137, u138, u139, u140, u141, u142, u143, u144, u145, u146, u147, u148, u149, u150, u151, u152, u153, u154, u155, u156, u157, u158, u159, u160, u161, u162, u163, u164, u165, u166, u167, u168, u169, u170, u171, u172, u173, u174, u175, u176, u177, u178, u179, u180, u181, u182, u183, u184, u185, u186, u187, u188, u189, u190, u191, u192, u193, u194, u195, u196, u197, u198, u199, u200, u201, u202], []⟩ w5 := by
  conv => arg 2; whnf
  conv => arg 4; dsimp only
  have HR := Lib.hid (lawran_ok w5 vh (.slice Ae ne ce) hs l HH.out.1 HE.out.1 HH.out.2.1 (by rw [HE.out.2.1]; have := HE.out.2.2.1; omega) HE.out.2.2.2 HH.out.2.2)
  have hne := HE.out.2.2.1
  go_wp2_with fail
  refine HR.out.mono ?_
  rintro e w6 ⟨vr, rfl, or_, br_⟩
  obtain ⟨Ar, cr, hvr⟩ := (or_.ev encI_len).shape
  rw [ranL_len, HE.out.2.1] at hvr
  subst hvr
  have HRL := Lib.hid (or_.ev encI_len)
  have HB6 := Lib.hid br_
  clear or_ br_ HR
  go_upto_block 0 with fail
  have HGR0 := Lib.hid (show w6.grownBy w6 (some mb) from World.grownBy.refl _ _)
  have HM6 := Lib.hid (HM.out.below HB6.out)
  have HNB := Lib.hid (show some RB ≠ some mb from HM6.out.cell_ne (below_cell HB6.out HRB.out))
  go_cut [] (fun wx => ∃ (c : Nat) (F : Lit → Option Value), MpC Tryd.prog 77 wx mb c F ∧ Cnt (pairsJ gs g p hs l ne) F c ∧ w6.grownBy wx (some mb))
  case first =>
    go_wp2
    go_loopg [77] ne (fun k i wr => ∃ (j c : Nat) (F : Lit → Option Value), j + k = ne ∧ i = .int .i64 j ∧ MpC Tryd.prog 77 wr mb c F ∧ Cnt (pairsJ gs g p hs l j) F c ∧ w6.grownBy wr (some mb))
    case atStart => exact ⟨0, 0, _, by omega, rfl, HM6.out, Cnt.nil, HGR0.out⟩
    case round =>
      obtain ⟨j, c, F, hj, rfl, hm, hcn, hgr⟩ := hrel
      have HJ := Lib.hid hj
      have HMJ := Lib.hid hm
      have HC := Lib.hid hcn
      have HGR := Lib.hid hgr
      clear hj hm hcn hgr
      by_cases hlt : j < ne
      · obtain ⟨e, he⟩ : ∃ e, l[j]? = some e := ⟨_, List.getElem?_eq_getElem (by rw [HE.out.2.1]; exact hlt)⟩
        obtain ⟨⟨x0, x1⟩, ⟨x2, y2⟩, ⟨x3, x4⟩⟩ : (0 ≤ e.ticks ∧ e.ticks ≤ 200) ∧ (e.ticks ≤ e.time ∧ e.time ≤ 281474976710656) ∧ (0 ≤ e.cpu ∧ e.cpu < 64) := by have := HT.out e (List.mem_of_getElem? he); omega
        have HRW := Lib.hid (HRL.out.grm HM6.out HGR.out)
        have HEW := Lib.hid ((HE.out.1.below HB6.out).grm HM6.out HGR.out)
        have HUW := Lib.hid ((HUN.out.1.below HB6.out).grm HM6.out HGR.out)
        obtain ⟨br, ofr, cr', hs1, hc1, hr1⟩ := HRW.out.row (by rw [ranL_len, HE.out.2.1]; omega)
        rw [ranL_len, HE.out.2.1] at hs1 hc1
        simp only [Value.slice.injEq, true_and] at hs1
        obtain ⟨rfl, rfl⟩ := hs1
        have hx := hr1.int (i := j) (by rw [ranL_len, HE.out.2.1]; omega)
        have hxv : ((ranL hs l l.length)[j]?.getD 0) = ranG (ofJ hs l j) e := by
          rw [ranL, List.getElem?_map, List.getElem?_range (by rw [HE.out.2.1]; exact hlt)]; simp [he]
        rw [hxv] at hx
        have HX := Lib.hid hx
        obtain ⟨x, hxx⟩ : ∃ x, ranG (ofJ hs l j) e = x := ⟨_, rfl⟩
        have HXX := Lib.hid hxx
        rw [hxx] at hx
        clear hxv hr1
        have HCT := Lib.hid (contains_int wr vu (underL gs g) x HUW.out (by have := HUN.out.2; omega))
        go_wp2_with fail
        refine HCT.out.mono ?_
        rintro r w7 ⟨rfl, rfl⟩
        clear HCT
        cases hco : (underL gs g).contains x with
        | false =>
          have HPE := Lib.hid (show pairsJ gs g p hs l (j + 1) = pairsJ gs g p hs l j from by rw [pairsJ_succ he, HXX.out]; unfold pairsE; rw [if_neg (by rw [hco]; simp), List.append_nil])
          clear hco
          go_wp2
          go_roundg (gk - 1)
          case measure => have := HJ.out; omega
          case rel => exact ⟨j + 1, c, F, by have := HJ.out; omega, by go_num, HMJ.out, by rw [HPE.out]; exact HC.out, HGR.out⟩
        | true =>
          have HCO := Lib.hid hco
          clear hco hx
          obtain ⟨b, off, c', hs2, hc2, hr2⟩ := HEW.out.row (by rw [HE.out.2.1]; omega)
          rw [HE.out.2.1] at hs2 hc2
          simp only [Value.slice.injEq, true_and] at hs2
          obtain ⟨rfl, rfl⟩ := hs2
          obtain ⟨cc, hcc⟩ : ∃ cc : Nat, e.cpu = cc := ⟨e.cpu.toNat, by omega⟩
          obtain ⟨tm, htm⟩ : ∃ tm : Nat, e.time = tm := ⟨e.time.toNat, by omega⟩
          obtain ⟨m, hm⟩ : ∃ m : Nat, e.ticks = m := ⟨e.ticks.toNat, by omega⟩
          have HCW := Lib.hid (show ∀ W : World, w6.grownBy W (some mb) → W.cell? ⟨b, off + j * 11 + 1, none⟩ = some (.int .i64 (tm : Nat)) ∧ W.cell? ⟨b, off + j * 11 + 2, none⟩ = some (.int .u8 (cc : Nat)) ∧ W.cell? ⟨b, off + j * 11 + 8, none⟩ = some (.int .i64 (m : Nat)) ∧ W.cell? ⟨RB, 1, none⟩ = some (.int .i64 (p : Nat)) from fun W hg => by
            obtain ⟨b3, off3, c3, h1, _, h3⟩ := ((HE.out.1.below HB6.out).grm HM6.out hg).row (by rw [HE.out.2.1]; omega)
            simp only [Value.slice.injEq, Option.some.injEq, Addr.mk.injEq, true_and, and_true] at h1
            obtain ⟨⟨rfl, rfl⟩, _⟩ := h1
            obtain ⟨_, f1, f2, _, _, _, _, _, f8, _⟩ := h3.ev he
            exact ⟨by rw [f1, htm], by rw [f2, hcc], by rw [f8, hm], hg.cell (below_cell HB6.out HRB.out) HNB.out⟩)
          have HPE := Lib.hid (show pairsJ gs g p hs l (j + 1) = pairsJ gs g p hs l j ++ (timesT (tm - m) p m).map (fun k => ((cc : Int), k)) from by
            rw [pairsJ_succ he, HXX.out]; unfold pairsE; rw [if_pos HCO.out, htm, hm, hcc, Int.toNat_natCast, Int.toNat_natCast]; rfl)
          obtain ⟨q1, q2, q8, qr⟩ := HCW.out wr HGR.out
          rw [hcc] at x3 x4
          rw [htm] at x2 y2
          rw [hm] at x0 x1 x2
          clear hr2 hcc htm hm hc2
          have k1 : (0 : Int) ≤ (j : Int) := by omega
          have k2 : (j : Int) < (ne : Int) := by omega
          have k3 : (j : Int).toNat = j := by omega
          have e7 : (tm : Int) - (m : Int) = ((tm - m : Nat) : Int) := by omega
          have e8 : IntKind.i64.wrap ((tm : Int) - (m : Int)) = (tm : Int) - (m : Int) := IntWalk.i64_in _ (by omega)
          go_wp2_with fail
          go_quiet (fail)
          have HGN := Lib.hid (show w6.grownBy (wr.drewN nq) (some mb) from ⟨HGR.out.os, HGR.out.tape, HGR.out.output, HGR.out.size, HGR.out.block⟩)
          have HMN := Lib.hid (show MpC Tryd.prog 77 (wr.drewN nq) mb c F from HMJ.out.same rfl)
          have HE7 := Lib.hid e7
          clear q1 q2 q8 qr k1 k2 k3 e8
          generalize wr.drewN nq = w8 at HGN HMN ⊢
          clear e7
          go_wp2
          go_loopg [23] m (fun k i wq => ∃ (q c : Nat) (F : Lit → Option Value), q + k = m ∧ i = .int .i64 ((tm - m + q : Nat) : Int) ∧ MpC Tryd.prog 77 wq mb c F ∧ Cnt (pairsJ gs g p hs l j ++ (timesT (tm - m) p q).map (fun k => ((cc : Int), k))) F c ∧ w6.grownBy wq (some mb))
          case atStart => exact ⟨0, c, F, by omega, rfl, HMN.out, by rw [show timesT (tm - m) p 0 = [] from rfl, List.map_nil, List.append_nil]; exact HC.out, HGN.out⟩
          case round =>
            obtain ⟨q, cq, Fq, hq, rfl, hmq, hcq, hgq⟩ := hrel
            have HQ := Lib.hid hq
            have HMQ := Lib.hid hmq
            have HCQ := Lib.hid hcq
            have HGQ := Lib.hid hgq
            clear hq hmq hcq hgq
            obtain ⟨q1, q2, q8, qr⟩ := HCW.out _ HGQ.out
            have k1 : (0 : Int) ≤ (j : Int) := by omega
            have k2 : (j : Int) < (ne : Int) := by omega
            have k3 : (j : Int).toNat = j := by omega
            by_cases hqm : q < m
            · have t1 : decide (((tm - m + q : Nat) : Int) < (tm : Int)) = true := by simp; omega
              have t2 : decide (tm - m + q < tm) = true := by simp; omega
              obtain ⟨t, ht⟩ : ∃ t, tm - m + q = t := ⟨_, rfl⟩
              have HT1 := Lib.hid ht
              rw [ht] at t1 t2
              rw [ht]
              have htl : t < tm := by simpa using t2
              obtain ⟨per, hper⟩ : ∃ per, t / p = per := ⟨_, rfl⟩
              have HPER := Lib.hid hper
              have hpl : per ≤ 281474976710656 := by rw [← hper]; exact Nat.le_trans (Nat.div_le_self _ _) (by omega)
              obtain ⟨cnt, hcnt⟩ : ∃ cnt, (pairsJ gs g p hs l j ++ (timesT (tm - m) p q).map (fun k => ((cc : Int), k))).count ((cc : Int), (per : Int)) = cnt := ⟨_, rfl⟩
              have HCNT := Lib.hid hcnt
              have hI1 : I64 (cc : Int) := by unfold I64; omega
              have hI2 : I64 (per : Int) := by unfold I64; omega
              have hget := HCQ.out.get hI1 hI2
              rw [hcnt] at hget
              have hLL : (pairsJ gs g p hs l j ++ (timesT (tm - m) p q).map (fun k => ((cc : Int), k))).length ≤ 100000 := by
                refine Nat.le_trans ?_ HLEN.out
                refine Nat.le_trans ?_ (pairsJ_le (j := j + 1) (by rw [HE.out.2.1]; omega))
                rw [HPE.out, List.length_append, List.length_append, List.length_map, List.length_map, timesT_len, timesT_len]
                omega
              have hcl : cnt ≤ 100000 := by rw [← hcnt]; exact Nat.le_trans List.count_le_length hLL
              have hccl : cq ≤ 100000 := Nat.le_trans HCQ.out.le hLL
              clear hLL
              have hgd : w6.grownBy wr.drew (some mb) := ⟨HGQ.out.os, HGQ.out.tape, HGQ.out.output, HGQ.out.size, HGQ.out.block⟩
              have hmd : MpC Tryd.prog 77 wr.drew mb cq Fq := HMQ.out.same rfl
              have hent := hmd.entry (t := 74) (e := 3) lawKk2 lawK2 Tryd.underlying74 (fun u => zeroI u) (by unfold maxLen; omega) (keyK2 hI1 hI2)
              rw [hget] at hent
              obtain ⟨st, w9, hE1, hM9, hG9, hst⟩ := hent
              obtain ⟨w10, hE2, hM10, hG10⟩ := hst w9 (.int .i64 ((cnt : Int) + 1)) rfl
              have hL9 := hM9.mpv.look lawK2 Tryd.underlying74 (zeroI _) (keyK2 hI1 hI2)
              rw [updF_same, Option.getD_some] at hL9
              have hL8 := hmd.mpv.look lawK2 Tryd.underlying74 (zeroI _) (keyK2 hI1 hI2)
              rw [hget] at hL8
              have HL9 := Lib.hid hL9
              have HE2 := Lib.hid (show (Instr.entryStore 74 (.map (some mb)) (.int .i64 (st : Nat)) (.int .i64 ((cnt : Int) + 1))).run Tryd.prog w9 = .ok () w10 from hE2)
              have XPL := Lib.hid hpl
              have HG9 := Lib.hid (hgd.trans hG9)
              have HG10 := Lib.hid ((hgd.trans hG9).trans hG10)
              have HM10 := Lib.hid hM10
              have HCS := Lib.hid (HCQ.out.step hI1 hI2)
              obtain ⟨wd, hwd⟩ : ∃ wd, wr.drew = wd := ⟨_, rfl⟩
              have HWD := Lib.hid hwd
              have HL8 := Lib.hid (show (Instr.lookup 74 (.map (some mb)) (.agg #[.int .i64 (cc : Nat), .int .i64 (per : Nat)]) false).run Tryd.prog wd = .ok (.int .i64 (cnt : Nat)) wd from by rw [← hwd]; exact hL8)
              have HE1 := Lib.hid (show (Instr.mapEntry 74 (.map (some mb)) (.agg #[.int .i64 (cc : Nat), .int .i64 (per : Nat)])).run Tryd.prog wd = .ok (.tuple #[.int .i64 (cnt : Nat), .int .i64 (st : Nat)]) w9 from by rw [← hwd]; exact hE1)
              have HGD := Lib.hid (show w6.grownBy wd (some mb) from by rw [← hwd]; exact hgd)
              have K1 := Lib.hid k1
              have K2 := Lib.hid k2
              have K3 := Lib.hid k3
              have X4 := Lib.hid (And.intro x3 x4)
              have XP := Lib.hid hp
              have XD := Lib.hid (show (t : Int) / (p : Int) = (per : Int) from by rw [← hper]; rfl)
              have XW := Lib.hid (show IntKind.i64.wrap ((cnt : Int) + 1) = (cnt : Int) + 1 from IntWalk.i64_in _ (by omega))
              obtain ⟨x0, hx0⟩ : ∃ x0, x = x0 := ⟨_, rfl⟩
              clear hL8 hL9 hE1 hE2 hG9 hG10 hM9 hM10 hst hget hgd
              go_upto_region 19 with fail
              rw [hx0]
              have HX0 := Lib.hid hx0
              clear hx0
              clear q1 q2 q8 qr k1 k2 k3 t1 t2 hI1 hI2 hwd hcnt hper ht
              refine wp_region_chain (by kernel_rfl) 17 rfl 2 (fun m => match m with | 0 => 14 | _ => 16) (fun x => ⟨#[u0, u1, u2, u3, u4, u5, u6, u7, u8, u9, u10, u11, vh, .slice (some ⟨b, off, none⟩) ne ce, u14, .pointer (some ⟨RB, 0, none⟩), .slice Au nu cu, u17, vu, u19, .map (some mb), .int .i64 (j : Nat), .int .i64 x0, .int .i64 (t : Nat), u24, u25, u26, u27, u28, u29, u30, u31, u32, u33, u34, u35, u36, u37, u38, u39, u40, u41, u42, u43, u44, u45, u46, u47, u48, u49, u50, u51, u52, u53, u54, u55, u56, u57, u58, u59, u60, u61, u62, u63, u64, u65, u66, u67, u68, u69, u70, u71, u72, vh, .slice (some ⟨b, off, none⟩) ne ce, .slice (some ⟨br, ofr, none⟩) ne cr, .int .i64 (ne : Nat), .int .i64 (j : Nat), .bool true, .int .i64 (j : Nat), .pointer (some ⟨br, ofr + j, none⟩), .int .i64 x0, vu, .int .i64 x0, .bool true, .bool false, .slice (some ⟨b, off, none⟩) ne ce, .int .i64 (j : Nat), .pointer (some ⟨b, off + j * 11, none⟩), .pointer (some ⟨b, off + j * 11 + 1, none⟩), .int .i64 (tm : Nat), .slice (some ⟨b, off, none⟩) ne ce, .int .i64 (j : Nat), .pointer (some ⟨b, off + j * 11, none⟩), .pointer (some ⟨b, off + j * 11 + 8, none⟩), .int .i64 (m : Nat), .int .i64 ((tm - m : Nat) : Int), .int .i64 (t : Nat), .slice (some ⟨b, off, none⟩) ne ce, .int .i64 (j : Nat), .pointer (some ⟨b, off + j * 11, none⟩), .pointer (some ⟨b, off + j * 11 + 1, none⟩), .int .i64 (tm : Nat), .bool true, u104, u105, x 0, x 1, x 2, x 3, x 4, x 5, x 6, x 7, x 8, x 9, x 10, x 11, x 12, x 13, x 14, x 15, u122, u123, u124, u125, u126, u127, u128, u129, u130, u131, u132, u133, u134, u135, u136, u137, u138, u139, u140, u141, u142, u143, u144, u145, u146, u147, u148, u149, u150, u151, u152, u153, u154, u155, u156, u157, u158, u159, u160, u161, u162, u163, u164, u165, u166, u167, u168, u169, u170, u171, u172, u173, u174, u175, u176, u177, u178, u179, u180, u181, u182, u183, u184, u185, u186, u187, u188, u189, u190, u191, u192, u193, u194, u195, u196, u197, u198, u199, u200, u201, u202], []⟩) (fun iF vF => match iF with | 0 => vF = .map (some mb) | 1 => vF = .slice (some ⟨b, off, none⟩) ne ce | 2 => vF = .int .i64 (j : Nat) | 3 => vF = .pointer (some ⟨b, off + j * 11, none⟩) | 4 => vF = .pointer (some ⟨b, off + j * 11 + 2, none⟩) | 5 => vF = .int .u8 (cc : Nat) | 6 => vF = .int .i64 (cc : Nat) | 7 => vF = .int .i64 (t : Nat) | 8 => vF = .pointer (some ⟨RB, 1, none⟩) | 9 => vF = .int .i64 (p : Nat) | 10 => vF = .int .i64 (per : Nat) | 11 => vF = .agg #[.int .i64 (cc : Nat), .int .i64 (per : Nat)] | 12 => vF = .int .i64 (cnt : Nat) | 13 => vF = .int .i64 ((cnt : Int) + 1) | 15 => vF = .int .i64 (st : Nat) | _ => True)
                (fun k x W => (k = 0 → W = wd) ∧ (k = 1 → W = w9 ∧ x 14 = .tuple #[.int .i64 (cnt : Nat), .int .i64 (st : Nat)]) ∧ (k = 2 → W = w10 ∧ x 14 = .tuple #[.int .i64 (cnt : Nat), .int .i64 (st : Nat)])) (by kernel_rfl) ?hB (by kernel_rfl) (by kernel_rfl) ?hpure ?hchain ?hend (fun i => (#[u106, u107, u108, u109, u110, u111, u112, u113, u114, u115, u116, u117, u118, u119, u120, u121, undef] : Array Value).getD i undef) rfl ?hstart
              case hstart =>
                try dsimp only
                exact ⟨fun _ => HWD.out, fun h => (by first | exact h.elim | omega | cases h), fun h => (by first | exact h.elim | omega | cases h)⟩
              case hB =>
                intro k x i v W hi h
                have h14 : ¬ 14 = i := by rintro rfl; exact absurd (show true = false from hi) (by simp)
                try dsimp only at h ⊢
                rw [upd_ne h14]
                exact h
              case hpure =>
                intro iF o hi hnc ho k x W hk hB hd hbf hx K hK
                rcases (show iF = 0 ∨ iF = 1 ∨ iF = 2 ∨ iF = 3 ∨ iF = 4 ∨ iF = 5 ∨ iF = 6 ∨ iF = 7 ∨ iF = 8 ∨ iF = 9 ∨ iF = 10 ∨ iF = 11 ∨ iF = 12 ∨ iF = 13 ∨ iF = 14 ∨ iF = 15 ∨ iF = 16 by omega) with rfl | rfl | rfl | rfl | rfl | rfl | rfl | rfl | rfl | rfl | rfl | rfl | rfl | rfl | rfl | rfl | rfl
                · obtain rfl := Option.some.inj ho
                  clear ho hd hx hbf hB hnc hi
                  simp only [upd, reduceIte, Nat.reduceEqDiff] at hK
                  dsimp only
                  go_simp
                  exact hK _ rfl
                · obtain rfl := Option.some.inj ho
                  clear ho hd hx hbf hB hnc hi
                  simp only [upd, reduceIte, Nat.reduceEqDiff] at hK
                  dsimp only
                  go_simp
                  exact hK _ rfl
                · obtain rfl := Option.some.inj ho
                  clear ho hd hx hbf hB hnc hi
                  simp only [upd, reduceIte, Nat.reduceEqDiff] at hK
                  dsimp only
                  go_simp
                  exact hK _ rfl
                · obtain rfl := Option.some.inj ho
                  have e1 : x 1 = .slice (some ⟨b, off, none⟩) ne ce := hd 1 (by kernel_rfl) (by kernel_rfl)
                  have e2 : x 2 = .int .i64 (j : Nat) := hd 2 (by kernel_rfl) (by kernel_rfl)
                  have i1 := K1.out
                  have i2 := K2.out
                  have i3 := K3.out
                  clear ho hd hx hbf hB hnc hi
                  simp only [upd, reduceIte, Nat.reduceEqDiff, e1, e2] at hK
                  dsimp only
                  go_simp
                  exact hK _ rfl
                · obtain rfl := Option.some.inj ho
                  have e3 : x 3 = .pointer (some ⟨b, off + j * 11, none⟩) := hd 3 (by kernel_rfl) (by kernel_rfl)
                  clear ho hd hx hbf hB hnc hi
                  simp only [upd, reduceIte, Nat.reduceEqDiff, e3] at hK
                  dsimp only
                  go_simp
                  exact hK _ rfl
                · obtain rfl := Option.some.inj ho
                  have e4 : x 4 = .pointer (some ⟨b, off + j * 11 + 2, none⟩) := hd 4 (by kernel_rfl) (by kernel_rfl)
                  have hk2 : k < 2 := by
                    rcases Nat.lt_or_ge k 2 with h | h
                    · exact h
                    · exact absurd (show false = true from (hx 1 (by omega)).symm.trans (by kernel_rfl)) (by simp)
                  have hcc : W.cell? ⟨b, off + j * 11 + 2, none⟩ = some (.int .u8 (cc : Nat)) ∧ W.cell? ⟨RB, 1, none⟩ = some (.int .i64 (p : Nat)) := by
                    rcases (show k = 0 ∨ k = 1 by omega) with rfl | rfl
                    · rw [hB.1 rfl]; exact ⟨(HCW.out _ HGD.out).2.1, (HCW.out _ HGD.out).2.2.2⟩
                    · rw [(hB.2.1 rfl).1]; exact ⟨(HCW.out _ HG9.out).2.1, (HCW.out _ HG9.out).2.2.2⟩
                  obtain ⟨q2, qr⟩ := hcc
                  clear ho hd hx hbf hB hnc hi
                  simp only [upd, reduceIte, Nat.reduceEqDiff, e4] at hK
                  dsimp only
                  go_simp
                  exact hK _ rfl
                · obtain rfl := Option.some.inj ho
                  have e5 : x 5 = .int .u8 (cc : Nat) := hd 5 (by kernel_rfl) (by kernel_rfl)
                  obtain ⟨x3, x4⟩ := X4.out
                  have xw : IntKind.i64.wrap (cc : Int) = (cc : Int) := IntWalk.i64_in _ (by omega)
                  clear ho hd hx hbf hB hnc hi
                  simp only [upd, reduceIte, Nat.reduceEqDiff, e5] at hK
                  dsimp only
                  go_simp
                  exact hK _ rfl
                · obtain rfl := Option.some.inj ho
                  clear ho hd hx hbf hB hnc hi
                  simp only [upd, reduceIte, Nat.reduceEqDiff] at hK
                  dsimp only
                  go_simp
                  exact hK _ rfl
                · obtain rfl := Option.some.inj ho
                  clear ho hd hx hbf hB hnc hi
                  simp only [upd, reduceIte, Nat.reduceEqDiff] at hK
                  dsimp only
                  go_simp
                  exact hK _ rfl
                · obtain rfl := Option.some.inj ho
                  have e8 : x 8 = .pointer (some ⟨RB, 1, none⟩) := hd 8 (by kernel_rfl) (by kernel_rfl)
                  have hk2 : k < 2 := by
                    rcases Nat.lt_or_ge k 2 with h | h
                    · exact h
                    · exact absurd (show false = true from (hx 1 (by omega)).symm.trans (by kernel_rfl)) (by simp)
                  have hcc : W.cell? ⟨b, off + j * 11 + 2, none⟩ = some (.int .u8 (cc : Nat)) ∧ W.cell? ⟨RB, 1, none⟩ = some (.int .i64 (p : Nat)) := by
                    rcases (show k = 0 ∨ k = 1 by omega) with rfl | rfl
                    · rw [hB.1 rfl]; exact ⟨(HCW.out _ HGD.out).2.1, (HCW.out _ HGD.out).2.2.2⟩
                    · rw [(hB.2.1 rfl).1]; exact ⟨(HCW.out _ HG9.out).2.1, (HCW.out _ HG9.out).2.2.2⟩
                  obtain ⟨q2, qr⟩ := hcc
                  clear ho hd hx hbf hB hnc hi
                  simp only [upd, reduceIte, Nat.reduceEqDiff, e8] at hK
                  dsimp only
                  go_simp
                  exact hK _ rfl
                · obtain rfl := Option.some.inj ho
                  have e7 : x 7 = .int .i64 (t : Nat) := hd 7 (by kernel_rfl) (by kernel_rfl)
                  have e9 : x 9 = .int .i64 (p : Nat) := hd 9 (by kernel_rfl) (by kernel_rfl)
                  obtain ⟨x5, x5b⟩ := XP.out
                  have x6 := XD.out
                  have xz : ¬ p = 0 := by omega
                  have xz2 : (p == 0) = false := by simp; omega
                  have xq : (t : Int).tdiv (p : Int) = (per : Int) := by rw [Int.tdiv_eq_ediv_of_nonneg (by omega)]; exact x6
                  have xw : IntKind.i64.wrap (per : Int) = (per : Int) := IntWalk.i64_in _ (by have := XPL.out; omega)
                  clear ho hd hx hbf hB hnc hi
                  simp only [upd, reduceIte, Nat.reduceEqDiff, e7, e9] at hK
                  dsimp only
                  go_simp
                  exact hK _ (by first | rfl | (rw [x6]) | (rw [xq]) | (simp [x6, xq, xw]))
                · obtain rfl := Option.some.inj ho
                  have e6 : x 6 = .int .i64 (cc : Nat) := hd 6 (by kernel_rfl) (by kernel_rfl)
                  have e10 : x 10 = .int .i64 (per : Nat) := hd 10 (by kernel_rfl) (by kernel_rfl)
                  clear ho hd hx hbf hB hnc hi
                  simp only [upd, reduceIte, Nat.reduceEqDiff, e6, e10] at hK
                  dsimp only
                  go_simp
                  exact hK _ rfl
                · obtain rfl := Option.some.inj ho
                  have e0 : x 0 = .map (some mb) := hd 0 (by kernel_rfl) (by kernel_rfl)
                  have e11 : x 11 = .agg #[.int .i64 (cc : Nat), .int .i64 (per : Nat)] := hd 11 (by kernel_rfl) (by kernel_rfl)
                  have hk2 : k < 2 := by
                    rcases Nat.lt_or_ge k 2 with h | h
                    · exact h
                    · exact absurd (show false = true from (hx 1 (by omega)).symm.trans (by kernel_rfl)) (by simp)
                  have hcc : W.cell? ⟨b, off + j * 11 + 2, none⟩ = some (.int .u8 (cc : Nat)) ∧ W.cell? ⟨RB, 1, none⟩ = some (.int .i64 (p : Nat)) := by
                    rcases (show k = 0 ∨ k = 1 by omega) with rfl | rfl
                    · rw [hB.1 rfl]; exact ⟨(HCW.out _ HGD.out).2.1, (HCW.out _ HGD.out).2.2.2⟩
                    · rw [(hB.2.1 rfl).1]; exact ⟨(HCW.out _ HG9.out).2.1, (HCW.out _ HG9.out).2.2.2⟩
                  obtain ⟨q2, qr⟩ := hcc
                  have hlk : (Instr.lookup 74 (.map (some mb)) (.agg #[.int .i64 (cc : Nat), .int .i64 (per : Nat)]) false).run Tryd.prog W = .ok (.int .i64 (cnt : Nat)) W := by
                    rcases (show k = 0 ∨ k = 1 by omega) with rfl | rfl
                    · rw [hB.1 rfl]; exact HL8.out
                    · rw [(hB.2.1 rfl).1]; exact HL9.out
                  clear ho hd hx hbf hB hnc hi
                  simp only [upd, reduceIte, Nat.reduceEqDiff, e0, e11] at hK
                  dsimp only
                  go_simp
                  exact hK _ rfl
                · obtain rfl := Option.some.inj ho
                  have e12 : x 12 = .int .i64 (cnt : Nat) := hd 12 (by kernel_rfl) (by kernel_rfl)
                  have x7 := XW.out
                  clear ho hd hx hbf hB hnc hi
                  simp only [upd, reduceIte, Nat.reduceEqDiff, e12] at hK
                  dsimp only
                  go_simp
                  exact hK _ rfl
                · exact absurd (show true = false from hnc) (by simp)
                · obtain rfl := Option.some.inj ho
                  have hk1 : 1 ≤ k := by
                    rcases Nat.eq_zero_or_pos k with h | h
                    · exact absurd (hbf 0 (by omega) (by kernel_rfl)) (by omega)
                    · exact h
                  have e14 : x 14 = .tuple #[.int .i64 (cnt : Nat), .int .i64 (st : Nat)] := by
                    rcases (show k = 1 ∨ k = 2 by omega) with rfl | rfl
                    · exact (hB.2.1 rfl).2
                    · exact (hB.2.2 rfl).2
                  clear ho hd hx hbf hB hnc hi
                  simp only [upd, reduceIte, Nat.reduceEqDiff] at hK
                  dsimp only
                  simp only [e14] at hK
                  go_simp
                  exact hK _ rfl
                · exact absurd (show true = false from hnc) (by simp)
              case hchain =>
                intro k o hk ho x W hB hd K hK
                rcases (show k = 0 ∨ k = 1 by omega) with rfl | rfl
                · obtain rfl := Option.some.inj ho
                  have e0 : x 0 = .map (some mb) := hd 0 (by kernel_rfl) (by kernel_rfl)
                  have e11 : x 11 = .agg #[.int .i64 (cc : Nat), .int .i64 (per : Nat)] := hd 11 (by kernel_rfl) (by kernel_rfl)
                  clear ho hd hk
                  obtain rfl := hB.1 rfl
                  have hE := HE1.out
                  simp only [upd, reduceIte, Nat.reduceEqDiff, e0, e11] at hK
                  dsimp only
                  go_simp
                  refine hK _ _ ?_
                  try dsimp only
                  exact ⟨fun h => (by first | exact h.elim | omega | cases h), fun _ => ⟨rfl, rfl⟩, fun h => (by first | exact h.elim | omega | cases h)⟩
                · obtain rfl := Option.some.inj ho
                  have e0 : x 0 = .map (some mb) := hd 0 (by kernel_rfl) (by kernel_rfl)
                  have e15 : x 15 = .int .i64 (st : Nat) := hd 15 (by kernel_rfl) (by kernel_rfl)
                  have e13 : x 13 = .int .i64 ((cnt : Int) + 1) := hd 13 (by kernel_rfl) (by kernel_rfl)
                  clear ho hd hk
                  obtain ⟨rfl, e14⟩ := hB.2.1 rfl
                  have hE := HE2.out
                  simp only [upd, reduceIte, Nat.reduceEqDiff, e0, e15, e13, e14] at hK
                  dsimp only
                  go_simp
                  refine hK undef _ ?_
                  try dsimp only
                  exact ⟨fun h => (by first | exact h.elim | omega | cases h), fun h => (by first | exact h.elim | omega | cases h), fun _ => ⟨rfl, (by first | trivial | exact e14)⟩⟩
              case hend =>
                intro x W hB hd
                obtain rfl := (hB.2.2 rfl).1
                clear hB hd
                dsimp only
                generalize x 0 = y0
                generalize x 1 = y1
                generalize x 2 = y2
                generalize x 3 = y3
                generalize x 4 = y4
                generalize x 5 = y5
                generalize x 6 = y6
                generalize x 7 = y7
                generalize x 8 = y8
                generalize x 9 = y9
                generalize x 10 = y10
                generalize x 11 = y11
                generalize x 12 = y12
                generalize x 13 = y13
                generalize x 14 = y14
                generalize x 15 = y15
                clear x
                rw [← HX0.out]
                go_wp2
                go_roundg (gk - 1)
                case measure => have := HQ.out; omega
                case rel => exact ⟨q + 1, _, _, by have := HQ.out; omega, by have := HT1.out; go_num, HM10.out, by rw [timesT_add, List.map_append, ← List.append_assoc, show timesT (tm - m + q) p 1 = [(per : Int)] from by rw [HT1.out, ← HPER.out]; rfl]; rw [HCNT.out] at HCS; exact HCS.out, HG10.out⟩
            · have t1 : decide (((tm - m + q : Nat) : Int) < (tm : Int)) = false := by simp; omega
              have t2 : decide (tm - m + q < tm) = false := by simp; omega
              obtain rfl : m = q := by have := HQ.out; omega
              go_wp2
              go_roundg (ne - (j + 1))
              case measure => have := HJ.out; omega
              case rel => exact ⟨j + 1, cq, Fq, by have := HJ.out; omega, by go_num, HMQ.out, by rw [HPE.out]; exact HCQ.out, HGQ.out⟩
      · obtain rfl : ne = j := by have := HJ.out; omega
        go_wp2
        go_meet
        exact ⟨c, F, HMJ.out, HC.out, HGR.out⟩
  case rest =>
    obtain ⟨c, F, hm, hc, hg⟩ := hcut
    rw [← HE.out.2.1] at hc
    obtain ⟨so, rfl⟩ := HSO.out c F hc
    have hmb : mb < w5.heap.size := HM.out.mpv.lt
    refine (‹∀ (a : Act) (w : World), Code.wp _ _ _ a w → _› : ∀ (a : Act) (w : World), _ → _) _ _ (sums_tail _ RB p nu mb cu Au us F Post (Lib.hid ⟨(HUS.out.1.below HB6.out).grm HM6.out hg, HUS.out.2⟩) (Lib.hid so) (Lib.hid (hg.cell (below_cell HB6.out HRB.out) HNB.out)) (Lib.hid hm)
      (Lib.hid fun w' hb => FIN.out w' ((((HB6.out.mono (Nat.le_of_lt hmb)).grown hg (by have := HB6.out.size; omega) (fun k hk => by cases hk; exact Nat.le_refl _)).trans (hb.mono (by have := HB6.out.size; have := hg.size; omega))))))
end Go.Proofs.YtaplangfppohdaaDoor
