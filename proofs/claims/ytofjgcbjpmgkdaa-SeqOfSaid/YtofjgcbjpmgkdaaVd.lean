/- The walk of the law SeqOf: the map of how often each number is there. -/
import Derived.Test.YtofjgcbjpmgkdaaVc
set_option linter.unusedVariables false
set_option linter.unusedSimpArgs false
set_option linter.unusedSectionVars false
namespace Go.Proofs.Ytofjgcbjpmgkdaa
open Go Go.RowKit Go.Shelf

theorem OM.kept {w w' : World} {B n : Nat} {D : DataW Unit} {row : Option Nat} (h : OM w B n D) (hg : w.grownBy w' row) (hne : some B ≠ row) : OM w' B n D := World.ownsMap.kept h hg hne
theorem grown_below {w w' : World} (b : Below w.heap.size w w') : w.grownBy w' none := ⟨b.os, b.tape, b.output, b.size, fun i hi _ => b.block i hi⟩
set_option maxRecDepth 100000 in
set_option maxHeartbeats 1600000 in
theorem of_tail23 (w wc : World) (a t nv : Value) (ns : List Int) {u0 u1 u2 u3 u4 u5 u6 u8 u9 u10 u11 u12 u15 u16 u17 u18 u19 u20 u21 u22 u23 u24 u25 u26 u27 u28 u29 u30 u31 u32 u33 u34 u35 u36 u37 u38 u39 u40 u41 u42 u43 u44 u45 u46 u47 u48 u49 u50 u51 u52 u53 u54 u55 u56 u57 u58 u59 u60 u61 u62 u63 u64 u65 u66 u67 u68 u69 u70 u71 u72 u73 u74 u75 u76 u77 u78 u79 u80 u81 u82 u83 u84 u85 u86 u87 u88 u89 u90 u91 u92 u93 u94 u95 u96 u97 u98 u99 u100 u101 u102 u103 u104 u105 u106 u107 u108 u109 u110 u111 u112 u113 u114 u115 u116 u117 u118 u119 u120 u121 u122 u123 u124 u125 u126 u127 u128 u129 u130 u131 u132 u133 u134 u135 u136 u137 u138 u139 u140 u141 u142 u143 u144 u145 u146 u147 u148 u149 u150 u151 u152 u153 u154 u155 u156 u157 u158 u159 u160 u161 u162 u163 u164 u165 u166 u167 u168 u169 u170 u171 u172 u173 u174 u175 : Value}
    (ha : OV encP 2 35 w.heap.size wc a (ofL ns)) (hT : OV encI 1 3 w.heap.size wc t (ofT ns)) (hN : OV encI 1 3 w.heap.size wc nv ns) (hr : rightB (ofL ns) = true) (hh : ∀ n, n ∈ ns → hasR (ofL ns) n = true) (he : ofE ns = 0) (hn : ns.length ≤ 60) (hk : ns.all okN = true) (hb : Below w.heap.size w wc) :
    Code.wp Try.prog (tailR Try.f6 23) (bodyPost Try.prog Try.f6 fun e w' => e = .returned (.bool true) ∧ Below w.heap.size w w')
      ⟨#[u0, u1, u2, u3, u4, u5, u6, nv, u8, u9, u10, u11, u12, a, t, u15, u16, u17, u18, u19, u20, u21, u22, u23, u24, u25, u26, u27, u28, u29, u30, u31, u32, u33, u34, u35, u36, u37, u38, u39, u40, u41, u42, u43, u44, u45, u46, u47, u48, u49, u50, u51, u52, u53, u54, u55, u56, u57, u58, u59, u60, u61, u62, u63, u64, u65, u66, u67, u68, u69, u70, u71, u72, u73, u74, u75, u76, u77, u78, u79, u80, u81, u82, u83, u84, u85, u86, u87, u88, u89, u90, u91, u92, u93, u94, u95, u96, u97, u98, u99, u100, u101, u102, u103, u104, u105, u106, u107, u108, u109, u110, u111, u112, u113, u114, u115, u116, u117, u118, u119, u120, u121, u122, u123, u124, u125, u126, u127, u128, u129, u130, u131, u132, u133, u134, u135, u136, u137, u138, u139, u140, u141, u142, u143, u144, u145, u146, u147, u148, u149, u150, u151, u152, u153, u154, u155, u156, u157, u158, u159, u160, u161, u162, u163, u164, u165, u166, u167, u168, u169, u170, u171, u172, u173, u174, u175], []⟩ wc := by
  have hmm := @run_makeMap Try.prog
  conv => arg 2; whnf
  conv => arg 4; dsimp only
  have sc := hb.size
  have HB := Lib.hid (hb.alloc sc (.map #[] 0))
  have hta : ∀ g, a.ownBlock = some g → g < wc.heap.size := fun g hg => (ha.block g hg).2
  have htt : ∀ g, t.ownBlock = some g → g < wc.heap.size := fun g hg => (hT.block g hg).2
  have htn : ∀ g, nv.ownBlock = some g → g < wc.heap.size := fun g hg => (hN.block g hg).2
  have HA := Lib.hid (ha.alloc (.map #[] 0))
  have HT := Lib.hid (hT.alloc (.map #[] 0))
  have HV := Lib.hid (hN.alloc (.map #[] 0))
  have HO := Lib.hid (show OM (wc.alloc (.map #[] 0)) wc.heap.size 0 (.map []) from World.ownsMap_made _ _ _ _)
  have hsz := World.size_alloc wc (.map #[] 0)
  have HH := Lib.hid hh
  have HR := Lib.hid hr
  have HK := Lib.hid (fun n (h : n ∈ ns) => okN_iff.1 (List.all_eq_true.1 hk n h))
  have HKA := Lib.hid hk
  have HE := Lib.hid he
  obtain ⟨A, c, hsh⟩ := (HV.out.ev encI_len).shape
  subst hsh
  obtain ⟨B, hB⟩ : ∃ B, wc.heap.size = B := ⟨_, rfl⟩
  rw [hB] at HO hta htt htn hsz sc
  go_upto_block 4 with fail
  generalize wc.alloc (.map #[] 0) = w1 at HB HA HT HV HO hsz ⊢
  clear ha hT hN hh hr hk he hb hB hmm
  obtain ⟨L, hL⟩ : ∃ L, ns.length = L := ⟨_, rfl⟩
  have HL := Lib.hid hL
  rw [hL] at hn HV ⊢
  clear hL
  go_cut [] (fun wx => ∃ D, Cnt D ns ∧ OM wx B L D ∧ OV encP 2 35 w.heap.size wx a (ofL ns) ∧ OV encI 1 3 w.heap.size wx t (ofT ns) ∧ Below w.heap.size w wx)
  case first =>
    go_wp2_with fail
    go_loopg [109] L (fun k i wr => ∃ (j : Nat) (D : DataW Unit), j + k = L ∧ i = .int .i64 j ∧ Cnt D (ns.take j) ∧ OM wr B j D ∧ OV encP 2 35 w.heap.size wr a (ofL ns) ∧ OV encI 1 3 w.heap.size wr t (ofT ns) ∧ OV encI 1 3 w.heap.size wr (.slice A L c) ns ∧ Below w.heap.size w wr)
    case atStart => exact ⟨0, _, by omega, rfl, by simpa using Cnt.nil, HO.out, HA.out, HT.out, HV.out, HB.out⟩
    case round =>
      obtain ⟨j, D, hj, rfl, hC, hO, ha, ht, hv, hb⟩ := hrel
      have HJ := Lib.hid hj
      have HC := Lib.hid hC
      have HO2 := Lib.hid hO
      have HA2 := Lib.hid ha
      have HT2 := Lib.hid ht
      have HV2 := Lib.hid hv
      have HB2 := Lib.hid hb
      have sr := hb.size
      clear hj hC hO ha ht hv hb HO HA HT HV HB
      by_cases hlt : j < L
      · have hd : decide ((j : Int) < (L : Int)) = true := by rw [decide_eq_true_eq]; omega
        obtain ⟨x, hx⟩ : ∃ x, ns[j]? = some x := ⟨_, List.getElem?_eq_getElem (by rw [HL.out]; omega)⟩
        have hxm := List.mem_of_getElem? hx
        have hkx := HK.out x hxm
        obtain ⟨b, off, c', hvv, _, hr⟩ := (HV2.out.ev encI_len).row (by rw [HL.out]; omega)
        simp only [Value.slice.injEq] at hvv
        obtain ⟨rfl, hz, rfl⟩ := hvv
        clear hz
        have cj := hr.int (i := j) (by rw [HL.out]; omega)
        rw [hx, Option.getD_some] at cj
        have hwf := Lib.hid (wf_i64_mk (z := x) (by omega))
        have hkt : ns.take (j + 1) = ns.take j ++ [x] := by rw [List.take_add_one, hx, Option.toList_some]
        have hKT := Lib.hid hkt
        have hXM := Lib.hid hxm
        have hcl : (ns.take j).count x ≤ 60 := Nat.le_trans List.count_le_length (by simp; omega)
        clear hr hx hkx hxm hkt
        go_wp2_with (at_lookup; refine wpList_lookup_own_int _ rfl _ _ 45 rfl 3 3 .i64 lawI Try.underlying45 Try.underlying3 (zeroI _) B j D rfl HO2.out _ _ rfl (Maps.keyOf_int_mk Try.underlying3 hwf.out) ?_)
        intro q hat _
        rw [HC.out.at_ x] at hat
        have hq : ((ns.take j).count x : Int) = q := by injection hat with h; injection h
        have hCP := HC.out.put x
        rw [hq, ← hKT.out] at hCP
        have HCP := Lib.hid hCP
        have hw1 : IntKind.i64.wrap (q + 1) = q + 1 := IntWalk.i64_in _ (by omega)
        have hq1 : 0 ≤ q ∧ q ≤ 60 := by omega
        clear hat hCP hq hcl HC
        go_wp2_with (at_mapUpdate; refine wpList_mapUpdate_own _ rfl _ _ _ 45 rfl 3 3 lawI Try.underlying45 _ B j D rfl HO2.out (by unfold maxLen; omega) _ _ _ rfl rfl (Maps.keyOf_int_mk Try.underlying3 hwf.out) _ [] (plainElem_int Try.underlying3 (wf_i64_mk (z := q + 1) (by omega))) ?_)
        intro w2 ho2 g2
        have a3 := Lib.hid (HA2.out.keep g2 (.inr (by intro h; have := hta _ h; omega)))
        have t3 := Lib.hid (HT2.out.keep g2 (.inr (by intro h; have := htt _ h; omega)))
        have v3 := Lib.hid (HV2.out.keep g2 (.inr (by intro h; have := htn _ h; omega)))
        have b3 := Lib.hid (HB2.out.grown g2 sr (fun k hk => by simp at hk; omega))
        have o3 := Lib.hid (show OM w2 B (j + 1) _ from ho2)
        clear ho2 g2 HA2 HT2 HV2 HB2 HO2
        have RK := lhas_r w2 a (ofL ns) x (a3.out.ev encP_len) HR.out
        rw [HH.out x hXM.out] at RK
        have RK := Lib.hid RK
        go_wp2_with fail
        refine RK.out.mono ?_
        rintro e w3 ⟨rfl, bb⟩
        have a4 := Lib.hid (a3.out.below bb)
        have t4 := Lib.hid (t3.out.below bb)
        have v4 := Lib.hid (v3.out.below bb)
        have b4 := Lib.hid (b3.out.trans (bb.mono b3.out.size))
        have o4 := Lib.hid (o3.out.kept (grown_below bb) (by simp))
        clear bb a3 t3 v3 b3 o3 RK
        go_wp2_with fail
        go_roundg (gk - 1)
        case measure => have := HJ.out; omega
        case rel => exact ⟨j + 1, _, by have := HJ.out; omega, by go_num, HCP.out, o4.out, a4.out, t4.out, v4.out, b4.out⟩
      · have hd : decide ((j : Int) < (L : Int)) = false := by rw [decide_eq_false_iff_not]; omega
        have hjl : j = L := by have := HJ.out; omega
        have X := Lib.hid (show ∃ D, Cnt D ns ∧ OM wr B L D from ⟨D, by have := HC.out; rwa [List.take_of_length_le (by rw [HL.out]; omega)] at this, hjl ▸ HO2.out⟩)
        clear HC HO2 hjl
        go_wp2_with fail
        go_meet
        obtain ⟨D', x1, x2⟩ := X.out
        exact ⟨D', x1, x2, HA2.out, HT2.out, HB2.out⟩
  case rest =>
    obtain ⟨D, h1, h2, h3, h4, h5⟩ := hcut
    refine (‹∀ (a : Act) (w : World), Code.wp _ _ _ a w → _› : ∀ (a : Act) (w : World), _ → _) _ _ (of_tail31 w wc B L a t D ns h1 h2 (h3.ev encP_len) h4 HR.out HE.out (by rw [HL.out]; omega) HKA.out h5 sc (fun g hg => by have := htt g hg; omega))
end Go.Proofs.Ytofjgcbjpmgkdaa
