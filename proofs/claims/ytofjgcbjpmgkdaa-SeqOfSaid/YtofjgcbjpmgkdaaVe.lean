/- The walk of the law SeqOf: the two sets. -/
import Derived.Test.YtofjgcbjpmgkdaaVd
import Derived.Test.YtofjgcbjpmgkdaaTc
set_option linter.unusedVariables false
set_option linter.unusedSimpArgs false
set_option linter.unusedSectionVars false
namespace Go.Proofs.Ytofjgcbjpmgkdaa
open Go Go.RowKit Go.Shelf

theorem of_facts {ns : List Int} (hk : ns.all okN = true) (hn : ns.length ≤ 60) : ofE ns = 0 ∧ rightB (ofL ns) = true ∧ (ofL ns).length ≤ 60 ∧ (ofT ns).length ≤ 60 ∧ ∀ n, n ∈ ns → hasR (ofL ns) n = true := by
  have hE : ofE ns = 0 := by unfold ofE; rw [if_neg (by omega), if_pos hk]
  have ho := ofS_ok (srtI ns) (srt_pw ns) (fun n hn => List.all_eq_true.1 hk n ((srt_mem ns n).1 hn))
  have hL : ofL ns = (ofS (srtI ns)).set := by unfold ofL; rw [if_pos hE]
  have hT : ofT ns = (ofS (srtI ns)).tw := by unfold ofT; rw [if_pos hE]
  have h1 := ho.slen
  have h2 := ho.tlen
  rw [srtI_len] at h1 h2
  rw [hL, hT]
  refine ⟨hE, right_iff.2 ⟨by omega, ho.can⟩, by omega, by omega, fun n h => ?_⟩
  rw [ho.has n, decide_eq_true_eq, srt_mem]; exact h
set_option maxRecDepth 100000 in
set_option maxHeartbeats 1600000 in
theorem of_tail19 (w wc : World) (nv tv : Value) (ns ts : List Int) {u0 u1 u2 u3 u4 u5 u6 u8 u9 u10 u12 u13 u14 u15 u16 u17 u18 u19 u20 u21 u22 u23 u24 u25 u26 u27 u28 u29 u30 u31 u32 u33 u34 u35 u36 u37 u38 u39 u40 u41 u42 u43 u44 u45 u46 u47 u48 u49 u50 u51 u52 u53 u54 u55 u56 u57 u58 u59 u60 u61 u62 u63 u64 u65 u66 u67 u68 u69 u70 u71 u72 u73 u74 u75 u76 u77 u78 u79 u80 u81 u82 u83 u84 u85 u86 u87 u88 u89 u90 u91 u92 u93 u94 u95 u96 u97 u98 u99 u100 u101 u102 u103 u104 u105 u106 u107 u108 u109 u110 u111 u112 u113 u114 u115 u116 u117 u118 u119 u120 u121 u122 u123 u124 u125 u126 u127 u128 u129 u130 u131 u132 u133 u134 u135 u136 u137 u138 u139 u140 u141 u142 u143 u144 u145 u146 u147 u148 u149 u150 u151 u152 u153 u154 u155 u156 u157 u158 u159 u160 u161 u162 u163 u164 u165 u166 u167 u168 u169 u170 u171 u172 u173 u174 u175 : Value}
    (hN : OV encI 1 3 w.heap.size wc nv ns) (hU : OV encI 1 3 w.heap.size wc tv ts) (hp : ts.Perm ns) (hn : ns.length ≤ 60) (hk : ns.all okN = true) (hb : Below w.heap.size w wc) :
    Code.wp Try.prog (tailR Try.f6 19) (bodyPost Try.prog Try.f6 fun e w' => e = .returned (.bool true) ∧ Below w.heap.size w w')
      ⟨#[u0, u1, u2, u3, u4, u5, u6, nv, u8, u9, u10, tv, u12, u13, u14, u15, u16, u17, u18, u19, u20, u21, u22, u23, u24, u25, u26, u27, u28, u29, u30, u31, u32, u33, u34, u35, u36, u37, u38, u39, u40, u41, u42, u43, u44, u45, u46, u47, u48, u49, u50, u51, u52, u53, u54, u55, u56, u57, u58, u59, u60, u61, u62, u63, u64, u65, u66, u67, u68, u69, u70, u71, u72, u73, u74, u75, u76, u77, u78, u79, u80, u81, u82, u83, u84, u85, u86, u87, u88, u89, u90, u91, u92, u93, u94, u95, u96, u97, u98, u99, u100, u101, u102, u103, u104, u105, u106, u107, u108, u109, u110, u111, u112, u113, u114, u115, u116, u117, u118, u119, u120, u121, u122, u123, u124, u125, u126, u127, u128, u129, u130, u131, u132, u133, u134, u135, u136, u137, u138, u139, u140, u141, u142, u143, u144, u145, u146, u147, u148, u149, u150, u151, u152, u153, u154, u155, u156, u157, u158, u159, u160, u161, u162, u163, u164, u165, u166, u167, u168, u169, u170, u171, u172, u173, u174, u175], []⟩ wc := by
  conv => arg 2; whnf
  conv => arg 4; dsimp only
  obtain ⟨f1, f2, f3, f4, f5⟩ := of_facts hk hn
  obtain ⟨p1, p2, p3⟩ := of_perm hp
  have hl := hp.length_eq
  have C1 := of_ok wc nv ns (hN.ev encI_len) (by omega)
  have C2 := fun w1 (h : EV encI 1 w1 tv ts) => of_ok w1 tv ts h (by omega)
  rw [f1] at C1
  rw [p1, p2, p3, f1] at C2
  have C1 := Lib.hid C1
  have C2 := Lib.hid C2
  have HK := Lib.hid hk
  have F1 := Lib.hid f1
  have F2 := Lib.hid f2
  have F5 := Lib.hid f5
  have sc := hb.size
  have F : Facts wc [sOV encI 1 3 w.heap.size nv ns, sOV encI 1 3 w.heap.size tv ts, sB w] := ⟨hN, hU, hb, trivial⟩
  clear hN hU hp hk hb f1 f2 f5 p1 p2 p3 hl
  obtain ⟨A, hA⟩ : ∃ A, ofL ns = A := ⟨_, rfl⟩
  obtain ⟨T, hT⟩ : ∃ T, ofT ns = T := ⟨_, rfl⟩
  have HA := Lib.hid hA
  have HT := Lib.hid hT
  rw [hA] at C1 C2 F2 F5 f3
  rw [hT] at C1 C2 f4
  clear hA hT
  go_wp2_with fail
  refine C1.out.mono ?_
  rintro e w1 ⟨a, t, rfl, o1, o2, bb⟩
  replace F : Facts w1 (sOV encP 2 35 w.heap.size a A :: sOV encI 1 3 w.heap.size t T :: _) := ⟨o1.base_le sc, o2.base_le sc, F.below bb⟩
  have s1 := bb.size
  clear bb o1 o2 C1
  go_wp2_with fail
  refine (C2.out w1 ((F.get 3 : OV encI 1 3 w.heap.size w1 tv ts).ev encI_len)).mono ?_
  rintro e w2 ⟨a2, t2, rfl, o1, o2, bb⟩
  replace F : Facts w2 (sOV encP 2 35 w1.heap.size a2 A :: sOV encI 1 3 w1.heap.size t2 T :: _) := ⟨o1, o2, F.below bb⟩
  clear bb o1 o2 C2
  go_wp2_with fail
  refine (right_t w2 a A (OV.ev (F.get 2) encP_len) F2.out).mono ?_
  rintro e w3 ⟨rfl, bb⟩
  replace F := F.below bb
  clear bb
  go_wp2_with fail
  refine (equal_run_same w3 a a2 A (OV.ev (F.get 2) encP_len) (OV.ev (F.get 0) encP_len) (by omega)).mono ?_
  rintro e w4 ⟨rfl, bb⟩
  replace F := F.below bb
  clear bb
  go_wp2_with fail
  refine (equal_same w4 t t2 T (OV.ev (F.get 3) encI_len) (OV.ev (F.get 1) encI_len) (by omega)).mono ?_
  rintro e w5 ⟨rfl, bb⟩
  replace F := F.below bb
  clear bb
  go_upto_if 105 with fail
  go_cut [] (fun wx => wx = w5)
  case first =>
    go_wp2_with fail
    go_meet
    rfl
  case rest =>
    subst hcut
    refine (‹∀ (a : Act) (w : World), Code.wp _ _ _ a w → _› : ∀ (a : Act) (w : World), _ → _) _ _ (of_tail23 w _ a t nv ns ?_ ?_ (F.get 4) (by rw [HA.out]; exact F2.out) (by rw [HA.out]; exact F5.out) F1.out hn HK.out (F.get 6))
    · rw [HA.out]; exact F.get 2
    · rw [HT.out]; exact F.get 3
end Go.Proofs.Ytofjgcbjpmgkdaa
