/- The walk of the law SeqOf: the count, and the walk through the map. -/
import Derived.Test.YtofjgcbjpmgkdaaVb
import Derived.Test.YtofjgcbjpmgkdaaTe
import Derived.Deep.CutBlock
set_option linter.unusedVariables false
set_option linter.unusedSimpArgs false
set_option linter.unusedSectionVars false
namespace Go.Proofs.Ytofjgcbjpmgkdaa
open Go Go.RowKit Go.Shelf

set_option maxRecDepth 100000 in
set_option maxHeartbeats 1600000 in
theorem of_tail31 (w wc : World) (B N : Nat) (a t : Value) (D : DataW Unit) (ns : List Int) {u0 u1 u2 u3 u4 u5 u6 u7 u8 u9 u10 u11 u12 u15 u16 u17 u18 u20 u21 u22 u23 u24 u25 u26 u27 u28 u29 u30 u31 u32 u33 u34 u35 u36 u37 u38 u39 u40 u41 u42 u43 u44 u45 u46 u47 u48 u49 u50 u51 u52 u53 u54 u55 u56 u57 u58 u59 u60 u61 u62 u63 u64 u65 u66 u67 u68 u69 u70 u71 u72 u73 u74 u75 u76 u77 u78 u79 u80 u81 u82 u83 u84 u85 u86 u87 u88 u89 u90 u91 u92 u93 u94 u95 u96 u97 u98 u99 u100 u101 u102 u103 u104 u105 u106 u107 u108 u109 u110 u111 u112 u113 u114 u115 u116 u117 u118 u119 u120 u121 u122 u123 u124 u125 u126 u127 u128 u129 u130 u131 u132 u133 u134 u135 u136 u137 u138 u139 u140 u141 u142 u143 u144 u145 u146 u147 u148 u149 u150 u151 u152 u153 u154 u155 u156 u157 u158 u159 u160 u161 u162 u163 u164 u165 u166 u167 u168 u169 u170 u171 u172 u173 u174 u175 : Value}
    (hD : Cnt D ns) (hO : OM wc B N D) (ha : EV encP 2 wc a (ofL ns)) (hT : OV encI 1 3 w.heap.size wc t (ofT ns)) (hr : rightB (ofL ns) = true) (he : ofE ns = 0) (hn : ns.length ≤ 60) (hk : ns.all okN = true) (hb : Below w.heap.size w wc) (hB : w.heap.size ≤ B) (htB : ∀ g, t.ownBlock = some g → g ≠ B) :
    Code.wp Try.prog (tailR Try.f6 31) (bodyPost Try.prog Try.f6 fun e w' => e = .returned (.bool true) ∧ Below w.heap.size w w')
      ⟨#[u0, u1, u2, u3, u4, u5, u6, u7, u8, u9, u10, u11, u12, a, t, u15, u16, u17, u18, .map (some B), u20, u21, u22, u23, u24, u25, u26, u27, u28, u29, u30, u31, u32, u33, u34, u35, u36, u37, u38, u39, u40, u41, u42, u43, u44, u45, u46, u47, u48, u49, u50, u51, u52, u53, u54, u55, u56, u57, u58, u59, u60, u61, u62, u63, u64, u65, u66, u67, u68, u69, u70, u71, u72, u73, u74, u75, u76, u77, u78, u79, u80, u81, u82, u83, u84, u85, u86, u87, u88, u89, u90, u91, u92, u93, u94, u95, u96, u97, u98, u99, u100, u101, u102, u103, u104, u105, u106, u107, u108, u109, u110, u111, u112, u113, u114, u115, u116, u117, u118, u119, u120, u121, u122, u123, u124, u125, u126, u127, u128, u129, u130, u131, u132, u133, u134, u135, u136, u137, u138, u139, u140, u141, u142, u143, u144, u145, u146, u147, u148, u149, u150, u151, u152, u153, u154, u155, u156, u157, u158, u159, u160, u161, u162, u163, u164, u165, u166, u167, u168, u169, u170, u171, u172, u173, u174, u175], []⟩ wc := by
  conv => arg 2; whnf
  conv => arg 4; dsimp only
  have ho := ofS_ok (srtI ns) (srt_pw ns) (fun n hn => List.all_eq_true.1 hk n ((srt_mem ns n).1 hn))
  have hTp : (ofT ns).Pairwise (· < ·) := by unfold ofT; rw [if_pos he]; exact ho.pw
  have hTm : ∀ n, n ∈ ofT ns ↔ 2 ≤ ns.count n := fun n => by unfold ofT; rw [if_pos he, ho.tm n, srt_count]
  have hTl : (ofT ns).length ≤ 100 := by
    have := (pw_nodup hTp).length_le_of_subset (l₂ := ns) (fun n h => List.count_pos_iff.1 (by have := (hTm n).1 h; omega))
    omega
  have HTP := Lib.hid hTp
  have HTM := Lib.hid hTm
  have HC := Lib.hid (count_r wc a (ofL ns) ha hr)
  rw [ofL_cnt he hk] at HC
  have sc := hb.size
  have HMD := Lib.hid (fun vs left (h : Met ns left vs) h0 => h.done h0 he hk)
  have HB := Lib.hid hb
  have HO := Lib.hid hO
  have HD := Lib.hid hD
  have HT := Lib.hid hT
  have HN := Lib.hid hn
  have HK := Lib.hid hk
  clear ho hTp hTm hb hO hD hT hn hk ha hr he
  obtain ⟨d, hd⟩ : ∃ d, (ded ns).length = d := ⟨_, rfl⟩
  obtain ⟨T, hT⟩ : ∃ T, ofT ns = T := ⟨_, rfl⟩
  rw [hd] at HC
  rw [hT] at HT HTP HTM HMD hTl
  have HDE := Lib.hid hd
  clear hd hT
  go_wp2_with fail
  refine HC.out.mono ?_
  rintro e w1 ⟨rfl, b1⟩
  have hb1 := Lib.hid (HB.out.trans (b1.mono sc))
  have s1 := hb1.out.size
  have ho1 := Lib.hid (show OM w1 B N D from by
    have h := HO.out
    unfold OM at h ⊢
    exact h.kept (row := none) ⟨b1.os, b1.tape, b1.output, b1.size, fun i hi _ => b1.block i hi⟩ (by simp))
  have ht1 := Lib.hid (HT.out.below b1)
  clear HC HB HO HT b1 sc
  go_wp2_with (at_range; refine wpList_range_own _ rfl _ 45 rfl 3 3 lawI Try.underlying45 (plainElem Try.prog 3) B N D rfl ho1.out ?_)
  intro w2 hrg g2 z2
  have hb2 := Lib.hid (hb1.out.grown g2 s1 (fun k hk => by simp at hk))
  have ht2 := Lib.hid (ht1.out.keep g2 (by cases h : t.ownBlock <;> simp))
  have htr : ∀ g, t.ownBlock = some g → g ≠ w1.heap.size := fun g hg => by have := (ht1.out.block g hg).2; omega
  have hN : Maps.size D ≤ 60 := by rw [HD.out.size]; exact Nat.le_trans (ded_le ns) HN.out
  have HS := Lib.hid (Met.start HD.out)
  have HRG := Lib.hid hrg
  obtain ⟨r, hr⟩ : ∃ r, w1.heap.size = r := ⟨_, rfl⟩
  rw [hr] at HRG htr s1 ⊢
  have s2 := g2.size
  rw [hr] at s2
  clear hrg g2 z2 hr hb1 ht1 ho1
  obtain ⟨M0, hM0⟩ : ∃ M0, Maps.size D = M0 := ⟨_, rfl⟩
  rw [hM0] at HRG
  clear hM0 hN
  go_upto_block 6 with fail
  go_cut [24] (fun m wx => m = .int .i64 (T.length : Nat) ∧ OM wx B N D ∧ OV encI 1 3 w.heap.size wx t T ∧ Below w.heap.size w wx)
  case first =>
    as_aux_lemma =>
    go_wp2_with fail
    go_loopg [24] M0 (fun k m wr => ∃ vs left, wr.ranges Try.prog 3 (plainElem Try.prog 3) B r N D left k ∧ Met ns left vs ∧ m = .int .i64 (moreN ns vs : Nat) ∧ OV encI 1 3 w.heap.size wr t T ∧ Below w.heap.size w wr)
    case atStart => exact ⟨[], _, HRG.out, HS.out, rfl, ht2.out, hb2.out⟩
    case round =>
      obtain ⟨vs, left, hrg, hm, rfl, hto, hbb⟩ := hrel
      have hM := moreN_le ns vs
      have hM2 := hm.len
      have hM3 : moreN ns vs ≤ 60 := by have := HN.out; omega
      have HM := Lib.hid hm
      have HTO := Lib.hid hto
      have HBB := Lib.hid hbb
      have sr := hbb.size
      have hwr : w.heap.size ≤ r := s1
      clear hM hM2 hm hto hbb HRG HS ht2 hb2
      obtain ⟨mo, hmo⟩ : ∃ mo, moreN ns vs = mo := ⟨_, rfl⟩
      have HMO := Lib.hid hmo
      rw [hmo] at hM3 ⊢
      clear hmo
      go_wp2_with (at_next; refine wpList_next_ranges_ii _ rfl _ rfl 3 3 .i64 .i64 lawI Try.underlying3 Try.underlying3 B r N _ _ _ rfl hrg ?_ ?_)
      · intro h0 hl0
        have HDN := Lib.hid (HMD.out vs left HM.out hl0)
        rw [HMO.out] at HDN
        have HOW := Lib.hid (show OM wr B N D from hrg.owns)
        clear hrg h0 hl0
        go_wp2_with fail
        go_meet
        exact ⟨by rw [HDN.out], HOW.out, HTO.out, HBB.out⟩
      · intro x c w3 cnt2 wx wc' hlx hat hrg3 hlt g3 s3 hen
        have hat := hat (.lit (.int .i64 0))
        rw [HD.out.at_ x] at hat
        have hq : (ns.count x : Int) = c := by injection hat with h; injection h
        have hm3 := Lib.hid (HM.out.step hlx)
        have ht3 := Lib.hid (HTO.out.keep g3 (.inr (by intro h; cases hob : t.ownBlock with | none => rw [hob] at h; cases h | some g => rw [hob] at h; exact htr g hob (by injection h))))
        have hb3 := Lib.hid (HBB.out.grown g3 sr (fun k hk => by simp at hk; omega))
        have HRG3 := Lib.hid hrg3
        have hmo2 := moreN_snoc ns vs x
        rw [HMO.out] at hmo2
        clear hrg hat hlx g3 s3 hrg3
        by_cases h2 : 2 ≤ ns.count x
        · have hd : decide ((1 : Int) < c) = true := by rw [decide_eq_true_eq]; omega
          have hw : IntKind.i64.wrap ((mo : Int) + 1) = (mo : Int) + 1 := IntWalk.i64_in _ (by omega)
          rw [if_pos h2] at hmo2
          have HM2 := Lib.hid hmo2
          clear h2 hq hmo2
          go_wp2_with fail
          go_roundg cnt2
          case measure => omega
          case rel => exact ⟨vs ++ [x], _, HRG3.out, hm3.out, by rw [HM2.out]; go_num, ht3.out, hb3.out⟩
        · have hd : decide ((1 : Int) < c) = false := by rw [decide_eq_false_iff_not]; omega
          rw [if_neg h2] at hmo2
          have HM2 := Lib.hid hmo2
          clear h2 hq hmo2
          go_wp2_with fail
          go_roundg cnt2
          case measure => omega
          case rel => exact ⟨vs ++ [x], _, HRG3.out, hm3.out, by rw [HM2.out]; go_num, ht3.out, hb3.out⟩
  case rest =>
    obtain ⟨hm, hom, hto, hbb⟩ := hcut
    obtain ⟨A, c, hsh⟩ := (hto.ev encI_len).shape
    subst hsh
    subst hm
    rw [← HDE.out]
    refine (‹∀ (a : Act) (w : World), Code.wp _ _ _ a w → _› : ∀ (a : Act) (w : World), _ → _) _ _ (of_tail5 w wc B N c A D ns T HD.out hom (hto.ev encI_len) HTP.out HTM.out hTl HN.out HK.out hbb)
end Go.Proofs.Ytofjgcbjpmgkdaa
