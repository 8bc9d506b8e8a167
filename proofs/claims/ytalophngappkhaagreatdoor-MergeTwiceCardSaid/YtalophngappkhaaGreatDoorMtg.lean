/- MergeTwice: the walk. -/
import Derived.Test.YtalophngappkhaaGreatDoorMtf
import Derived.Test.YtalophngappkhaaGreatDoorZ30
import Derived.Test.YtalophngappkhaaGreatDoorZ27
set_option linter.unusedVariables false
set_option linter.unusedSimpArgs false
set_option linter.unusedSectionVars false
namespace Go.Proofs.YtalophngappkhaaGreatDoor
open Go Go.RowKit Go.Shelf
attribute [local go_sem] Oper.semAt_some
theorem elemS6 : ElemT Tryz.prog 43 80 11 48 := ⟨Tryz.underlying43, by
  have h : (Tryz.prog.info? 80).map (fun i => (i.zero, i.size, i.bytes)) = some (some (.agg #[.int .u8 0, .int .u8 0, .int .u32 0, .int .u32 0, .int .u32 0, .int .u32 0, .int .u32 0, .int .u32 0, .int .u32 0, .int .u32 0, .int .u64 0]), 11, 48) := by kernel_rfl
  obtain ⟨i, h1, h2, h3, h4⟩ := info_parts h
  exact ⟨i, _, h1, h2, h3, h4, rfl⟩, by omega, by omega⟩
def s6one : S6 := ⟨1, 0, 0, 0, 0, 0, 0, 0, 0, 0, 0⟩
theorem s6one_ok : S6Ok s6one := by constructor <;> (unfold s6one; dsimp only; omega)
theorem EV.full {α : Type} {enc : α → List Value} {k : Nat} {w : World} {A : Option Addr} {n c m : Nat} {xs : List α} (h : EV enc k w (.slice A n c) xs) (hm : m ≤ n) : EV enc k w (.slice A m m) (xs.take m) := by
  have hn := h.nlen
  rcases Nat.eq_zero_or_pos m with rfl | h0
  · exact .inl ⟨by simp, _, _, rfl⟩
  · obtain ⟨b, off, c', hs, hc, hr⟩ := h.row (by omega)
    simp only [Value.slice.injEq] at hs
    obtain ⟨rfl, _, _⟩ := hs
    have hl : (xs.take m).length = m := by rw [List.length_take]; omega
    have := EV.mk (enc := enc) (k := k) (w := w) (b := b) (off := off) (xs := xs.take m) (c := m) (fun i x hx => hr i x (by
      have := (List.getElem?_eq_some_iff.1 hx).1
      rwa [List.getElem?_take_of_lt (by omega)] at hx)) (by omega)
    rwa [hl] at this
set_option maxRecDepth 100000 in
set_option maxHeartbeats 6400000 in
theorem twice_walk (w : World) (v : Value) (xs : List S6) (size which way : Int) (hx : S6Arg w v xs) (hU : LaidAt w) (s1 : 0 ≤ size ∧ size ≤ 255) (m1 : 0 ≤ which ∧ which ≤ 255) (f1 : 0 ≤ way ∧ way ≤ 255) :
    Calls Tryz.prog 10 #[v, .int .u8 size, .int .u8 which, .int .u8 way] w fun r w' => r = .returned (.bool true) ∧ Below w.heap.size w w' := by
  have HX := Lib.hid hx
  have HU := Lib.hid hU
  have HAW := Lib.hid (awake_ok w hU)
  have HS := Lib.hid s1
  have HM := Lib.hid m1
  have HF := Lib.hid f1
  obtain ⟨A, c, hA⟩ := hx.1.shape
  subst hA
  obtain ⟨n, hn⟩ : ∃ n, xs.length = n := ⟨_, rfl⟩
  have hcap : n ≤ c := by
    rcases Nat.eq_zero_or_pos n with h0 | h0
    · omega
    · obtain ⟨b, o, c', hsl, hcp, _⟩ := hx.1.row (by omega)
      simp only [Value.slice.injEq] at hsl
      obtain ⟨_, _, rfl⟩ := hsl
      omega
  have hn63 : n ≤ 9223372036854775807 := by rw [← hn]; exact hx.2.2
  rw [hn] at HX ⊢
  obtain ⟨m, hm⟩ : ∃ m, min n 39 = m := ⟨_, rfl⟩
  have hmin : min (n : Int) 39 = (m : Int) := by omega
  have HMN := Lib.hid (show m ≤ n ∧ m ≤ 39 ∧ m ≤ c by omega)
  have hm0 : (0 : Int) ≤ (m : Int) := by omega
  have hmc : (m : Int) ≤ (c : Int) := by omega
  have hm39 : m ≤ 39 := by omega
  clear hx hU s1 m1 f1 hn hm hcap
  go_enter Tryz.func10, Tryz.ntmps10
  go_wp2_with fail
  refine HAW.out.mono ?_
  rintro r w1 ⟨rfl, b1⟩
  have HB1 := Lib.hid b1
  have HX1 := Lib.hid (HX.out.below b1)
  have HE1 := Lib.hid (HX1.out.1.full HMN.out.1)
  clear HAW b1
  go_wp2_with (at_builtin; refine wpList_app_full elemS6 encS6_len rfl _ _ rfl rfl rfl (HE1.out.below (bel_alloc _ _)) (EV.newL (xs := [s6one]) (n := 1) (c := 1) encS6_len rfl rfl (Nat.le_refl _)) (by simp) (by simp; omega) ?_)
  intro v2 w2 e2 b2
  have HE2 := Lib.hid e2
  have HB2 := Lib.hid (bstep HB1.out ((bel_alloc w1 (.cells #[.int .u8 1, .int .u8 0, .int .u32 0, .int .u32 0, .int .u32 0, .int .u32 0, .int .u32 0, .int .u32 0, .int .u32 0, .int .u32 0, .int .u64 0] 80)).trans (b2.mono (by simp))))
  have HOK := Lib.hid (show ∀ x ∈ xs.take m ++ [s6one], S6Ok x from fun x hx => by
    rcases List.mem_append.1 hx with hx | hx
    · exact HX.out.2.1 x (List.mem_of_mem_take hx)
    · simp only [List.mem_cons, List.not_mem_nil, or_false] at hx
      subst hx; exact s6one_ok)
  have hln : (xs.take m ++ [s6one]).length = m + 1 := by
    have := HX.out.1.nlen
    rw [List.length_append, List.length_take]
    have := HMN.out.1
    simp; omega
  have HLN := Lib.hid hln
  clear HX1 HE1 HB1 e2 b2 hln hmin hm0 hmc
  go_wp2_with fail
  refine (trace_ok w2 v2 _ HE2.out HOK.out (by rw [HLN.out]; omega)).mono ?_
  rintro r w3 ⟨vt, tr, rfl, o3, ht, hlen, b3⟩
  rw [HLN.out] at hlen
  have hpos : 0 < tr.length := by omega
  have HT := Lib.hid ht
  have HTV := Lib.hid (o3.ev encE_len)
  have HB3 := Lib.hid (bstep HB2.out b3)
  clear HE2 HOK HLN HB2 b3 o3 ht hlen
  go_wp2_with fail
  refine (cut_ok w3 vt tr size 0 HTV.out HT.out HS.out.1 HS.out.2 (by omega) (by omega)).mono ?_
  rintro r w4 ⟨vc, bs, nx, rfl, hcp⟩
  have HB4 := Lib.hid (bstep HB3.out hcp.bel)
  have HCP := Lib.hid hcp
  clear HTV HB3 hcp
  have hll := HCP.out.len HT.out
  obtain ⟨p, hp⟩ : ∃ p, bs.length = p := ⟨_, rfl⟩
  rw [hp] at hll
  have HL := Lib.hid hll
  have HP := Lib.hid hp
  have hp40 := hll.2
  have hp0 : 0 < p := by
    rcases Nat.eq_zero_or_pos p with h0 | h0
    · have hb0 : bs = [] := List.eq_nil_of_length_eq_zero (hp.trans h0)
      have := HCP.out.cut.perm.length_eq
      rw [hb0] at this
      simp at this
      omega
    · exact h0
  obtain ⟨cb, co, cc, hvc, hcc, hcr⟩ := HCP.out.ev.row (by rw [hll.1]; omega)
  subst hvc
  rw [hll.1] at HCP hcc ⊢
  have HCR := Lib.hid hcr
  have hf1 := HM.out.1
  have hf2 := HM.out.2
  have hz1 := Int.emod_nonneg which (show (p : Int) ≠ 0 by omega)
  have hz2 := Int.emod_lt_of_pos which (show (0 : Int) < (p : Int) by omega)
  have hz3 : ¬ (p : Int) = 0 := by omega
  have hz4 : ¬ p = 0 := by omega
  obtain ⟨k, hk⟩ : ∃ k : Nat, which % (p : Int) = (k : Int) := ⟨(which % (p : Int)).toNat, by omega⟩
  have hkp : k < p := by omega
  have hkp1 : k < p + 1 := by omega
  have hki : (k : Int) < (p : Int) + 1 := by omega
  obtain ⟨x, hxx⟩ : ∃ x, (CutP.all bs nx)[k]? = some x := ⟨_, List.getElem?_eq_getElem (by rw [hll.1]; omega)⟩
  have hxb : bs[k]? = some x := by
    unfold CutP.all at hxx
    rwa [List.getElem?_append_left (by omega)] at hxx
  have HXB := Lib.hid (show x.2 ∈ bs.map Prod.snd from List.mem_map.2 ⟨x, List.mem_of_getElem? hxb, rfl⟩)
  have HXM := Lib.hid (List.mem_of_getElem? hxx)
  obtain ⟨g0, g1, g2, g3, g4⟩ := hcr.sb hxx
  unfold slV at g4
  have HA := Lib.hid (bel_alloc w4 (.cells #[.int .u8 x.2.kind, .int .u8 x.2.cpu, .int .i64 x.2.lost, .int .i64 x.2.next, .slice x.1.1 x.1.2.1 x.1.2.2] 24))
  have HGB := Lib.hid (show BkBox (w4.alloc (.cells #[.int .u8 x.2.kind, .int .u8 x.2.cpu, .int .i64 x.2.lost, .int .i64 x.2.next, .slice x.1.1 x.1.2.1 x.1.2.2] 24)) w4.heap.size x.2 (.slice x.1.1 x.1.2.1 x.1.2.2) from BkBox.new w4 x.2 _)
  clear hll hp hcr hxx hxb
  go_upto_region 6 with fail
  clear g0 g1 g2 g3 g4 hk hz1 hz2 hz3 hz4 hf1 hf2 hki
  generalize w4.alloc (.cells #[.int .u8 x.2.kind, .int .u8 x.2.cpu, .int .i64 x.2.lost, .int .i64 x.2.next, .slice x.1.1 x.1.2.1 x.1.2.2] 24) = w5 at HA HGB ⊢
  generalize w4.heap.size = GB at HGB ⊢
  have HB5 := Lib.hid (bstep HB4.out HA.out)
  have HCP5 := Lib.hid (HCP.out.below HA.out)
  clear HB4 HA HCR
  obtain ⟨M, hM, hres⟩ := HCP.out.cut.mrg HT.out (List.Perm.refl _)
  have HMW := Lib.hid hM
  obtain ⟨lost, hlost⟩ : ∃ lost, lostB ((bs.map Prod.snd) ++ [bkE nx]) = lost := ⟨_, rfl⟩
  have he := hM.eq
  rw [hlost] at he
  obtain ⟨G, hG⟩ : ∃ G, gapsOf tr nx = G := ⟨_, rfl⟩
  rw [hG] at he
  subst he
  have HRES := Lib.hid (show ∀ m c, MrgRes ((CutP.all bs nx).map Prod.snd) m c → _ from fun m c h => hres m c (by rwa [cut_all_snd] at h))
  have HR2 := Lib.hid (show ∀ m c, MrgRes ((x :: CutP.all bs nx).map Prod.snd) m c → c = 0 ∧ m = ⟨tr, seqsL x.2.evs, G, x.2.lost + lost, nx, false⟩ from fun m c h => by
    rw [← hG, ← hlost]
    exact twice_mrg HT.out HCP.out.cut HXB.out m c (by rw [List.map_cons, cut_all_snd] at h; exact h))
  have HLO := Lib.hid hlost
  clear hM hres hlost hG
  go_wp2_with fail
  refine (blocks_sb w5 _ (CutP.all bs nx) HCP5.out.ev HCP5.out.evs' (HCP5.out.good HT.out) (by rw [HL.out.1]; omega) (HU.out.below HB5.out) _ 0 HRES.out).mono ?_
  rintro r w6 ⟨A1, n1, c1, A2, n2, c2, A3, n3, c3, rfl, o1, o2, o3, b6⟩
  have hn2 := (o2.ev encI_len).nlen
  dsimp only at o1 o2 o3 hn2 ⊢
  obtain rfl : n2 = 0 := hn2
  have HMX := Lib.hid (show MB2 (w6.alloc (.cells #[.slice A1 n1 c1, .slice A2 0 c2, .slice A3 n3 c3, .int .i64 lost, .int .i64 nx, .bool false] 39)) w6.heap.size (.slice A1 n1 c1) (.slice A2 0 c2) (.slice A3 n3 c3) tr [] G lost nx false from
    ⟨MgBox.new w6 _ _ _ _ _ _, (o1.ev encE_len).below (bel_alloc _ _), (o2.ev encI_len).below (bel_alloc _ _), (o3.ev encP_len).below (bel_alloc _ _)⟩)
  have hb7 := b6.trans ((bel_alloc w6 (.cells #[.slice A1 n1 c1, .slice A2 0 c2, .slice A3 n3 c3, .int .i64 lost, .int .i64 nx, .bool false] 39)).mono b6.size)
  have HB7 := Lib.hid (bstep HB5.out hb7)
  have HCP7 := Lib.hid (HCP5.out.below hb7)
  have HGB7 := Lib.hid (HGB.out.below hb7)
  clear HB5 HCP5 HGB o1 o2 o3 b6 hb7
  unfold mgA
  go_upto_region 7 with fail
  generalize w6.alloc (.cells #[.slice A1 n1 c1, .slice A2 0 c2, .slice A3 n3 c3, .int .i64 lost, .int .i64 nx, .bool false] 39) = w7 at HMX HB7 HCP7 HGB7 ⊢
  generalize w6.heap.size = X at HMX ⊢
  have c0 := HGB7.out.c0
  have c1' := HGB7.out.c1
  have c2' := HGB7.out.c2
  have c3' := HGB7.out.c3
  have c4 := HGB7.out.c4
  have HOA := Lib.hid (show OV encSb 5 24 w7.heap.size (w7.alloc (.cells #[.int .u8 x.2.kind, .int .u8 x.2.cpu, .int .i64 x.2.lost, .int .i64 x.2.next, .slice x.1.1 x.1.2.1 x.1.2.2] 24)) (.slice (some ⟨w7.heap.size, 0, none⟩) 1 1) [x] from
    OV.lit w7 _ 1 (Nat.le_refl _) (by unfold maxLen; omega) rfl rfl rfl)
  have HBA := Lib.hid (bel_alloc w7 (.cells #[.int .u8 x.2.kind, .int .u8 x.2.cpu, .int .i64 x.2.lost, .int .i64 x.2.next, .slice x.1.1 x.1.2.1 x.1.2.2] 24))
  go_wp2_with (at_builtin; refine wpList_app elemBk encSb_len encSb_one rfl _ _ rfl _ _ rfl rfl HOA.out (HCP7.out.ev.below HBA.out) ?q1 ?q2 ?_)
  case q1 => rw [HL.out.1]; simp; omega
  case q2 => simp
  intro v8 w8 o8 g8
  have HO8 := Lib.hid (show EV encSb 5 w8 v8 (x :: CutP.all bs nx) from o8.ev encSb_len)
  have HB8 := Lib.hid (HBA.out.grown g8 HBA.out.size (fun k e => by cases e; exact Nat.le_refl _))
  clear o8 g8 HOA HBA c0 c1' c2' c3' c4
  have HCP8 := Lib.hid (HCP7.out.below HB8.out)
  have HMEM := Lib.hid (show ∀ y ∈ x :: CutP.all bs nx, y ∈ CutP.all bs nx from fun y hy => (List.mem_cons.1 hy).elim (fun h => h ▸ HXM.out) id)
  go_wp2_with fail
  refine (blocks_sb w8 v8 (x :: CutP.all bs nx) HO8.out (fun y hy => HCP8.out.evs' y (HMEM.out y hy)) (fun y hy => HCP8.out.good HT.out y (HMEM.out y hy)) (by rw [List.length_cons, HL.out.1]; omega) (HU.out.below (bstep HB7.out HB8.out)) _ 0 HR2.out).mono ?_
  rintro r w9 ⟨E1, q1, d1, E2, q2, d2, E3, q3, d3, rfl, o1, o2, o3, b9⟩
  dsimp only at o1 o2 o3 ⊢
  have hba := bel_alloc w9 (.cells #[.slice E1 q1 d1, .slice E2 q2 d2, .slice E3 q3 d3, .int .i64 (x.2.lost + lost), .int .i64 nx, .bool false] 39)
  have hb9 := bstep HB8.out b9
  have HTM := Lib.hid (show ∀ W' vw, Below (w9.alloc (.cells #[.slice E1 q1 d1, .slice E2 q2 d2, .slice E3 q3 d3, .int .i64 (x.2.lost + lost), .int .i64 nx, .bool false] 39)).heap.size (w9.alloc (.cells #[.slice E1 q1 d1, .slice E2 q2 d2, .slice E3 q3 d3, .int .i64 (x.2.lost + lost), .int .i64 nx, .bool false] 39)) W' → OV encI 1 3 w7.heap.size W' vw (seqsL x.2.evs) → TmW w7 W' GB X w9.heap.size cb co p cc x.1 (.slice A1 n1 c1) (.slice A2 0 c2) (.slice A3 n3 c3) (.slice E1 q1 d1) (.slice E2 q2 d2) (.slice E3 q3 d3) vw tr bs x.2 G lost (x.2.lost + lost) nx from fun W' vw hbw hvw =>
    ⟨HCP7.out.ev, HCP7.out.evs', HU.out.below HB7.out, HGB7.out, HCP7.out.evs' x HXM.out, HMX.out, bstep (bstep hb9 hba) hbw, hb9.size, (MgBox.new w9 _ _ _ _ _ _).below hbw, ((o1.base_le HB8.out.size).below hba).below hbw, ((o2.base_le HB8.out.size).below hba).below hbw, ((o3.base_le HB8.out.size).below hba).below hbw, hvw⟩)
  have HBD := Lib.hid (bstep hb9 hba)
  clear o1 o2 o3 b9 hba hb9 HO8 HB8 HCP8 HR2
  unfold mgA
  go_upto_region 8 with fail
  generalize w9.alloc (.cells #[.slice E1 q1 d1, .slice E2 q2 d2, .slice E3 q3 d3, .int .i64 (x.2.lost + lost), .int .i64 nx, .bool false] 39) = wa at HTM HBD ⊢
  generalize w9.heap.size = Y at HTM ⊢
  have hge := HCP7.out.evs' x HXM.out
  have hnl := hge.nlen
  obtain ⟨mm, hmm⟩ : ∃ mm, x.2.evs.length = mm := ⟨_, rfl⟩
  have HMM := Lib.hid (show x.2.evs.length = mm ∧ mm ≤ 6 from ⟨hmm, by rw [← hmm]; exact (HCP.out.cut.blk x.2 HXB.out).len.2⟩)
  rw [hmm] at hnl
  have HGE := Lib.hid (show EV encE 11 wa (.slice x.1.1 mm x.1.2.2) x.2.evs from by
    have := hge.below HBD.out
    unfold slV at this
    rwa [hnl] at this)
  have c4 := (HGB7.out.below HBD.out).c4
  rw [hnl] at c4
  have hm6 := HMM.out.2
  have hw7a := HBD.out.size
  have HSZ := Lib.hid hw7a
  clear hge hnl hmm hw7a
  go_upto_block 0 with fail
  clear c4
  go_cut [16] (fun vw wz => ∃ wq, wq = wz ∧ OV encI 1 3 wa.heap.size wq vw (seqsL x.2.evs) ∧ Below wa.heap.size wa wq)
  case first =>
    go_wp2
    go_loopg [16, 66] mm (fun k vw i wr => ∃ j : Nat, j + k = mm ∧ i = .int .i64 j ∧ OV encI 1 3 wa.heap.size wr vw (seqsL (x.2.evs.take j)) ∧ Below wa.heap.size wa wr)
    case atStart => exact ⟨0, by omega, rfl, OV.nil _ _, Below.refl _ _⟩
    case round =>
      obtain ⟨j, hj, rfl, ho, hb⟩ := hrel
      have HJ := Lib.hid hj
      have HO := Lib.hid ho
      have HBR := Lib.hid hb
      clear hj ho hb
      by_cases hlt : j < mm
      · obtain ⟨b, off, c', hsl, hcc, hr⟩ := (HGE.out.below HBR.out).row (by rw [HMM.out.1]; omega)
        rw [HMM.out.1] at hsl
        simp only [Value.slice.injEq, true_and] at hsl
        obtain ⟨hs1, hs2⟩ := hsl
        have HSL := Lib.hid hs1
        have HSC := Lib.hid hs2
        rw [hs1, hs2]
        rw [HMM.out.1] at hcc
        obtain ⟨e, hev⟩ : ∃ e, x.2.evs[j]? = some e := ⟨_, List.getElem?_eq_getElem (by rw [HMM.out.1]; exact hlt)⟩
        obtain ⟨g0, g1, g2, g3, g4, g5, g6, g7, g8, g9, g10⟩ := hr.ev hev
        have HSN := Lib.hid (show seqsL (x.2.evs.take (j + 1)) = seqsL (x.2.evs.take j) ++ [e.seq] from (seqs_take hev).1)
        have HLJ := Lib.hid (show (seqsL (x.2.evs.take j)).length ≤ 6 by unfold seqsL; rw [List.length_map, List.length_take]; have := HMM.out; omega)
        have HEV := Lib.hid (evp_new wr e)
        have HA := Lib.hid (bel_alloc wr (.cells #[.int .i64 e.seq, .int .i64 e.time, .int .u8 e.cpu, .int .u8 e.kind, .int .i64 e.task, .int .i64 e.grp, .int .i64 e.to, .int .i64 e.wt, .int .i64 e.ticks, .int .u64 e.mask, .int .i64 e.got] 28))
        clear hr hev hs1 hs2
        go_upto_region 12 with fail
        have h1 := HEV.out
        clear HEV g0 g1 g2 g3 g4 g5 g6 g7 g8 g9 g10
        generalize wr.alloc (.cells #[.int .i64 e.seq, .int .i64 e.time, .int .u8 e.cpu, .int .u8 e.kind, .int .i64 e.task, .int .i64 e.grp, .int .i64 e.to, .int .i64 e.wt, .int .i64 e.ticks, .int .u64 e.mask, .int .i64 e.got] 28) = wb at h1 HA ⊢
        generalize wr.heap.size = B at h1 ⊢
        have HB3 := Lib.hid (bstep HBR.out HA.out)
        have HO3 := Lib.hid (HO.out.below HA.out)
        have e0 := h1.c0
        clear h1 HBR HO HA
        go_wp2_with (at_builtin; refine wpList_app elemI encI_len encI_one rfl _ _ rfl _ _ rfl rfl (HO3.out.alloc _) (EV.newL (xs := [e.seq]) (n := 1) (c := 1) encI_len rfl rfl (Nat.le_refl _)) ?q1 ?q2 ?_)
        case q1 => have := HLJ.out; simp; omega
        case q2 => have := HB3.out.size; simp; omega
        intro v' w8 o8 g8
        have hal := bel_alloc wb (.cells #[.int .i64 e.seq] 3)
        have HO8 := Lib.hid o8
        have HB8 := Lib.hid ((bstep HB3.out hal).grown g8 (bstep HB3.out hal).size (fun g q => (HO3.out.block g q).1))
        clear o8 g8 hal e0
        go_wp2
        rw [← HSL.out, ← HSC.out]
        go_roundg (mm - (j + 1))
        case measure => have := HJ.out; omega
        case rel => exact ⟨j + 1, by have := HJ.out; omega, by go_num, by rw [HSN.out]; exact HO8.out, HB8.out⟩
      · obtain rfl : mm = j := by have := HJ.out; omega
        have HTA := Lib.hid (show x.2.evs.take mm = x.2.evs from List.take_of_length_le (Nat.le_of_eq HMM.out.1))
        go_wp2
        go_meet
        exact ⟨_, rfl, by rw [← HTA.out]; exact HO.out, HBR.out⟩
  case rest =>
    obtain ⟨wq, rfl, ho, hb⟩ := hcut
    have hw := HMW.out
    have hlb : 0 ≤ lost ∧ lost ≤ 1000 := by
      have := lostB_small (l := (bs.map Prod.snd) ++ [bkE nx]) (fun b hb => by
        rcases List.mem_append.1 hb with hb | hb
        · exact (HCP.out.cut.blk b hb).lost
        · simp only [List.mem_cons, List.not_mem_nil, or_false] at hb
          subst hb; exact ⟨Int.le_refl 0, show (0 : Int) ≤ 2 by omega⟩)
      rw [HLO.out, List.length_append, List.length_map, HP.out] at this
      simp at this
      omega
    exact (‹∀ (a : Act) (w : World), Code.wp _ _ _ a w → _› : ∀ (a : Act) (w : World), _ → _) _ _ (twice_t14 w w7 wq GB X Y cb co p cc n1 c1 c2 n3 c3 q1 d1 q2 d2 q3 d3 A1 A2 A3 E1 E2 E3 _ x.1 tr bs x.2 G lost (x.2.lost + lost) nx way HT.out HL.out HCP.out.cut (HTM.out wq _ hb (ho.base_le HSZ.out)) HXB.out HF.out (by omega) hlb (HCP.out.cut.blk x.2 HXB.out).lost hw.len.2 HB7.out)
end Go.Proofs.YtalophngappkhaaGreatDoor
