/- The reference of layer 28: use. -/
import Derived.Test.YtaplangfppohdaaDoorZ36
import Derived.Test.YtaplangfppohdaaDoorZ19
set_option linter.unusedVariables false
set_option linter.unusedSimpArgs false
set_option linter.unusedSectionVars false
namespace Go.Proofs.YtaplangfppohdaaDoor
open Go.RowKit Go.Shelf
attribute [local go_sem] Oper.semAt_some

theorem usedAt_succ {gs : List (Int × Int)} {r : Ru} {c : Int} {o : List Rn} {j : Nat} {t : Rn} (h : o[j]? = some t) : usedAt gs r c (o.take (j + 1)) = useStep gs r c (usedAt gs r c (o.take j)) t := by
  rw [List.take_add_one, h]
  exact usedAt_snoc gs r c (o.take j) t
theorem cnt_hit {gs : List (Int × Int)} {r : Ru} {t : Rn} (h : hitB gs r t = true) : cntT gs [r] t = tickN r t := by simp [cntT, h]
theorem allN_mem {gs : List (Int × Int)} {rs : List Ru} {o : List Rn} {t : Rn} (h : t ∈ o) : cntT gs rs t ≤ allN gs rs o := by
  unfold allN
  induction o with
  | nil => cases h
  | cons x l ih =>
    rw [List.map_cons, List.sum_cons]
    rcases List.mem_cons.1 h with rfl | h
    · omega
    · have := ih h; omega
theorem used_len1 {gs : List (Int × Int)} {r : Ru} {c : Int} : ∀ o : List Rn, (usedAt gs r c o).length ≤ allN gs [r] o := by
  intro o
  refine snoc_ind (p := fun o => (usedAt gs r c o).length ≤ allN gs [r] o) (by simp [usedAt]) (fun l t ih => ?_) o
  rw [usedAt_snoc, allN_snoc]
  unfold useStep
  split
  · rename_i h
    have h1 := addsP_len (usedAt gs r c l) (tickP r t)
    rw [tickP_len] at h1
    rw [cnt_hit h.2]
    omega
  · omega
theorem allN_take {gs : List (Int × Int)} {rs : List Ru} {o : List Rn} (j : Nat) : allN gs rs (o.take j) ≤ allN gs rs o := by
  conv => rhs; rw [← List.take_append_drop j o]
  unfold allN
  rw [List.map_append, List.sum_append]
  omega
theorem elemRP : ElemT Tryd.prog 87 90 2 16 := ⟨Tryd.underlying87, by
  have h : (Tryd.prog.info? 90).map (fun i => (i.zero, i.size, i.bytes)) = some (some (.agg #[.int .i64 0, .int .i64 0]), 2, 16) := by kernel_rfl
  obtain ⟨i, h1, h2, h3, h4⟩ := info_parts h
  exact ⟨i, _, h1, h2, h3, h4, rfl⟩, by omega, by omega⟩
set_option maxRecDepth 100000 in
set_option maxHeartbeats 3200000 in
theorem use_ok (w : World) (v1 vo : Value) (gs : List (Int × Int)) (r : Ru) (c : Nat) (o : List Rn) (h1 : EV encG 2 w v1 gs) (ho : EV encRn 4 w vo o) (lg : gs.length ≤ 100000) (lo : o.length ≤ 1000000) (hr : RuOk gs.length r) (hc : c < 64)
    (hok : ∀ t ∈ o, RnOk gs.length t) (hap : Apart o) (hsum : allN gs [r] o ≤ 65536) :
    Calls Tryd.prog 85 #[v1, .agg #[.int .i64 r.g, .int .i64 r.p, .int .i64 r.l], .int .i64 c, vo] w fun e w' => ∃ v, e = .returned v ∧ OV encG 2 90 w.heap.size w' v (usedAt gs r c o) ∧ Below w.heap.size w w' := by
  obtain ⟨Ao, co, rfl⟩ := ho.shape
  obtain ⟨n, hn⟩ : ∃ n, o.length = n := ⟨_, rfl⟩
  have HN := Lib.hid hn
  have HG := Lib.hid h1
  have HO := Lib.hid ho
  have HR := Lib.hid hr
  have HK := Lib.hid hok
  have HA := Lib.hid hap
  have HS := Lib.hid hsum
  have hb0 := bel_alloc w (.cells #[.int .i64 r.g, .int .i64 r.p, .int .i64 r.l] 119)
  have r0 : (w.alloc (.cells #[.int .i64 r.g, .int .i64 r.p, .int .i64 r.l] 119)).cell? ⟨w.heap.size, 0, none⟩ = some (.int .i64 r.g) := by go_simp
  have r1 : (w.alloc (.cells #[.int .i64 r.g, .int .i64 r.p, .int .i64 r.l] 119)).cell? ⟨w.heap.size, 1, none⟩ = some (.int .i64 r.p) := by go_simp
  obtain ⟨p, hp⟩ : ∃ p : Nat, r.p = p := ⟨r.p.toNat, by have := hr.2.1; omega⟩
  have HP := Lib.hid (show r.p = (p : Int) ∧ r.p.toNat = p ∧ 1 ≤ p ∧ p ≤ 4294967296 from by have := hr.2.1; omega)
  rw [hn] at lo HO ⊢
  clear h1 ho hr hok hap hsum hn hp
  go_enter Tryd.func85, Tryd.ntmps85
  go_upto_region 1 with fail
  generalize w.alloc (.cells #[.int .i64 r.g, .int .i64 r.p, .int .i64 r.l] 119) = w1 at hb0 r0 r1 ⊢
  obtain ⟨X, hX⟩ : ∃ X, w.heap.size = X := ⟨_, rfl⟩
  have HXS := Lib.hid hX
  rw [hX] at r0 r1 hb0 ⊢
  have HB0 := Lib.hid hb0
  have HR0 := Lib.hid r0
  have HR1 := Lib.hid r1
  clear hb0 r0 r1 hX
  go_wp2
  go_loopg [9, 10, 11, 12, 13] n (fun k v i _ _ _ wr => ∃ j : Nat, j + k = n ∧ i = .int .i64 j ∧ OV encG 2 90 w1.heap.size wr v (usedAt gs r c (o.take j)) ∧ Below w1.heap.size w1 wr)
  case atStart => exact ⟨0, by omega, rfl, OV.nil _ _, Below.refl _ _⟩
  case round =>
    obtain ⟨j, hj, rfl, hov, hb⟩ := hrel
    have HJ := Lib.hid hj
    have HOV := Lib.hid hov
    have HB := Lib.hid hb
    clear hj hov hb
    by_cases hlt : j < n
    · obtain ⟨t, ht⟩ : ∃ t, o[j]? = some t := ⟨_, List.getElem?_eq_getElem (by rw [HN.out]; exact hlt)⟩
      have HT := Lib.hid ht
      have htok := HK.out t (List.mem_of_getElem? ht)
      obtain ⟨b, off, c', hs1, hcc, hrr⟩ := (HO.out.below ((Below.trans (a := w) (by rw [HXS.out]; exact HB0.out) (HB.out.mono (by have := HB0.out.size; have := HXS.out; omega))))).row (by rw [HN.out]; omega)
      rw [HN.out] at hs1 hcc
      simp only [Value.slice.injEq, true_and] at hs1
      obtain ⟨rfl, rfl⟩ := hs1
      obtain ⟨t0, t1, t2, t3⟩ := hrr.rn ht
      have a0 := below_cell HB.out HR0.out
      have a1 := below_cell HB.out HR1.out
      obtain ⟨tm, htm⟩ : ∃ tm : Nat, t.time = tm := ⟨t.time.toNat, by unfold RnOk at htok; omega⟩
      obtain ⟨tk, htk⟩ : ∃ tk : Nat, t.ticks = tk := ⟨t.ticks.toNat, by unfold RnOk at htok; omega⟩
      have HTK := Lib.hid (show 1 ≤ tk ∧ tk ≤ tm ∧ tm ≤ 281474976710656 from by unfold RnOk at htok; omega)
      have HTP := Lib.hid (show tickP r t = partsL tm tk p from by unfold tickP; rw [htm, htk, HP.out.2.1]; rfl)
      have HST := Lib.hid (usedAt_succ (gs := gs) (r := r) (c := (c : Int)) ht)
      rw [HP.out.1] at a1
      rw [htm] at t1
      rw [htk] at t2
      have i1 : (0 : Int) ≤ (j : Int) := by omega
      have i2 : (j : Int) < (n : Int) := by omega
      have i3 : (j : Int).toNat = j := by omega
      clear hrr ht
      by_cases hcp : t.cpu = c
      · have d1 : decide (t.cpu = (c : Int)) = true := by simp [hcp]
        have d2 : (t.cpu != (c : Int)) = false := by simp [hcp]
        have HCP := Lib.hid hcp
        clear hcp
        go_wp2_with fail
        go_still_tail 16, (by kernel_rfl)
        change wpList _ _ _ _ _ wr.drew
        have HOV2 := Lib.hid HOV.out.drew
        have HB2 := Lib.hid (below_drew HB.out)
        have a0 : wr.drew.cell? ⟨X, 0, none⟩ = some (.int .i64 r.g) := a0
        have a1 : wr.drew.cell? ⟨X, 1, none⟩ = some (.int .i64 (p : Nat)) := a1
        have t1 : wr.drew.cell? ⟨b, off + j * 4 + 1, none⟩ = some (.int .i64 (tm : Nat)) := t1
        have t2 : wr.drew.cell? ⟨b, off + j * 4 + 2, none⟩ = some (.int .i64 (tk : Nat)) := t2
        generalize wr.drew = wd at HOV2 HB2 a0 a1 t1 t2 ⊢
        have HA1 := Lib.hid (And.intro a1 (And.intro t1 t2))
        clear d1 d2 t0 t3 a0 a1 t1 t2 HOV HB
        have HAB := Lib.hid (above_ok wd v1 gs r.g t.grp (HG.out.below (Below.trans (a := w) (by rw [HXS.out]; exact HB0.out) (HB2.out.mono (by have := HB0.out.size; have := HXS.out; omega)))) lg)
        go_wp2_with fail
        refine HAB.out.mono ?_
        rintro e w2 ⟨rfl, b2⟩
        have HB3 := Lib.hid (HB2.out.trans (b2.mono HB2.out.size))
        have HOV3 := Lib.hid (HOV2.out.below b2)
        obtain ⟨a1, t1, t2⟩ := HA1.out
        have a1 := below_cell b2 a1
        have t1 := below_cell b2 t1
        have t2 := below_cell b2 t2
        clear b2 HAB HOV2 HB2 HA1
        cases hh : (pathL gs t.grp).contains r.g with
        | false =>
          have HST2 := Lib.hid (show usedAt gs r c (o.take (j + 1)) = usedAt gs r c (o.take j) from by rw [HST.out]; unfold useStep; rw [if_neg (fun h => by have := h.2; unfold hitB at this; rw [hh] at this; cases this)])
          clear hh
          go_wp2
          go_roundg (gk - 1)
          case measure => have := HJ.out; omega
          case rel => exact ⟨j + 1, by have := HJ.out; omega, by go_num, by rw [HST2.out]; exact HOV3.out, HB3.out⟩
        | true =>
          have HST2 := Lib.hid (show usedAt gs r c (o.take (j + 1)) = addsP (usedAt gs r c (o.take j)) (partsL tm tk p) from by rw [HST.out]; unfold useStep; rw [if_pos ⟨HCP.out, hh⟩, HTP.out])
          have HHB := Lib.hid (show hitB gs r t = true from hh)
          clear hh
          have hmM : manyN tm tk p ≤ 65536 := by
            have h1 := allN_mem (gs := gs) (rs := [r]) (List.mem_of_getElem? HT.out)
            rw [cnt_hit HHB.out] at h1
            have h2 := HS.out
            have h3 := tickP_len r t
            rw [HTP.out, partsL_len] at h3
            omega
          have HSP := Lib.hid (fun W => rsplit_ok W tm tk p HTK.out.1 HTK.out.2.1 HTK.out.2.2 HP.out.2.2.1 HP.out.2.2.2 (by omega))
          have HAC := Lib.hid (show ∀ m, m ≤ manyN tm tk p → AccOk p (cutA tm (tm - tk) p m : Nat) (addsP (usedAt gs r c (o.take j)) (uptoP (partI tm (tm - tk) p) m)) from by
            have hsplit : o = o.take j ++ o.drop j := (List.take_append_drop j o).symm
            have hap := HA.out
            unfold Apart at hap
            rw [hsplit, List.pairwise_append] at hap
            have h1 : AccOk r.p.toNat (t.time - t.ticks) (usedAt gs r c (o.take j)) := used_acc (n := gs.length) (by rw [HP.out.1]; have := HP.out.2.2.1; omega) _ (fun x hx => HK.out x (List.mem_of_mem_take hx)) hap.1 _ (by unfold RnOk at htok; omega) (fun x hx hxc => hap.2.2 x hx t (by
              rw [List.mem_iff_getElem?]
              exact ⟨0, by rw [List.getElem?_drop]; simpa using HT.out⟩) (by rw [hxc, HCP.out]))
            rw [HP.out.2.1] at h1
            exact AccOk.upto h1 HTK.out.1 HTK.out.2.1 HP.out.2.2.1 (by rw [htm, htk]; have := HTK.out; omega))
          have HLN := Lib.hid (show (usedAt gs r c (o.take j)).length ≤ 65536 from by
            have h1 := used_len1 (gs := gs) (r := r) (c := (c : Int)) (o.take j)
            have h2 := allN_take (gs := gs) (rs := [r]) (o := o) j
            have h3 := HS.out
            omega)
          generalize usedAt gs r c (o.take j) = U at HOV3 HST2 HAC HLN
          go_wp2_with fail
          go_still_tail 12, (by kernel_rfl)
          change wpList _ _ _ _ _ w2.drew
          have HOV4 := Lib.hid HOV3.out.drew
          have HB4 := Lib.hid (below_drew HB3.out)
          generalize w2.drew = w4 at HOV4 HB4 ⊢
          clear a1 t1 t2 HOV3 HB3 HST HTP HHB
          go_wp2_with fail
          refine (HSP.out w4).mono ?_
          rintro e w5 ⟨vl, rfl, ol, b5⟩
          obtain ⟨Al, cl, hvl⟩ := (ol.ev encG_len).shape
          rw [partsL_len] at hvl
          have HSL := Lib.hid (show partsL tm tk p = uptoP (partI tm (tm - tk) p) (manyN tm tk p) from rfl)
          have HCV := Lib.hid (fun m (hm : m < manyN tm tk p) => part_span HTK.out.1 HTK.out.2.1 HP.out.2.2.1 hm)
          have HPL := Lib.hid (partsL_len tm tk p)
          obtain ⟨M, hM⟩ : ∃ M, manyN tm tk p = M := ⟨_, rfl⟩
          rw [hM] at hvl hmM HSL HCV HAC HPL
          subst hvl
          have HOL := Lib.hid ol
          have HOV5 := Lib.hid (HOV4.out.below b5)
          have HB5 := Lib.hid (HB4.out.trans (b5.mono HB4.out.size))
          have HNE := Lib.hid (show ∀ g, (Value.slice Al M cl).ownBlock = some g → u9.ownBlock ≠ some g from fun g hg hh => by
            have h1 := (ol.block g hg).1
            have h2 := (HOV4.out.block g hh).2
            omega)
          have HB4S := Lib.hid HB4.out.size
          clear ol b5 HOV4 HB4 HSP hM
          generalize partsL tm tk p = PL at HOL HSL HPL HST2
          go_wp2
          go_loopg [9, 12, 13] M (fun k v q _ wq => ∃ m : Nat, m + k = M ∧ q = .int .i64 m ∧ OV encG 2 90 w1.heap.size wq v (addsP U (uptoP (partI tm (tm - tk) p) m)) ∧ OV encG 2 90 w4.heap.size wq (.slice Al M cl) PL ∧ (∀ g, (Value.slice Al M cl).ownBlock = some g → v.ownBlock ≠ some g) ∧ Below w1.heap.size w1 wq)
          case atStart => exact ⟨0, by omega, rfl, HOV5.out, HOL.out, HNE.out, HB5.out⟩
          case round =>
            obtain ⟨m, hm, rfl, hov, hol, hne, hb⟩ := hrel
            have HM := Lib.hid hm
            have HOVm := Lib.hid hov
            have HOLm := Lib.hid hol
            have HNEm := Lib.hid hne
            have HBm := Lib.hid hb
            clear hm hov hol hne hb HOV5 HOL HNE HB5
            by_cases hmlt : m < M
            · obtain ⟨c1, c2, c3, c4⟩ := HCV.out m hmlt
              have hacc := HAC.out m (by omega)
              have HUP := Lib.hid (show addsP U (uptoP (partI tm (tm - tk) p) (m + 1)) = addP (addsP U (uptoP (partI tm (tm - tk) p) m)) (partI tm (tm - tk) p m) from by rw [uptoP_succ, addsP_snoc])
              have hlen := addsP_len U (uptoP (partI tm (tm - tk) p) m)
              rw [uptoP_len] at hlen
              have hlen2 : (addsP U (uptoP (partI tm (tm - tk) p) m)).length ≤ 1000000 := by have := HLN.out; omega
              have hpv : 0 ≤ (partI tm (tm - tk) p m).2 ∧ (partI tm (tm - tk) p m).2 ≤ 1099511627776 := by
                unfold partI
                dsimp only
                have h5 : ((tm - tk) / p + m + 1) * p = ((tm - tk) / p + m) * p + p := by rw [Nat.add_mul ((tm - tk) / p + m), Nat.one_mul]
                have h6 := HP.out.2.2.2
                rw [h5] at c4
                generalize ((tm - tk) / p + m) * p = Z at c2 c4
                omega
              have hqv : ∀ q ∈ addsP U (uptoP (partI tm (tm - tk) p) m), 0 ≤ q.2 ∧ q.2 ≤ 1099511627776 := fun q hq => by have := hacc.each q hq; have := HP.out.2.2.2; omega
              have hx : PL[m]? = some (partI tm (tm - tk) p m) := by rw [HSL.out]; simp [uptoP, hmlt]
              obtain ⟨lb, lo2, lc, hls, hlc, hlr⟩ := (HOLm.out.ev encG_len).row (by rw [HPL.out]; omega)
              rw [HPL.out] at hls hlc
              simp only [Value.slice.injEq, true_and] at hls
              obtain ⟨rfl, rfl⟩ := hls
              obtain ⟨l0, l1⟩ := hlr.grp hx
              generalize addsP U (uptoP (partI tm (tm - tk) p) m) = L at HOVm HUP hlen2 hqv
              generalize partI tm (tm - tk) p m = P at hpv hx l0 l1 HUP
              obtain ⟨p1, p2⟩ := P
              dsimp only at l0 l1 hpv
              have HL0 := Lib.hid (And.intro l0 l1)
              have HKP := Lib.hid (show ∀ (wa wb : World) (k : Nat), OV encG 2 90 w4.heap.size wa (.slice (some ⟨lb, lo2, none⟩) M cl) PL → wa.grownBy wb u9.ownBlock → OV encG 2 90 w4.heap.size wb (.slice (some ⟨lb, lo2, none⟩) M cl) PL from fun wa wb _ ha hg => ha.keep hg (by
                cases h : (Value.slice (some ⟨lb, lo2, none⟩) M cl).ownBlock with
                | none => exact .inl rfl
                | some g => exact .inr (fun e => HNEm.out g h e.symm)))
              have HLB := Lib.hid (show ∀ g, (Value.slice (some ⟨lb, lo2, none⟩) M cl).ownBlock = some g → g < wr.heap.size from fun g hg => (HOLm.out.block g hg).2)
              have HOB := Lib.hid (show ∀ g, u9.ownBlock = some g → w1.heap.size ≤ g from fun g hg => (HOVm.out.block g hg).1)
              clear c1 c2 c3 c4 hacc hlen hlr hx
              rcases List.eq_nil_or_concat L with rfl | ⟨R, q, rfl⟩
              · obtain ⟨A9, c9, h9⟩ := (HOVm.out.ev encG_len).shape
                rw [List.length_nil] at h9
                subst h9
                clear hqv hlen2
                go_wp2_with fail
                go_quiet (fail)
                have l0 := HL0.out.1
                have l1 := HL0.out.2
                go_wp2_with (at_builtin; refine wpList_app_at elemRP encG_len encG_one rfl _ _ rfl _ _ rfl rfl ((HOVm.out.drewN nq).alloc _) (new_rpartM (p := p1) (q := p2) (by simp)) ?q1 ?q2 ?_)
                case q1 => simp
                case q2 => have := HBm.out.size; simp; omega
                intro v6 w6 o6 g6 at6
                have HO6 := Lib.hid o6
                have HL6 := Lib.hid (HKP.out _ _ 0 ((HOLm.out.drewN nq).alloc _) g6)
                have HN6 := Lib.hid (show ∀ g, (Value.slice (some ⟨lb, lo2, none⟩) M cl).ownBlock = some g → v6.ownBlock ≠ some g from fun g hg e => by
                  rcases at6 with h | h
                  · exact HNEm.out g hg (h ▸ e)
                  · rw [h] at e
                    have h1 := HLB.out g hg
                    have h2 := Option.some.inj e
                    (try simp at h2)
                    omega)
                have HB6 := Lib.hid (((below_drewN HBm.out nq).alloc HBm.out.size (.cells #[.int .i64 p1, .int .i64 p2] 90)).grown g6 (by have := HBm.out.size; simp; omega) HOB.out)
                clear o6 g6 at6
                go_wp2
                go_roundg (gk - 1)
                case measure => have := HM.out; omega
                case rel => exact ⟨m + 1, by have := HM.out; omega, by go_num, by rw [HUP.out]; exact HO6.out, HL6.out, HN6.out, HB6.out⟩
              · rw [List.concat_eq_append] at *
                obtain ⟨q1, q2⟩ := q
                obtain ⟨N, hNR⟩ : ∃ N, R.length = N := ⟨_, rfl⟩
                have HNR := Lib.hid hNR
                obtain ⟨g, cap, rfl, hcap, hbg, hgs⟩ := HOVm.out.row_form encG_len (n := N + 1) (by simp [hNR]) (by omega)
                have hrow := (HOVm.out.ev encG_len).row3 (by simp)
                have hx : (R ++ [(q1, q2)])[N]? = some (q1, q2) := by rw [← hNR]; simp
                obtain ⟨g0, g1⟩ := hrow.grp hx
                have gf := HOVm.out.frz (by simp [hNR]) (N * 2 + 1)
                have hqq := hqv (q1, q2) (by simp)
                dsimp only at g0 g1 hqq
                simp only [Nat.zero_add] at g0 g1
                have hnl : N ≤ 1000000 := by simp at hlen2; omega
                have e1 : IntKind.i64.wrap ((N : Int) + 1 - 1) = (N : Int) := by rw [IntWalk.i64_in _ (by omega)]; omega
                have e7 : IntKind.i64.wrap (N : Int) = (N : Int) := IntWalk.i64_in _ (by omega)
                have e2 : (N : Int) < (N : Int) + 1 := by omega
                have e3 : (0 : Int) ≤ (N : Int) := by omega
                have e4 : ((N : Int)).toNat = N := by omega
                have e5 : (0 : Int) < (N : Int) + 1 := by omega
                have e6 : IntKind.i64.wrap (q2 + p2) = q2 + p2 := IntWalk.i64_in _ (by omega)
                have m1 : (0 : Int) ≤ (m : Int) := by omega
                have m2 : (m : Int) < (M : Int) := by omega
                have m3 : ((m : Int)).toNat = m := by omega
                have HX := Lib.hid hx
                clear hx hrow hqv hlen2 hNR
                by_cases he : q1 = p1
                · subst he
                  have d6 : (q1 == q1) = true := by simp
                  go_wp2_with fail
                  go_quiet (fail)
                  have x1 : (wr.drewN nq).cell? ⟨lb, lo2 + m * 2 + 1, none⟩ = some (.int .i64 p2) := HL0.out.2
                  have y1 : (wr.drewN nq).cell? ⟨g, N * 2 + 1, none⟩ = some (.int .i64 q2) := g1
                  have fz : (wr.drewN nq).frozen? ⟨g, N * 2 + 1, none⟩ = false := gf
                  have HO2 := Lib.hid (HOVm.out.drewN nq)
                  have HL2 := Lib.hid (HOLm.out.drewN nq)
                  have HB2 := Lib.hid (below_drewN HBm.out nq)
                  generalize wr.drewN nq = wm at x1 y1 fz HO2 HL2 HB2 ⊢
                  clear l0 l1 g0 g1 gf
                  go_wp2_with fail
                  go_still_tail 17, (by kernel_rfl)
                  change wpList _ _ _ _ _ wm.drew
                  have HO3 := Lib.hid HO2.out.drew
                  have HL3 := Lib.hid HL2.out.drew
                  have HB3 := Lib.hid (below_drew HB2.out)
                  have y1 : wm.drew.cell? ⟨g, N * 2 + 1, none⟩ = some (.int .i64 q2) := y1
                  have fz : wm.drew.frozen? ⟨g, N * 2 + 1, none⟩ = false := fz
                  generalize wm.drew = wd3 at HO3 HL3 HB3 y1 fz ⊢
                  obtain ⟨o5, gr5⟩ := HO3.out.setF encG_len (by simp [HNR.out]) HX.out (j := 1) (by omega) (q1, q2 + p2) (.int .i64 (q2 + p2)) rfl
                  have HO5 := Lib.hid (show OV encG 2 90 w1.heap.size (wd3.setCell ⟨g, N * 2 + 1, none⟩ (.int .i64 (q2 + p2))) (.slice (some ⟨g, 0, none⟩) (N + 1) cap) (addP (R ++ [(q1, q2)]) (q1, p2)) from by
                    rw [addP_snoc, if_pos rfl]
                    have : (R ++ [(q1, q2)]).set N (q1, q2 + p2) = R ++ [(q1, q2 + p2)] := by rw [← HNR.out]; simp
                    rw [← this]; exact o5)
                  have HL5 := Lib.hid (HKP.out _ _ 0 HL3.out gr5)
                  have HB5 := Lib.hid (HB3.out.grown gr5 HB3.out.size (fun k hk => by cases hk; exact hbg))
                  clear o5 gr5 e1 e2 e3 e4 e5 e7 x1
                  go_wp2
                  go_roundg (gk - 1)
                  case measure => have := HM.out; omega
                  case rel => exact ⟨m + 1, by have := HM.out; omega, by go_num, by rw [HUP.out]; exact HO5.out, HL5.out, HNEm.out, HB5.out⟩
                · have he' : (q1 == p1) = false := by simp [he]
                  have hrl : R.length ≤ 1000000 := by have := HNR.out; omega
                  replace HUP := Lib.hid (show addsP U (uptoP (partI tm (tm - tk) p) (m + 1)) = R ++ [(q1, q2), (p1, p2)] from by rw [HUP.out, addP_snoc, if_neg (by simpa using he), List.append_assoc]; rfl)
                  clear he
                  go_wp2_with fail
                  go_quiet (fail)
                  clear e1 e2 e3 e4 e5 e6 e7 g0 g1 gf
                  have l0 := HL0.out.1
                  have l1 := HL0.out.2
                  go_wp2_with (at_builtin; refine wpList_app_at elemRP encG_len encG_one rfl _ _ rfl _ _ rfl rfl ((HOVm.out.drewN nq).alloc _) (new_rpartM (p := p1) (q := p2) (by simp)) ?q1 ?q2 ?_)
                  case q1 => simp; omega
                  case q2 => have := HBm.out.size; simp; omega
                  intro v6 w6 o6 g6 at6
                  have HO6 := Lib.hid o6
                  have HL6 := Lib.hid (HKP.out _ _ 0 ((HOLm.out.drewN nq).alloc _) g6)
                  have HN6 := Lib.hid (show ∀ g, (Value.slice (some ⟨lb, lo2, none⟩) M cl).ownBlock = some g → v6.ownBlock ≠ some g from fun g hg e => by
                    rcases at6 with h | h
                    · exact HNEm.out g hg (h ▸ e)
                    · rw [h] at e
                      have h1 := HLB.out g hg
                      have h2 := Option.some.inj e
                      (try simp at h2)
                      omega)
                  have HB6 := Lib.hid (((below_drewN HBm.out nq).alloc HBm.out.size (.cells #[.int .i64 p1, .int .i64 p2] 90)).grown g6 (by have := HBm.out.size; simp; omega) HOB.out)
                  clear o6 g6 at6
                  go_wp2
                  go_roundg (gk - 1)
                  case measure => have := HM.out; omega
                  case rel => exact ⟨m + 1, by have := HM.out; omega, by go_num, by rw [HUP.out]; exact HO6.out, HL6.out, HN6.out, HB6.out⟩
            · obtain rfl : M = m := by have := HM.out; omega
              go_wp2
              go_roundg (n - (j + 1))
              case measure => have := HJ.out; omega
              case rel => exact ⟨j + 1, by have := HJ.out; omega, by go_num, by rw [HST2.out, HSL.out]; exact HOVm.out, HBm.out⟩
      · have d1 : decide (t.cpu = (c : Int)) = false := by simp [hcp]
        have d2 : (t.cpu != (c : Int)) = true := by simp [hcp]
        have HST2 := Lib.hid (show usedAt gs r c (o.take (j + 1)) = usedAt gs r c (o.take j) from by rw [HST.out]; unfold useStep; rw [if_neg (fun h => hcp h.1)])
        clear hcp
        go_wp2_with fail
        go_quiet (fail)
        go_wp2
        go_roundg (gk - 1)
        case measure => have := HJ.out; omega
        case rel => exact ⟨j + 1, by have := HJ.out; omega, by go_num, by rw [HST2.out]; exact HOV.out, below_drewN HB.out _⟩
    · obtain rfl : n = j := by have := HJ.out; omega
      have HF := Lib.hid HOV.out
      rw [← HN.out, List.take_length] at HF
      go_wp2
      go_ret
      exact ⟨_, rfl, HF.out.base_le (by have := HB0.out.size; exact this), by rw [HXS.out]; exact HB0.out.trans (HB.out.mono (by have := HB0.out.size; have := HXS.out; omega))⟩
end Go.Proofs.YtaplangfppohdaaDoor
