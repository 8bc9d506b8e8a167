/- The reference: Of. -/
import Derived.Test.YtofjgcbjpmgkdaaSq
import Derived.Deep.CutBlock
set_option linter.unusedVariables false
set_option linter.unusedSimpArgs false
set_option linter.unusedSectionVars false
namespace Go.Proofs.Ytofjgcbjpmgkdaa
open Go.RowKit Go.Shelf

set_option maxRecDepth 100000 in
set_option maxHeartbeats 4000000 in
theorem rof_ok (w : World) (v : Value) (ns : List Int) (hv : EV encI 1 w v ns) (hlen : ns.length ≤ 100000000) :
    Calls Try.prog 46 #[v] w fun e w' => ∃ a b, e = .returned (.tuple #[a, b, .int .i64 (ofE ns)]) ∧ OV encP 2 61 w.heap.size w' a (ofL ns) ∧ OV encI 1 3 w.heap.size w' b (ofT ns) ∧ Below w.heap.size w w' := by
  have hL : ofE ns ≠ 0 → ofL ns = [] := fun h => by unfold ofL; rw [if_neg h]
  have hT : ofE ns ≠ 0 → ofT ns = [] := fun h => by unfold ofT; rw [if_neg h]
  obtain ⟨A, c, rfl⟩ := hv.shape
  by_cases h5 : 65536 < ns.length
  · have hE : ofE ns = 5 := by unfold ofE; rw [if_pos h5]
    rw [hE] at hL hT ⊢
    rw [hL (by simp), hT (by simp)]
    have d5 : decide ((65536 : Int) < (ns.length : Int)) = true := by rw [decide_eq_true_eq]; omega
    clear hL hT hE hv
    go_enter Try.func46, Try.ntmps46
    go_wp2
    go_ret3
    exact ⟨_, _, rfl, OV.nil _ _, OV.nil _ _, Below.refl _ _⟩
  · have hE : ns.all okN = false → ofE ns = 2 := fun h => by unfold ofE; rw [if_neg h5, h]; rfl
    have d5 : decide ((65536 : Int) < (ns.length : Int)) = false := by rw [decide_eq_false_iff_not]; omega
    have DN := Lib.hid (fun (at_ : Int) (out : List (Int × Int)) (tw : List Int) (h : Ro ns at_ out tw) (hk : ns.all okN = true) (hm : ¬ minH at_ ns ≤ 281474976710656) => h.done (by omega) hk hm)
    have h5' : ns.length ≤ 65536 := by omega
    generalize ofE ns = oe at *
    generalize ofL ns = ol at *
    generalize ofT ns = ot at *
    have HV := Lib.hid hv
    have HL := Lib.hid hL
    have HT := Lib.hid hT
    have HE := Lib.hid hE
    obtain ⟨N, hN⟩ : ∃ n, ns.length = n := ⟨_, rfl⟩
    rw [hN] at h5' d5 HV ⊢
    have HN := Lib.hid hN
    clear hL hT hE hv h5 hlen hN
    go_enter Try.func46, Try.ntmps46
    go_wp2_with fail
    go_loopg [5] N (fun k i wr => ∃ j : Nat, j + k = N ∧ i = .int .i64 j ∧ w = wr ∧ (ns.take j).all okN = true)
    case atStart => exact ⟨0, by omega, rfl, rfl, by simp⟩
    case round =>
      obtain ⟨j, hj, rfl, rfl, ht⟩ := hrel
      have HJ := Lib.hid hj
      have HTT := Lib.hid ht
      clear hj ht d5
      by_cases hlt : j < N
      · obtain ⟨bb, ob, cb, hvb, -, rb⟩ := HV.out.row (by rw [HN.out]; omega)
        simp only [Value.slice.injEq] at hvb
        obtain ⟨rfl, -, rfl⟩ := hvb
        obtain ⟨x, hx, cx⟩ := rb.get1 (i := j) (by rw [HN.out]; exact hlt)
        have HX := Lib.hid hx
        clear hx rb
        have bad : okN x = false → oe = 2 := fun h => HE.out (by
          rw [Bool.eq_false_iff]
          intro h'
          have := List.all_eq_true.1 h' _ (List.mem_of_getElem? HX.out)
          rw [h] at this; cases this)
        cases hb : okN x with
        | false =>
          have E := Lib.hid (bad hb)
          have L0 := Lib.hid (HL.out (by rw [E.out]; simp))
          have T0 := Lib.hid (HT.out (by rw [E.out]; simp))
          unfold okN at hb
          rw [decide_eq_false_iff_not] at hb
          clear bad
          by_cases k1 : x < 1
          · have d1 : decide (x < 1) = true := by rw [decide_eq_true_eq]; exact k1
            go_wp2
            go_ret3
            exact ⟨_, _, ret_tri E.out.symm, by rw [L0.out]; exact OV.nil _ _, by rw [T0.out]; exact OV.nil _ _, Below.refl _ _⟩
          · have d1 : decide (x < 1) = false := by rw [decide_eq_false_iff_not]; exact k1
            have d2 : decide (281474976710656 < x) = true := by rw [decide_eq_true_eq]; omega
            go_wp2
            go_ret3
            exact ⟨_, _, ret_tri E.out.symm, by rw [L0.out]; exact OV.nil _ _, by rw [T0.out]; exact OV.nil _ _, Below.refl _ _⟩
        | true =>
          have HT2 := Lib.hid (all_take_step HTT.out HX.out hb)
          unfold okN at hb
          rw [decide_eq_true_eq] at hb
          have d1 : decide (x < 1) = false := by rw [decide_eq_false_iff_not]; omega
          have d2 : decide (281474976710656 < x) = false := by rw [decide_eq_false_iff_not]; omega
          clear bad
          go_wp2
          go_roundg (gk - 1)
          case measure => have := HJ.out; omega
          case rel => exact ⟨j + 1, by have := HJ.out; omega, by go_num, rfl, HT2.out⟩
      · have ha : ns.all okN = true := by have := HTT.out; rwa [List.take_of_length_le (by rw [HN.out]; omega)] at this
        have HALL := Lib.hid ha
        have HOK := Lib.hid (List.all_eq_true.1 ha)
        clear ha HTT HJ HE
        go_wp2_with fail
        go_loopg [6, 7, 8, 9, 10, 11] (ns.filter (fun x => decide (0 < x))).length (fun k vo vt la _ _ _ wr => ∃ (out : List (Int × Int)) (tw : List Int) (last : Int), la = .int .i64 last ∧ Ro ns last out tw ∧ k = (ns.filter (fun x => decide (last < x))).length ∧ (out.length + k ≤ 65536 ∧ tw.length + k ≤ 65536) ∧ 0 ≤ last ∧
          OV encP 2 61 w.heap.size wr vo out ∧ OV encI 1 3 w.heap.size wr vt tw ∧ Below w.heap.size w wr)
        case atStart =>
          have h0 := List.length_filter_le (fun x => decide ((0 : Int) < x)) ns
          exact ⟨[], [], 0, rfl, ro0 HOK.out, rfl, by have := HN.out; simp; omega, by omega, OV.nil _ _, OV.nil _ _, Below.refl _ _⟩
        case round =>
          obtain ⟨out, tw, last, rfl, hi, hk, hln, hl0, ho, ht, hb⟩ := hrel
          have HI := Lib.hid hi
          have HK := Lib.hid hk
          have hol : out.length ≤ 65536 := by omega
          have htl : tw.length ≤ 65536 := by omega
          have HLN := Lib.hid hln
          have HO := Lib.hid ho
          have HT := Lib.hid ht
          have HB := Lib.hid hb
          have hszn := hb.size
          clear hi hk hln ho hb ht
          go_wp2_with fail
          go_loopg [9, 10, 11] N (fun k nx oft i wq => ∃ j : Nat, j + k = N ∧ i = .int .i64 j ∧ nx = .int .i64 (minH last (ns.take j)) ∧ oft = .int .i64 (((ns.take j).count (minH last (ns.take j)) : Nat) : Int) ∧ wr = wq)
          case atStart => exact ⟨0, by omega, rfl, rfl, rfl, rfl⟩
          case round =>
            obtain ⟨j, hj, rfl, rfl, rfl, rfl⟩ := hrel
            have HJ := Lib.hid hj
            clear hj
            by_cases hlt : j < N
            · obtain ⟨bb, ob, cb, hvb, -, rb⟩ := (HV.out.below HB.out).row (by rw [HN.out]; omega)
              simp only [Value.slice.injEq] at hvb
              obtain ⟨rfl, -, rfl⟩ := hvb
              obtain ⟨x, hx, cx⟩ := rb.get1 (i := j) (by rw [HN.out]; exact hlt)
              have hxo := HOK.out x (List.mem_of_getElem? hx)
              unfold okN at hxo
              rw [decide_eq_true_eq] at hxo
              have HT2 := Lib.hid (show ns.take (j + 1) = ns.take j ++ [x] from by rw [List.take_add_one, hx, Option.toList_some])
              have HM := Lib.hid (minH_cnt (last := last) (pre := ns.take j) hxo.2)
              have hcl : (ns.take j).count (minH last (ns.take j)) ≤ j := Nat.le_trans List.count_le_length (List.length_take_le _ _)
              clear hx rb
              rw [← HT2.out] at HM
              generalize hcc : (ns.take j).count (minH last (ns.take j)) = cc at HM hcl ⊢
              clear hcc
              generalize minH last (ns.take j) = m at HM ⊢
              by_cases k1 : last < x
              · have d1 : decide (last < x) = true := by rw [decide_eq_true_eq]; exact k1
                by_cases k2 : x < m
                · have E := Lib.hid (HM.out.1 ⟨k1, k2⟩)
                  have d2 : decide (x < m) = true := by rw [decide_eq_true_eq]; exact k2
                  go_wp2
                  go_roundg (gk - 1)
                  case measure => have := HJ.out; omega
                  case rel => exact ⟨j + 1, by have := HJ.out; omega, by go_num, by rw [E.out.1], by rw [E.out.1, E.out.2]; rfl, rfl⟩
                · have d2 : decide (x < m) = false := by rw [decide_eq_false_iff_not]; exact k2
                  by_cases k3 : x = m
                  · have E := Lib.hid (HM.out.2.1 (fun h => k2 h.2) k3)
                    have d3 : (x == m) = true := by simp [k3]
                    clear k3
                    go_wp2
                    go_roundg (gk - 1)
                    case measure => have := HJ.out; omega
                    case rel => exact ⟨j + 1, by have := HJ.out; omega, by go_num, by rw [E.out.1], by rw [E.out.1, E.out.2]; go_num, rfl⟩
                  · have E := Lib.hid (HM.out.2.2 (fun h => k2 h.2) k3)
                    have d3 : (x == m) = false := by simp [k3]
                    clear k3
                    go_wp2
                    go_roundg (gk - 1)
                    case measure => have := HJ.out; omega
                    case rel => exact ⟨j + 1, by have := HJ.out; omega, by go_num, by rw [E.out.1], by rw [E.out.1, E.out.2], rfl⟩
              · have d1 : decide (last < x) = false := by rw [decide_eq_false_iff_not]; exact k1
                by_cases k3 : x = m
                · have E := Lib.hid (HM.out.2.1 (fun h => k1 h.1) k3)
                  have d3 : (x == m) = true := by simp [k3]
                  clear k3
                  go_wp2
                  go_roundg (gk - 1)
                  case measure => have := HJ.out; omega
                  case rel => exact ⟨j + 1, by have := HJ.out; omega, by go_num, by rw [E.out.1], by rw [E.out.1, E.out.2]; go_num, rfl⟩
                · have E := Lib.hid (HM.out.2.2 (fun h => k1 h.1) k3)
                  have d3 : (x == m) = false := by simp [k3]
                  clear k3
                  go_wp2
                  go_roundg (gk - 1)
                  case measure => have := HJ.out; omega
                  case rel => exact ⟨j + 1, by have := HJ.out; omega, by go_num, by rw [E.out.1], by rw [E.out.1, E.out.2], rfl⟩
            · have ETK := Lib.hid (show ns.take j = ns from by rw [List.take_of_length_le (by rw [HN.out]; omega)])
              rw [ETK.out]
              obtain ⟨cc, hcc⟩ : ∃ cc, ns.count (minH last ns) = cc := ⟨_, rfl⟩
              have hccl : cc ≤ N := by rw [← hcc, ← HN.out]; exact List.count_le_length
              rw [hcc]
              obtain ⟨m, hm⟩ : ∃ m, minH last ns = m := ⟨_, rfl⟩
              rw [hm] at hcc ⊢
              have hmh : m ≤ 281474976710657 := by rw [← hm]; exact (minH_spec last ns).2.2
              by_cases k1 : 281474976710656 < m
              · have d1 : decide (281474976710656 < m) = true := by rw [decide_eq_true_eq]; exact k1
                have R := Lib.hid (DN.out last out tw HI.out HALL.out (by omega))
                clear hcc hm
                go_wp2
                go_ret3
                exact ⟨_, _, ret_tri R.out.1.symm, by rw [← R.out.2.1]; exact HO.out, by rw [← R.out.2.2]; exact HT.out, HB.out⟩
              · have d1 : decide (281474976710656 < m) = false := by rw [decide_eq_false_iff_not]; exact k1
                have st := HI.out.step hl0 HOK.out (by omega)
                rw [hm, hcc] at st
                have SR0 := Lib.hid st.1
                have SM := Lib.hid st.2
                have hlm := st.2.1
                have HF := Lib.hid (filt_lt st.2.1 st.2.2)
                clear st hcc hm
                go_upto_if 70 with fail
                go_cut [7] (fun vt wx => OV encP 2 61 w.heap.size wx u6 out ∧ OV encI 1 3 w.heap.size wx vt (if 1 < cc then tw ++ [m] else tw) ∧ Below w.heap.size w wx)
                case first =>
                  by_cases k2 : 1 < cc
                  · have d2 : decide (1 < cc) = true := by rw [decide_eq_true_eq]; exact k2
                    have d2' : decide ((1 : Int) < (cc : Int)) = true := by rw [decide_eq_true_eq]; omega
                    go_wp2_with (at_builtin; refine wpList_app elemI encI_len encI_one rfl (.tmp 71) (.tmp 73) rfl _ _ rfl rfl (HT.out.alloc _) (new_one (z := m)) ?q1 ?q2 ?_)
                    case q1 => first | omega | (simp; omega)
                    case q2 => (try simp); omega
                    intro v' x2 o3 g2
                    have b3 := ((HB.out.alloc hszn _).grown g2 (by simp; omega) (fun k hk => (HT.out.block k hk).1))
                    have s3 := (HO.out.alloc (Obj.cells #[.int .i64 m] 3)).keep g2 (HO.out.ne HT.out (by decide))
                    have X := Lib.hid (And.intro s3 (And.intro (show OV encI 1 3 w.heap.size x2 v' (if 1 < cc then tw ++ [m] else tw) from by rw [if_pos k2]; exact o3) b3))
                    clear g2 b3 s3 o3
                    go_wp2
                    go_meet
                    exact X.out
                  · have d2 : decide (1 < cc) = false := by rw [decide_eq_false_iff_not]; exact k2
                    have d2' : decide ((1 : Int) < (cc : Int)) = false := by rw [decide_eq_false_iff_not]; omega
                    have X := Lib.hid (And.intro HO.out (And.intro (show OV encI 1 3 w.heap.size wr u7 (if 1 < cc then tw ++ [m] else tw) from by rw [if_neg k2]; exact HT.out) HB.out))
                    go_wp2
                    go_meet
                    exact X.out
                case rest =>
                  have HQ := Lib.hid hcut
                  obtain ⟨tw2, htw2⟩ : ∃ t, (if 1 < cc then tw ++ [m] else tw) = t := ⟨_, rfl⟩
                  rw [htw2] at HQ SR0
                  have htl2 : tw2.length ≤ tw.length + 1 := by rw [← htw2]; split <;> simp
                  have SR := SR0
                  have HS := Lib.hid (addR_len out (m, 1))
                  clear hcut htw2 HO HT HB SR0
                  by_cases hmg : ∃ (l' : List (Int × Int)) (s : Int × Int), out = l' ++ [s] ∧ nxt s = m
                  · obtain ⟨l', s, rfl, heq⟩ := hmg
                    obtain ⟨k1, k2, k3⟩ := can_snoc.1 HI.out.can
                    obtain ⟨s1, s2⟩ := s
                    obtain ⟨k4, k5, k6, k7⟩ := rok_iff.1 k3
                    dsimp only at k4 k5 k6 k7
                    have hl : (l' ++ [(s1, s2)]).length = l'.length + 1 := by simp
                    obtain ⟨g, cap, hvv, hcap, hg1, hg2⟩ := HQ.out.1.row_form encP_len hl (by omega)
                    subst hvv
                    rw [hl] at hol
                    have r := (HQ.out.1.ev encP_len).row3 (by rw [hl]; omega)
                    obtain ⟨y0, y1⟩ := r.prs (get_last (l := l') (s := (s1, s2)))
                    dsimp only at y0 y1
                    rw [Nat.zero_add] at y0 y1
                    have fz : wc.frozen? ⟨g, l'.length * 2 + 1, none⟩ = false := HQ.out.1.frz hl _
                    obtain ⟨n, hn⟩ : ∃ n, l'.length = n := ⟨_, rfl⟩
                    have HN2 := Lib.hid hn
                    have HA := Lib.hid (addR_snoc (s1, s2) (m, 1) l')
                    rw [hn] at y0 y1 fz hol hl hcap HQ ⊢
                    have HL := Lib.hid hl
                    have d5 : decide ((0 : Int) < (n : Int) + 1) = true := by rw [decide_eq_true_eq]; omega
                    have e6 : IntKind.i64.wrap ((n : Int) + 1 - 1) = (n : Int) := by rw [show (n : Int) + 1 - 1 = (n : Int) by omega]; exact IntWalk.i64_in _ (by omega)
                    have e6' : IntKind.i64.wrap (n : Int) = (n : Int) := IntWalk.i64_in _ (by omega)
                    have e7 : (0 : Int) ≤ (n : Int) := by omega
                    have e9 : (n : Int) < (n : Int) + 1 := by omega
                    have e10 : IntKind.i64.wrap (s1 + s2) = s1 + s2 := IntWalk.i64_in _ (by omega)
                    clear k1 k2 k3 r hn hl
                    have heq : s1 + s2 = m := heq
                    have E := Lib.hid (show addR (l' ++ [(s1, s2)]) (m, 1) = l' ++ [(s1, s2 + 1)] from by rw [HA.out, if_pos (show nxt (s1, s2) = m from heq)])
                    have d6 : ((s1 + s2) == m) = true := by simp [heq]
                    have e11 : IntKind.i64.wrap (s2 + 1) = s2 + 1 := IntWalk.i64_in _ (by omega)
                    clear HA
                    go_wp2_with fail
                    go_quiet (fail)
                    have HQ := Lib.hid (show OV encP 2 61 w.heap.size (wc.drewN nq) _ _ ∧ OV encI 1 3 w.heap.size (wc.drewN nq) _ _ ∧ Below w.heap.size w (wc.drewN nq) from ⟨HQ.out.1, HQ.out.2.1, below_drewN HQ.out.2.2 _⟩)
                    have y1 : (wc.drewN nq).cell? ⟨g, n * 2 + 1, none⟩ = some (.int .i64 s2) := y1
                    have fz : (wc.drewN nq).frozen? ⟨g, n * 2 + 1, none⟩ = false := fz
                    generalize wc.drewN nq = wd at HQ y1 fz ⊢
                    obtain ⟨o5, g5⟩ := OV.setW HQ.out.1 HL.out (i := n) (p := s1) (q := s2) (by rw [← HN2.out]; exact get_last) (s2 + 1)
                    have O5 := Lib.hid (show OV encP 2 61 w.heap.size (wd.setCell ⟨g, n * 2 + 1, none⟩ (.int .i64 (s2 + 1))) (.slice (some ⟨g, 0, none⟩) (n + 1) cap) (addR (l' ++ [(s1, s2)]) (m, 1)) from by
                      rw [E.out, ← set_last l' (s1, s2) (s1, s2 + 1), HN2.out]; exact o5)
                    have T5 := Lib.hid (HQ.out.2.1.keep g5 (HQ.out.2.1.ne HQ.out.1 (by decide)))
                    have B5 := Lib.hid (HQ.out.2.2.setCell (p := ⟨g, n * 2 + 1, none⟩) hg1 (.int .i64 (s2 + 1)))
                    clear o5 g5 d5 d6
                    go_wp2_with fail
                    go_roundg (ns.filter (fun x => decide (m < x))).length
                    case measure => rw [HK.out]; exact filt_lt SM.out.1 SM.out.2
                    case rel => exact ⟨_, _, m, rfl, SR.out, rfl, by have := HLN.out; have := HK.out; have := HF.out; have := HL.out; rw [E.out]; simp at *; omega, by omega, O5.out, T5.out, B5.out⟩
                  · have E := Lib.hid (show addR out (m, 1) = out ++ [(m, 1)] from by
                      rcases List.eq_nil_or_concat out with rfl | ⟨l', s, rfl⟩
                      · rfl
                      · rw [List.concat_eq_append] at *
                        rw [addR_snoc, if_neg (fun h => hmg ⟨l', s, rfl, h⟩)])
                    have HM := Lib.hid hmg
                    clear hmg
                    rcases List.eq_nil_or_concat out with rfl | ⟨l', s, rfl⟩
                    · obtain ⟨A4, c4, rfl⟩ := (HQ.out.1.ev encP_len).shape
                      have d5 : decide ((0 : Int) < ((0 : Nat) : Int)) = false := by simp
                      go_wp2_with fail
                      go_quiet (fail)
                      have HQ := Lib.hid (show OV encP 2 61 w.heap.size (wc.drewN nq) _ _ ∧ OV encI 1 3 w.heap.size (wc.drewN nq) _ _ ∧ Below w.heap.size w (wc.drewN nq) from ⟨HQ.out.1, HQ.out.2.1, below_drewN HQ.out.2.2 _⟩)
                      generalize wc.drewN nq = wd at HQ ⊢
                      go_wp2_with (at_builtin; refine wpList_app elemQ encP_len encP_one rfl (.tmp 111) (.tmp 114) rfl _ _ rfl rfl (HQ.out.1.alloc _) (new_pair (p := m) (q := 1)) ?qa1 ?qa2 ?_)
                      case qa1 => simp
                      case qa2 => have := HQ.out.2.2.size; (try simp); omega
                      intro v1 w1 o1 g1
                      have O1 := Lib.hid o1
                      have T1 := Lib.hid ((HQ.out.2.1.alloc _).keep g1 (HQ.out.2.1.ne HQ.out.1 (by decide)))
                      have B1 := Lib.hid ((HQ.out.2.2.alloc HQ.out.2.2.size _).grown g1 (by have := HQ.out.2.2.size; simp; omega) (fun k hk => (HQ.out.1.block k hk).1))
                      clear g1 o1
                      go_wp2
                      go_roundg (ns.filter (fun x => decide (m < x))).length
                      case measure => rw [HK.out]; exact filt_lt SM.out.1 SM.out.2
                      case rel => exact ⟨_, _, m, rfl, SR.out, rfl, by have := HLN.out; have := HK.out; have := HF.out; have := HS.out; simp at *; omega, by omega, by simpa [addR] using O1.out, T1.out, B1.out⟩
                    · rw [List.concat_eq_append] at *
                      obtain ⟨k1, k2, k3⟩ := can_snoc.1 HI.out.can
                      obtain ⟨s1, s2⟩ := s
                      obtain ⟨k4, k5, k6, k7⟩ := rok_iff.1 k3
                      dsimp only at k4 k5 k6 k7
                      have hl : (l' ++ [(s1, s2)]).length = l'.length + 1 := by simp
                      obtain ⟨g, cap, hvv, hcap, hg1, hg2⟩ := HQ.out.1.row_form encP_len hl (by omega)
                      subst hvv
                      rw [hl] at hol
                      have r := (HQ.out.1.ev encP_len).row3 (by rw [hl]; omega)
                      obtain ⟨y0, y1⟩ := r.prs (get_last (l := l') (s := (s1, s2)))
                      dsimp only at y0 y1
                      rw [Nat.zero_add] at y0 y1
                      have fz : wc.frozen? ⟨g, l'.length * 2 + 1, none⟩ = false := HQ.out.1.frz hl _
                      obtain ⟨n, hn⟩ : ∃ n, l'.length = n := ⟨_, rfl⟩
                      have HN2 := Lib.hid hn
                      have HA := Lib.hid (addR_snoc (s1, s2) (m, 1) l')
                      rw [hn] at y0 y1 fz hol hl hcap HQ ⊢
                      have HL := Lib.hid hl
                      have d5 : decide ((0 : Int) < (n : Int) + 1) = true := by rw [decide_eq_true_eq]; omega
                      have e6 : IntKind.i64.wrap ((n : Int) + 1 - 1) = (n : Int) := by rw [show (n : Int) + 1 - 1 = (n : Int) by omega]; exact IntWalk.i64_in _ (by omega)
                      have e6' : IntKind.i64.wrap (n : Int) = (n : Int) := IntWalk.i64_in _ (by omega)
                      have e7 : (0 : Int) ≤ (n : Int) := by omega
                      have e9 : (n : Int) < (n : Int) + 1 := by omega
                      have e10 : IntKind.i64.wrap (s1 + s2) = s1 + s2 := IntWalk.i64_in _ (by omega)
                      clear k1 k2 k3 r hn hl
                      have heq : ¬ s1 + s2 = m := fun h => HM.out ⟨l', (s1, s2), rfl, h⟩
                      have d6 : ((s1 + s2) == m) = false := by simp [heq]
                      clear HA heq
                      go_wp2_with fail
                      go_quiet (fail)
                      have HQ := Lib.hid (show OV encP 2 61 w.heap.size (wc.drewN nq) _ _ ∧ OV encI 1 3 w.heap.size (wc.drewN nq) _ _ ∧ Below w.heap.size w (wc.drewN nq) from ⟨HQ.out.1, HQ.out.2.1, below_drewN HQ.out.2.2 _⟩)
                      clear e6 e6' e7 e9 e10 d5 d6 y0 y1 fz
                      generalize wc.drewN nq = wd at HQ ⊢
                      go_wp2_with (at_builtin; refine wpList_app elemQ encP_len encP_one rfl (.tmp 111) (.tmp 114) rfl _ _ rfl rfl (HQ.out.1.alloc _) (new_pair (p := m) (q := 1)) ?qb1 ?qb2 ?_)
                      case qb1 => rw [HL.out]; simp; omega
                      case qb2 => have := HQ.out.2.2.size; (try simp); omega
                      intro v1 w1 o1 g1
                      have O1 := Lib.hid o1
                      have T1 := Lib.hid ((HQ.out.2.1.alloc _).keep g1 (HQ.out.2.1.ne HQ.out.1 (by decide)))
                      have B1 := Lib.hid ((HQ.out.2.2.alloc HQ.out.2.2.size _).grown g1 (by have := HQ.out.2.2.size; simp; omega) (fun k hk => (HQ.out.1.block k hk).1))
                      clear g1 o1
                      go_wp2
                      go_roundg (ns.filter (fun x => decide (m < x))).length
                      case measure => rw [HK.out]; exact filt_lt SM.out.1 SM.out.2
                      case rel => exact ⟨_, _, m, rfl, SR.out, rfl, by have := HLN.out; have := HK.out; have := HF.out; have := HS.out; have := HL.out; simp at *; omega, by omega, by rw [E.out]; simpa using O1.out, T1.out, B1.out⟩
end Go.Proofs.Ytofjgcbjpmgkdaa
