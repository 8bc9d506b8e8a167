/- package seq: Of. -/
import Derived.Test.YtofjgcbjpmgkdaaSo
import Derived.Deep.DeepCutAuto
import Derived.OwnWalk
set_option linter.unusedVariables false
set_option linter.unusedSimpArgs false
set_option linter.unusedSectionVars false
namespace Go.Proofs.Ytofjgcbjpmgkdaa
open Go.RowKit Go.Shelf

theorem OV.ne {α β : Type} {enc : α → List Value} {enc' : β → List Value} {k k' : Nat} {e e' : TypeId} {base base' : Nat} {w : World} {v v' : Value} {xs : List α} {ys : List β}
    (h : OV enc k e base w v xs) (h' : OV enc' k' e' base' w v' ys) (hne : e ≠ e') : v.ownBlock = none ∨ v.ownBlock ≠ v'.ownBlock := by
  rcases h.2 with ⟨rfl, _⟩ | ⟨g, cap, cur, rfl, _, hg, _⟩
  · exact .inl rfl
  · rcases h'.2 with ⟨rfl, _⟩ | ⟨g', cap', cur', rfl, _, hg', _⟩
    · right; simp [Value.ownBlock]
    · right
      intro he
      obtain rfl : g = g' := by simpa [Value.ownBlock] using he
      rw [hg] at hg'
      simp at hg'
      exact hne hg'.2
theorem ofS_le (ns : List Int) (j : Nat) (n : Int) (h : (srtI ns)[j]? = some n) (h' : ((srtI ns).take j).all okN = true) (h0 : okN n = true) : (ofS ((srtI ns).take j)).last ≤ n := by
  have hok := ofS_pre ns j h'
  unfold okN at h0
  rw [decide_eq_true_eq] at h0
  by_cases hl : (ofS ((srtI ns).take j)).last = 0
  · omega
  · have hm := hok.lastM hl
    have hp := (srt_pw ns).sublist (List.take_sublist (j + 1) _)
    rw [List.take_add_one, h, Option.toList_some] at hp
    exact (List.pairwise_append.1 hp).2.2 _ hm n (by simp)
theorem ret_tri {a b : Value} {c d : Int} (h : c = d) : Ending.returned (.tuple #[a, b, .int .i64 c]) = .returned (.tuple #[a, b, .int .i64 d]) := by rw [h]

set_option maxRecDepth 100000 in
set_option maxHeartbeats 2000000 in
theorem of_ok (w : World) (v : Value) (ns : List Int) (hv : EV encI 1 w v ns) (hlen : ns.length ≤ 100000000) :
    Calls Try.prog 23 #[v] w fun e w' => ∃ a b, e = .returned (.tuple #[a, b, .int .i64 (ofE ns)]) ∧ OV encP 2 35 w.heap.size w' a (ofL ns) ∧ OV encI 1 3 w.heap.size w' b (ofT ns) ∧ Below w.heap.size w w' := by
  have hL : ofE ns ≠ 0 → ofL ns = [] := fun h => by unfold ofL; rw [if_neg h]
  have hT : ofE ns ≠ 0 → ofT ns = [] := fun h => by unfold ofT; rw [if_neg h]
  have hL0 : ofE ns = 0 → ofL ns = (ofS (srtI ns)).set := fun h => by unfold ofL; rw [if_pos h]
  have hT0 : ofE ns = 0 → ofT ns = (ofS (srtI ns)).tw := fun h => by unfold ofT; rw [if_pos h]
  by_cases h5 : 65536 < ns.length
  · have hE : ofE ns = 5 := by unfold ofE; rw [if_pos h5]
    rw [hE] at hL hT ⊢
    rw [hL (by simp), hT (by simp)]
    obtain ⟨A, c, rfl⟩ := hv.shape
    have d5 : decide ((65536 : Int) < (ns.length : Int)) = true := by rw [decide_eq_true_eq]; omega
    clear hL hT hL0 hT0 hE hv
    go_enter Try.func23, Try.ntmps23
    go_wp2
    go_ret3
    exact ⟨_, _, rfl, OV.nil _ _, OV.nil _ _, Below.refl _ _⟩
  · have hE : ofE ns = if (srtI ns).all okN then 0 else 2 := by unfold ofE; rw [if_neg h5, srt_all]
    have hxl : (srtI ns).length = ns.length := srtI_len ns
    have hpre := fun j h => ofS_pre ns j h
    have hle := fun j n h h' h0 => ofS_le ns j n h h' h0
    obtain ⟨A, c, rfl⟩ := hv.shape
    have VO := Lib.hid (values_ok w A ns.length c)
    have SO := Lib.hid (sorted_vals w A ns.length c ns hv (by omega))
    have d5 : decide ((65536 : Int) < (ns.length : Int)) = false := by rw [decide_eq_false_iff_not]; omega
    generalize ofE ns = oe at *
    generalize ofL ns = ol at *
    generalize ofT ns = ot at *
    generalize srtI ns = xs at *
    have H5 := Lib.hid (show ns.length ≤ 65536 from by omega)
    generalize ns.length = N at *
    have HL := Lib.hid hL
    have HT := Lib.hid hT
    have HL0 := Lib.hid hL0
    have HT0 := Lib.hid hT0
    have HE := Lib.hid hE
    have HN := Lib.hid hxl
    have HP := Lib.hid hpre
    have HLE := hle
    clear hL hT hL0 hT0 hE hv hxl hpre hlen h5 hle
    go_enter Try.func23, Try.ntmps23
    go_wp2_with fail
    refine VO.out.mono ?_
    rintro e w1 ⟨rfl, rfl⟩
    go_wp2_with fail
    refine SO.out.mono ?_
    rintro e w2 ⟨r, rfl, o2, b2⟩
    have rev := o2.ev encI_len
    obtain ⟨A2, c2, he⟩ := rev.shape
    rw [HN.out] at he
    subst he
    have B2 := Lib.hid b2
    have sz2 := b2.size
    have RE := Lib.hid rev
    clear VO SO o2 b2 rev d5
    go_wp2_with fail
    go_loopg [5, 6, 7, 8, 10, 18, 22, 29, 43] N (fun k s t la ag _ i _ _ _ wr => ∃ j : Nat, j + k = N ∧ i = .int .i64 j ∧ la = .int .i64 (ofS (xs.take j)).last ∧ ag = .int .i64 (ofS (xs.take j)).ag ∧
      OV encP 2 35 w2.heap.size wr s (ofS (xs.take j)).set ∧ OV encI 1 3 w2.heap.size wr t (ofS (xs.take j)).tw ∧ Below w2.heap.size w2 wr ∧ (xs.take j).all okN = true)
    case atStart => exact ⟨0, by omega, rfl, rfl, rfl, OV.nil _ _, OV.nil _ _, Below.refl _ _, by simp⟩
    case round =>
      obtain ⟨j, hj, rfl, rfl, rfl, os, ot', hb, ht⟩ := hrel
      have HJ := Lib.hid hj
      have hok := HP.out j ht
      have hszr := hb.size
      by_cases hlt : j < N
      · obtain ⟨b, off, c', hvv, hcc, rr⟩ := (RE.out.below hb).row (by rw [HN.out]; omega)
        simp only [Value.slice.injEq] at hvv
        obtain ⟨rfl, -, rfl⟩ := hvv
        obtain ⟨n, hx, cx⟩ := rr.get1 (i := j) (by rw [HN.out]; exact hlt)
        have HX := Lib.hid hx
        have HB := Lib.hid hb
        have HT' := Lib.hid ht
        have HST := Lib.hid (ofS_take hx)
        have h1l : (xs.take j).length ≤ j := List.length_take_le _ _
        have hlo := hok.lo
        have hhi := hok.hi
        have hle : j ≤ N ∧ (okN n = true → (ofS (xs.take j)).last ≤ n) := ⟨by omega, fun h => HLE j n hx ht h⟩
        have hcan := hok.can
        have hsl := hok.slen
        have htl := hok.tlen
        have hend := hok.e
        clear hx hj ht rr hb hok
        have bad : okN n = false → oe = 2 := fun h => by
          rw [HE.out, if_neg]
          intro h'
          have := List.all_eq_true.1 h' _ (List.mem_of_getElem? HX.out)
          rw [h] at this; cases this
        have HN5 := H5.out
        cases hb : okN n with
        | false =>
          have E := Lib.hid (bad hb)
          have L0 := Lib.hid (HL.out (by rw [E.out]; simp))
          have T0 := Lib.hid (HT.out (by rw [E.out]; simp))
          have bw : Below w.heap.size w wr := B2.out.trans (HB.out.mono sz2)
          have BW := Lib.hid bw
          unfold okN at hb
          rw [decide_eq_false_iff_not] at hb
          generalize ofS (xs.take j) = q at *
          clear bad bw
          by_cases k1 : n < 1
          · have d1 : decide (n < 1) = true := by rw [decide_eq_true_eq]; exact k1
            go_wp2
            go_ret3
            exact ⟨_, _, ret_tri E.out.symm, by rw [L0.out]; exact OV.nil _ _, by rw [T0.out]; exact OV.nil _ _, BW.out⟩
          · have d1 : decide (n < 1) = false := by rw [decide_eq_false_iff_not]; exact k1
            have d2 : decide (281474976710656 < n) = true := by rw [decide_eq_true_eq]; omega
            go_wp2
            go_ret3
            exact ⟨_, _, ret_tri E.out.symm, by rw [L0.out]; exact OV.nil _ _, by rw [T0.out]; exact OV.nil _ _, BW.out⟩
        | true =>
          have HT2 := Lib.hid (all_take_step HT'.out HX.out hb)
          have hle2 := hle.2 hb
          unfold okN at hb
          rw [decide_eq_true_eq] at hb
          have d1 : decide (n < 1) = false := by rw [decide_eq_false_iff_not]; omega
          have d2 : decide (281474976710656 < n) = false := by rw [decide_eq_false_iff_not]; omega
          have OS := Lib.hid os
          have OT := Lib.hid ot'
          generalize ofS (xs.take j) = q at *
          obtain ⟨qs, qt, ql, qa⟩ := q
          dsimp only at *
          clear os ot' hle bad
          by_cases k1 : n = ql
          · by_cases k2 : n = qa
            · have d3 : (n == ql) = true := by simp [k1]
              have d4 : (n != qa) = false := by simp [k2]
              have d5 : (n != ql) = false := by simp [k1]
              have E := Lib.hid (show ofS (xs.take (j + 1)) = ⟨qs, qt, n, qa⟩ from by rw [HST.out]; unfold Os.st; rw [if_pos k1, if_neg (fun x => x.2 k2), if_neg (fun x => x.2 k2)])
              have K1 := Lib.hid k1
              clear k1 k2
              go_wp2
              go_roundg (gk - 1)
              case measure => have := HJ.out; omega
              case rel => exact ⟨j + 1, by have := HJ.out; omega, by go_num, by rw [E.out, K1.out], by rw [E.out], by rw [E.out]; exact OS.out, by rw [E.out]; exact OT.out, HB.out, HT2.out⟩
            · have d3 : (n == ql) = true := by simp [k1]
              have d4 : (n != qa) = true := by simp [k2]
              have d5 : (n != ql) = false := by simp [k1]
              have E := Lib.hid (show ofS (xs.take (j + 1)) = ⟨qs, qt ++ [n], n, n⟩ from by rw [HST.out]; unfold Os.st; rw [if_pos k1, if_pos ⟨k1, k2⟩, if_pos ⟨k1, k2⟩])
              have K1 := Lib.hid k1
              clear k1 k2
              go_wp2_with (at_builtin; refine wpList_app elemI encI_len encI_one rfl _ _ rfl _ _ rfl rfl (OT.out.alloc _) (new_one (z := n)) ?q1 ?q2 ?_)
              case q1 => simp; omega
              case q2 => (try simp); omega
              intro v' x2 o3 g2
              have b3 : Below w2.heap.size w2 x2 := (HB.out.alloc hszr _).grown g2 (by simp; omega) (fun k hk => (OT.out.block k hk).1)
              have s3 := (OS.out.alloc (Obj.cells #[.int .i64 n] 3)).keep g2 (OS.out.ne OT.out (by decide))
              have B3 := Lib.hid b3
              clear g2 b3
              go_wp2
              go_roundg (gk - 1)
              case measure => have := HJ.out; omega
              case rel => exact ⟨j + 1, by have := HJ.out; omega, by go_num, by rw [E.out, K1.out], by rw [E.out], by rw [E.out]; exact s3, by rw [E.out]; exact o3, B3.out, HT2.out⟩
          · have d3 : (n == ql) = false := by simp [k1]
            have d5 : (n != ql) = true := by simp [k1]
            have E := Lib.hid (show ofS (xs.take (j + 1)) = ⟨addR qs (n, 1), qt, n, qa⟩ from by rw [HST.out]; unfold Os.st; rw [if_neg k1, if_neg (fun x => k1 x.1), if_neg (fun x => k1 x.1)])
            have AD := Lib.hid (add_ok wr _ qs n 1 w2.heap.size OS.out hcan (by omega) hszr (by omega) (by omega) (by omega) (by omega))
            clear k1
            go_wp2_with fail
            refine AD.out.mono ?_
            rintro e x2 ⟨v', rfl, o3, m3⟩
            have t3 := OT.out.mod m3 (fun g hg hg' => (OT.out.ne OS.out (by decide)).elim (fun h => by rw [h] at hg; cases hg) (fun h => h (hg.trans hg'.symm)))
            have b3 := HB.out.trans (m3.below (fun k hk hk' => by have := (OS.out.block k hk').1; omega) hszr)
            have B3 := Lib.hid b3
            clear m3 b3 AD
            go_wp2
            go_roundg (gk - 1)
            case measure => have := HJ.out; omega
            case rel => exact ⟨j + 1, by have := HJ.out; omega, by go_num, by rw [E.out], by rw [E.out], by rw [E.out]; exact o3, by rw [E.out]; exact t3, B3.out, HT2.out⟩
      · obtain rfl : j = N := by omega
        rw [List.take_of_length_le (by rw [HN.out]; exact Nat.le_refl _)] at os ot' ht
        have E := Lib.hid (show oe = 0 from by rw [HE.out, if_pos ht])
        have L0 := Lib.hid (HL0.out E.out)
        have T0 := Lib.hid (HT0.out E.out)
        have BW := Lib.hid (B2.out.trans (hb.mono sz2))
        have os := os.base_le sz2
        have ot' := ot'.base_le sz2
        clear hok hb ht
        go_wp2
        go_ret3
        exact ⟨_, _, ret_tri E.out.symm, by rw [L0.out]; exact os, by rw [T0.out]; exact ot', BW.out⟩
end Go.Proofs.Ytofjgcbjpmgkdaa
