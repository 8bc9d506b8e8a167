/- quota.Over: slices.DeleteFunc. -/
import Derived.Test.YtaplangfppohdaaDoorZ24
import Derived.Laws.CopyRow
import Derived.Laws.Tables
set_option linter.unusedVariables false
set_option linter.unusedSimpArgs false
set_option linter.unusedSectionVars false
namespace Go.Proofs.YtaplangfppohdaaDoor
open Go.RowKit Go.Shelf
attribute [local go_sem] Oper.semAt_some

theorem overL_eq (us : List Us) : overL us = us.filter fun u => !posD u := by
  unfold overL
  congr 1
  funext u
  unfold posD
  by_cases h : u.d ≤ 0
  · rw [decide_eq_true h, decide_eq_false (by omega)]; rfl
  · rw [decide_eq_false h, decide_eq_true (by omega)]; rfl
theorem List.take_flatMap_len {α : Type} {enc : α → List Value} {k : Nat} (hk : ∀ x, (enc x).length = k) : ∀ (cs : List α) (i : Nat), (cs.flatMap enc).take (i * k) = (cs.take i).flatMap enc
  | [], i => by simp
  | x :: r, 0 => by simp
  | x :: r, i + 1 => by
    rw [List.flatMap_cons, List.take_succ_cons, List.flatMap_cons, ← List.take_flatMap_len hk r i, Nat.add_mul, Nat.one_mul, Nat.add_comm, List.take_append, hk, List.take_of_length_le (by rw [hk]; omega), Nat.add_sub_cancel_left]
theorem zeroUse (w : World) : (zeroValue 50).run Tryd.prog w = .ok (.agg #[.int .i64 0, .int .i64 0, .int .i64 0, .int .i64 0, .int .i64 0]) w := by kernel_rfl
theorem clear_own {P : Program} {α : Type} {enc : α → List Value} {k base g n cap i c : Nat} {t e ty : TypeId} {w : World} {z : Value} {cs : List α} (hk : ∀ x, (enc x).length = k) (h : OV enc k e base w (.slice (some ⟨g, 0, none⟩) n cap) cs) (hn : cs.length = n) (hi : i < n)
    (ht : P.underlying t = some (.slice e)) (hz : (zeroValue e).run P w = .ok z w) (hzs : z.cells.size = k) (hz1 : ∀ v ∈ z.cells.toList, v.oneCell' = true) (hk0 : 0 < k) :
    ∃ w', (Builtin.clear_ #[t] ty #[.slice (some ⟨g, i * k, none⟩) (n - i) c]).run P w = .ok (.tuple #[]) w' ∧ OV enc k e base w' (.slice (some ⟨g, 0, none⟩) i cap) (cs.take i) ∧ w.grownBy w' (some g) := by
  rcases h.2 with ⟨h0, _⟩ | ⟨g', cap', cur, hv, hbg, hg, hnc, hcm, hcs, htake⟩
  · cases h0
  simp only [Value.slice.injEq, Option.some.injEq, Addr.mk.injEq, and_true, true_and] at hv
  obtain ⟨rfl, rfl, rfl⟩ := hv
  clear hn
  obtain ⟨vs, hvs⟩ : ∃ vs, (Builtin.zeroCells z.cells (cs.length - i)).toList = vs := ⟨_, rfl⟩
  have hvl : vs.length = (cs.length - i) * k := by rw [← hvs]; simp [Builtin.zeroCells, hzs]
  have hv1 : ∀ v ∈ vs, v.oneCell' = true := by
    intro v hv
    rw [← hvs] at hv
    simp only [Builtin.zeroCells, Array.toList_map, List.mem_map] at hv
    obtain ⟨q, _, rfl⟩ := hv
    have hq : q % z.cells.size < z.cells.size := Nat.mod_lt _ (by omega)
    rw [getElem!_pos z.cells (q % z.cells.size) hq]
    exact hz1 _ (by simp)
  have hsum : i * k + (cs.length - i) * k = cs.length * k := by rw [← Nat.add_mul]; congr 1; omega
  have hle : cs.length * k ≤ cap * k := Nat.mul_le_mul_right k hnc
  have hst := run_storeCells_at (P := P) g (i * k) e vs 0 cur w hg (by rw [hvl, hcs]; omega) hv1
  simp only [Nat.add_zero] at hst
  have hlt : (cs.take i).length = i := by simp; omega
  obtain ⟨nw, hnw⟩ : ∃ nw : Array Value, nw = (cur.toList.take (i * k) ++ vs ++ cur.toList.drop (i * k + vs.length)).toArray := ⟨_, rfl⟩
  rw [← hnw] at hst
  refine ⟨w.setRow g nw, ?_, ⟨?_, .inr ⟨g, cap, nw, by rw [hlt], hbg, setRow_heap w g cur nw e (0, 0) hg, by omega, hcm, ?_, ?_⟩⟩, ⟨rfl, rfl, rfl, by simp, fun j hj hne => setRow_other w g j nw (fun e => hne (by rw [e]))⟩⟩
  · obtain ⟨m, hm⟩ : ∃ m, cs.length - i = m + 1 := ⟨cs.length - i - 1, by omega⟩
    rw [hm] at hvs ⊢
    simp [Builtin.clear_, run_underlying ht, hz, hvs, hst]
  · rw [flat_len hk]
  · rw [hnw]; simp [hvl]; omega
  · rw [hnw, hlt]
    rw [List.append_assoc, List.take_append_of_le_length (by simp; omega), List.take_of_length_le (by simp; exact Nat.min_le_left _ _)]
    have h2 := congrArg (List.take (i * k)) htake
    rw [List.take_take, Nat.min_eq_left (by omega)] at h2
    rw [h2, List.take_flatMap_len hk]
set_option maxRecDepth 10000 in
set_option maxHeartbeats 1600000 in
theorem delU_ok (w : World) (base : Nat) (v : Value) (us : List Us) (h : OV encUs 5 50 base w v us) (hl : us.length ≤ 1000000000) (hbase : base ≤ w.heap.size) :
    Calls Tryd.prog 67 #[v, .func (.func 69) #[] #[]] w fun e w' => ∃ v', e = .returned v' ∧ OV encUs 5 50 base w' v' (overL us) ∧ Below base w w' := by
  have HI := Lib.hid (idxU_ok w v us (h.ev encUs_len) hl)
  have HO := Lib.hid h
  by_cases hall : ∀ u ∈ us, posD u = false
  · have HV := Lib.hid (show idxU us = -1 from by
      unfold idxU
      rw [if_neg]
      rw [List.findIdx_lt_length]
      rintro ⟨u, hu, hp⟩
      rw [hall u hu] at hp; cases hp)
    have HE := Lib.hid (show overL us = us from by rw [overL_eq, List.filter_eq_self]; intro u hu; rw [hall u hu]; rfl)
    rw [HV.out] at HI
    clear hall
    obtain ⟨A, c, rfl⟩ := (h.ev encUs_len).shape
    clear h
    go_enter Tryd.func67, Tryd.ntmps67
    go_wp2_with fail
    refine HI.out.mono ?_
    rintro e w1 ⟨rfl, b1⟩
    go_wp2
    go_ret
    exact ⟨_, rfl, by rw [HE.out]; exact HO.out.below b1, b1.mono hbase⟩
  · have hex : ∃ u ∈ us, posD u = true := by
      apply Classical.byContradiction
      intro hn
      exact hall (fun u hu => by cases hp : posD u with | false => rfl | true => exact absurd ⟨u, hu, hp⟩ hn)
    have hlt : us.findIdx posD < us.length := List.findIdx_lt_length.2 hex
    have HV := Lib.hid (show idxU us = ((us.findIdx posD : Nat) : Int) from by unfold idxU; rw [if_pos hlt])
    rw [HV.out] at HI
    obtain ⟨i0, hi0⟩ : ∃ i0, us.findIdx posD = i0 := ⟨_, rfl⟩
    rw [hi0] at HI hlt
    have HF := Lib.hid (show us.take i0 = (us.take (i0 + 1)).filter fun u => !posD u from by
      have hp : posD us[i0] = true := by have := List.findIdx_getElem (w := hi0 ▸ hlt) (p := posD) (xs := us); subst hi0; exact this
      rw [List.take_add_one, List.getElem?_eq_getElem hlt, List.filter_append]
      rw [Option.toList_some, show ([us[i0]].filter fun u => !posD u) = [] from by simp [hp], List.append_nil]
      symm
      rw [List.filter_eq_self]
      intro u hu
      obtain ⟨q, hq⟩ := List.getElem?_of_mem hu
      have hq0 : q < i0 := by have := (List.getElem?_eq_some_iff.1 hq).1; simp at this; omega
      rw [List.getElem?_take_of_lt hq0] at hq
      have h5 := List.not_of_lt_findIdx (p := posD) (xs := us) (i := q) (by omega)
      rw [List.getElem?_eq_getElem (by omega)] at hq
      rw [← Option.some.inj hq]
      simpa using h5)
    obtain ⟨n, hn⟩ : ∃ n, us.length = n := ⟨_, rfl⟩
    obtain ⟨g, cap, rfl, hcap, hbg, hgs⟩ := h.row_form encUs_len hn (by omega)
    have HN := Lib.hid hn
    rw [hn] at hl hlt
    clear h hall hex hi0 hn
    go_enter Tryd.func67, Tryd.ntmps67
    go_wp2_with fail
    refine HI.out.mono ?_
    rintro e w1 ⟨rfl, b1⟩
    have HB1 := Lib.hid b1
    have HO1 := Lib.hid (HO.out.below b1)
    clear b1 HI HO
    have hne : ((i0 : Int) == -1) = false := by simp <;> omega
    go_wp2
    go_loopg [5, 6] (n - (i0 + 1)) (fun k iv jv wr => ∃ (i j : Nat) (cs : List Us), j + k = n ∧ jv = .int .i64 j ∧ iv = .int .i64 i ∧ i < j ∧ cs.length = n ∧ cs.take i = (us.take j).filter (fun u => !posD u) ∧ cs.drop j = us.drop j ∧ OV encUs 5 50 base wr (.slice (some ⟨g, 0, none⟩) n cap) cs ∧ Below base w wr)
    case atStart => exact ⟨i0, i0 + 1, us, by omega, rfl, by go_num, by omega, HN.out, HF.out, rfl, HO1.out, HB1.out.mono hbase⟩
    case round =>
      obtain ⟨i, j, cs, hj, rfl, rfl, hij, hcl, hct, hcd, ho, hb⟩ := hrel
      have HJ := Lib.hid hj
      have HO := Lib.hid ho
      have HB := Lib.hid hb
      have HC := Lib.hid (And.intro hcl (And.intro hct hcd))
      clear hj ho hb hcl hct hcd
      by_cases hlt : j < n
      · obtain ⟨x, hx⟩ : ∃ x, cs[j]? = some x := ⟨_, List.getElem?_eq_getElem (by rw [HC.out.1]; exact hlt)⟩
        have hr := (HO.out.ev encUs_len).row3 (by rw [HC.out.1]; omega)
        obtain ⟨c0, c1, c2, c3, c4⟩ := hr.us hx
        simp only [Nat.zero_add] at c0 c1 c2 c3 c4
        have HX := Lib.hid hx
        clear hr hx
        go_wp2_with fail
        refine (over1_ok (wr.alloc (.cells #[.int .i64 x.r, .int .i64 x.c, .int .i64 x.p, .int .i64 x.t, .int .i64 x.d] 50)) x).mono ?_
        rintro e w2 ⟨rfl, bb⟩
        by_cases hd : x.d ≤ 0
        · have hd' : decide (x.d ≤ 0) = true := decide_eq_true hd
          clear hd
          have HB2 := Lib.hid ((HB.out.alloc (by have := HO.out.block g rfl; have := hbg; omega) (.cells #[.int .i64 x.r, .int .i64 x.c, .int .i64 x.p, .int .i64 x.t, .int .i64 x.d] 50)).trans (bb.mono (by simp; have := HO.out.block g rfl; omega)))
          have HO2 := Lib.hid ((HO.out.alloc (.cells #[.int .i64 x.r, .int .i64 x.c, .int .i64 x.p, .int .i64 x.t, .int .i64 x.d] 50)).below bb)
          have HXU := Lib.hid (show us[j]? = some x from by
            have := congrArg (fun l => l[0]?) HC.out.2.2
            simp only [List.getElem?_drop, Nat.add_zero] at this
            rw [← this]; exact HX.out)
          have HPD := Lib.hid (show posD x = true from hd')
          clear bb c0 c1 c2 c3 c4
          go_wp2
          go_roundg (gk - 1)
          case measure => have := HJ.out; omega
          case rel =>
            refine ⟨i, j + 1, cs, by have := HJ.out; omega, by go_num, rfl, by omega, HC.out.1, ?_, ?_, HO2.out, HB2.out⟩
            · rw [HC.out.2.1, List.take_add_one, HXU.out, List.filter_append]
              simp [HPD.out]
            · rw [← List.drop_drop, HC.out.2.2, List.drop_drop]
        · have hd' : decide (x.d ≤ 0) = false := decide_eq_false hd
          clear hd
          obtain ⟨B, hB⟩ : ∃ B, wr.heap.size = B := ⟨_, rfl⟩
          have bx := (show ER encUs 5 (wr.alloc (.cells #[.int .i64 x.r, .int .i64 x.c, .int .i64 x.p, .int .i64 x.t, .int .i64 x.d] 50)) B 0 [x] from ((EV.newM (e := 50) (xs := [x]) (n := 1) encUs_len (by simp [encUs]) rfl hB).row3 (by simp))).below bb
          obtain ⟨d0, d1, d2, d3, d4⟩ := bx.us (i := 0) rfl
          simp only [Nat.zero_mul, Nat.add_zero, Nat.zero_add] at d0 d1 d2 d3 d4
          have HO2 := Lib.hid ((HO.out.alloc (.cells #[.int .i64 x.r, .int .i64 x.c, .int .i64 x.p, .int .i64 x.t, .int .i64 x.d] 50)).below bb)
          have HB2 := Lib.hid ((HB.out.alloc (by have := HO.out.block g rfl; have := hbg; omega) (.cells #[.int .i64 x.r, .int .i64 x.c, .int .i64 x.p, .int .i64 x.t, .int .i64 x.d] 50)).trans (bb.mono (by simp; have := HO.out.block g rfl; omega)))
          obtain ⟨y, hy⟩ : ∃ y, cs[i]? = some y := ⟨_, List.getElem?_eq_getElem (by rw [HC.out.1]; omega)⟩
          obtain ⟨e0, e1, e2, e3, e4⟩ := ((HO2.out.ev encUs_len).row3 (by rw [HC.out.1]; omega)).us hy
          simp only [Nat.zero_add] at e0 e1 e2 e3 e4
          have f0 := HO2.out.frz HC.out.1 (i * 5)
          have f1 := HO2.out.frz HC.out.1 (i * 5 + 1)
          have f2 := HO2.out.frz HC.out.1 (i * 5 + 2)
          have f3 := HO2.out.frz HC.out.1 (i * 5 + 3)
          have f4 := HO2.out.frz HC.out.1 (i * 5 + 4)
          have hin : i < n := by omega
          rw [hB]
          clear bb bx hB c0 c1 c2 c3 c4
          go_upto_region 10 with fail
          have F1 := HO2.out.setF encUs_len HC.out.1 hy (j := 0) (by omega) (⟨x.r, y.c, y.p, y.t, y.d⟩ : Us) (.int .i64 x.r) rfl
          have g1 : (cs.set i (⟨x.r, y.c, y.p, y.t, y.d⟩ : Us))[i]? = some ⟨x.r, y.c, y.p, y.t, y.d⟩ := by rw [List.getElem?_set_self (by rw [HC.out.1]; exact hin)]
          have F2 := F1.1.setF encUs_len (by rw [List.length_set]; exact HC.out.1) g1 (j := 1) (by omega) (⟨x.r, x.c, y.p, y.t, y.d⟩ : Us) (.int .i64 x.c) rfl
          rw [List.set_set] at F2
          have g2 : (cs.set i (⟨x.r, x.c, y.p, y.t, y.d⟩ : Us))[i]? = some ⟨x.r, x.c, y.p, y.t, y.d⟩ := by rw [List.getElem?_set_self (by rw [HC.out.1]; exact hin)]
          have F3 := F2.1.setF encUs_len (by rw [List.length_set]; exact HC.out.1) g2 (j := 2) (by omega) (⟨x.r, x.c, x.p, y.t, y.d⟩ : Us) (.int .i64 x.p) rfl
          rw [List.set_set] at F3
          have g3 : (cs.set i (⟨x.r, x.c, x.p, y.t, y.d⟩ : Us))[i]? = some ⟨x.r, x.c, x.p, y.t, y.d⟩ := by rw [List.getElem?_set_self (by rw [HC.out.1]; exact hin)]
          have F4 := F3.1.setF encUs_len (by rw [List.length_set]; exact HC.out.1) g3 (j := 3) (by omega) (⟨x.r, x.c, x.p, x.t, y.d⟩ : Us) (.int .i64 x.t) rfl
          rw [List.set_set] at F4
          have g4 : (cs.set i (⟨x.r, x.c, x.p, x.t, y.d⟩ : Us))[i]? = some ⟨x.r, x.c, x.p, x.t, y.d⟩ := by rw [List.getElem?_set_self (by rw [HC.out.1]; exact hin)]
          have F5 := F4.1.setF encUs_len (by rw [List.length_set]; exact HC.out.1) g4 (j := 4) (by omega) x (.int .i64 x.d) rfl
          rw [List.set_set] at F5
          simp only [Nat.add_zero] at F1 F2 F3 F4 F5
          have HO5 := Lib.hid F5.1
          have HB5 := Lib.hid (((((HB2.out.setCell (p := ⟨g, i * 5, none⟩) hbg (.int .i64 x.r)).setCell (p := ⟨g, i * 5 + 1, none⟩) hbg (.int .i64 x.c)).setCell (p := ⟨g, i * 5 + 2, none⟩) hbg (.int .i64 x.p)).setCell (p := ⟨g, i * 5 + 3, none⟩) hbg (.int .i64 x.t)).setCell (p := ⟨g, i * 5 + 4, none⟩) hbg (.int .i64 x.d))
          clear F1 F2 F3 F4 F5 g1 g2 g3 g4 d0 d1 d2 d3 d4 e0 e1 e2 e3 e4 f0 f1 f2 f3 f4 hy
          generalize (((((w2.setCell ⟨g, i * 5, none⟩ (.int .i64 x.r)).setCell ⟨g, i * 5 + 1, none⟩ (.int .i64 x.c)).setCell ⟨g, i * 5 + 2, none⟩ (.int .i64 x.p)).setCell ⟨g, i * 5 + 3, none⟩ (.int .i64 x.t)).setCell ⟨g, i * 5 + 4, none⟩ (.int .i64 x.d)) = w3 at HO5 HB5 ⊢
          have HXU := Lib.hid (show us[j]? = some x from by
            have := congrArg (fun l => l[0]?) HC.out.2.2
            simp only [List.getElem?_drop, Nat.add_zero] at this
            rw [← this]; exact HX.out)
          have HPD := Lib.hid (show posD x = false from hd')
          go_wp2
          go_roundg (gk - 1)
          case measure => have := HJ.out; omega
          case rel =>
            refine ⟨i + 1, j + 1, cs.set i x, by have := HJ.out; omega, by go_num, by go_num, by omega, by rw [List.length_set]; exact HC.out.1, ?_, ?_, HO5.out, HB5.out⟩
            · rw [List.take_add_one, List.take_set_of_le (by omega), List.getElem?_set_self (by rw [HC.out.1]; exact hin), HC.out.2.1, List.take_add_one, HXU.out, List.filter_append]
              simp [HPD.out]
            · rw [List.drop_set_of_lt (by omega), ← List.drop_drop, HC.out.2.2, List.drop_drop]
      · obtain rfl : n = j := by have := HJ.out; omega
        have hin : i < n := hij
        have hcn : n ≤ cap := hcap
        obtain ⟨w4, hcl, ho4, hg4⟩ := clear_own (P := Tryd.prog) (t := 45) (ty := 0) (i := i) (c := cap - i) (k := 5) (z := .agg #[.int .i64 0, .int .i64 0, .int .i64 0, .int .i64 0, .int .i64 0]) encUs_len HO.out HC.out.1 hin Tryd.underlying45 (zeroUse wr) rfl (by intro v hv; simp [Value.cells] at hv; rw [hv]; rfl) (by omega)
        have HO4 := Lib.hid ho4
        have HB4 := Lib.hid (HB.out.grown hg4 (by have := HB.out.size; have := HO.out.block g rfl; omega) (fun k hk => by cases hk; exact hbg))
        clear ho4 hg4
        go_wp2
        go_ret
        refine ⟨_, rfl, ?_, HB4.out⟩
        rw [overL_eq]
        have h := HO4.out
        rw [HC.out.2.1, List.take_of_length_le (by rw [HN.out]; omega)] at h
        exact h
theorem over_ok (w : World) (v : Value) (us : List Us) (h : EV encUs 5 w v us) (hl : us.length ≤ 1000000000) :
    Calls Tryd.prog 26 #[v] w fun e w' => ∃ v', e = .returned v' ∧ OV encUs 5 50 w.heap.size w' v' (overL us) ∧ Below w.heap.size w w' := by
  have HC := Lib.hid (clone_use w v us h hl)
  clear h
  go_enter Tryd.func26, Tryd.ntmps26
  go_wp2_with fail
  refine HC.out.mono ?_
  rintro e w1 ⟨v1, rfl, o1, b1⟩
  have HB1 := Lib.hid b1
  have HD := Lib.hid (delU_ok w1 w.heap.size v1 us o1 hl b1.size)
  clear o1 b1 HC
  go_wp2_with fail
  refine HD.out.mono ?_
  rintro e w2 ⟨v2, rfl, o2, b2⟩
  go_wp2
  go_ret
  exact ⟨_, rfl, o2, HB1.out.trans b2⟩
end Go.Proofs.YtaplangfppohdaaDoor
