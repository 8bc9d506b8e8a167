/- Contracts of package group's inner functions, of Check, Right and there | Contracts of group.Right, there, Depth, Path, Children, Under | Contracts of group.Depth, Path, Children, Under | Contracts of group.those, Children, Under. -/
import Derived.Test.YtenngfkgfdogjaaZ1
set_option linter.unusedVariables false
set_option linter.unusedSimpArgs false
set_option linter.unusedSectionVars false
namespace Go.Proofs.Ytenngfkgfdogjaa
open Go.RowKit Go.Shelf
attribute [local go_sem] Oper.semAt_some

set_option maxHeartbeats 400000 in
theorem weighs_ok (a : Int) (w : World) :
    Calls Try.prog 119 #[.int .i64 a] w fun e w' => e = .returned (.bool (wB a)) ∧ w = w' := by
  by_cases h1 : 1 ≤ a <;> by_cases h2 : a ≤ 65536
  all_goals
    go_enter Try.func119, Try.ntmps119
    go_wp2
    go_ret
    exact ⟨by simp [wB, h1, h2], rfl⟩

set_option maxHeartbeats 400000 in
theorem up1_iter (w : World) (Bg Bl b off c g : Nat) (gs : List (Int × Int)) (p : List Nat) (hp : IsUp gs p) (hp0 : p[0]? = some g)
    (h1 : w.cell? ⟨Bg, 0, none⟩ = some (.int .i64 g)) (h1f : w.frozen? ⟨Bg, 0, none⟩ = false) (h2 : w.cell? ⟨Bl, 0, none⟩ = some (.slice (some ⟨b, off, none⟩) gs.length c))
    (hc : ER encG 2 w b off gs) (hlen : gs.length ≤ 100000) (hgl : Bg ≠ Bl) (hgb : Bg ≠ b) :
    Iter Try.prog 91 #[.pointer (some ⟨Bg, 0, none⟩), .pointer (some ⟨Bl, 0, none⟩)] (fun k => #[.int .i64 (p[k]?.getD 0 : Nat)]) p.length (fun k => k = Bg ∨ k = Bl ∨ k = b) (fun k => k = Bg) w := by
  intro l J Jx W hsz hW hJ hJx hY h0
  have same : ∀ {q : Addr} {u : Value}, (q.block = Bg ∨ q.block = Bl ∨ q.block = b) → w.cell? q = some u → W.cell? q = some u ∧ W.frozen? q = w.frozen? q := by
    intro q u hq hc
    obtain ⟨o, ho, _⟩ := cells_of_cell hc
    have := hW _ o ho hq
    exact ⟨(World.cell?_of_block (w := w) (by rw [this, ho])).trans hc, World.frozen?_of_block (w := w) (by rw [this, ho])⟩
  have H1 := same (.inl rfl) h1
  have H2 := same (.inr (.inl rfl)) h2
  have Hc : ER encG 2 W b off gs := hc.keep fun q u hq hc => (same (.inr (.inr hq)) hc).1
  have H1f := H1.2.trans h1f
  have H1c := H1.1
  have H2c := H2.1
  clear same H1 H2 h1 h1f h2 hc hW hsz
  refine callsIn_of_wp Try.func91 rfl trivial ?_ rfl
  simp only [Try.ntmps91, List.size_toArray, List.length_cons, List.length_nil, Nat.reduceAdd, Nat.reduceSub, Array.replicate_succ, Array.replicate_zero, List.push_toArray, List.append_toArray, List.nil_append, List.cons_append]
  gi_wp2
  gi_loopw [] (fun wr => ∃ k x : Nat, p[k]? = some x ∧ J k wr ∧ wr.cell? ⟨Bg, 0, none⟩ = some (.int .i64 x) ∧ wr.frozen? ⟨Bg, 0, none⟩ = false ∧ wr.cell? ⟨Bl, 0, none⟩ = some (.slice (some ⟨b, off, none⟩) gs.length c) ∧ ER encG 2 wr b off gs)
    (fun wr => (intOf ((wr.cell? ⟨Bg, 0, none⟩).getD undef)).toNat)
  case atStart => exact ⟨0, g, hp0, h0, H1c, H1f, H2c, Hc⟩
  case round =>
    clear H1f H1c H2c Hc h0
    obtain ⟨k, x, hx, hj, c1, f1, c2, hr⟩ := hrel
    have hk : k < p.length := (List.getElem?_eq_some_iff.1 hx).1
    have hYk := hY k wr hk hj
    simp only [hx, Option.getD_some] at hYk
    obtain ⟨fn, tmps, assign, body, hy, hR⟩ := hYk
    obtain ⟨hxl, hx0, hx1⟩ := hp k x hx
    have HX := Lib.hid hx; have HX0 := Lib.hid hx0; have HX1 := Lib.hid hx1; have HR := Lib.hid hr
    clear hx hx0 hx1 hr
    have hd0 : W0.depth = none := rfl
    gi_wp2
    refine hR.mono ?_
    rintro e W' ⟨hsz, hS, hres⟩
    have same : ∀ {q : Addr} {u : Value}, (q.block = Bg ∨ q.block = Bl ∨ q.block = b) → wr.cell? q = some u → W'.cell? q = some u ∧ W'.frozen? q = wr.frozen? q := by
      intro q u hq hc
      obtain ⟨o, ho, _⟩ := cells_of_cell hc
      have := hS _ o ho hq
      exact ⟨(World.cell?_of_block (w := wr) (by rw [this, ho])).trans hc, World.frozen?_of_block (w := wr) (by rw [this, ho])⟩
    have d1 := (same (.inl rfl) c1).1
    have d1f := (same (.inl rfl) c1).2.trans f1
    have d2 := (same (.inr (.inl rfl)) c2).1
    have dr : ER encG 2 W' b off gs := HR.out.keep fun q u hq hc => (same (.inr (.inr hq)) hc).1
    have dp : W'.cell? ⟨b, off + x * 2, none⟩ = some (.int .i64 (par gs x)) := by rw [par_get (List.getElem?_eq_getElem hxl)]; exact (dr.grp (List.getElem?_eq_getElem hxl)).1
    have DR := Lib.hid dr
    clear same dr hy hR HR hS
    rcases hres with ⟨rfl, hj'⟩ | ⟨rfl, hjx⟩
    · by_cases h0 : x = 0
      · subst h0
        have hkl := HX0.out rfl
        clear HX0 HX1 HX
        gi_wp2
        go_end0
        exact ⟨⟨_, rfl⟩, .inl (hkl ▸ hj')⟩
      · obtain ⟨e1, e2, e3⟩ := HX1.out (by omega)
        have E1 := Lib.hid e1
        clear e1 HX HX0 HX1
        gi_wp2
        go_roundw
        case rel =>
          refine ⟨k + 1, (par gs x).toNat, E1.out, hJ _ _ _ hj' (Mod.setCell _ rfl), ?_, by rw [World.frozen?_setCell]; exact d1f, ?_, ?_⟩
          · rw [World.cell?_setCell_same' _ _ _ (by rw [d1]; rfl), Int.toNat_of_nonneg e2]
          · exact (World.cell?_setCell_other _ _ _ _ (fun e => hgl (by injection e))).trans d2
          · exact DR.out.keep fun q u hq hc => (World.cell?_setCell_other _ _ _ _ (fun e => hgb (by rw [← hq, ← e]))).trans hc
        case measure =>
          rw [World.cell?_setCell_same' _ _ _ (by rw [d1]; rfl), c1]; simp [intOf]; omega
    · gi_wp2
      go_end0
      exact ⟨⟨_, rfl⟩, .inr hjx⟩

set_option maxHeartbeats 400000 in
theorem up_ok (w : World) (A : Option Addr) (n c : Nat) (g : Int) :
    CallsIn W0 0 Try.prog 52 #[.slice A n c, .int .i64 g] w fun e w' => e = .returned (.func (.func 91) #[] #[.pointer (some ⟨w.heap.size + 1, 0, none⟩), .pointer (some ⟨w.heap.size, 0, none⟩)]) ∧
      (w.alloc (Obj.cells #[.slice A n c] 31)).alloc (Obj.cells #[.int .i64 g] 3) = w' := by
  have hd0 : W0.depth = none := rfl
  have hfn : ∀ f, W0.fn f := fun _ => trivial
  refine callsIn_of_wp Try.func52 rfl trivial ?_ rfl
  simp only [Try.ntmps52, List.size_toArray, List.length_cons, List.length_nil, Nat.reduceAdd, Nat.reduceSub, Array.replicate_succ, Array.replicate_zero, List.push_toArray, List.append_toArray, List.nil_append, List.cons_append]
  gi_wp2
  go_ret
  exact ⟨rfl, rfl⟩

set_option maxHeartbeats 400000 in
theorem depth_ok (w : World) (b off c g : Nat) (gs : List (Int × Int)) (p : List Nat) (hp : IsUp gs p) (hp0 : p[0]? = some g) (hr : ER encG 2 w b off gs) (hlen : gs.length ≤ 100000) (hpl : p.length ≤ 100000) (hb : b < w.heap.size) :
    CallsIn W0 0 Try.prog 120 #[.slice (some ⟨b, off, none⟩) gs.length c, .int .i64 g] w fun e w' => e = .returned (.int .i64 (p.length - 1 : Int)) ∧ Below w.heap.size w w' := by
  have HR := Lib.hid hr
  have HP := Lib.hid hp
  have HP0 := Lib.hid hp0
  clear hr hp hp0
  have hfn : ∀ f, W0.fn f := fun _ => trivial
  have hd0 : W0.depth = none := rfl
  refine callsIn_of_wp_marks Try.func120 rfl trivial ?_ rfl
  simp only [Try.ntmps120, List.size_toArray, List.length_cons, List.length_nil, Nat.reduceAdd, Nat.reduceSub, Array.replicate_succ, Array.replicate_zero, List.push_toArray, List.append_toArray, List.nil_append, List.cons_append]
  gi_wp2
  refine (up_ok _ _ _ _ _).mono ?_
  rintro e w' ⟨rfl, hw⟩
  have hb0 : Below w.heap.size w w' := by rw [← hw]; exact (((Below.refl _ _).alloc (Nat.le_refl _) _).alloc (by simp) _).alloc (by simp; omega) _
  have hz : w'.heap.size = w.heap.size + 3 := by rw [← hw]; simp
  have c0 : w'.cell? ⟨w.heap.size, 0, none⟩ = some (.int .i64 (-1)) := by rw [← hw]; simp [go_sem]
  have f0 : w'.frozen? ⟨w.heap.size, 0, none⟩ = false := by rw [← hw]; simp [go_sem]
  have c1 : w'.cell? ⟨w.heap.size + 1, 0, none⟩ = some (.slice (some ⟨b, off, none⟩) gs.length c) := by rw [← hw]; simp [go_sem]
  have c2 : w'.cell? ⟨w.heap.size + 2, 0, none⟩ = some (.int .i64 g) := by rw [← hw]; simp [go_sem]
  have f2 : w'.frozen? ⟨w.heap.size + 2, 0, none⟩ = false := by rw [← hw]; simp [go_sem]
  clear hw
  gi_wp2
  refine wp_range (xs := fun k => #[.int .i64 (p[k]?.getD 0 : Nat)]) rfl (enters_of Try.func91 (by kernel_rfl) rfl)
    (up1_iter w' (w.heap.size + 2) (w.heap.size + 1) b off c g gs p HP.out HP0.out c2 f2 c1 (HR.out.keep fun q u hq hc => (hb0.cell (p := q) (by rw [hq]; exact hb)).trans hc) hlen (by omega) (by omega))
    (fun k e => by subst e; omega) (fun k e => by omega) (fun k => rfl)
    (fun k W => W.cell? ⟨w.heap.size, 0, none⟩ = some (.int .i64 (k - 1 : Int)) ∧ W.frozen? ⟨w.heap.size, 0, none⟩ = false ∧ Below w.heap.size w W) (fun _ _ => False)
    (fun k W1 W2 h hc => ⟨hc.cell h.1 (fun e => by simp at e), (hc.frozen h.1 (fun e => by simp at e)).trans h.2.1, hc.below h.2.2 (Nat.le_refl _) (by omega) (fun k e => by omega)⟩)
    (fun _ _ _ h _ => h) ⟨c0, f0, hb0⟩ ?round ?done (fun _ _ _ h => h.elim)
  case round =>
    rintro l k W hk hl hl2 ⟨h1, h2, h3⟩
    gi_wp2
    refine ⟨BK.refl _ _, fun W2 hc _ => ?_⟩
    have g1 := hc.cell h1 (fun t => t)
    have g2 := (hc.frozen h1 (fun t => t)).trans h2
    have g3 := hc.below h3 (Nat.le_refl _) (by omega) (fun k t => t.elim)
    clear h1 h2 h3 hc c0 f0
    gi_wp2
    refine ⟨BK.setCell _ g1 (by simp; omega), ?_, by rw [World.frozen?_setCell]; exact g2, g3.setCell (Nat.le_refl _) _⟩
    rw [World.cell?_setCell_same' _ _ _ (by rw [g1]; rfl)]
    congr 2; omega
  case done =>
    rintro D W ⟨h1, h2, h3⟩ hD hK
    clear c0 f0 c1 c2 f2
    gi_wp2
    exact post_mark hK (fun w' => results_tmp rfl _ _ w') ⟨rfl, below_putObj h3 (by omega) _⟩

set_option maxHeartbeats 1000000 in
theorem check_ok (w : World) (v : Value) (gs : List (Int × Int)) (hv : EV encG 2 w v gs) (hlen : gs.length ≤ 100000) :
    Calls Try.prog 93 #[v] w fun e w' => e = .returned (.tuple #[.int .i64 (checkG gs).1, .int .i64 (checkG gs).2]) ∧ Below w.heap.size w w' := by
  by_cases h256 : 256 < gs.length
  · obtain ⟨A, c, rfl⟩ := hv.shape
    have e : checkG gs = (-1, 5) := by unfold checkG; rw [if_pos h256]
    rw [e]
    clear hv e
    go_enter Try.func93, Try.ntmps93
    go_wp2
    go_ret2
    exact ⟨rfl, Below.refl _ _⟩
  · rcases Nat.eq_zero_or_pos gs.length with h0 | h0
    · obtain rfl : gs = [] := List.eq_nil_of_length_eq_zero h0
      obtain ⟨A, c, rfl⟩ := hv.shape
      clear hv h0 hlen h256
      go_enter Try.func93, Try.ntmps93
      go_wp2
      go_ret2
      exact ⟨rfl, Below.refl _ _⟩
    · obtain ⟨b, off, c, rfl, hc, hr⟩ := hv.row h0
      obtain ⟨g0, hg0⟩ : ∃ g0, gs[0]? = some g0 := ⟨_, List.getElem?_eq_getElem h0⟩
      obtain ⟨c0, c1⟩ := hr.grp hg0
      have HR := Lib.hid hr
      have HG0 := Lib.hid hg0
      clear hr hg0 hv
      obtain ⟨p0, q0⟩ := g0
      simp only [Nat.zero_mul, Nat.add_zero] at c0 c1
      have k1 : decide ((256 : Int) < (gs.length : Int)) = false := by simp; omega
      have k2 : ((gs.length : Int) == 0) = false := by simp; intro h; rw [h] at h0; simp at h0
      by_cases hroot : p0 = 0 ∧ q0 = 1
      · obtain ⟨rfl, rfl⟩ := hroot
        have e : checkG gs = chkF gs (gs.length - 1) 1 := by unfold checkG; rw [if_neg h256, if_neg (by simp [HG0.out])]
        rw [e]
        clear e h256
        go_enter Try.func93, Try.ntmps93
        go_wp2
        go_loopg [4] gs.length (fun k i wr => ∃ j : Nat, 1 ≤ j ∧ j ≤ gs.length ∧ j + k = gs.length + 1 ∧ i = .int .i64 j ∧ Below w.heap.size w wr ∧ chkF gs (gs.length - 1) 1 = chkF gs (gs.length - j) j ∧ Bef gs j)
        case atStart => exact ⟨1, by omega, by omega, by omega, rfl, Below.refl _ _, rfl, fun i h1 h2 => by omega⟩
        case round =>
          obtain ⟨j, hj1, hj2, hj3, rfl, hb, hch, hbef⟩ := hrel
          have HJ := Lib.hid hj3
          have HB := Lib.hid hb
          have HC := Lib.hid hch
          have HF := Lib.hid hbef
          clear hj3 hb hch hbef c0 c1 k1 k2
          by_cases hlt : j < gs.length
          · obtain ⟨⟨p, q⟩, hg⟩ : ∃ g, gs[j]? = some g := ⟨_, List.getElem?_eq_getElem hlt⟩
            have hr' := HR.out.below HB.out
            obtain ⟨d0, d1⟩ := hr'.grp hg
            have hp := par_get hg
            have hq := wgt_get hg
            dsimp only at d0 d1 hp hq
            have hbl : b < wr.heap.size := cell_lt d0
            have HP := Lib.hid hp
            have HQ := Lib.hid hq
            have HR' := Lib.hid hr'
            clear hp hq hg hr'
            have step : ∀ f, gs.length - j = f + 1 → chkF gs (gs.length - j) j = if par gs j < 0 ∨ (j : Int) ≤ par gs j then ((j : Int), (191 : Int))
                else if wB (wgt gs j) = false then (j, 192) else if 4 < dep gs j then (j, 193) else chkF gs f (j + 1) := fun f hf => by rw [hf]; rfl
            have ST := Lib.hid (step (gs.length - j - 1) (by omega))
            clear step
            by_cases hbad : p < 0 ∨ (j : Int) ≤ p
            · have e : chkF gs (gs.length - 1) 1 = ((j : Int), 191) := by rw [HC.out, ST.out, HP.out, if_pos hbad]
              have E := Lib.hid e
              clear e
              by_cases h : p < 0
              · clear hbad
                go_wp2
                go_ret2
                exact ⟨ret_pair E.out, HB.out⟩
              · have h' : (j : Int) ≤ p := by omega
                clear hbad
                go_wp2
                go_ret2
                exact ⟨ret_pair E.out, HB.out⟩
            · have h1 : ¬ p < 0 := fun h => hbad (.inl h)
              have h2 : p < j := by omega
              have hbef : Bef gs (j + 1) := fun i h0 hi => by
                rcases Nat.lt_or_ge i j with h | h
                · exact HF.out i h0 h
                · obtain rfl : i = j := by omega
                  rw [HP.out]; omega
              have HF' := Lib.hid hbef
              have HN := Lib.hid hbad
              clear hbef hbad
              cases hw : wB q with
              | false =>
                have e : chkF gs (gs.length - 1) 1 = ((j : Int), 192) := by rw [HC.out, ST.out, HP.out, HQ.out, if_neg HN.out, if_pos hw]
                have E := Lib.hid e
                have HW := Lib.hid hw
                clear e
                go_wp2_with (go_at_call 119; refine (weighs_ok _ _).mono ?_; rintro e w' ⟨rfl, rfl⟩)
                go_ret2
                exact ⟨ret_pair E.out, HB.out⟩
              | true =>
                have hdl := path_le HF'.out j (by omega)
                have DEP := Lib.hid (of_in (depth_ok wr b off c j gs (path gs j) (path_up HF'.out (by omega) j (by omega)) (path_head HF'.out (by omega)) HR'.out hlen (by omega) hbl))
                have hlp := path_len_pos HF'.out (g := j) (by omega)
                have HL := Lib.hid (show dep gs j = (path gs j).length - 1 from rfl)
                generalize (path gs j).length = pl at DEP hdl hlp HL
                by_cases h3 : 4 < pl - 1
                · have h3' : 4 < dep gs j := by rw [HL.out]; exact h3
                  have e : chkF gs (gs.length - 1) 1 = ((j : Int), 193) := by rw [HC.out, ST.out, HP.out, HQ.out, if_neg HN.out, if_neg (by simp [hw]), if_pos h3']
                  have E := Lib.hid e
                  clear e h3'
                  go_wp2_with (first | (go_at_call 119; refine (weighs_ok _ _).mono ?_; rintro e w' ⟨rfl, rfl⟩) | (go_at_call 120; refine DEP.out.mono ?_; rintro e w' ⟨rfl, hb2⟩))
                  go_ret2
                  exact ⟨ret_pair E.out, HB.out.trans (hb2.mono HB.out.size)⟩
                · have h3' : ¬ 4 < dep gs j := by rw [HL.out]; exact h3
                  have e : chkF gs (gs.length - 1) 1 = chkF gs (gs.length - (j + 1)) (j + 1) := by
                    rw [HC.out, ST.out, HP.out, HQ.out, if_neg HN.out, if_neg (by simp [hw]), if_neg h3', show gs.length - j - 1 = gs.length - (j + 1) from by omega]
                  have E := Lib.hid e
                  clear e h3'
                  go_wp2_with (first | (go_at_call 119; refine (weighs_ok _ _).mono ?_; rintro e w' ⟨rfl, rfl⟩) | (go_at_call 120; refine DEP.out.mono ?_; rintro e w' ⟨rfl, hb2⟩))
                  go_roundg (gk - 1)
                  case measure => have := HJ.out; omega
                  case rel => exact ⟨j + 1, by omega, by omega, by have := HJ.out; omega, by go_num, HB.out.trans (hb2.mono HB.out.size), E.out, HF'.out⟩
          · obtain rfl : j = gs.length := by omega
            have e : chkF gs (gs.length - 1) 1 = (-1, 0) := by rw [HC.out, Nat.sub_self]; rfl
            have E := Lib.hid e
            clear e
            go_wp2
            go_ret2
            exact ⟨ret_pair E.out, HB.out⟩
      · have e : checkG gs = (0, 190) := by
          unfold checkG
          rw [if_neg h256, if_pos]
          rw [HG0.out]
          intro h
          exact hroot (by simpa using h)
        rw [e]
        clear e
        by_cases h0' : p0 = 0
        · have h1 : ¬ q0 = 1 := fun h => hroot ⟨h0', h⟩
          subst h0'
          clear hroot
          go_enter Try.func93, Try.ntmps93
          go_wp2
          go_ret2
          exact ⟨rfl, Below.refl _ _⟩
        · clear hroot
          go_enter Try.func93, Try.ntmps93
          go_wp2
          go_ret2
          exact ⟨rfl, Below.refl _ _⟩
end Go.Proofs.Ytenngfkgfdogjaa
namespace Go.Proofs.Ytenngfkgfdogjaa
open Go.RowKit Go.Shelf
attribute [local go_sem] Oper.semAt_some

set_option maxHeartbeats 400000 in
theorem right_ok (w : World) (v : Value) (gs : List (Int × Int)) (hv : EV encG 2 w v gs) (hlen : gs.length ≤ 100000) :
    Calls Try.prog 62 #[v] w fun e w' => e = .returned (.bool (rightB gs)) ∧ Below w.heap.size w w' := by
  have H := Lib.hid (check_ok w v gs hv hlen)
  have E := Lib.hid (show rightB gs = ((checkG gs).2 == 0) from rfl)
  generalize checkG gs = c at H E
  generalize rightB gs = r at E ⊢
  obtain ⟨c1, c2⟩ := c
  clear hv
  by_cases hc : c2 = 0
  · subst hc
    go_enter Try.func62, Try.ntmps62
    go_wp2_with (go_at_call 93; refine H.out.mono ?_; rintro e w' ⟨rfl, hb⟩)
    go_ret
    exact ⟨ret_bool E.out.symm, hb⟩
  · have hc' : (c2 == 0) = false := by simp [hc]
    have E' := Lib.hid (show false = r by rw [E.out]; exact hc'.symm)
    clear hc
    go_enter Try.func62, Try.ntmps62
    go_wp2_with (go_at_call 93; refine H.out.mono ?_; rintro e w' ⟨rfl, hb⟩)
    go_ret
    exact ⟨ret_bool E'.out, hb⟩

def outB (n : Nat) (g : Int) : Bool := decide (g < 0) || decide ((n : Int) ≤ g)
/-- What 'there' returns. -/
def thereZ (gs : List (Int × Int)) (zs : List Int) : Int := if rightB gs = false then 194 else if zs.any (outB gs.length) then 2 else 0

set_option maxHeartbeats 400000 in
theorem there1_ok (w : World) (A : Option Addr) (n c B : Nat) (x : Int) (hc : w.cell? ⟨B, 0, none⟩ = some (.slice A n c)) (hn : n ≤ 100000) :
    Calls Try.prog 88 #[.int .i64 x, .pointer (some ⟨B, 0, none⟩)] w fun e w' => e = .returned (.bool (outB n x)) ∧ w = w' := by
  by_cases h1 : x < 0
  · go_enter Try.func88, Try.ntmps88
    go_wp2
    go_ret
    exact ⟨by simp [outB, h1], rfl⟩
  · by_cases h2 : (n : Int) ≤ x
    all_goals
      go_enter Try.func88, Try.ntmps88
      go_wp2
      go_ret
      exact ⟨by simp [outB, h1, h2], rfl⟩

set_option maxHeartbeats 400000 in
theorem there_ok (w : World) (v vs : Value) (gs : List (Int × Int)) (zs : List Int) (hv : EV encG 2 w v gs) (hs : EV encI 1 w vs zs) (hlen : gs.length ≤ 100000) (hlz : zs.length ≤ 100000) :
    Calls Try.prog 44 #[v, vs] w fun e w' => e = .returned (.int .i64 (thereZ gs zs)) ∧ Below w.heap.size w w' := by
  obtain ⟨A, c, rfl⟩ := hv.shape
  have HV := Lib.hid hv
  have HS := Lib.hid hs
  clear hv hs
  have H1 := Lib.hid (fun (w1 : World) (h : Below w.heap.size w w1) => right_ok w1 _ gs (HV.out.below h) hlen)
  have T1 := Lib.hid (fun (h : rightB gs = false) => show thereZ gs zs = 194 from if_pos h)
  have T2 := Lib.hid (fun (h : rightB gs = true) => show thereZ gs zs = if zs.any (outB gs.length) then 2 else 0 from if_neg (by simp [h]))
  generalize thereZ gs zs = t at T1 T2 ⊢
  generalize hr : rightB gs = r at H1 T1 T2
  clear hr
  cases r with
  | false =>
    obtain rfl := T1.out rfl
    clear T1 T2
    go_enter Try.func44, Try.ntmps44
    go_wp2_with (go_at_call 62; refine (H1.out _ ((Below.refl _ _).alloc (Nat.le_refl _) _)).mono ?_; rintro e w' ⟨rfl, hb⟩)
    go_ret
    exact ⟨rfl, ((Below.refl _ w).alloc (Nat.le_refl _) _).trans (hb.mono (by simp))⟩
  | true =>
    have T := Lib.hid (T2.out rfl)
    clear T1 T2
    have H3 := Lib.hid (fun (w1 : World) (h : Below w.heap.size w w1) (hc : w1.cell? ⟨w.heap.size, 0, none⟩ = some (.slice A gs.length c)) =>
      containsFunc_int w1 vs zs 88 #[.pointer (some ⟨w.heap.size, 0, none⟩)] (outB gs.length) (HS.out.below h) (by omega)
        ⟨enters_of Try.func88 (by kernel_rfl) rfl, fun n x _ => (there1_ok (w1.drewN n) A gs.length c w.heap.size x hc hlen).mono fun e w' h => ⟨h.1, 0, h.2⟩⟩)
    generalize zs.any (outB gs.length) = r at T H3
    obtain rfl := T.out
    clear T
    cases r with
    | false =>
      go_enter Try.func44, Try.ntmps44
      go_wp2_with (go_at_call 62; refine (H1.out _ ((Below.refl _ _).alloc (Nat.le_refl _) _)).mono ?_; rintro e w' ⟨rfl, hb⟩; have hb0 := ((Below.refl _ w).alloc (Nat.le_refl _) (.cells #[.slice A gs.length c] 31)).trans (hb.mono (by simp)); have hcl := below_cell hb (p := ⟨w.heap.size, 0, none⟩) (u := .slice A gs.length c) (by simp [go_sem]))
      refine (H3.out _ hb0 hcl).mono ?_
      rintro e w2 ⟨rfl, n, rfl⟩
      go_wp2
      go_ret
      exact ⟨rfl, below_drewN hb0 _⟩
    | true =>
      go_enter Try.func44, Try.ntmps44
      go_wp2_with (go_at_call 62; refine (H1.out _ ((Below.refl _ _).alloc (Nat.le_refl _) _)).mono ?_; rintro e w' ⟨rfl, hb⟩; have hb0 := ((Below.refl _ w).alloc (Nat.le_refl _) (.cells #[.slice A gs.length c] 31)).trans (hb.mono (by simp)); have hcl := below_cell hb (p := ⟨w.heap.size, 0, none⟩) (u := .slice A gs.length c) (by simp [go_sem]))
      refine (H3.out _ hb0 hcl).mono ?_
      rintro e w2 ⟨rfl, n, rfl⟩
      go_wp2
      go_ret
      exact ⟨rfl, below_drewN hb0 _⟩
end Go.Proofs.Ytenngfkgfdogjaa
namespace Go.Proofs.Ytenngfkgfdogjaa
open Go.RowKit Go.Shelf
attribute [local go_sem] Oper.semAt_some

section
variable {gs : List (Int × Int)}
theorem there_zero {zs : List Int} : thereZ gs zs = 0 ↔ GOK gs ∧ ∀ z ∈ zs, 0 ≤ z ∧ z < gs.length := by
  unfold thereZ
  cases hr : rightB gs with
  | false =>
    simp only [if_true, show ((194 : Int) = 0) = False from by simp, false_iff]
    intro h
    rw [right_iff.2 h.1] at hr; cases hr
  | true =>
    rw [if_neg (by simp)]
    have hg := right_iff.1 hr
    by_cases h : zs.any (outB gs.length) = true
    · rw [if_pos h]
      simp only [show ((2 : Int) = 0) = False from by simp, false_iff]
      intro h2
      obtain ⟨z, hz, ho⟩ := List.any_eq_true.1 h
      have := h2.2 z hz
      simp [outB] at ho; omega
    · rw [if_neg h]
      simp only [true_iff]
      refine ⟨hg, fun z hz => ?_⟩
      have : ¬ outB gs.length z = true := fun ho => h (List.any_eq_true.2 ⟨z, hz, ho⟩)
      simp [outB] at this; omega
def ints (l : List Nat) : List Int := l.map (fun n : Nat => (n : Int))
/-- Depth. -/
def dZ (gs : List (Int × Int)) (g : Int) : Int := if thereZ gs [g] = 0 then dep gs g.toNat else 0
def pathL (gs : List (Int × Int)) (g : Int) : List Int := if thereZ gs [g] = 0 then ints (path gs g.toNat) else []
/-- Groups that a function chooses. -/
def chosen (p : Nat → Bool) (n : Nat) : List Int := ints ((List.range n).filter p)
def childB (gs : List (Int × Int)) (g : Nat) (x : Nat) : Bool := decide (0 < x) && (par gs x == g)
def underB (gs : List (Int × Int)) (g : Nat) (x : Nat) : Bool := (path gs x).contains g
def childL (gs : List (Int × Int)) (g : Int) : List Int := if thereZ gs [g] = 0 then chosen (childB gs g.toNat) gs.length else []
def underL (gs : List (Int × Int)) (g : Int) : List Int := if thereZ gs [g] = 0 then chosen (underB gs g.toNat) gs.length else []
theorem chosen_succ (p : Nat → Bool) (n : Nat) : chosen p (n + 1) = chosen p n ++ if p n then [(n : Int)] else [] := by
  unfold chosen ints
  rw [List.range_succ, List.filter_append, List.map_append]
  congr 1
  cases h : p n <;> simp [h]
theorem chosen_len (p : Nat → Bool) (n : Nat) : (chosen p n).length ≤ n := by
  unfold chosen ints
  rw [List.length_map]
  have := List.length_filter_le p (List.range n)
  simpa using this
end

theorem new_one {w : World} {z : Int} {e : TypeId} : EV encI 1 (w.alloc (.cells #[.int .i64 z] e)) (.slice (some ⟨w.heap.size, 0, none⟩) 1 1) [z] := EV.new1 rfl (Nat.le_refl _)

/-- 'there' of one group, as the walks meet it. -/
theorem there_one (w : World) (v : Value) (gs : List (Int × Int)) (z : Int) (hv : EV encG 2 w v gs) (hlen : gs.length ≤ 100000) (m : Nat) (hm : w.heap.size = m) :
    Calls Try.prog 44 #[v, .slice (some ⟨m, 0, none⟩) 1 1] (w.alloc (.cells #[.int .i64 z] 3)) fun e w' => e = .returned (.int .i64 (thereZ gs [z])) ∧ Below w.heap.size w w' := hm ▸
  (there_ok _ v _ gs [z] (hv.below ((Below.refl _ _).alloc (Nat.le_refl _) _)) new_one hlen (by simp)).mono fun e w' h => ⟨h.1, ((Below.refl _ w).alloc (Nat.le_refl _) _).trans (h.2.mono (by simp))⟩

set_option maxHeartbeats 400000 in
theorem path_ok (w : World) (v : Value) (gs : List (Int × Int)) (z : Int) (hv : EV encG 2 w v gs) (hlen : gs.length ≤ 100000) :
    Calls Try.prog 27 #[v, .int .i64 z] w fun e w' => ∃ r, e = .returned (.tuple #[r, .int .i64 (thereZ gs [z])]) ∧ OV encI 1 3 w.heap.size w' r (pathL gs z) ∧ Below w.heap.size w w' := by
  have HT := Lib.hid (there_one w v gs z hv hlen _ rfl)
  by_cases ht : thereZ gs [z] = 0
  · have hd : pathL gs z = ints (path gs z.toNat) := if_pos ht
    obtain ⟨hok, hz⟩ := there_zero.1 ht
    obtain ⟨hz1, hz2⟩ := hz z (by simp)
    obtain ⟨g, rfl⟩ := Int.eq_ofNat_of_zero_le hz1
    rw [Int.toNat_natCast] at hd
    obtain ⟨b, off, c, rfl, hc, hr⟩ := hv.row hok.pos
    have hg : g < gs.length := by omega
    have hbl : b < w.heap.size := hr.lt hok.pos (fun _ => by simp [encG_len])
    have D := Lib.hid (fun (w1 : World) (Bg Bl : Nat) (h : Below w.heap.size w w1) h1 h2 h3 h4 h5 => up1_iter w1 Bg Bl b off c g gs (path gs g) (path_up hok.bef (Nat.le_refl _) g hg) (path_head hok.bef hg) h1 h2 h3 (hr.below h) hlen h4 h5)
    have HL := Lib.hid (path_le hok.bef g hg)
    rw [ht] at HT
    rw [ht, hd]
    clear hv hr hz hz1 hd ht hok
    go_enter Try.func27, Try.ntmps27
    go_wp2_with (go_at_call 44; refine HT.out.mono ?_; rintro e w' ⟨rfl, hb⟩)
    refine (of_in (up_ok _ _ _ _ _)).mono ?_
    rintro e w2 ⟨rfl, hw2⟩
    go_wp2_with fail
    have hb2 : Below w.heap.size w w2 := by rw [← hw2]; exact (hb.alloc hb.size _).alloc (by have := hb.size; simp; omega) _
    have hsz : w2.heap.size = w'.heap.size + 2 := by rw [← hw2]; simp
    have hsz0 := hb.size
    have i := D.out w2 (w'.heap.size + 1) w'.heap.size hb2 (by rw [← hw2]; simp [go_sem]) (by rw [← hw2]; simp [go_sem]) (by rw [← hw2]; simp [go_sem]) (by omega) (by omega)
    have hM : ∀ w3, Mod (fun k => k = w'.heap.size + 1) w2 w3 → Below w.heap.size w w3 := fun w3 h => hb2.trans (h.below (fun k hk e => by omega) (by omega))
    have HW2 := Lib.hid hw2
    clear hw2
    refine (collect_int w2 91 _ (fun k => ((path gs g)[k]?.getD 0 : Nat)) _ _ _ (enters_of Try.func91 (by kernel_rfl) rfl) i (fun k e => by omega) (fun k e => by omega) (by have := HL.out; omega)).mono ?_
    rintro e w3 ⟨r, rfl, ho, hm⟩
    have hb3 := hM _ hm
    have ho' : OV encI 1 3 w.heap.size w3 r (ints (path gs g)) := by
      have e : upto (fun k => ((path gs g)[k]?.getD 0 : Nat)) (path gs g).length = ints (path gs g) := by
        apply List.ext_getElem (by simp [upto, ints])
        intro i h1 h2
        have h3 : i < (path gs g).length := by simpa [upto] using h1
        simp [upto, ints, h3]
      rw [e] at ho
      exact ho.base_le (by omega)
    clear ho hm hM i hsz
    go_wp2
    go_ret2
    exact ⟨r, rfl, ho', hb3⟩
  · have hd : pathL gs z = [] := if_neg ht
    rw [hd]
    generalize thereZ gs [z] = t at HT ht ⊢
    have ht' : (t != 0) = true := by simp [ht]
    clear ht hv hd
    go_enter Try.func27, Try.ntmps27
    go_wp2_with (go_at_call 44; refine HT.out.mono ?_; rintro e w' ⟨rfl, hb⟩)
    go_ret2
    exact ⟨_, rfl, OV.nil _ _, hb⟩
end Go.Proofs.Ytenngfkgfdogjaa
namespace Go.Proofs.Ytenngfkgfdogjaa
open Go.RowKit Go.Shelf
attribute [local go_sem] Oper.semAt_some

set_option maxHeartbeats 400000 in
theorem those_ok (w : World) (A : Option Addr) (n c : Nat) (gf : Nat) (lb : Array Value) (p : Nat → Bool) (hn : n ≤ 100000) (eg : ∀ args w, (callFunc gf args).run Try.prog w = .ok (.enter gf args) w)
    (hp : ∀ (W : World) (x : Nat), Below w.heap.size w W → x < n → Calls Try.prog gf (#[.int .i64 x] ++ lb) W fun e W' => e = .returned (.bool (p x)) ∧ Below W.heap.size W W') :
    Calls Try.prog 45 #[.slice A n c, .func (.func gf) #[] lb] w fun e w' => ∃ r, e = .returned r ∧ OV encI 1 3 w.heap.size w' r (chosen p n) ∧ Below w.heap.size w w' := by
  have HP := Lib.hid hp
  clear hp
  go_enter Try.func45, Try.ntmps45
  go_wp2
  go_loopg [5, 9] n (fun k v i wr => ∃ j : Nat, j + k = n ∧ i = .int .i64 j ∧ OV encI 1 3 w.heap.size wr v (chosen p j) ∧ Below w.heap.size w wr)
  case atStart => exact ⟨0, by omega, rfl, OV.nil _ _, Below.refl _ _⟩
  case round =>
    rename_i v0 _ _ _ _
    obtain ⟨j, hj, rfl, ho, hb⟩ := hrel
    have HJ := Lib.hid hj
    have HO := Lib.hid ho
    have HB := Lib.hid hb
    have hsz := hb.size
    clear hj ho hb
    by_cases hlt : j < n
    · have hc := HP.out wr j HB.out hlt
      have HC := Lib.hid hc
      clear hc
      have hcl := chosen_len p j
      have HS := Lib.hid (chosen_succ p j)
      go_wp2_with fail
      refine HC.out.mono ?_
      rintro e w1 ⟨rfl, hb1⟩
      have hbw := HB.out.trans (hb1.mono hsz)
      have how := HO.out.below hb1
      have hsz1 := hbw.size
      clear HC hb1
      cases hpj : p j with
      | false =>
        rw [hpj] at HS
        have HPJ := Lib.hid hpj
        clear hpj
        go_wp2
        go_roundg (gk - 1)
        case measure => have := HJ.out; omega
        case rel => exact ⟨j + 1, by have := HJ.out; omega, by go_num, by rw [HS.out]; simpa using how, hbw⟩
      | true =>
        rw [hpj] at HS
        have HPJ := Lib.hid hpj
        clear hpj
        go_wp2_with (at_builtin; refine wpList_app elemI encI_len encI_one rfl _ _ rfl _ _ rfl rfl (how.alloc _) (new_one (z := (j : Int))) ?q1 ?q2 ?_)
        case q1 => simp; omega
        case q2 => simp; omega
        intro v' w2 ho2 hg2
        have hb2 : Below w.heap.size w w2 := (hbw.alloc hsz1 _).grown hg2 (by simp; omega) (fun k hk => (how.block k hk).1)
        clear hg2
        go_wp2
        go_roundg (gk - 1)
        case measure => have := HJ.out; omega
        case rel => exact ⟨j + 1, by have := HJ.out; omega, by go_num, by rw [HS.out]; exact ho2, hb2⟩
    · obtain rfl : j = n := by have := HJ.out; omega
      go_wp2
      go_ret
      exact ⟨_, rfl, HO.out, HB.out⟩

set_option maxHeartbeats 400000 in
theorem child1_ok (w : World) (Bl Bg b off c x : Nat) (g : Int) (gs : List (Int × Int)) (hx : x < gs.length) (hlen : gs.length ≤ 100000) (hr : ER encG 2 w b off gs)
    (h1 : w.cell? ⟨Bl, 0, none⟩ = some (.slice (some ⟨b, off, none⟩) gs.length c)) (h2 : w.cell? ⟨Bg, 0, none⟩ = some (.int .i64 g)) :
    Calls Try.prog 46 #[.int .i64 x, .pointer (some ⟨Bl, 0, none⟩), .pointer (some ⟨Bg, 0, none⟩)] w fun e w' => e = .returned (.bool (decide (0 < x) && (par gs x == g))) ∧ Below w.heap.size w w' := by
  obtain ⟨⟨p, q⟩, hg⟩ : ∃ g, gs[x]? = some g := ⟨_, List.getElem?_eq_getElem hx⟩
  have c0 := (hr.grp hg).1
  have hp := par_get hg
  dsimp only at c0 hp
  rw [hp]
  clear hr hg hp
  by_cases h0 : 0 < x
  · have h0' : (0 : Int) < (x : Int) := by omega
    rw [show decide (0 < x) = true from by simp [h0], Bool.true_and]
    go_enter Try.func46, Try.ntmps46
    go_wp2
    go_quiet (fail)
    go_wp2
    go_ret
    exact ⟨rfl, below_drewN (Below.refl _ _) _⟩
  · obtain rfl : x = 0 := by omega
    have h0' : decide ((0 : Int) < ((0 : Nat) : Int)) = false := by simp
    go_enter Try.func46, Try.ntmps46
    go_wp2
    go_quiet (fail)
    go_wp2
    go_ret
    exact ⟨rfl, below_drewN (Below.refl _ _) _⟩


theorem post_mark_cell {P : Program} {fn : Func} {R : Ending → World → Prop} {tmps : Array Value} {w : World} {D : Nat} {v : Value}
    (hK : w.heap[D]? = some (.deferred (some []))) (hr : (results fn tmps).run P (w.putObj D (.deferred none)) = .ok v (w.putObj D (.deferred none))) (hR : R (.returned v) (w.putObj D (.deferred none))) :
    bodyPostM W0 0 P fn R .ret { tmps, defers := [{ target := .collected D, args := #[] }] } w :=
  ⟨by simp, .inl ⟨_, _, rfl, run_takeDeferred hK, ⟨_, hr, hR⟩⟩⟩
theorem notin_path {p : List Nat} {g k x : Nat} (h : g ∉ p.take k) (hx : p[k]? = some x) (hne : ¬ x = g) : g ∉ p.take (k + 1) := notin_step h hx (fun e => hne e.symm)

set_option maxHeartbeats 400000 in
theorem children_ok (w : World) (v : Value) (gs : List (Int × Int)) (z : Int) (hv : EV encG 2 w v gs) (hlen : gs.length ≤ 100000) :
    Calls Try.prog 21 #[v, .int .i64 z] w fun e w' => ∃ r, e = .returned (.tuple #[r, .int .i64 (thereZ gs [z])]) ∧ OV encI 1 3 w.heap.size w' r (childL gs z) ∧ Below w.heap.size w w' := by
  have HT := Lib.hid (fun (w1 : World) (h : Below w.heap.size w w1) => there_one w1 v gs z (hv.below h) hlen)
  obtain ⟨A, c, rfl⟩ := hv.shape
  by_cases ht : thereZ gs [z] = 0
  · have hd : childL gs z = chosen (childB gs z.toNat) gs.length := if_pos ht
    obtain ⟨hok, hz⟩ := there_zero.1 ht
    obtain ⟨hz1, hz2⟩ := hz z (by simp)
    obtain ⟨g, rfl⟩ := Int.eq_ofNat_of_zero_le hz1
    rw [Int.toNat_natCast] at hd
    obtain ⟨b, off, c', he, hc, hr⟩ := hv.row hok.pos
    simp only [Value.slice.injEq, true_and] at he
    obtain ⟨rfl, rfl⟩ := he
    have C := Lib.hid (fun (w1 : World) (Bl Bg : Nat) (h : Below w.heap.size w w1) (h1 : w1.cell? ⟨Bl, 0, none⟩ = some (.slice (some ⟨b, off, none⟩) gs.length c)) (h2 : w1.cell? ⟨Bg, 0, none⟩ = some (.int .i64 g)) =>
      those_ok w1 (some ⟨b, off, none⟩) gs.length c 46 #[.pointer (some ⟨Bl, 0, none⟩), .pointer (some ⟨Bg, 0, none⟩)] (childB gs g) hlen (enters_of Try.func46 (by kernel_rfl) rfl)
        (fun W x hb hx => child1_ok W Bl Bg b off c x g gs hx hlen (hr.below (h.trans (hb.mono h.size))) (below_cell hb h1) (below_cell hb h2)))
    rw [ht] at HT
    rw [ht, hd]
    clear hv hr hz hz1 hd ht hok
    go_enter Try.func21, Try.ntmps21
    go_wp2_with fail
    refine (HT.out _ (((Below.refl _ _).alloc (Nat.le_refl _) _).alloc (by simp) _) _ (by simp)).mono ?_
    rintro e w1 ⟨rfl, hb⟩
    have hb0 := (((Below.refl _ w).alloc (Nat.le_refl _) (.cells #[.slice (some ⟨b, off, none⟩) gs.length c] 31)).alloc (by simp) (.cells #[.int .i64 g] 3)).trans (hb.mono (by simp; omega))
    have c0 := below_cell hb (p := ⟨w.heap.size, 0, none⟩) (u := .slice (some ⟨b, off, none⟩) gs.length c) (by simp [go_sem])
    have c1 := below_cell hb (p := ⟨w.heap.size + 1, 0, none⟩) (u := .int .i64 g) (by simp [go_sem])
    have hsz := hb0.size
    clear hb HT
    go_wp2_with fail
    refine (C.out w1 w.heap.size (w.heap.size + 1) hb0 c0 c1).mono ?_
    rintro e w2 ⟨r, rfl, ho, hb2⟩
    have hb3 := hb0.trans (hb2.mono hsz)
    have ho' := ho.base_le hsz
    clear ho hb2 c0 c1
    go_wp2
    go_ret2
    exact ⟨r, rfl, ho', hb3⟩
  · have hd : childL gs z = [] := if_neg ht
    rw [hd]
    generalize thereZ gs [z] = t at HT ht ⊢
    have ht' : (t != 0) = true := by simp [ht]
    clear ht hv hd
    go_enter Try.func21, Try.ntmps21
    go_wp2_with fail
    refine (HT.out _ (((Below.refl _ _).alloc (Nat.le_refl _) _).alloc (by simp) _) _ (by simp)).mono ?_
    rintro e w1 ⟨rfl, hb⟩
    have hb0 := (((Below.refl _ w).alloc (Nat.le_refl _) (.cells #[.slice A gs.length c] 31)).alloc (by simp) (.cells #[.int .i64 z] 3)).trans (hb.mono (by simp; omega))
    clear hb HT
    go_wp2
    go_ret2
    exact ⟨_, rfl, OV.nil _ _, hb0⟩

end Go.Proofs.Ytenngfkgfdogjaa
