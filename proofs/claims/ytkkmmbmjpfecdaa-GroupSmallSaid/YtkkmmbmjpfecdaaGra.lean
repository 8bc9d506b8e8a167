/- Contracts of package group's inner functions, of Check, Right and there. -/
import Derived.Test.YtkkmmbmjpfecdaaIt
import Derived.Test.YtkkmmbmjpfecdaaGm
namespace Go.Proofs.Ytkkmmbmjpfecdaa
open Go.RowKit Go.Shelf
attribute [local go_sem] Oper.semAt_some

set_option maxHeartbeats 400000 in
theorem weighs_ok (a : Int) (w : World) :
    Calls Try.prog 43 #[.int .i64 a] w fun e w' => e = .returned (.bool (wB a)) ∧ w = w' := by
  by_cases h1 : 1 ≤ a <;> by_cases h2 : a ≤ 65536
  all_goals
    go_enter Try.func43, Try.ntmps43
    go_wp2
    go_ret
    exact ⟨by simp [wB, h1, h2], rfl⟩

set_option maxHeartbeats 400000 in
theorem up1_iter (w : World) (Bg Bl b off c g : Nat) (gs : List (Int × Int)) (p : List Nat) (hp : IsUp gs p) (hp0 : p[0]? = some g)
    (h1 : w.cell? ⟨Bg, 0, none⟩ = some (.int .i64 g)) (h1f : w.frozen? ⟨Bg, 0, none⟩ = false) (h2 : w.cell? ⟨Bl, 0, none⟩ = some (.slice (some ⟨b, off, none⟩) gs.length c))
    (hc : ER encG 2 w b off gs) (hlen : gs.length ≤ 100000) (hgl : Bg ≠ Bl) (hgb : Bg ≠ b) :
    Iter Try.prog 55 #[.pointer (some ⟨Bg, 0, none⟩), .pointer (some ⟨Bl, 0, none⟩)] (fun k => #[.int .i64 (p[k]?.getD 0 : Nat)]) p.length (fun k => k = Bg ∨ k = Bl ∨ k = b) (fun k => k = Bg) w := by
  intro l J Jx W hsz hW hJ hJx hY h0
  have same : ∀ {q : Addr} {u : Value}, (q.block = Bg ∨ q.block = Bl ∨ q.block = b) → w.cell? q = some u → W.cell? q = some u ∧ W.frozen? q = w.frozen? q := by
    intro q u hq hc
    obtain ⟨o, ho, _⟩ := cells_of_cell hc
    have := hW _ o ho hq
    exact ⟨(World.cell?_of_block (w := w) (by rw [this, ho])).trans hc, World.frozen?_of_block (w := w) (by rw [this, ho])⟩
  have H1 := same (.inl rfl) h1
  have H2 := same (.inr (.inl rfl)) h2
  have Hc : ER encG 2 W b off gs := hc.keep fun q u hq hc => (same (.inr (.inr hq)) hc).1
  have H1f := H1.2.trans h1f
  have H1c := H1.1
  have H2c := H2.1
  clear same H1 H2 h1 h1f h2 hc hW hsz
  refine callsIn_of_wp Try.func55 rfl trivial ?_ rfl
  simp only [Try.ntmps55, List.size_toArray, List.length_cons, List.length_nil, Nat.reduceAdd, Nat.reduceSub, Array.replicate_succ, Array.replicate_zero, List.push_toArray, List.append_toArray, List.nil_append, List.cons_append]
  gi_wp2
  gi_loopw [] (fun wr => ∃ k x : Nat, p[k]? = some x ∧ J k wr ∧ wr.cell? ⟨Bg, 0, none⟩ = some (.int .i64 x) ∧ wr.frozen? ⟨Bg, 0, none⟩ = false ∧ wr.cell? ⟨Bl, 0, none⟩ = some (.slice (some ⟨b, off, none⟩) gs.length c) ∧ ER encG 2 wr b off gs)
    (fun wr => (intOf ((wr.cell? ⟨Bg, 0, none⟩).getD undef)).toNat)
  case atStart => exact ⟨0, g, hp0, h0, H1c, H1f, H2c, Hc⟩
  case round =>
    clear H1f H1c H2c Hc h0
    obtain ⟨k, x, hx, hj, c1, f1, c2, hr⟩ := hrel
    have hk : k < p.length := (List.getElem?_eq_some_iff.1 hx).1
    have hYk := hY k wr hk hj
    simp only [hx, Option.getD_some] at hYk
    obtain ⟨fn, tmps, assign, body, hy, hR⟩ := hYk
    obtain ⟨hxl, hx0, hx1⟩ := hp k x hx
    have HX := Lib.hid hx; have HX0 := Lib.hid hx0; have HX1 := Lib.hid hx1; have HR := Lib.hid hr
    clear hx hx0 hx1 hr
    have hd0 : W0.depth = none := rfl
    gi_wp2
    refine hR.mono ?_
    rintro e W' ⟨hsz, hS, hres⟩
    have same : ∀ {q : Addr} {u : Value}, (q.block = Bg ∨ q.block = Bl ∨ q.block = b) → wr.cell? q = some u → W'.cell? q = some u ∧ W'.frozen? q = wr.frozen? q := by
      intro q u hq hc
      obtain ⟨o, ho, _⟩ := cells_of_cell hc
      have := hS _ o ho hq
      exact ⟨(World.cell?_of_block (w := wr) (by rw [this, ho])).trans hc, World.frozen?_of_block (w := wr) (by rw [this, ho])⟩
    have d1 := (same (.inl rfl) c1).1
    have d1f := (same (.inl rfl) c1).2.trans f1
    have d2 := (same (.inr (.inl rfl)) c2).1
    have dr : ER encG 2 W' b off gs := HR.out.keep fun q u hq hc => (same (.inr (.inr hq)) hc).1
    have dp : W'.cell? ⟨b, off + x * 2, none⟩ = some (.int .i64 (par gs x)) := by rw [par_get (List.getElem?_eq_getElem hxl)]; exact (dr.grp (List.getElem?_eq_getElem hxl)).1
    have DR := Lib.hid dr
    clear same dr hy hR HR hS
    rcases hres with ⟨rfl, hj'⟩ | ⟨rfl, hjx⟩
    · by_cases h0 : x = 0
      · subst h0
        have hkl := HX0.out rfl
        clear HX0 HX1 HX
        gi_wp2
        go_end0
        exact ⟨⟨_, rfl⟩, .inl (hkl ▸ hj')⟩
      · obtain ⟨e1, e2, e3⟩ := HX1.out (by omega)
        have E1 := Lib.hid e1
        clear e1 HX HX0 HX1
        gi_wp2
        go_roundw
        case rel =>
          refine ⟨k + 1, (par gs x).toNat, E1.out, hJ _ _ _ hj' (Mod.setCell _ rfl), ?_, by rw [World.frozen?_setCell]; exact d1f, ?_, ?_⟩
          · rw [World.cell?_setCell_same' _ _ _ (by rw [d1]; rfl), Int.toNat_of_nonneg e2]
          · exact (World.cell?_setCell_other _ _ _ _ (fun e => hgl (by injection e))).trans d2
          · exact DR.out.keep fun q u hq hc => (World.cell?_setCell_other _ _ _ _ (fun e => hgb (by rw [← hq, ← e]))).trans hc
        case measure =>
          rw [World.cell?_setCell_same' _ _ _ (by rw [d1]; rfl), c1]; simp [intOf]; omega
    · gi_wp2
      go_end0
      exact ⟨⟨_, rfl⟩, .inr hjx⟩

set_option maxHeartbeats 400000 in
theorem up_ok (w : World) (A : Option Addr) (n c : Nat) (g : Int) :
    CallsIn W0 0 Try.prog 33 #[.slice A n c, .int .i64 g] w fun e w' => e = .returned (.func (.func 55) #[] #[.pointer (some ⟨w.heap.size + 1, 0, none⟩), .pointer (some ⟨w.heap.size, 0, none⟩)]) ∧
      (w.alloc (Obj.cells #[.slice A n c] 24)).alloc (Obj.cells #[.int .i64 g] 3) = w' := by
  have hd0 : W0.depth = none := rfl
  have hfn : ∀ f, W0.fn f := fun _ => trivial
  refine callsIn_of_wp Try.func33 rfl trivial ?_ rfl
  simp only [Try.ntmps33, List.size_toArray, List.length_cons, List.length_nil, Nat.reduceAdd, Nat.reduceSub, Array.replicate_succ, Array.replicate_zero, List.push_toArray, List.append_toArray, List.nil_append, List.cons_append]
  gi_wp2
  go_ret
  exact ⟨rfl, rfl⟩

set_option maxHeartbeats 400000 in
theorem depth_ok (w : World) (b off c g : Nat) (gs : List (Int × Int)) (p : List Nat) (hp : IsUp gs p) (hp0 : p[0]? = some g) (hr : ER encG 2 w b off gs) (hlen : gs.length ≤ 100000) (hpl : p.length ≤ 100000) (hb : b < w.heap.size) :
    CallsIn W0 0 Try.prog 44 #[.slice (some ⟨b, off, none⟩) gs.length c, .int .i64 g] w fun e w' => e = .returned (.int .i64 (p.length - 1 : Int)) ∧ Below w.heap.size w w' := by
  have HR := Lib.hid hr
  have HP := Lib.hid hp
  have HP0 := Lib.hid hp0
  clear hr hp hp0
  have hfn : ∀ f, W0.fn f := fun _ => trivial
  have hd0 : W0.depth = none := rfl
  refine callsIn_of_wp_marks Try.func44 rfl trivial ?_ rfl
  simp only [Try.ntmps44, List.size_toArray, List.length_cons, List.length_nil, Nat.reduceAdd, Nat.reduceSub, Array.replicate_succ, Array.replicate_zero, List.push_toArray, List.append_toArray, List.nil_append, List.cons_append]
  gi_wp2
  refine (up_ok _ _ _ _ _).mono ?_
  rintro e w' ⟨rfl, hw⟩
  have hb0 : Below w.heap.size w w' := by rw [← hw]; exact (((Below.refl _ _).alloc (Nat.le_refl _) _).alloc (by simp) _).alloc (by simp; omega) _
  have hz : w'.heap.size = w.heap.size + 3 := by rw [← hw]; simp
  have c0 : w'.cell? ⟨w.heap.size, 0, none⟩ = some (.int .i64 (-1)) := by rw [← hw]; simp [go_sem]
  have f0 : w'.frozen? ⟨w.heap.size, 0, none⟩ = false := by rw [← hw]; simp [go_sem]
  have c1 : w'.cell? ⟨w.heap.size + 1, 0, none⟩ = some (.slice (some ⟨b, off, none⟩) gs.length c) := by rw [← hw]; simp [go_sem]
  have c2 : w'.cell? ⟨w.heap.size + 2, 0, none⟩ = some (.int .i64 g) := by rw [← hw]; simp [go_sem]
  have f2 : w'.frozen? ⟨w.heap.size + 2, 0, none⟩ = false := by rw [← hw]; simp [go_sem]
  clear hw
  gi_wp2
  refine wp_range (xs := fun k => #[.int .i64 (p[k]?.getD 0 : Nat)]) rfl (enters_of Try.func55 (by kernel_rfl) rfl)
    (up1_iter w' (w.heap.size + 2) (w.heap.size + 1) b off c g gs p HP.out HP0.out c2 f2 c1 (HR.out.keep fun q u hq hc => (hb0.cell (p := q) (by rw [hq]; exact hb)).trans hc) hlen (by omega) (by omega))
    (fun k e => by subst e; omega) (fun k e => by omega) (fun k => rfl)
    (fun k W => W.cell? ⟨w.heap.size, 0, none⟩ = some (.int .i64 (k - 1 : Int)) ∧ W.frozen? ⟨w.heap.size, 0, none⟩ = false ∧ Below w.heap.size w W) (fun _ _ => False)
    (fun k W1 W2 h hc => ⟨hc.cell h.1 (fun e => by simp at e), (hc.frozen h.1 (fun e => by simp at e)).trans h.2.1, hc.below h.2.2 (Nat.le_refl _) (by omega) (fun k e => by omega)⟩)
    (fun _ _ _ h _ => h) ⟨c0, f0, hb0⟩ ?round ?done (fun _ _ _ h => h.elim)
  case round =>
    rintro l k W hk hl hl2 ⟨h1, h2, h3⟩
    gi_wp2
    refine ⟨BK.refl _ _, fun W2 hc _ => ?_⟩
    have g1 := hc.cell h1 (fun t => t)
    have g2 := (hc.frozen h1 (fun t => t)).trans h2
    have g3 := hc.below h3 (Nat.le_refl _) (by omega) (fun k t => t.elim)
    clear h1 h2 h3 hc c0 f0
    gi_wp2
    refine ⟨BK.setCell _ g1 (by simp; omega), ?_, by rw [World.frozen?_setCell]; exact g2, g3.setCell (Nat.le_refl _) _⟩
    rw [World.cell?_setCell_same' _ _ _ (by rw [g1]; rfl)]
    congr 2; omega
  case done =>
    rintro D W ⟨h1, h2, h3⟩ hD hK
    clear c0 f0 c1 c2 f2
    gi_wp2
    exact post_mark hK (fun w' => results_tmp rfl _ _ w') ⟨rfl, below_putObj h3 (by omega) _⟩

set_option maxHeartbeats 1000000 in
theorem check_ok (w : World) (v : Value) (gs : List (Int × Int)) (hv : EV encG 2 w v gs) (hlen : gs.length ≤ 100000) :
    Calls Try.prog 20 #[v] w fun e w' => e = .returned (.tuple #[.int .i64 (checkG gs).1, .int .i64 (checkG gs).2]) ∧ Below w.heap.size w w' := by
  by_cases h256 : 256 < gs.length
  · obtain ⟨A, c, rfl⟩ := hv.shape
    have e : checkG gs = (-1, 5) := by unfold checkG; rw [if_pos h256]
    rw [e]
    clear hv e
    go_enter Try.func20, Try.ntmps20
    go_wp2
    go_ret2
    exact ⟨rfl, Below.refl _ _⟩
  · rcases Nat.eq_zero_or_pos gs.length with h0 | h0
    · obtain rfl : gs = [] := List.eq_nil_of_length_eq_zero h0
      obtain ⟨A, c, rfl⟩ := hv.shape
      clear hv h0 hlen h256
      go_enter Try.func20, Try.ntmps20
      go_wp2
      go_ret2
      exact ⟨rfl, Below.refl _ _⟩
    · obtain ⟨b, off, c, rfl, hc, hr⟩ := hv.row h0
      obtain ⟨g0, hg0⟩ : ∃ g0, gs[0]? = some g0 := ⟨_, List.getElem?_eq_getElem h0⟩
      obtain ⟨c0, c1⟩ := hr.grp hg0
      have HR := Lib.hid hr
      have HG0 := Lib.hid hg0
      clear hr hg0 hv
      obtain ⟨p0, q0⟩ := g0
      simp only [Nat.zero_mul, Nat.add_zero] at c0 c1
      have k1 : decide ((256 : Int) < (gs.length : Int)) = false := by simp; omega
      have k2 : ((gs.length : Int) == 0) = false := by simp; intro h; rw [h] at h0; simp at h0
      by_cases hroot : p0 = 0 ∧ q0 = 1
      · obtain ⟨rfl, rfl⟩ := hroot
        have e : checkG gs = chkF gs (gs.length - 1) 1 := by unfold checkG; rw [if_neg h256, if_neg (by simp [HG0.out])]
        rw [e]
        clear e h256
        go_enter Try.func20, Try.ntmps20
        go_wp2
        go_loopg [4] gs.length (fun k i wr => ∃ j : Nat, 1 ≤ j ∧ j ≤ gs.length ∧ j + k = gs.length + 1 ∧ i = .int .i64 j ∧ Below w.heap.size w wr ∧ chkF gs (gs.length - 1) 1 = chkF gs (gs.length - j) j ∧ Bef gs j)
        case atStart => exact ⟨1, by omega, by omega, by omega, rfl, Below.refl _ _, rfl, fun i h1 h2 => by omega⟩
        case round =>
          obtain ⟨j, hj1, hj2, hj3, rfl, hb, hch, hbef⟩ := hrel
          have HJ := Lib.hid hj3
          have HB := Lib.hid hb
          have HC := Lib.hid hch
          have HF := Lib.hid hbef
          clear hj3 hb hch hbef c0 c1 k1 k2
          by_cases hlt : j < gs.length
          · obtain ⟨⟨p, q⟩, hg⟩ : ∃ g, gs[j]? = some g := ⟨_, List.getElem?_eq_getElem hlt⟩
            have hr' := HR.out.below HB.out
            obtain ⟨d0, d1⟩ := hr'.grp hg
            have hp := par_get hg
            have hq := wgt_get hg
            dsimp only at d0 d1 hp hq
            have hbl : b < wr.heap.size := cell_lt d0
            have HP := Lib.hid hp
            have HQ := Lib.hid hq
            have HR' := Lib.hid hr'
            clear hp hq hg hr'
            have step : ∀ f, gs.length - j = f + 1 → chkF gs (gs.length - j) j = if par gs j < 0 ∨ (j : Int) ≤ par gs j then ((j : Int), (191 : Int))
                else if wB (wgt gs j) = false then (j, 192) else if 4 < dep gs j then (j, 193) else chkF gs f (j + 1) := fun f hf => by rw [hf]; rfl
            have ST := Lib.hid (step (gs.length - j - 1) (by omega))
            clear step
            by_cases hbad : p < 0 ∨ (j : Int) ≤ p
            · have e : chkF gs (gs.length - 1) 1 = ((j : Int), 191) := by rw [HC.out, ST.out, HP.out, if_pos hbad]
              have E := Lib.hid e
              clear e
              by_cases h : p < 0
              · clear hbad
                go_wp2
                go_ret2
                exact ⟨ret_pair E.out, HB.out⟩
              · have h' : (j : Int) ≤ p := by omega
                clear hbad
                go_wp2
                go_ret2
                exact ⟨ret_pair E.out, HB.out⟩
            · have h1 : ¬ p < 0 := fun h => hbad (.inl h)
              have h2 : p < j := by omega
              have hbef : Bef gs (j + 1) := fun i h0 hi => by
                rcases Nat.lt_or_ge i j with h | h
                · exact HF.out i h0 h
                · obtain rfl : i = j := by omega
                  rw [HP.out]; omega
              have HF' := Lib.hid hbef
              have HN := Lib.hid hbad
              clear hbef hbad
              cases hw : wB q with
              | false =>
                have e : chkF gs (gs.length - 1) 1 = ((j : Int), 192) := by rw [HC.out, ST.out, HP.out, HQ.out, if_neg HN.out, if_pos hw]
                have E := Lib.hid e
                have HW := Lib.hid hw
                clear e
                go_wp2_with (go_at_call 43; refine (weighs_ok _ _).mono ?_; rintro e w' ⟨rfl, rfl⟩)
                go_ret2
                exact ⟨ret_pair E.out, HB.out⟩
              | true =>
                have hdl := path_le HF'.out j (by omega)
                have DEP := Lib.hid (of_in (depth_ok wr b off c j gs (path gs j) (path_up HF'.out (by omega) j (by omega)) (path_head HF'.out (by omega)) HR'.out hlen (by omega) hbl))
                have hlp := path_len_pos HF'.out (g := j) (by omega)
                have HL := Lib.hid (show dep gs j = (path gs j).length - 1 from rfl)
                generalize (path gs j).length = pl at DEP hdl hlp HL
                by_cases h3 : 4 < pl - 1
                · have h3' : 4 < dep gs j := by rw [HL.out]; exact h3
                  have e : chkF gs (gs.length - 1) 1 = ((j : Int), 193) := by rw [HC.out, ST.out, HP.out, HQ.out, if_neg HN.out, if_neg (by simp [hw]), if_pos h3']
                  have E := Lib.hid e
                  clear e h3'
                  go_wp2_with (first | (go_at_call 43; refine (weighs_ok _ _).mono ?_; rintro e w' ⟨rfl, rfl⟩) | (go_at_call 44; refine DEP.out.mono ?_; rintro e w' ⟨rfl, hb2⟩))
                  go_ret2
                  exact ⟨ret_pair E.out, HB.out.trans (hb2.mono HB.out.size)⟩
                · have h3' : ¬ 4 < dep gs j := by rw [HL.out]; exact h3
                  have e : chkF gs (gs.length - 1) 1 = chkF gs (gs.length - (j + 1)) (j + 1) := by
                    rw [HC.out, ST.out, HP.out, HQ.out, if_neg HN.out, if_neg (by simp [hw]), if_neg h3', show gs.length - j - 1 = gs.length - (j + 1) from by omega]
                  have E := Lib.hid e
                  clear e h3'
                  go_wp2_with (first | (go_at_call 43; refine (weighs_ok _ _).mono ?_; rintro e w' ⟨rfl, rfl⟩) | (go_at_call 44; refine DEP.out.mono ?_; rintro e w' ⟨rfl, hb2⟩))
                  go_roundg (gk - 1)
                  case measure => have := HJ.out; omega
                  case rel => exact ⟨j + 1, by omega, by omega, by have := HJ.out; omega, by go_num, HB.out.trans (hb2.mono HB.out.size), E.out, HF'.out⟩
          · obtain rfl : j = gs.length := by omega
            have e : chkF gs (gs.length - 1) 1 = (-1, 0) := by rw [HC.out, Nat.sub_self]; rfl
            have E := Lib.hid e
            clear e
            go_wp2
            go_ret2
            exact ⟨ret_pair E.out, HB.out⟩
      · have e : checkG gs = (0, 190) := by
          unfold checkG
          rw [if_neg h256, if_pos]
          rw [HG0.out]
          intro h
          exact hroot (by simpa using h)
        rw [e]
        clear e
        by_cases h0' : p0 = 0
        · have h1 : ¬ q0 = 1 := fun h => hroot ⟨h0', h⟩
          subst h0'
          clear hroot
          go_enter Try.func20, Try.ntmps20
          go_wp2
          go_ret2
          exact ⟨rfl, Below.refl _ _⟩
        · clear hroot
          go_enter Try.func20, Try.ntmps20
          go_wp2
          go_ret2
          exact ⟨rfl, Below.refl _ _⟩
end Go.Proofs.Ytkkmmbmjpfecdaa
