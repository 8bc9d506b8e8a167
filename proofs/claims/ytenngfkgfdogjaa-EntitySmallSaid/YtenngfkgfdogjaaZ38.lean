/- EntitySmall: bent, whole, and the law's loops. -/
import Derived.Test.YtenngfkgfdogjaaZ37
set_option linter.unusedVariables false
set_option linter.unusedSimpArgs false
set_option linter.unusedSectionVars false
namespace Go.Proofs.Ytenngfkgfdogjaa
open Go Go.RowKit Go.Shelf
attribute [local go_sem] Oper.semAt_some

set_option maxRecDepth 100000 in
set_option maxHeartbeats 3200000 in
theorem bent_ok (w : World) (way : Nat) (hw : way < 40) : Calls Try.prog 34 #[.int .i64 (way : Nat)] w fun e w' => ∃ c s, e = .returned (c.val s) ∧ StG w' c s ∧ Below w.heap.size w w' := by
  have Z0 := Lib.hid (zbox_new (w := w) rfl)
  have A1 := Lib.hid (bel_alloc w (.cells #[.int .i64 0, .int .u64 0, .slice none 0 0, .slice none 0 0, .slice none 0 0, .slice none 0 0, .slice none 0 0] 38))
  have EX := Lib.hid (example_ok3 (w.alloc (.cells #[.int .i64 0, .int .u64 0, .slice none 0 0, .slice none 0 0, .slice none 0 0, .slice none 0 0, .slice none 0 0] 38)))
  have SZ := Lib.hid (show (w.alloc (.cells #[.int .i64 0, .int .u64 0, .slice none 0 0, .slice none 0 0, .slice none 0 0, .slice none 0 0, .slice none 0 0] 38)).heap.size = w.heap.size + 1 from World.size_alloc _ _)
  go_enter Try.func34, Try.ntmps34
  go_upto_region 1 with fail
  generalize w.alloc (.cells #[.int .i64 0, .int .u64 0, .slice none 0 0, .slice none 0 0, .slice none 0 0, .slice none 0 0, .slice none 0 0] 38) = w1 at Z0 A1 EX SZ ⊢
  go_cut [3] (fun v wx => ∃ c s X, v = .pointer (some ⟨X, 0, none⟩) ∧ Bf w X c s wx)
  case first =>
    go_wp2_with fail
    refine EX.out.mono ?_
    rintro e w2 ⟨⟨vg', vc', vu', vt', vs'⟩, s, rfl, o, sim, bb, ne, rb⟩
    rw [SZ.out] at o
    obtain ⟨A1', c1, h1⟩ := (o.og.ev encG_len).shape
    obtain ⟨A2, c2, h2⟩ := (o.oc.ev encI_len).shape
    obtain ⟨A3, c3, h3⟩ := (o.ou.ev encI_len).shape
    obtain ⟨A4, c4, h4⟩ := (o.ot.ev encT_len).shape
    obtain ⟨A5, c5, h5⟩ := (o.os.ev encR_len).shape
    dsimp only at h1 h2 h3 h4 h5 ne
    subst h1 h2 h3 h4 h5
    have O := Lib.hid o
    have S := Lib.hid sim
    have B := Lib.hid bb
    have NE := Lib.hid ne
    have RB := Lib.hid rb
    clear o sim bb ne rb
    unfold StC.val StC.cells
    dsimp only
    go_wp2_with fail
    go_meet
    refine ⟨⟨.slice A1' s.gs.length c1, .slice A2 s.cl.length c2, .slice A3 s.cu.length c3, .slice A4 s.ts.length c4, .slice A5 s.ss.length c5⟩, s, w2.heap.size, rfl, ⟨⟨O.out.below (bel_alloc _ _), StBox.new w2 ⟨.slice A1' s.gs.length c1, .slice A2 s.cl.length c2, .slice A3 s.cu.length c3, .slice A4 s.ts.length c4, .slice A5 s.ss.length c5⟩ s, S.out, (Z0.out.below B.out).alloc _, ?_, ?_⟩, NE.out, RB.out⟩⟩
    · exact below_step (A1.out.trans (B.out.mono A1.out.size)) (bel_alloc _ _)
    · have := B.out.size; have := SZ.out; omega
  case rest =>
  obtain ⟨c, s, X, rfl, h⟩ := hcut
  obtain ⟨w2, hw2⟩ : ∃ w2, w2 = wc := ⟨_, rfl⟩
  subst hw2
  obtain ⟨l1, l2, l3, l4, l5, l6⟩ := h.e.len
  obtain ⟨gg, cg, hvg, _, _⟩ := h.e.o.og.form (by omega)
  obtain ⟨gc, cc, hvc, _, _⟩ := h.e.o.oc.form (by omega)
  obtain ⟨gu, cu, hvu, _, _⟩ := h.e.o.ou.form (by omega)
  obtain ⟨gt, ct, hvt, _, _⟩ := h.e.o.ot.form (by omega)
  obtain ⟨gs, cs, hvs, _, _⟩ := h.e.o.os.form (by omega)
  rw [l1] at hvg
  rw [l2] at hvc
  rw [l3] at hvu
  rw [l4] at hvt
  rw [l5] at hvs
  have d5 := h.e.bx.cell.2.2.2.2.2.1
  rw [hvt] at d5
  obtain ⟨p, hp⟩ : ∃ p, way / 2 = p := ⟨_, rfl⟩
  obtain ⟨r, hr⟩ : ∃ r, p % 2 = r := ⟨_, rfl⟩
  have e1 : (way : Int) / 2 = (p : Int) := by rw [← hp]; rfl
  have e2 : (p : Int) % 2 = (r : Int) := by rw [← hr]; rfl
  have hp2 : p < 20 := by omega
  have hr2 : r < 2 := by omega
  have hr3 : (r : Int) < 2 := by omega
  have hr4 : (0 : Int) ≤ (r : Int) := by omega
  have w1 : IntKind.i64.wrap (p : Int) = (p : Int) := IntWalk.i64_in _ (by omega)
  have H := Lib.hid h
  have HVG := Lib.hid hvg
  have HVC := Lib.hid hvc
  have HVU := Lib.hid hvu
  have HVT := Lib.hid hvt
  have HVS := Lib.hid hvs
  clear EX h hvg hvc hvu hvt hvs l1 l2 l3 l4 l5 l6 hp hr
  go_upto_region 2 with fail
  go_cut [4] (fun v wx => v = .pointer (some ⟨gt, r * 8, none⟩) ∧ wx = w2)
  case first =>
    go_wp2_with fail
    go_meet
    exact ⟨rfl, rfl⟩
  case rest =>
    obtain ⟨rfl, rfl⟩ := hcut
    refine (‹∀ (a : Act) (w : World), Code.wp _ _ _ a w → _› : ∀ (a : Act) (w : World), _ → _) _ _ (bent_t3 w _ X gg gc gu gt gs cg cc cu ct cs way r c s H.out hw hr2 HVG.out HVC.out HVU.out HVT.out HVS.out)
/-- A state of two CPUs and three groups, with some tasks. -/
structure SmO (w : World) (X : Nat) (c : StC) (s : St) (i : Nat) (W : World) : Prop where
  bx : StBox W X c s
  o : StO w.heap.size W c s
  n : s.n = 2
  lg : s.gs.length = 3
  lc : s.cl.length = 2
  lu : s.cu.length = 2
  ls : s.ss.length = 3
  lr : ∀ x ∈ s.ss, x.2.length = 2
  lt : s.ts.length = i
  hX : w.heap.size ≤ X
  bel : Below w.heap.size w W
section
variable {w W : World} {X i : Nat} {c : StC} {s : St}
theorem SmO.below {W' : World} (h : SmO w X c s i W) (hb : Below W.heap.size W W') : SmO w X c s i W' := ⟨h.bx.below hb, h.o.below hb, h.n, h.lg, h.lc, h.lu, h.ls, h.lr, h.lt, h.hX, h.bel.trans (hb.mono h.bel.size)⟩
theorem SmO.app (h : SmO w X c s i W) (hi : i ≤ 5) {t : Tk} {sv : Value} (hA : EV encT 8 W sv [t]) (ty : TypeId) :
    ∃ v' w', (Builtin.append_ #[35, 35] ty #[c.vt, sv]).run Try.prog W = .ok v' w' ∧ (∃ A m c, v' = .slice A m c) ∧ (∃ u, w'.cell? ⟨X, 5, none⟩ = some u) ∧ w'.frozen? ⟨X, 5, none⟩ = false ∧ ∃ c' s', SmO w X c' s' (i + 1) (w'.setCell ⟨X, 5, none⟩ v') := by
  have o := h.o
  obtain ⟨v', w', hr, ho, hg⟩ := run_app elemT encT_len encT_one ty o.ot hA (by rw [h.lt]; simp; omega) h.bel.size
  have nz : ∀ {α : Type} {enc : α → List Value} {k : Nat} {e : TypeId} {v : Value} {xs : List α}, OV enc k e w.heap.size W v xs → e ≠ 61 → OV enc k e w.heap.size w' v xs := fun h he => h.keep hg (h.ne2 o.ot he)
  have bx2 : StBox w' X c s := by
    unfold StBox
    rw [hg.block X h.bx.lt (fun e => by
      rcases o.ot.ne_bx h.bx (by decide) with h1 | h1
      · rw [h1] at e; cases e
      · exact h1 e.symm)]
    exact h.bx
  have bb2 : Below w.heap.size w w' := h.bel.grown hg h.bel.size (fun k hk => (o.ot.block _ hk).1)
  have so : ∀ {α : Type} {enc : α → List Value} {k : Nat} {e : TypeId} {v : Value} {xs : List α}, OV enc k e w.heap.size w' v xs → e ≠ 38 → OV enc k e w.heap.size (w'.setCell ⟨X, 5, none⟩ v') v xs := fun h he => h.setbx bx2 he 5 v'
  exact ⟨v', w', hr, (by obtain ⟨A, c9, h9⟩ := (ho.ev encT_len).shape; exact ⟨A, _, c9, h9⟩), ⟨_, bx2.cell.2.2.2.2.2.1⟩, bx2.frz 5, { c with vt := v' }, { s with ts := s.ts ++ [t] }, bx2.set' rfl,
    ⟨so (nz o.og (by decide)) (by decide), so (nz o.oc (by decide)) (by decide), so (nz o.ou (by decide)) (by decide), so ho (by decide), so (nz o.os (by decide)) (by decide), fun x hx => so (nz (o.orr x hx) (by decide)) (by decide)⟩,
    h.n, h.lg, h.lc, h.lu, h.ls, h.lr, by show (s.ts ++ [t]).length = i + 1; rw [List.length_append, h.lt]; rfl, h.hX, bb2.setCell (p := ⟨X, 5, none⟩) h.hX _⟩
theorem SmO.tell (h : SmO w X c s i W) (hi : i ≤ 5) (g cpu id : Int) : Calls Try.prog 33 #[c.val s, .int .i64 g, .int .i64 cpu, .int .i64 id] W fun e w' => e = .returned (.bool true) ∧ Below W.heap.size W w' :=
  tells_ok W c s g cpu id h.o.at ⟨by have := h.lg; omega, by have := h.lc; omega, by have := h.lu; omega, by have := h.lt; omega, by have := h.ls; omega, fun x hx => by have := h.lr x hx; omega⟩ ⟨by have := h.lg; omega, by have := h.lt; omega, by have := h.n; omega, by have := h.n; omega⟩
end
set_option maxRecDepth 100000 in
set_option maxHeartbeats 6400000 in
theorem smallLaw_walk (w : World) : Calls Try.prog 10 #[] w fun e w' => e = .returned (.bool true) ∧ Below w.heap.size w w' := by
  go_enter Try.func10, Try.ntmps10
  go_wp2_with fail
  go_loopg [6] 4608 (fun k i wr => ∃ j : Nat, j + k = 4608 ∧ i = .int .i64 j ∧ Below w.heap.size w wr)
  case atStart => exact ⟨0, by omega, rfl, Below.refl _ _⟩
  case round =>
    obtain ⟨j, hj, rfl, hbr⟩ := hrel
    have HJ := Lib.hid hj
    have HBR := Lib.hid hbr
    have hsw := hbr.size
    clear hj
    by_cases hlt : j < 4608
    · have hd : decide ((j : Int) < 4608) = true := by rw [decide_eq_true_eq]; omega
      clear hbr
      have HBR2 := Lib.hid HBR.out
      go_upto_region 4 with fail
      go_cut [2] (fun v wx => ∃ c s X, v = .pointer (some ⟨X, 0, none⟩) ∧ SmO w X c s 0 wx)
      case first =>
        go_wp2_with fail
        go_meet
        generalize hw1 : wr.alloc _ = w1
        generalize hw2 : w1.alloc _ = w2
        generalize hw3 : w2.alloc _ = w3
        generalize hw4 : w3.alloc _ = w4
        generalize hw5 : w4.alloc _ = w5
        generalize hw6 : w5.alloc _ = w6
        generalize hw7 : w6.alloc _ = w7
        have s1 : w1.heap.size = wr.heap.size + 1 := by rw [← hw1]; simp
        have s2 : w2.heap.size = wr.heap.size + 1 + 1 := by rw [← hw2]; simp [s1]
        have s3 : w3.heap.size = wr.heap.size + 1 + 1 + 1 := by rw [← hw3]; simp [s2]
        have s4 : w4.heap.size = wr.heap.size + 1 + 1 + 1 + 1 := by rw [← hw4]; simp [s3]
        have s5 : w5.heap.size = wr.heap.size + 1 + 1 + 1 + 1 + 1 := by rw [← hw5]; simp [s4]
        have s6 : w6.heap.size = wr.heap.size + 1 + 1 + 1 + 1 + 1 + 1 := by rw [← hw6]; simp [s5]
        have s7 : w7.heap.size = wr.heap.size + 1 + 1 + 1 + 1 + 1 + 1 + 1 := by rw [← hw7]; simp [s6]
        obtain ⟨w8, hw8⟩ : ∃ w8, w7.alloc (.cells #[.int .i64 2, .int .u64 0, .slice (some ⟨wr.heap.size, 0, none⟩) 3 3, .slice (some ⟨wr.heap.size + 1, 0, none⟩) 2 2, .slice (some ⟨wr.heap.size + 1 + 1, 0, none⟩) 2 2, .slice none 0 0, .slice (some ⟨wr.heap.size + 1 + 1 + 1 + 1 + 1 + 1, 0, none⟩) 3 3] 38) = w8 := ⟨_, rfl⟩
        rw [hw8]
        have b8 : Below w7.heap.size w7 w8 := by rw [← hw8]; exact bel_alloc _ _
        have b7 : Below w6.heap.size w6 w8 := below_step (by rw [← hw7]; exact bel_alloc _ _) b8
        have b6 : Below w5.heap.size w5 w8 := below_step (by rw [← hw6]; exact bel_alloc _ _) b7
        have b5 : Below w4.heap.size w4 w8 := below_step (by rw [← hw5]; exact bel_alloc _ _) b6
        have b4 : Below w3.heap.size w3 w8 := below_step (by rw [← hw4]; exact bel_alloc _ _) b5
        have b3 : Below w2.heap.size w2 w8 := below_step (by rw [← hw3]; exact bel_alloc _ _) b4
        have b2 : Below w1.heap.size w1 w8 := below_step (by rw [← hw2]; exact bel_alloc _ _) b3
        have b1 : Below wr.heap.size wr w8 := below_step (by rw [← hw1]; exact bel_alloc _ _) b2
        obtain ⟨za, og⟩ : ∃ z, OV encG 2 82 w.heap.size w1 (.slice (some ⟨wr.heap.size, 0, none⟩) 3 3) [(0, 1), (0, 2), (z, 3)] := ⟨_, by rw [← hw1]; exact OV.litM rfl hsw rfl rfl rfl (by omega)⟩
        have oc : OV encI 1 3 w.heap.size w2 (.slice (some ⟨wr.heap.size + 1, 0, none⟩) 2 2) [0, 0] := by rw [← hw2]; exact OV.litM s1 (by omega) rfl rfl rfl (by omega)
        have ou : OV encI 1 3 w.heap.size w3 (.slice (some ⟨wr.heap.size + 1 + 1, 0, none⟩) 2 2) [0, 0] := by rw [← hw3]; exact OV.litM s2 (by omega) rfl rfl rfl (by omega)
        have o0 : OV encS 3 51 w.heap.size w4 (.slice (some ⟨wr.heap.size + 1 + 1 + 1, 0, none⟩) 2 2) [⟨0, 0, 0⟩, ⟨0, 0, 0⟩] := by rw [← hw4]; exact OV.litM s3 (by omega) rfl rfl rfl (by omega)
        obtain ⟨zb, o1⟩ : ∃ z, OV encS 3 51 w.heap.size w5 (.slice (some ⟨wr.heap.size + 1 + 1 + 1 + 1, 0, none⟩) 2 2) [⟨z, 0, 0⟩, ⟨1, 0, 0⟩] := ⟨_, by rw [← hw5]; exact OV.litM s4 (by omega) rfl rfl rfl (by omega)⟩
        obtain ⟨zc, o2⟩ : ∃ z, OV encS 3 51 w.heap.size w6 (.slice (some ⟨wr.heap.size + 1 + 1 + 1 + 1 + 1, 0, none⟩) 2 2) [⟨1, 0, 0⟩, ⟨z, 0, 0⟩] := ⟨_, by rw [← hw6]; exact OV.litM s5 (by omega) rfl rfl rfl (by omega)⟩
        have os : OV encR 1 52 w.heap.size w7 (.slice (some ⟨wr.heap.size + 1 + 1 + 1 + 1 + 1 + 1, 0, none⟩) 3 3) [(.slice (some ⟨wr.heap.size + 1 + 1 + 1, 0, none⟩) 2 2, [⟨0, 0, 0⟩, ⟨0, 0, 0⟩]), (.slice (some ⟨wr.heap.size + 1 + 1 + 1 + 1, 0, none⟩) 2 2, [⟨zb, 0, 0⟩, ⟨1, 0, 0⟩]), (.slice (some ⟨wr.heap.size + 1 + 1 + 1 + 1 + 1, 0, none⟩) 2 2, [⟨1, 0, 0⟩, ⟨zc, 0, 0⟩])] := by rw [← hw7]; exact OV.litM s6 (by omega) rfl rfl rfl (by omega)
        have hx := heap_alloc_new w7 (.cells #[.int .i64 2, .int .u64 0, .slice (some ⟨wr.heap.size, 0, none⟩) 3 3, .slice (some ⟨wr.heap.size + 1, 0, none⟩) 2 2, .slice (some ⟨wr.heap.size + 1 + 1, 0, none⟩) 2 2, .slice none 0 0, .slice (some ⟨wr.heap.size + 1 + 1 + 1 + 1 + 1 + 1, 0, none⟩) 3 3] 38)
        rw [hw8, s7] at hx
        refine ⟨⟨_, _, _, _, _⟩, ⟨2, 0, [(0, 1), (0, 2), (za, 3)], [0, 0], [0, 0], [], [(.slice (some ⟨wr.heap.size + 1 + 1 + 1, 0, none⟩) 2 2, [⟨0, 0, 0⟩, ⟨0, 0, 0⟩]), (.slice (some ⟨wr.heap.size + 1 + 1 + 1 + 1, 0, none⟩) 2 2, [⟨zb, 0, 0⟩, ⟨1, 0, 0⟩]), (.slice (some ⟨wr.heap.size + 1 + 1 + 1 + 1 + 1, 0, none⟩) 2 2, [⟨1, 0, 0⟩, ⟨zc, 0, 0⟩])]⟩, _, rfl, hx, ⟨og.below b2, oc.below b3, ou.below b4, OV.nil _ _, os.below b8, fun x hx => ?_⟩, rfl, rfl, rfl, rfl, rfl, fun x hx => ?_, rfl, by omega, HBR.out.trans (b1.mono hsw)⟩
        · simp at hx
          rcases hx with rfl | rfl | rfl
          · exact o0.below b5
          · exact o1.below b6
          · exact o2.below b7
        · simp at hx
          rcases hx with rfl | rfl | rfl <;> rfl
      case rest =>
      obtain ⟨c, s, X, rfl, h0⟩ := hcut
      obtain ⟨w3, hw3⟩ : ∃ w3, w3 = wc := ⟨_, rfl⟩
      subst hw3
      have H0 := Lib.hid h0
      clear h0
      go_upto_block 2 with fail
      go_cut [] (fun wx => ∃ c s, SmO w X c s 2 wx)
      case first =>
        go_wp2_with fail
        go_loopg [3, 4] 2 (fun k u v wr => ∃ (i : Nat) (z : Int) (c : StC) (s : St), i + k = 2 ∧ u = .int .i64 i ∧ v = .int .i64 z ∧ SmO w X c s i wr)
        case atStart => exact ⟨0, _, c, s, by omega, rfl, rfl, H0.out⟩
        case round =>
          obtain ⟨i, z, c2, s2, hi, rfl, rfl, hs⟩ := hrel
          have HI := Lib.hid hi
          have HS := Lib.hid hs
          clear hi
          by_cases hil : i < 2
          · have hd2 : decide ((i : Int) < 2) = true := by rw [decide_eq_true_eq]; omega
            obtain ⟨b0, b1, b2, b3, b4, b5, b6⟩ := hs.bx.cell
            clear hs b0 b1 b2 b3 b4 b6
            go_wp2_with (at_builtin; refine wpList_app_run rfl _ _ rfl _ _ rfl rfl ((HS.out.below (bel_alloc _ _)).app (by omega) (t := ⟨_, _, _, _, _, _, _, _⟩) (EV.new1 rfl (Nat.le_refl _)) _) ?_; rintro v' w' ⟨⟨A9, m9, c9, rfl⟩, ⟨u, hc⟩, hf, c3, s3, hsm⟩; have HSM := Lib.hid hsm; clear hsm)
            go_wp2
            go_roundg (gk - 1)
            case measure => have := HI.out; omega
            case rel => exact ⟨i + 1, _, c3, s3, by have := HI.out; omega, by go_num, rfl, HSM.out⟩
          · have hd2 : decide ((i : Int) < 2) = false := by rw [decide_eq_false_iff_not]; omega
            obtain rfl : i = 2 := by have := HI.out; omega
            clear hs
            go_wp2
            go_meet
            exact ⟨c2, s2, HS.out⟩
      case rest =>
      obtain ⟨c2, s2, h2⟩ := hcut
      obtain ⟨w4, hw4⟩ : ∃ w4, w4 = wc := ⟨_, rfl⟩
      subst hw4
      obtain ⟨b0, b1, b2, b3, b4, b5, b6⟩ := h2.bx.cell
      have H2 := Lib.hid h2
      clear h2
      go_wp2_with fail
      refine (H2.out.tell (by omega) _ _ _).mono ?_
      rintro e w5 ⟨rfl, bb⟩
      have B5 := Lib.hid (H2.out.bel.trans (bb.mono H2.out.bel.size))
      clear bb b0 b1 b2 b3 b4 b5 b6
      go_wp2
      go_roundg (gk - 1)
      case measure => have := HJ.out; omega
      case rel => exact ⟨j + 1, by have := HJ.out; omega, by go_num, B5.out⟩
    · have hd : decide ((j : Int) < 4608) = false := by rw [decide_eq_false_iff_not]; omega
      clear hbr
      go_wp2_with fail
      obtain ⟨w2, hw2⟩ : ∃ w2, w2 = wr := ⟨_, rfl⟩
      subst hw2
      go_loopg [80] 40 (fun k i wr => ∃ m : Nat, m + k = 40 ∧ i = .int .i64 m ∧ Below w2.heap.size w2 wr)
      case atStart => exact ⟨0, by omega, rfl, Below.refl _ _⟩
      case round =>
        obtain ⟨m, hm, rfl, hbm⟩ := hrel
        have HMJ := Lib.hid hm
        have HBM := Lib.hid hbm
        have hsm := hbm.size
        clear hm
        by_cases hlm : m < 40
        · have hdm : decide ((m : Int) < 40) = true := by rw [decide_eq_true_eq]; omega
          have BE := Lib.hid (bent_ok wr m hlm)
          clear hbm
          go_wp2_with fail
          refine BE.out.mono ?_
          rintro e w3 ⟨c, s, rfl, hg, bb⟩
          have B3 := Lib.hid (HBM.out.trans (bb.mono hsm))
          have HG := Lib.hid hg
          clear bb BE hg
          go_wp2_with fail
          refine (tells_ok w3 c s _ _ _ HG.out.at' HG.out.stl HG.out.stb).mono ?_
          rintro e w4 ⟨rfl, bb⟩
          have B4 := Lib.hid (B3.out.trans (bb.mono B3.out.size))
          clear bb HG
          go_wp2
          go_roundg (40 - (m + 1))
          case measure => have := HMJ.out; omega
          case rel => exact ⟨m + 1, by omega, by go_num, B4.out⟩
        · have hdm : decide ((m : Int) < 40) = false := by rw [decide_eq_false_iff_not]; omega
          clear hbm
          go_wp2_with fail
          refine (tells_ok wr ⟨.slice none 0 0, .slice none 0 0, .slice none 0 0, .slice none 0 0, .slice none 0 0⟩ ⟨0, 0, [], [], [], [], []⟩ 0 0 0 ⟨EV.nil _ _, EV.nil _ _, EV.nil _ _, EV.nil _ _, EV.nil _ _, by simp⟩ ⟨by simp, by simp, by simp, by simp, by simp, by simp⟩ ⟨by simp, by simp, by decide, by decide⟩).mono ?_
          rintro e w3 ⟨rfl, bb⟩
          have B3 := Lib.hid (HBR.out.trans ((HBM.out.trans (bb.mono hsm)).mono hsw))
          clear bb
          go_wp2_with fail
          refine (awake_ok w3).mono ?_
          rintro e w4 ⟨rfl, bb⟩
          have B4 := Lib.hid (B3.out.trans (bb.mono B3.out.size))
          clear bb
          go_wp2
          go_ret
          exact ⟨rfl, B4.out⟩
end Go.Proofs.Ytenngfkgfdogjaa
