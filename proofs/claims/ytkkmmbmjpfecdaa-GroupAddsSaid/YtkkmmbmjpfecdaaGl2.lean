/- The walk of the law GroupAdds: it returns true. -/
import Derived.Test.YtkkmmbmjpfecdaaGl1
import Derived.Test.YtkkmmbmjpfecdaaGmq
import Derived.Test.YtkkmmbmjpfecdaaGq
namespace Go.Proofs.Ytkkmmbmjpfecdaa
open Go.RowKit Go.Shelf

theorem EV.takeG {w : World} {b off c : Nat} {xs : List (Int × Int)} (h : ER encG 2 w b off xs) (i : Nat) (hi : i ≤ xs.length) (hc : i ≤ c) : EV encG 2 w (.slice (some ⟨b, off, none⟩) i c) (xs.take i) := by
  have hl : (xs.take i).length = i := by rw [List.length_take]; omega
  have := EV.mk (h.take i) (c := c) (by omega)
  rw [hl] at this; exact this

/-- slices.Equal of equal groups. -/
theorem eq_grp (w : World) (v1 v2 : Value) (xs : List (Int × Int)) (h1 : EV encG 2 w v1 xs) (h2 : EV encG 2 w v2 xs) (hb : xs.length ≤ 100000) :
    Calls Try.prog 21 #[v1, v2] w fun e w' => e = .returned (.bool true) ∧ Below w.heap.size w w' := by
  refine (equal_grp w v1 v2 xs xs h1 h2 (by omega) (by omega)).mono ?_
  rintro e w' ⟨rfl, q, rfl⟩
  exact ⟨by simp, below_drewN (Below.refl _ _) _⟩

section
variable {P : Program} {α : Type} {enc : α → List Value} {k bytes base : Nat} {t e : TypeId} {w w' : World} {v sv : Value} {xs ys : List α}
theorem wpList_app_g {ops : Array Oper} {rest : List Oper} {o : Oper} {a : Act} {Q : Exit → Act → World → Prop} (T : ElemT P t e k bytes) (hk : ∀ x, (enc x).length = k) (h1 : ∀ x, ∀ u ∈ enc x, u.oneCell' = true)
    (hw : Region.wanted o (yielded ops a.tmps) = true) (s x : Operand) (ho : o.op = .call { callee := .builtin .append, args := #[s, x], argTypes := #[t, t] })
    (v sv : Value) (hs : a.eval s = v) (hx : a.eval x = sv) (hown : OV enc k e base w v xs) (hys : EV enc k w sv ys) (hn : xs.length + ys.length ≤ 1000000000) (hbase : base ≤ w.heap.size)
    (h : ∀ v' w', OV enc k e base w' v' (xs ++ ys) → w.grownBy w' v.ownBlock → wpList P ops Q rest (a.put o.dst v') w') : wpList P ops Q (o :: rest) a w := by
  refine BigFrame.wpList_want hw fun _ hK => ?_
  obtain ⟨v', w', hr, h2, h3⟩ := run_app T hk h1 o.type hown hys hn hbase
  unfold Oper.wp execOp
  simp only [ho, resolve, invoke, builtin, Sem.run_bind, Sem.run_pure, Result.andThen_ok, List.map_toArray, List.map_cons, List.map_nil, hs, hx, hr]
  exact hK _ _ (h v' w' h2 h3)
end

set_option maxRecDepth 100000 in
set_option maxHeartbeats 4000000 in
theorem adds_walk (w : World) (vn : Value) (ns : List Nat) (hn : EV encU16 1 w vn ns) (hlt : ∀ n ∈ ns, n < 65536) (hlen : ns.length ≤ 9223372036854775807) (a : Nat) (wt : Int) (ha : a < 256) (hw1 : -9223372036854775808 ≤ wt) (hw2 : wt ≤ 9223372036854775807) :
    Calls Try.prog 6 #[vn, .int .u8 a, .int .i64 wt] w fun e w' => e = .returned (.bool true) ∧ Below w.heap.size w w' := by
  have HN := Lib.hid hn
  have MO := Lib.hid (made_ok hlt)
  have MW := Lib.hid (fun (w1 : World) (h : Below w.heap.size w w1) => made_walk w1 vn ns (HN.out.below h) hlt (by omega))
  clear hn hlt hlen
  generalize made ns = gs at MO MW
  obtain ⟨hok, hgl⟩ := MO.out
  have hg1 : 0 < gs.length := hok.pos
  have hg2 : gs.length ≤ 21 := by omega
  have HOK := Lib.hid hok
  clear hgl hok MO HN
  go_enter Try.func6, Try.ntmps6
  go_wp2_with fail
  refine (awake_ok w).mono ?_
  rintro e w1 ⟨rfl, b1⟩
  have M1 := Lib.hid (MW.out w1 b1)
  have s1 := b1.size
  go_wp2_with fail
  refine M1.out.mono ?_
  rintro e w2 ⟨v, rfl, o2, b2⟩
  have l2 := o2.ev encG_len
  have B2 := b1.trans (b2.mono s1)
  obtain ⟨b, off, cp, hv, hcp, r2⟩ := l2.row hg1
  subst hv
  have hbw : b < w2.heap.size := r2.lt hg1 (fun _ => by simp [encG_len])
  have s2 := B2.size
  have R2 := Lib.hid r2
  clear o2 b1 b2 M1 MW l2 r2
  have hbig : gs.length ≤ 100000 := by omega
  by_cases hc1 : cp = 1
  · have hgl1 := Lib.hid (show gs.length = 1 by omega)
    have hcp1 := Lib.hid hcp
    subst hc1
    clear hcp
    go_wp2_with fail
    have l3 : EV encG 2 (w2.alloc (.cells #[.int .i64 0, .int .i64 1] 38)) (.slice (some ⟨w2.heap.size, 0, none⟩) 1 1) (gs.take 1) := by
      have : gs.take 1 = [(0, 1)] := by
        have := HOK.out.root
        cases gs with
        | nil => simp at this
        | cons x r => simp at this; simp [this]
      rw [this]; exact EV.new1 rfl (Nat.le_refl _)
    have B3 : Below w.heap.size w (w2.alloc (.cells #[.int .i64 0, .int .i64 1] 38)) := B2.alloc s2 _
    have R3 : ER encG 2 (w2.alloc (.cells #[.int .i64 0, .int .i64 1] 38)) b off gs := R2.out.below ((Below.refl _ _).alloc (Nat.le_refl _) _)
    generalize hw3 : w2.alloc (.cells #[.int .i64 0, .int .i64 1] 38) = w3 at l3 B3 R3
    have HR3 := Lib.hid R3
    clear hw3 B2 R2 R3
    go_loopg [8, 31] gs.length (fun k v i wr => ∃ j : Nat, j + k = gs.length ∧ j + 1 ≤ gs.length ∧ i = .int .i64 j ∧ Below w3.heap.size w3 wr ∧ EV encG 2 wr v (gs.take (j + 1)))
    case atStart => exact ⟨0, by omega, by omega, rfl, Below.refl _ _, l3⟩
    case round =>
      obtain ⟨j, hj, hj2, rfl, hb, hl⟩ := hrel
      have HJ := Lib.hid hj
      have HB := Lib.hid hb
      have HL := Lib.hid hl
      have hsz := hb.size
      obtain ⟨bl, ol, cl, hvl, hcl, rl⟩ := hl.row (by rw [List.length_take]; omega)
      have htl : (gs.take (j + 1)).length = j + 1 := by rw [List.length_take]; omega
      rw [htl] at hvl hcl
      subst hvl
      clear hj hb hl rl htl l3
      · have hj1 : j + 1 = gs.length := by have := hgl1.out; omega
        rw [hj1]
        have hL := HL.out
        rw [hj1, List.take_length] at hL
        have hW : EV encG 2 wr (.slice (some ⟨b, off, none⟩) gs.length 1) gs := EV.mk (HR3.out.below HB.out) hcp1.out
        have hB := B3.trans (HB.out.mono B3.size)
        have hlt3 : ¬ j < gs.length - 1 := by omega
        clear HL HB hj1 hcl HJ hj2 hsz hgl1 hcp1
        go_wp2_with fail
        obtain ⟨P, hP, hPI⟩ : ∃ P : Nat, P < gs.length ∧ (a : Int) % (gs.length : Int) = (P : Int) := ⟨a % gs.length, Nat.mod_lt _ hg1, by omega⟩
        rw [hPI]
        have ht1 := there_ok1 HOK.out hP
        have HPI := Lib.hid hPI
        have D := Lib.hid (depthF_ok _ _ gs P hL hbig)
        have hdz : dZ gs P = (dep gs P : Nat) := by unfold dZ; rw [if_pos ht1, Int.toNat_natCast]
        rw [ht1, hdz] at D
        have HT1 := Lib.hid ht1
        clear hPI ht1 hdz
        refine D.out.mono ?_
        rintro e x1 ⟨rfl, c1⟩
        have hL1 := hL.below c1
        have hW1 := hW.below c1
        have hB1 := hB.trans (c1.mono hB.size)
        have z1 := hB1.size
        clear D c1 hL hW hB
        go_wp2_with fail
        refine (children_ok x1 _ gs P hL1 hbig).mono ?_
        rintro e x2 ⟨bf, rfl, obf, c2⟩
        rw [HT1.out]
        have hL2 := hL1.below c2
        have hW2 := hW1.below c2
        have hB2 := hB1.trans (c2.mono z1)
        have obf2 := obf.base_le z1
        have hbf2 : ∀ g, bf.ownBlock = some g → g < x2.heap.size := fun g hg => (obf.block g hg).2
        have z2 := hB2.size
        clear c2 hL1 hW1 hB1 obf
        go_wp2_with fail
        refine (add_ok x2 _ gs P wt hL2 hbig).mono ?_
        rintro e x3 ⟨mr, rfl, omr, c3⟩
        have hL3 := hL2.below c3
        have hW3 := hW2.below c3
        have hB3 := hB2.trans (c3.mono z2)
        have obf3 := obf2.below c3
        have omr3 := omr
        have z23 := c3.size
        have z3 := hB3.size
        clear c3 hL2 hW2 hB2 obf2 omr
        have HAE := Lib.hid (show addE gs P wt = if thereZ gs [(P : Int)] ≠ 0 then thereZ gs [(P : Int)] else if wB wt = false then 2 else if gs.length = 256 then 5 else if dep gs P = 4 then 193 else 0 from by unfold addE; rw [Int.toNat_natCast])
        have HAL := Lib.hid (show addL gs P wt = if addE gs P wt = 0 then gs ++ [((P : Int), wt)] else [] from rfl)
        generalize addE gs P wt = ae at HAE HAL ⊢
        go_wp2_with fail
        refine (eq_grp x3 _ _ gs hL3 hW3 hbig).mono ?_
        rintro e x4 ⟨rfl, c4⟩
        have hL4 := hL3.below c4
        have hB4 := hB3.trans (c4.mono z3)
        have obf4 := obf3.below c4
        have omr4 := omr3.below c4
        have z34 := c4.size
        have z4 := hB4.size
        clear c4 hL3 hW3 hB3 obf3 omr3
        cases hw : wB wt with
        | false =>
          have e1 : ae = 2 := by rw [HAE.out, if_neg (by simp [HT1.out]), if_pos hw]
          have e2 : addL gs P wt = [] := by rw [HAL.out, e1]; rfl
          rw [e2] at omr4
          obtain ⟨Am, cm, rfl⟩ := (omr4.ev encG_len).shape
          subst e1
          have hwt : wt < 1 ∨ 65536 < wt := by unfold wB at hw; simp at hw; omega
          clear hw e2 omr4 obf4 HAE HAL
          simp only [List.length_nil]
          by_cases hw1 : wt < 1
          · clear hwt
            go_wp2
            go_ret
            exact ⟨rfl, hB4⟩
          · have hw3 : 65536 < wt := by omega
            clear hwt
            go_wp2
            go_ret
            exact ⟨rfl, hB4⟩
        | true =>
          have hwt : 1 ≤ wt ∧ wt ≤ 65536 := by unfold wB at hw; simpa using hw
          obtain ⟨hw3, hw4⟩ := hwt
          by_cases hd4 : dep gs P = 4
          · have e1 : ae = 193 := by rw [HAE.out, if_neg (by simp [HT1.out]), if_neg (by simp [hw]), if_neg (by omega), if_pos hd4]
            have e2 : addL gs P wt = [] := by rw [HAL.out, e1]; rfl
            rw [e2] at omr4
            rw [child_deep HOK.out hP hd4] at obf4
            obtain ⟨Am, cm, rfl⟩ := (omr4.ev encG_len).shape
            obtain ⟨Ab, cb, rfl⟩ := (obf4.ev encI_len).shape
            subst e1
            rw [hd4]
            clear hw e2 omr4 obf4 HAE HAL hd4
            simp only [List.length_nil]
            go_wp2
            go_ret
            exact ⟨rfl, hB4⟩
          · have e1 : ae = 0 := by rw [HAE.out, if_neg (by simp [HT1.out]), if_neg (by simp [hw]), if_neg (by omega), if_neg hd4]
            have e2 : addL gs P wt = gs ++ [((P : Int), wt)] := by rw [HAL.out, if_pos e1]
            rw [e2] at omr4
            have hok2 := (gok_app HOK.out hP hw (by have := dep_le HOK.out hP; omega) (by omega)).1
            have hch := child_add HOK.out hP hok2
            have ht2 := there_ok1 hok2 (p := P) (by simp; omega)
            have hd5 : (((dep gs P : Nat) : Int) == 4) = false := by simp; omega
            obtain ⟨gm, cm, hmr, hgm, _⟩ := omr4.form (by simp)
            have lmr := omr4.ev encG_len
            obtain ⟨bm, om, cm', hmr', hcm, rmr⟩ := lmr.row (by simp)
            rw [hmr] at hmr'
            simp only [Value.slice.injEq, Option.some.injEq, Addr.mk.injEq, and_true, true_and] at hmr'
            obtain ⟨⟨rfl, rfl⟩, rfl⟩ := hmr'
            have CH := Lib.hid (children_ok x4 mr _ P lmr (by simp; omega))
            rw [ht2, hch] at CH
            have hll : (gs ++ [((P : Int), wt)]).length = gs.length + 1 := by simp
            rw [hll] at hmr hcm
            subst hmr e1
            have RMR := Lib.hid rmr
            clear hw e2 omr4 HAE HAL hd4 hok2 hch ht2 lmr rmr hll
            generalize (dep gs P : Nat) = dp at hd5 ⊢
            go_wp2_with fail
            refine CH.out.mono ?_
            rintro e x5 ⟨af, rfl, oaf, c5⟩
            have obf5 := obf4.below c5
            have laf := oaf.ev encI_len
            have c6 := hB4.trans (c5.mono z4)
            have z6 := c6.size
            obtain ⟨hm1, hm2⟩ := (RMR.out.below c5).grp (i := gs.length) (g := ((P : Int), wt)) (by simp)
            rw [Nat.zero_add] at hm1 hm2
            dsimp only at hm1 hm2
            have hchl : (childL gs (P : Int)).length ≤ 100000 := by
              have := childL_len gs P; omega
            have HM1 := Lib.hid hm1
            have HM2 := Lib.hid hm2
            have HB6 := Lib.hid c6
            have z45 := c5.size
            have hne : ∀ g, bf.ownBlock = some g → g < gm ∧ g < x4.heap.size := fun g hg => by have := hbf2 g hg; omega
            have hne2 : af.ownBlock = none ∨ af.ownBlock ≠ bf.ownBlock := by
              cases h : af.ownBlock with
              | none => exact .inl rfl
              | some g => right; intro h'; have := (oaf.block g h).1; have := (hne g h'.symm).2; omega
            have OAF := Lib.hid oaf
            clear oaf c5 c6 hm1 hm2 RMR CH obf4 hL4 hB4
            go_wp2_with (at_builtin; refine wpList_app_g elemI encI_len encI_one rfl _ _ rfl _ _ rfl rfl (obf5.alloc _) (new_one (z := (gs.length : Int))) ?q1 ?q2 ?_)
            case q1 => simp; omega
            case q2 => simp; omega
            intro v' x6 o6 g6
            have lf6 := ((OAF.out.alloc (.cells #[.int .i64 (gs.length : Int)] 3)).keep g6 hne2).ev encI_len
            have cm1 := g6.cell (below_cell ((Below.refl _ _).alloc (Nat.le_refl _) (.cells #[.int .i64 (gs.length : Int)] 3)) HM1.out) (fun h => by have := (hne _ h.symm).1; simp at this)
            have cm2 := g6.cell (below_cell ((Below.refl _ _).alloc (Nat.le_refl _) (.cells #[.int .i64 (gs.length : Int)] 3)) HM2.out) (fun h => by have := (hne _ h.symm).1; simp at this)
            have B7 := (HB6.out.alloc z6 (.cells #[.int .i64 (gs.length : Int)] 3)).grown g6 (by simp; omega) (fun k hk => (obf5.block k hk).1)
            have EQ := Lib.hid (equal_int x6 _ _ _ _ lf6 (o6.ev encI_len) (by simp; omega) (by simp; omega))
            rw [show (childL gs (P : Int) ++ [(gs.length : Int)] == childL gs (P : Int) ++ [(gs.length : Int)]) = true from by simp] at EQ
            clear o6 g6 lf6 obf5 OAF HM1 HM2 HB6 hne hne2
            go_wp2_with fail
            refine EQ.out.mono ?_
            rintro e x7 ⟨rfl, q, rfl⟩
            have dm1 : (x6.drewN q).cell? { block := gm, off := gs.length * 2 } = some (Value.int IntKind.i64 P) := cm1
            have dm2 : (x6.drewN q).cell? { block := gm, off := gs.length * 2 + 1 } = some (Value.int IntKind.i64 wt) := cm2
            have B8 := below_drewN B7 q
            generalize x6.drewN q = x7 at dm1 dm2 B8 ⊢
            clear cm1 cm2 B7 EQ laf
            go_wp2
            go_ret
            exact ⟨rfl, B8⟩
  · go_wp2_with fail
    have l3 : EV encG 2 (w2.alloc (.cells #[.int .i64 0, .int .i64 1] 38)) (.slice (some ⟨w2.heap.size, 0, none⟩) 1 1) (gs.take 1) := by
      have : gs.take 1 = [(0, 1)] := by
        have := HOK.out.root
        cases gs with
        | nil => simp at this
        | cons x r => simp at this; simp [this]
      rw [this]; exact EV.new1 rfl (Nat.le_refl _)
    have B3 : Below w.heap.size w (w2.alloc (.cells #[.int .i64 0, .int .i64 1] 38)) := B2.alloc s2 _
    have R3 : ER encG 2 (w2.alloc (.cells #[.int .i64 0, .int .i64 1] 38)) b off gs := R2.out.below ((Below.refl _ _).alloc (Nat.le_refl _) _)
    generalize hw3 : w2.alloc (.cells #[.int .i64 0, .int .i64 1] 38) = w3 at l3 B3 R3
    have HR3 := Lib.hid R3
    clear hw3 B2 R2 R3
    go_loopg [8, 31] gs.length (fun k v i wr => ∃ j : Nat, j + k = gs.length ∧ j + 1 ≤ gs.length ∧ i = .int .i64 j ∧ Below w3.heap.size w3 wr ∧ EV encG 2 wr v (gs.take (j + 1)))
    case atStart => exact ⟨0, by omega, by omega, rfl, Below.refl _ _, l3⟩
    case round =>
      obtain ⟨j, hj, hj2, rfl, hb, hl⟩ := hrel
      have HJ := Lib.hid hj
      have HB := Lib.hid hb
      have HL := Lib.hid hl
      have hsz := hb.size
      obtain ⟨bl, ol, cl, hvl, hcl, rl⟩ := hl.row (by rw [List.length_take]; omega)
      have htl : (gs.take (j + 1)).length = j + 1 := by rw [List.length_take]; omega
      rw [htl] at hvl hcl
      subst hvl
      have HRL := Lib.hid rl
      have HTL := Lib.hid htl
      clear hj hb hl rl htl l3
      by_cases hlt : j + 1 < gs.length
      · obtain ⟨⟨p, q⟩, hg⟩ : ∃ x, gs[j + 1]? = some x := ⟨_, List.getElem?_eq_getElem hlt⟩
        obtain ⟨c1, c2⟩ := (HR3.out.below HB.out).grp hg
        rw [show off + (j + 1) * 2 = off + 2 + j * 2 from by omega] at c1 c2
        dsimp only at c1 c2
        obtain ⟨ha1, ha2⟩ := add_next HOK.out (by omega) hlt hg
        have hrt := right_iff.2 (gok_take HOK.out (k := j + 2) (by omega) (by omega))
        have A := Lib.hid (fun (w4 : World) (h : Below wr.heap.size wr w4) => add_ok w4 _ (gs.take (j + 1)) p q (HL.out.below h) (by rw [HTL.out]; omega))
        rw [ha1, ha2] at A
        have HRT := Lib.hid hrt
        have htl2 : (gs.take (j + 2)).length = j + 2 := by rw [List.length_take]; omega
        have HTL2 := Lib.hid htl2
        have hlt2 : (j : Int) < (gs.length : Int) - 1 := by omega
        clear hg ha1 ha2 hrt htl2
        go_wp2_with fail
        refine (A.out _ ((Below.refl _ _).alloc (Nat.le_refl _) _)).mono ?_
        rintro e w4 ⟨r, rfl, o4, b4⟩
        have B4 := ((Below.refl _ wr).alloc (Nat.le_refl _) (.cells #[.int .i64 p, .int .i64 q] 38)).trans (b4.mono (by simp))
        obtain ⟨gr, cr, hr, _, _⟩ := o4.form (by rw [HTL2.out]; omega)
        rw [HTL2.out] at hr
        subst hr
        have l4 := o4.ev encG_len
        obtain ⟨br, or, cr', hr', hcr, rr⟩ := l4.row (by rw [HTL2.out]; omega)
        rw [HTL2.out] at hr' hcr
        simp only [Value.slice.injEq, Option.some.injEq, Addr.mk.injEq, and_true, true_and] at hr'
        obtain ⟨⟨rfl, rfl⟩, rfl⟩ := hr'
        have l4' : EV encG 2 w4 (.slice (some ⟨gr, 0, none⟩) (j + 1) cr) (gs.take (j + 1)) := by
          have := EV.takeG (c := cr) rr (j + 1) (by rw [HTL2.out]; omega) (by omega)
          rwa [List.take_take, Nat.min_eq_left (by omega)] at this
        have EQ := Lib.hid (eq_grp w4 _ _ (gs.take (j + 1)) l4' (HL.out.below B4) (by rw [HTL.out]; omega))
        have L4 := Lib.hid l4
        have B5 := HB.out.trans (B4.mono hsz)
        have s4 := B5.size
        clear o4 b4 B4 A l4 rr l4'
        go_wp2_with fail
        refine EQ.out.mono ?_
        rintro e w5 ⟨rfl, b5⟩
        have L5 := Lib.hid (L4.out.below b5)
        have B6 := B5.trans (b5.mono s4)
        have s5 := B6.size
        clear EQ b5 B5 L4
        go_wp2_with fail
        refine (right_ok w5 _ _ L5.out (by rw [HTL2.out]; omega)).mono ?_
        rintro e w6 ⟨rfl, b6⟩
        rw [HRT.out]
        have L6 := Lib.hid (L5.out.below b6)
        have B7 := B6.trans (b6.mono s5)
        clear b6 B6 L5
        go_wp2
        go_roundg (gk - 1)
        case measure => have := HJ.out; omega
        case rel => exact ⟨j + 1, by have := HJ.out; omega, by omega, by go_num, B7, L6.out⟩
      · have hj1 : j + 1 = gs.length := by omega
        rw [hj1]
        have hL := HL.out
        rw [hj1, List.take_length] at hL
        have hW : EV encG 2 wr (.slice (some ⟨b, off, none⟩) gs.length cp) gs := EV.mk (HR3.out.below HB.out) hcp
        have hB := B3.trans (HB.out.mono B3.size)
        have hlt3 : ¬ j < gs.length - 1 := by omega
        clear HL HRL HTL HB hj1 hlt hcl HJ hj2 hsz
        go_wp2_with fail
        obtain ⟨P, hP, hPI⟩ : ∃ P : Nat, P < gs.length ∧ (a : Int) % (gs.length : Int) = (P : Int) := ⟨a % gs.length, Nat.mod_lt _ hg1, by omega⟩
        rw [hPI]
        have ht1 := there_ok1 HOK.out hP
        have HPI := Lib.hid hPI
        have D := Lib.hid (depthF_ok _ _ gs P hL hbig)
        have hdz : dZ gs P = (dep gs P : Nat) := by unfold dZ; rw [if_pos ht1, Int.toNat_natCast]
        rw [ht1, hdz] at D
        have HT1 := Lib.hid ht1
        clear hPI ht1 hdz
        refine D.out.mono ?_
        rintro e x1 ⟨rfl, c1⟩
        have hL1 := hL.below c1
        have hW1 := hW.below c1
        have hB1 := hB.trans (c1.mono hB.size)
        have z1 := hB1.size
        clear D c1 hL hW hB
        go_wp2_with fail
        refine (children_ok x1 _ gs P hL1 hbig).mono ?_
        rintro e x2 ⟨bf, rfl, obf, c2⟩
        rw [HT1.out]
        have hL2 := hL1.below c2
        have hW2 := hW1.below c2
        have hB2 := hB1.trans (c2.mono z1)
        have obf2 := obf.base_le z1
        have hbf2 : ∀ g, bf.ownBlock = some g → g < x2.heap.size := fun g hg => (obf.block g hg).2
        have z2 := hB2.size
        clear c2 hL1 hW1 hB1 obf
        go_wp2_with fail
        refine (add_ok x2 _ gs P wt hL2 hbig).mono ?_
        rintro e x3 ⟨mr, rfl, omr, c3⟩
        have hL3 := hL2.below c3
        have hW3 := hW2.below c3
        have hB3 := hB2.trans (c3.mono z2)
        have obf3 := obf2.below c3
        have omr3 := omr
        have z23 := c3.size
        have z3 := hB3.size
        clear c3 hL2 hW2 hB2 obf2 omr
        have HAE := Lib.hid (show addE gs P wt = if thereZ gs [(P : Int)] ≠ 0 then thereZ gs [(P : Int)] else if wB wt = false then 2 else if gs.length = 256 then 5 else if dep gs P = 4 then 193 else 0 from by unfold addE; rw [Int.toNat_natCast])
        have HAL := Lib.hid (show addL gs P wt = if addE gs P wt = 0 then gs ++ [((P : Int), wt)] else [] from rfl)
        generalize addE gs P wt = ae at HAE HAL ⊢
        go_wp2_with fail
        refine (eq_grp x3 _ _ gs hL3 hW3 hbig).mono ?_
        rintro e x4 ⟨rfl, c4⟩
        have hL4 := hL3.below c4
        have hB4 := hB3.trans (c4.mono z3)
        have obf4 := obf3.below c4
        have omr4 := omr3.below c4
        have z34 := c4.size
        have z4 := hB4.size
        clear c4 hL3 hW3 hB3 obf3 omr3
        cases hw : wB wt with
        | false =>
          have e1 : ae = 2 := by rw [HAE.out, if_neg (by simp [HT1.out]), if_pos hw]
          have e2 : addL gs P wt = [] := by rw [HAL.out, e1]; rfl
          rw [e2] at omr4
          obtain ⟨Am, cm, rfl⟩ := (omr4.ev encG_len).shape
          subst e1
          have hwt : wt < 1 ∨ 65536 < wt := by unfold wB at hw; simp at hw; omega
          clear hw e2 omr4 obf4 HAE HAL
          simp only [List.length_nil]
          by_cases hw1 : wt < 1
          · clear hwt
            go_wp2
            go_ret
            exact ⟨rfl, hB4⟩
          · have hw3 : 65536 < wt := by omega
            clear hwt
            go_wp2
            go_ret
            exact ⟨rfl, hB4⟩
        | true =>
          have hwt : 1 ≤ wt ∧ wt ≤ 65536 := by unfold wB at hw; simpa using hw
          obtain ⟨hw3, hw4⟩ := hwt
          by_cases hd4 : dep gs P = 4
          · have e1 : ae = 193 := by rw [HAE.out, if_neg (by simp [HT1.out]), if_neg (by simp [hw]), if_neg (by omega), if_pos hd4]
            have e2 : addL gs P wt = [] := by rw [HAL.out, e1]; rfl
            rw [e2] at omr4
            rw [child_deep HOK.out hP hd4] at obf4
            obtain ⟨Am, cm, rfl⟩ := (omr4.ev encG_len).shape
            obtain ⟨Ab, cb, rfl⟩ := (obf4.ev encI_len).shape
            subst e1
            rw [hd4]
            clear hw e2 omr4 obf4 HAE HAL hd4
            simp only [List.length_nil]
            go_wp2
            go_ret
            exact ⟨rfl, hB4⟩
          · have e1 : ae = 0 := by rw [HAE.out, if_neg (by simp [HT1.out]), if_neg (by simp [hw]), if_neg (by omega), if_neg hd4]
            have e2 : addL gs P wt = gs ++ [((P : Int), wt)] := by rw [HAL.out, if_pos e1]
            rw [e2] at omr4
            have hok2 := (gok_app HOK.out hP hw (by have := dep_le HOK.out hP; omega) (by omega)).1
            have hch := child_add HOK.out hP hok2
            have ht2 := there_ok1 hok2 (p := P) (by simp; omega)
            have hd5 : (((dep gs P : Nat) : Int) == 4) = false := by simp; omega
            obtain ⟨gm, cm, hmr, hgm, _⟩ := omr4.form (by simp)
            have lmr := omr4.ev encG_len
            obtain ⟨bm, om, cm', hmr', hcm, rmr⟩ := lmr.row (by simp)
            rw [hmr] at hmr'
            simp only [Value.slice.injEq, Option.some.injEq, Addr.mk.injEq, and_true, true_and] at hmr'
            obtain ⟨⟨rfl, rfl⟩, rfl⟩ := hmr'
            have CH := Lib.hid (children_ok x4 mr _ P lmr (by simp; omega))
            rw [ht2, hch] at CH
            have hll : (gs ++ [((P : Int), wt)]).length = gs.length + 1 := by simp
            rw [hll] at hmr hcm
            subst hmr e1
            have RMR := Lib.hid rmr
            clear hw e2 omr4 HAE HAL hd4 hok2 hch ht2 lmr rmr hll
            generalize (dep gs P : Nat) = dp at hd5 ⊢
            go_wp2_with fail
            refine CH.out.mono ?_
            rintro e x5 ⟨af, rfl, oaf, c5⟩
            have obf5 := obf4.below c5
            have laf := oaf.ev encI_len
            have c6 := hB4.trans (c5.mono z4)
            have z6 := c6.size
            obtain ⟨hm1, hm2⟩ := (RMR.out.below c5).grp (i := gs.length) (g := ((P : Int), wt)) (by simp)
            rw [Nat.zero_add] at hm1 hm2
            dsimp only at hm1 hm2
            have hchl : (childL gs (P : Int)).length ≤ 100000 := by
              have := childL_len gs P; omega
            have HM1 := Lib.hid hm1
            have HM2 := Lib.hid hm2
            have HB6 := Lib.hid c6
            have z45 := c5.size
            have hne : ∀ g, bf.ownBlock = some g → g < gm ∧ g < x4.heap.size := fun g hg => by have := hbf2 g hg; omega
            have hne2 : af.ownBlock = none ∨ af.ownBlock ≠ bf.ownBlock := by
              cases h : af.ownBlock with
              | none => exact .inl rfl
              | some g => right; intro h'; have := (oaf.block g h).1; have := (hne g h'.symm).2; omega
            have OAF := Lib.hid oaf
            clear oaf c5 c6 hm1 hm2 RMR CH obf4 hL4 hB4
            go_wp2_with (at_builtin; refine wpList_app_g elemI encI_len encI_one rfl _ _ rfl _ _ rfl rfl (obf5.alloc _) (new_one (z := (gs.length : Int))) ?q1 ?q2 ?_)
            case q1 => simp; omega
            case q2 => simp; omega
            intro v' x6 o6 g6
            have lf6 := ((OAF.out.alloc (.cells #[.int .i64 (gs.length : Int)] 3)).keep g6 hne2).ev encI_len
            have cm1 := g6.cell (below_cell ((Below.refl _ _).alloc (Nat.le_refl _) (.cells #[.int .i64 (gs.length : Int)] 3)) HM1.out) (fun h => by have := (hne _ h.symm).1; simp at this)
            have cm2 := g6.cell (below_cell ((Below.refl _ _).alloc (Nat.le_refl _) (.cells #[.int .i64 (gs.length : Int)] 3)) HM2.out) (fun h => by have := (hne _ h.symm).1; simp at this)
            have B7 := (HB6.out.alloc z6 (.cells #[.int .i64 (gs.length : Int)] 3)).grown g6 (by simp; omega) (fun k hk => (obf5.block k hk).1)
            have EQ := Lib.hid (equal_int x6 _ _ _ _ lf6 (o6.ev encI_len) (by simp; omega) (by simp; omega))
            rw [show (childL gs (P : Int) ++ [(gs.length : Int)] == childL gs (P : Int) ++ [(gs.length : Int)]) = true from by simp] at EQ
            clear o6 g6 lf6 obf5 OAF HM1 HM2 HB6 hne hne2
            go_wp2_with fail
            refine EQ.out.mono ?_
            rintro e x7 ⟨rfl, q, rfl⟩
            have dm1 : (x6.drewN q).cell? { block := gm, off := gs.length * 2 } = some (Value.int IntKind.i64 P) := cm1
            have dm2 : (x6.drewN q).cell? { block := gm, off := gs.length * 2 + 1 } = some (Value.int IntKind.i64 wt) := cm2
            have B8 := below_drewN B7 q
            generalize x6.drewN q = x7 at dm1 dm2 B8 ⊢
            clear cm1 cm2 B7 EQ laf
            go_wp2
            go_ret
            exact ⟨rfl, B8⟩
end Go.Proofs.Ytkkmmbmjpfecdaa
