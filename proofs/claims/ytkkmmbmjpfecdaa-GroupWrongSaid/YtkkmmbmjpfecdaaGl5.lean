/- The walk of the law GroupWrong: it returns true. -/
import Derived.Test.YtkkmmbmjpfecdaaGl1
import Derived.Test.YtkkmmbmjpfecdaaGwp
import Derived.Deep.CutBlock
import Derived.Deep.DeepCutAuto
namespace Go.Proofs.Ytkkmmbmjpfecdaa
open Go.RowKit Go.Shelf

theorem EV.row2 {α : Type} {enc : α → List Value} {k b off n c : Nat} {w : World} {xs : List α} (h : EV enc k w (.slice (some ⟨b, off, none⟩) n c) xs) (hn : 0 < xs.length) : ER enc k w b off xs := by
  obtain ⟨b', o', c', hv, _, r⟩ := h.row hn
  simp only [Value.slice.injEq, Option.some.injEq, Addr.mk.injEq, and_true] at hv
  obtain ⟨⟨rfl, rfl⟩, _, _⟩ := hv
  exact r
/-- The chain behind N groups. -/
def chainL (N t : Nat) : List (Int × Int) := (List.range t).map fun j => (((N + j - 1 : Nat) : Int), (1 : Int))
theorem chainL_succ (N t : Nat) : chainL N (t + 1) = chainL N t ++ [(((N + t - 1 : Nat) : Int), (1 : Int))] := by simp [chainL, List.range_succ]
theorem chain_wrong {gs gd : List (Int × Int)} (h : GOK gs) (hl : gs.length ≤ 21) (hgd : gs ++ [(((0 : Nat) : Int), (3 : Int))] = gd) {N : Nat} (hN : gd.length = N) : checkG (gd ++ chainL N 4) = ((N : Int) + 4 - 1, 193) := by
  have hN' : N = gs.length + 1 := by rw [← hN, ← hgd]; simp
  have := wrong_chain h (by omega) 3 rfl
  subst hN'
  rw [← hgd]
  have e : gs ++ [(((0 : Nat) : Int), (3 : Int))] ++ chainL (gs.length + 1) 4 = gs ++ [((0 : Int), 3), (((gs.length : Nat) : Int), (1 : Int)), (((gs.length + 1 : Nat) : Int), 1), (((gs.length + 2 : Nat) : Int), 1), (((gs.length + 3 : Nat) : Int), 1)] := by
    simp [chainL, List.range_succ]
  rw [e, this]
  congr 1; omega
theorem flat_set_fst : ∀ (gs : List (Int × Int)) (i : Nat) (p q u : Int), gs[i]? = some (p, q) → (gs.flatMap encG).set (i * 2) (.int .i64 u) = (gs.set i (u, q)).flatMap encG := by
  intro gs
  induction gs with
  | nil => intro i p q u h; simp at h
  | cons x r ih =>
    intro i p q u h
    cases i with
    | zero => simp at h; subst h; simp [encG]
    | succ i =>
      have := ih i p q u (by simpa using h)
      rw [show (i + 1) * 2 = i * 2 + 1 + 1 by omega]
      simp only [List.flatMap_cons, encG, List.cons_append, List.nil_append, List.set_cons_succ]
      rw [this]
theorem flat_set_snd : ∀ (gs : List (Int × Int)) (i : Nat) (p q u : Int), gs[i]? = some (p, q) → (gs.flatMap encG).set (i * 2 + 1) (.int .i64 u) = (gs.set i (p, u)).flatMap encG := by
  intro gs
  induction gs with
  | nil => intro i p q u h; simp at h
  | cons x r ih =>
    intro i p q u h
    cases i with
    | zero => simp at h; subst h; simp [encG]
    | succ i =>
      have := ih i p q u (by simpa using h)
      rw [show (i + 1) * 2 + 1 = i * 2 + 1 + 1 + 1 by omega]
      simp only [List.flatMap_cons, encG, List.cons_append, List.nil_append, List.set_cons_succ]
      rw [this]
/-- A group's parent, or its weight, written into a row of the call's own. -/
theorem OV.setP {base g n cap i : Nat} {w : World} {gs : List (Int × Int)} {p q : Int} (h : OV encG 2 38 base w (.slice (some ⟨g, 0, none⟩) n cap) gs) (hn : gs.length = n) (hi : gs[i]? = some (p, q)) (u : Int) :
    OV encG 2 38 base (w.setCell ⟨g, i * 2, none⟩ (.int .i64 u)) (.slice (some ⟨g, 0, none⟩) n cap) (gs.set i (u, q)) ∧ w.grownBy (w.setCell ⟨g, i * 2, none⟩ (.int .i64 u)) (some g) := by
  subst hn
  obtain ⟨h1, h2⟩ := World.ownsRow.stored h (i * 2) (.int .i64 u)
  refine ⟨?_, h2⟩
  unfold OV
  rw [← flat_set_fst gs i p q u hi, List.length_set]
  exact h1
theorem OV.setW {base g n cap i : Nat} {w : World} {gs : List (Int × Int)} {p q : Int} (h : OV encG 2 38 base w (.slice (some ⟨g, 0, none⟩) n cap) gs) (hn : gs.length = n) (hi : gs[i]? = some (p, q)) (u : Int) :
    OV encG 2 38 base (w.setCell ⟨g, i * 2 + 1, none⟩ (.int .i64 u)) (.slice (some ⟨g, 0, none⟩) n cap) (gs.set i (p, u)) ∧ w.grownBy (w.setCell ⟨g, i * 2 + 1, none⟩ (.int .i64 u)) (some g) := by
  subst hn
  obtain ⟨h1, h2⟩ := World.ownsRow.stored h (i * 2 + 1) (.int .i64 u)
  refine ⟨?_, h2⟩
  unfold OV
  rw [← flat_set_snd gs i p q u hi, List.length_set]
  exact h1

set_option maxRecDepth 100000 in
set_option maxHeartbeats 8000000 in
theorem wrong_walk (w : World) (vn : Value) (ns : List Nat) (hn : EV encU16 1 w vn ns) (hlt : ∀ n ∈ ns, n < 65536) (hlen : ns.length ≤ 9223372036854775807) (a b : Nat) (x : Int) (ha : a < 256) (hb : b < 256) (hx1 : -9223372036854775808 ≤ x) (hx2 : x ≤ 9223372036854775807) :
    Calls Try.prog 7 #[vn, .int .u8 a, .int .u8 b, .int .i64 x] w fun e w' => e = .returned (.bool true) ∧ Below w.heap.size w w' := by
  have HN := Lib.hid hn
  have MO := Lib.hid (made_ok hlt)
  have MW := Lib.hid (fun (w1 : World) (h : Below w.heap.size w w1) => made_walk w1 vn ns (HN.out.below h) hlt (by omega))
  clear hn hlt hlen
  generalize made ns = gs at MO MW
  obtain ⟨hok, hgl⟩ := MO.out
  have hgs : gs.length ≤ 21 := by omega
  have hgd := (gok_app hok (p := 0) (w := 3) hok.pos rfl (by rw [dep_zero]; omega) (by omega)).1
  obtain ⟨gd, hgde⟩ : ∃ gd, gs ++ [(((0 : Nat) : Int), (3 : Int))] = gd := ⟨_, rfl⟩
  have hgdl : gd.length = gs.length + 1 := by rw [← hgde]; simp
  rw [hgde] at hgd
  have hg1 : 2 ≤ gd.length := by have := hok.pos; omega
  have hg2 : gd.length ≤ 22 := by omega
  have HOK := Lib.hid hok
  have HGD := Lib.hid hgd
  have HGS := Lib.hid hgde
  clear hgl hok MO HN hgd hgdl hgde
  go_enter Try.func7, Try.ntmps7
  go_wp2_with fail
  refine (awake_ok w).mono ?_
  rintro e w1 ⟨rfl, b1⟩
  have M1 := Lib.hid (MW.out w1 b1)
  have s1 := b1.size
  go_wp2_with fail
  refine M1.out.mono ?_
  rintro e w2 ⟨v, rfl, o2, b2⟩
  have B2 := b1.trans (b2.mono s1)
  have o2 := o2.base_le s1
  have s2 := B2.size
  clear b1 b2 M1 MW
  go_wp2_with (at_builtin; refine wpList_app elemG encG_len encG_one rfl _ _ rfl _ _ rfl rfl (o2.alloc _) (EV.new1 (x := ((0 : Int), (3 : Int))) rfl (Nat.le_refl _)) ?q1 ?q2 ?_)
  case q1 => simp; omega
  case q2 => simp; omega
  intro vg w3 o3 g3
  have B3 : Below w.heap.size w w3 := (B2.alloc s2 _).grown g3 (by simp; omega) (fun k hk => (o2.block k hk).1)
  rw [show gs ++ [((0 : Int), (3 : Int))] = gd from HGS.out] at o3
  obtain ⟨ga, ca, hvg, hga, hga2⟩ := o3.form (by omega)
  subst hvg
  have s3 := B3.size
  have lg3 := o3.ev encG_len
  obtain ⟨N, hN⟩ : ∃ N, gd.length = N := ⟨_, rfl⟩
  have HN := Lib.hid hN
  rw [hN] at hg1 hg2 lg3 ⊢
  have LG3 := Lib.hid lg3
  have OG3 := Lib.hid o3
  obtain ⟨m3, hm3⟩ : ∃ m, w3.heap.size = m := ⟨_, rfl⟩
  have HM3 := Lib.hid hm3
  clear o2 g3 o3 B2 s2 hN lg3 hga hm3
  go_wp2_with fail
  refine (clone_grp w3 _ gd LG3.out (by rw [HN.out]; omega)).mono ?_
  rintro e w4 ⟨vb, rfl, o4, b4⟩
  have lg4 := OG3.out.below b4
  have B4 := B3.trans (b4.mono s3)
  have s4 := B4.size
  obtain ⟨gb, cb, hvb, hgb, hgb2⟩ := o4.form (by rw [HN.out]; omega)
  subst hvb
  rw [HM3.out] at o4 hgb hga2
  have hmm : w.heap.size ≤ m3 := by rw [← HM3.out]; exact s3
  have hm4 : m3 ≤ w4.heap.size := by rw [← HM3.out]; exact b4.size
  rw [HN.out] at lg4 o4 ⊢
  have O4 := Lib.hid o4
  have LG4 := Lib.hid lg4
  clear B3 s3 b4 lg4 o4 LG3 OG3
  obtain ⟨I, hI0, hI1, hIe⟩ : ∃ I : Nat, 1 ≤ I ∧ I < N ∧ (a : Int) % ((N : Int) - 1) = (I : Int) - 1 := by
    have h1 : 0 ≤ (a : Int) % ((N : Int) - 1) := Int.emod_nonneg _ (by omega)
    have h2 : (a : Int) % ((N : Int) - 1) < (N : Int) - 1 := Int.emod_lt_of_pos _ (by omega)
    exact ⟨((a : Int) % ((N : Int) - 1)).toNat + 1, by omega, by omega, by omega⟩
  have hzz : ((N : Int) - 1 == 0) = false := by simp; omega
  go_upto_block 0 with fail
  rw [show 1 + ((I : Int) - 1) = (I : Int) by omega]
  go_cut [10, 11, 12] (fun vb vi vw wx => ∃ (bs : List (Int × Int)) (i e : Int), vi = .int .i64 i ∧ vw = .int .i64 e ∧ EV encG 2 wx vb bs ∧ bs.length ≤ 256 ∧ checkG bs = (i, e) ∧ e ≠ 0 ∧ EV encG 2 wx (.slice (some ⟨ga, 0, none⟩) N ca) gd ∧ Below w.heap.size w wx)
  case first =>
    obtain ⟨r, hr6, hr⟩ : ∃ r : Nat, r < 6 ∧ (b : Int) % 6 = (r : Int) := ⟨b % 6, Nat.mod_lt _ (by omega), by omega⟩
    obtain ⟨⟨pI, qI⟩, hgI⟩ : ∃ y, gd[I]? = some y := ⟨_, List.getElem?_eq_getElem (by rw [HN.out]; exact hI1)⟩
    have HGI := Lib.hid hgI
    have fzP : w4.frozen? ⟨gb, I * 2, none⟩ = false := World.ownsRow.frozenAt (by have := O4.out; unfold OV at this; rw [HN.out] at this; exact this) _
    have fzW : w4.frozen? ⟨gb, I * 2 + 1, none⟩ = false := World.ownsRow.frozenAt (by have := O4.out; unfold OV at this; rw [HN.out] at this; exact this) _
    have r4 := (O4.out.ev encG_len).row2 (by rw [HN.out]; omega)
    obtain ⟨cP, cW⟩ := r4.grp hgI
    rw [Nat.zero_add] at cP cW
    dsimp only at cP cW
    have FIN := Lib.hid (show ∀ (w5 : World) (bs : List (Int × Int)) (i e : Int), OV encG 2 38 m3 w5 (.slice (some ⟨gb, 0, none⟩) N cb) bs → w4.grownBy w5 (some gb) → bs.length ≤ 256 → checkG bs = (i, e) → e ≠ 0 →
        ∃ (bs' : List (Int × Int)) (i' e' : Int), Value.int .i64 i = .int .i64 i' ∧ Value.int .i64 e = .int .i64 e' ∧ EV encG 2 w5 (.slice (some ⟨gb, 0, none⟩) N cb) bs' ∧ bs'.length ≤ 256 ∧ checkG bs' = (i', e') ∧ e' ≠ 0 ∧ EV encG 2 w5 (.slice (some ⟨ga, 0, none⟩) N ca) gd ∧ Below w.heap.size w w5 from
      fun w5 bs i e ho hg hl hc he => ⟨bs, i, e, rfl, rfl, ho.ev encG_len, hl, hc, he, (LG4.out.keep hg (.inr (by intro h; simp [Value.ownBlock] at h; omega))).ev encG_len, B4.grown hg s4 (fun k hk => by simp at hk; omega)⟩)
    have W191 := Lib.hid (fun p (hp : p < 0 ∨ (I : Int) ≤ p) w => wrong_set_par HGD.out hI0 (by rw [HN.out]; exact hI1) p hp w)
    have W192 := Lib.hid (fun w (hw : wB w = false) => wrong_set_wgt HGD.out hI0 (by rw [HN.out]; exact hI1) w hw)
    have hpI := par_get hgI
    dsimp only at hpI
    rw [hpI] at W192
    have hlen : ∀ y, (gd.set I y).length ≤ 256 := fun y => by rw [List.length_set, HN.out]; omega
    have HLEN := Lib.hid hlen
    clear hgI r4 hpI hlen
    rcases (by omega : r = 0 ∨ r = 1 ∨ r = 2 ∨ r = 3 ∨ r = 4 ∨ r = 5) with rfl | rfl | rfl | rfl | rfl | rfl
    · obtain ⟨M, hM, hMI⟩ : ∃ M, (if x < (I : Int) then (I : Int) else x) = M ∧ (I : Int) ≤ M := ⟨_, rfl, by split <;> omega⟩
      go_wp2_with fail
      go_meet
      case rel =>
        obtain ⟨o5, g5⟩ := OV.setP O4.out HN.out HGI.out M
        exact FIN.out _ _ _ _ o5 g5 (HLEN.out _) (W191.out M (.inr hMI) _) (by omega)
    · obtain ⟨M, hM, hMI⟩ : ∃ M, (if -1 < x then -1 else x) = M ∧ M < 0 := ⟨_, rfl, by split <;> omega⟩
      go_wp2_with fail
      go_meet
      case rel =>
        obtain ⟨o5, g5⟩ := OV.setP O4.out HN.out HGI.out M
        exact FIN.out _ _ _ _ o5 g5 (HLEN.out _) (W191.out M (.inl hMI) _) (by omega)
    · obtain ⟨M, hM, hMI⟩ : ∃ M, (if 0 < x then 0 else x) = M ∧ M ≤ 0 := ⟨_, rfl, by split <;> omega⟩
      go_wp2_with fail
      go_meet
      case rel =>
        obtain ⟨o5, g5⟩ := OV.setW O4.out HN.out HGI.out M
        exact FIN.out _ _ _ _ o5 g5 (HLEN.out _) (W192.out M (by unfold wB; simp; omega)) (by omega)
    · obtain ⟨M, hM, hMI⟩ : ∃ M, (if x < 65537 then 65537 else x) = M ∧ 65536 < M := ⟨_, rfl, by split <;> omega⟩
      go_wp2_with fail
      go_meet
      case rel =>
        obtain ⟨o5, g5⟩ := OV.setW O4.out HN.out HGI.out M
        exact FIN.out _ _ _ _ o5 g5 (HLEN.out _) (W192.out M (by unfold wB; simp; omega)) (by omega)
    · obtain ⟨M, hM, hMI⟩ : ∃ M, (if x < 2 then 2 else x) = M ∧ 1 < M := ⟨_, rfl, by split <;> omega⟩
      obtain ⟨c0P, c0W⟩ := ((O4.out.ev encG_len).row2 (by rw [HN.out]; omega)).grp HGD.out.root
      have fz0 : w4.frozen? ⟨gb, 1, none⟩ = false := World.ownsRow.frozenAt (by have := O4.out; unfold OV at this; rw [HN.out] at this; exact this) _
      simp only [Nat.zero_mul, Nat.add_zero, Nat.zero_add] at c0P c0W
      clear fzP fzW cP cW
      go_wp2_with fail
      go_meet
      case rel =>
        obtain ⟨o5, g5⟩ := OV.setW O4.out HN.out HGD.out.root M
        exact FIN.out _ _ 0 190 o5 g5 (by rw [List.length_set, HN.out]; omega) (wrong_set_root HGD.out M (by omega)) (by omega)
    · have hr5 : (b : Int) % 6 = 5 := hr
      clear fzP fzW cP cW hr
      go_wp2_with fail
      go_loopg [10, 65] 4 (fun k v i wq => ∃ t : Nat, t + k = 4 ∧ i = .int .i64 t ∧ OV encG 2 38 m3 wq v (gd ++ chainL N t) ∧ OV encG 2 38 w.heap.size wq (.slice (some ⟨ga, 0, none⟩) N ca) gd ∧ Below w.heap.size w wq)
      case atStart => exact ⟨0, by omega, rfl, by simpa [chainL] using O4.out, LG4.out, B4⟩
      case round =>
        obtain ⟨t, ht, rfl, ho, hg, hb⟩ := hrel
        clear hIe hr5 hzz
        have HT := Lib.hid ht
        have HO := Lib.hid ho
        have HG := Lib.hid hg
        have HB := Lib.hid hb
        have hsz := hb.size
        obtain ⟨gv, cv, hv, hgv1, hgv2⟩ := ho.form (by simp; rw [HN.out]; omega)
        subst hv
        rw [show (gd ++ chainL N t).length = N + t from by simp [chainL]; exact HN.out] at *
        by_cases hlt : t < 4
        · clear ht ho hg hb
          go_wp2_with (at_builtin; refine wpList_app elemG encG_len encG_one rfl _ _ rfl _ _ rfl rfl (HO.out.alloc _) (EV.new1 (x := (((N : Int) + t - 1), (1 : Int))) rfl (Nat.le_refl _)) ?q1 ?q2 ?_)
          case q1 => simp [chainL]; rw [HN.out]; omega
          case q2 => simp; omega
          intro v' w5 o5 g5
          have hg5 := (HG.out.alloc (.cells #[.int .i64 ((N : Int) + t - 1), .int .i64 1] 38)).keep g5 (.inr (by intro h; simp [Value.ownBlock] at h; omega))
          have hb5 : Below w.heap.size w w5 := (HB.out.alloc hsz _).grown g5 (by simp; omega) (fun k hk => by simp [Value.ownBlock] at hk; omega)
          have o6 : OV encG 2 38 m3 w5 v' (gd ++ chainL N (t + 1)) := by
            rw [chainL_succ, show (((N + t - 1 : Nat) : Int)) = (N : Int) + t - 1 by omega]; simpa using o5
          clear o5 g5
          go_wp2
          go_roundg (gk - 1)
          case measure => have := HT.out; omega
          case rel => exact ⟨t + 1, by have := HT.out; omega, by go_num, o6, hg5, hb5⟩
        · obtain rfl : t = 4 := by omega
          go_wp2_with fail
          go_meet
          case rel =>
            exact ⟨gd ++ chainL N 4, _, 193, rfl, rfl, ho.ev encG_len, by simp [chainL]; rw [HN.out]; omega, chain_wrong HOK.out hgs HGS.out HN.out, by omega, hg.ev encG_len, hb⟩
  case rest =>
    obtain ⟨bs, i, er, rfl, rfl, h0, hbl, hck, hne, hgv, hB0⟩ := hcut
    obtain ⟨hnr, hth⟩ := not_right hck hne
    have HAE := Lib.hid (add_wrong hth 0 0)
    have HCK := Lib.hid hck
    have HTH := Lib.hid hth
    have HNR := Lib.hid hnr
    clear hck hth hnr hne B4 s4 O4 LG4 hIe hzz
    have g0 := hgv
    have z0' := hB0.size
    clear hgv
    go_wp2_with fail
    refine (check_ok wc _ bs h0 (by omega)).mono ?_
    rintro e x1 ⟨rfl, c1⟩
    rw [HCK.out]
    dsimp only
    have h1 := h0.below c1
    have g1 := g0.below c1
    have hB1 := hB0.trans (c1.mono z0')
    have z1' := hB1.size
    clear c1 h0 g0 hB0 z0'
    go_wp2_with fail
    refine (depthF_ok x1 _ bs 0 h1 (by omega)).mono ?_
    rintro e x2 ⟨rfl, c2⟩
    rw [HTH.out]
    generalize dZ bs 0 = z0
    have h2 := h1.below c2
    have g2 := g1.below c2
    have hB2 := hB1.trans (c2.mono z1')
    have z2' := hB2.size
    clear c2 h1 g1 hB1 z1'
    go_wp2_with fail
    refine (path_ok x2 _ bs 0 h2 (by omega)).mono ?_
    rintro e x3 ⟨r2, rfl, -, c3⟩
    rw [HTH.out]
    have h3 := h2.below c3
    have g3 := g2.below c3
    have hB3 := hB2.trans (c3.mono z2')
    have z3' := hB3.size
    clear c3 h2 g2 hB2 z2'
    go_wp2_with fail
    refine (children_ok x3 _ bs (-1) h3 (by omega)).mono ?_
    rintro e x4 ⟨r3, rfl, -, c4⟩
    rw [HTH.out]
    have h4 := h3.below c4
    have g4 := g3.below c4
    have hB4 := hB3.trans (c4.mono z3')
    have z4' := hB4.size
    clear c4 h3 g3 hB3 z3'
    go_wp2_with fail
    refine (under_ok x4 _ bs 0 h4 (by omega)).mono ?_
    rintro e x5 ⟨r4, rfl, -, c5⟩
    rw [HTH.out]
    have h5 := h4.below c5
    have g5 := g4.below c5
    have hB5 := hB4.trans (c5.mono z4')
    have z5' := hB5.size
    clear c5 h4 g4 hB4 z4'
    go_wp2_with fail
    refine (order_ok x5 _ bs h5 (by omega)).mono ?_
    rintro e x6 ⟨r5, rfl, -, c6⟩
    rw [HTH.out]
    have h6 := h5.below c6
    have g6 := g5.below c6
    have hB6 := hB5.trans (c6.mono z5')
    have z6' := hB6.size
    clear c6 h5 g5 hB5 z5'
    go_wp2_with fail
    refine (meet_ok x6 _ (.slice none 0 0) bs [] h6 (EV.nil _ _) (by omega) (by simp)).mono ?_
    rintro e x7 ⟨rfl, c7⟩
    rw [HTH.out]
    generalize meetZ bs [] = z6
    have h7 := h6.below c7
    have g7 := g6.below c7
    have hB7 := hB6.trans (c7.mono z6')
    have z7' := hB7.size
    clear c7 h6 g6 hB6 z6'
    go_wp2_with fail
    refine (add_ok x7 _ bs 0 0 h7 (by omega)).mono ?_
    rintro e x8 ⟨r7, rfl, -, c8⟩
    rw [HAE.out]
    have h8 := h7.below c8
    have g8 := g7.below c8
    have hB8 := hB7.trans (c8.mono z7')
    have z8' := hB8.size
    clear c8 h7 g7 hB7 z7'
    go_wp2_with fail
    refine (right_ok x8 _ bs h8 (by omega)).mono ?_
    rintro e x9 ⟨rfl, c9⟩
    rw [HNR.out]
    have g9 := g8.below c9
    have hB9 := hB8.trans (c9.mono z8')
    have z9 := hB9.size
    clear c9 h8 g8 hB8 z8'
    obtain ⟨M1, hM1, hm1⟩ : ∃ M, (if -1 < x then -1 else x) = M ∧ M < 0 := ⟨_, rfl, by split <;> omega⟩
    obtain ⟨M2, hM2, hm2⟩ : ∃ M, (if x < (N : Int) then (N : Int) else x) = M ∧ (N : Int) ≤ M := ⟨_, rfl, by split <;> omega⟩
    go_wp2_with fail
    have rz : ER encI 1 (x9.alloc (.cells #[.int .i64 M1, .int .i64 M2] 3)) x9.heap.size 0 [M1, M2] := (EV.newL (xs := [M1, M2]) (e := 3) (w := x9) (c := 2) encI_len rfl rfl (Nat.le_refl _)).row2 (by simp)
    have g10 := g9.below ((Below.refl _ _).alloc (Nat.le_refl _) (.cells #[.int .i64 M1, .int .i64 M2] 3))
    have hB10 := hB9.alloc z9 (.cells #[.int .i64 M1, .int .i64 M2] 3)
    generalize hy : x9.alloc _ = y at rz g10 hB10 ⊢
    generalize x9.heap.size = bz at rz ⊢
    have RZ := Lib.hid rz
    have G10 := Lib.hid g10
    have z10 := hB10.size
    clear hy rz g10 g9 hB9 z9 hM1 hM2
    go_loopg [209] 2 (fun k i wq => ∃ t : Nat, t + k = 2 ∧ i = .int .i64 t ∧ Below y.heap.size y wq)
    case atStart => exact ⟨0, by omega, rfl, Below.refl _ _⟩
    case round =>
      obtain ⟨t, ht, rfl, hb⟩ := hrel
      have HT := Lib.hid ht
      by_cases hlt : t < 2
      · obtain ⟨z, hz, hzo⟩ : ∃ z, [M1, M2][t]? = some z ∧ (z < 0 ∨ (gd.length : Int) ≤ z) := by
          rw [HN.out]
          rcases (by omega : t = 0 ∨ t = 1) with rfl | rfl
          · exact ⟨M1, rfl, .inl hm1⟩
          · exact ⟨M2, rfl, .inr hm2⟩
        have cz := below_cell hb (RZ.out t z hz 0 _ rfl)
        simp only [Nat.mul_one, Nat.add_zero, Nat.zero_add] at cz
        obtain ⟨t1, t2, t3⟩ := out_there HGD.out hzo
        have T1 := Lib.hid t1
        have T2 := Lib.hid t2
        have T3 := Lib.hid t3
        have hgdl : gd.length ≤ 100000 := by rw [HN.out]; omega
        have k0 := G10.out.below hb
        have b0 := hb
        have q0 := hb.size
        clear ht hb hz hzo t1 t2 t3
        go_wp2_with fail
        refine (depthF_ok wr _ gd z k0 hgdl).mono ?_
        rintro e v1 ⟨rfl, c1⟩
        rw [T1.out]
        generalize dZ gd z = d1
        have k1 := k0.below c1
        have b1 := b0.trans (c1.mono q0)
        have q1 := b1.size
        clear c1 k0 b0 q0 cz
        go_wp2_with fail
        refine (path_ok v1 _ gd z k1 hgdl).mono ?_
        rintro e v2 ⟨p2, rfl, -, c2⟩
        rw [T1.out]
        have k2 := k1.below c2
        have b2 := b1.trans (c2.mono q1)
        have q2 := b2.size
        clear c2 k1 b1 q1
        go_wp2_with fail
        refine (children_ok v2 _ gd z k2 hgdl).mono ?_
        rintro e v3 ⟨p3, rfl, -, c3⟩
        rw [T1.out]
        have k3 := k2.below c3
        have b3 := b2.trans (c3.mono q2)
        have q3 := b3.size
        clear c3 k2 b2 q2
        go_wp2_with fail
        refine (under_ok v3 _ gd z k3 hgdl).mono ?_
        rintro e v4 ⟨p4, rfl, -, c4⟩
        rw [T1.out]
        have k4 := k3.below c4
        have b4 := b3.trans (c4.mono q3)
        have q4 := b4.size
        clear c4 k3 b3 q3
        go_wp2_with fail
        have la := (Below.refl v4.heap.size v4).alloc (Nat.le_refl _) (.cells #[.int .i64 0, .int .i64 z] 3)
        have MT := meet_ok _ _ _ gd [0, z] (k4.below la) (EV.newL (xs := [0, z]) (e := 3) (w := v4) (c := 2) encI_len rfl rfl (Nat.le_refl _)) hgdl (by simp)
        refine MT.mono ?_
        rintro e v5 ⟨rfl, c5⟩
        rw [T2.out]
        generalize meetZ gd [0, z] = d5
        have c5 := la.trans (c5.mono la.size)
        have k5 := k4.below c5
        have b5 := b4.trans (c5.mono q4)
        have q5 := b5.size
        clear c5 la MT k4 b4 q4
        go_wp2_with fail
        refine (add_ok v5 _ gd z 1 k5 hgdl).mono ?_
        rintro e v6 ⟨p6, rfl, -, c6⟩
        rw [T3.out]
        have k6 := k5.below c6
        have b6 := b5.trans (c6.mono q5)
        have q6 := b6.size
        clear c6 k5 b5 q5
        go_wp2
        go_roundg (gk - 1)
        case measure => have := HT.out; omega
        case rel => exact ⟨t + 1, by have := HT.out; omega, by go_num, b6⟩
      · have bx := hB10.trans (hb.mono z10)
        go_wp2
        go_ret
        exact ⟨rfl, bx⟩
end Go.Proofs.Ytkkmmbmjpfecdaa
