/- The walk of the law GroupSmall. -/
import Derived.Test.YtkkmmbmjpfecdaaGl6
import Derived.Test.YtkkmmbmjpfecdaaFin
import Derived.Deep.RegionLaw
namespace Go.Proofs.Ytkkmmbmjpfecdaa
open Go.RowKit Go.Shelf

theorem flat_set_fst : ∀ (gs : List (Int × Int)) (i : Nat) (p q u : Int), gs[i]? = some (p, q) → (gs.flatMap encG).set (i * 2) (.int .i64 u) = (gs.set i (u, q)).flatMap encG := by
  intro gs
  induction gs with
  | nil => intro i p q u h; simp at h
  | cons x r ih =>
    intro i p q u h
    cases i with
    | zero => simp at h; subst h; simp [encG]
    | succ i =>
      have := ih i p q u (by simpa using h)
      rw [show (i + 1) * 2 = i * 2 + 1 + 1 by omega]
      simp only [List.flatMap_cons, encG, List.cons_append, List.nil_append, List.set_cons_succ]
      rw [this]
theorem flat_set_snd : ∀ (gs : List (Int × Int)) (i : Nat) (p q u : Int), gs[i]? = some (p, q) → (gs.flatMap encG).set (i * 2 + 1) (.int .i64 u) = (gs.set i (p, u)).flatMap encG := by
  intro gs
  induction gs with
  | nil => intro i p q u h; simp at h
  | cons x r ih =>
    intro i p q u h
    cases i with
    | zero => simp at h; subst h; simp [encG]
    | succ i =>
      have := ih i p q u (by simpa using h)
      rw [show (i + 1) * 2 + 1 = i * 2 + 1 + 1 + 1 by omega]
      simp only [List.flatMap_cons, encG, List.cons_append, List.nil_append, List.set_cons_succ]
      rw [this]
theorem OV.setP {base g n cap i : Nat} {w : World} {gs : List (Int × Int)} {p q : Int} (h : OV encG 2 38 base w (.slice (some ⟨g, 0, none⟩) n cap) gs) (hn : gs.length = n) (hi : gs[i]? = some (p, q)) (u : Int) :
    OV encG 2 38 base (w.setCell ⟨g, i * 2, none⟩ (.int .i64 u)) (.slice (some ⟨g, 0, none⟩) n cap) (gs.set i (u, q)) ∧ w.grownBy (w.setCell ⟨g, i * 2, none⟩ (.int .i64 u)) (some g) := by
  subst hn
  obtain ⟨h1, h2⟩ := World.ownsRow.stored h (i * 2) (.int .i64 u)
  refine ⟨?_, h2⟩
  unfold OV
  rw [← flat_set_fst gs i p q u hi, List.length_set]
  exact h1
theorem OV.setW {base g n cap i : Nat} {w : World} {gs : List (Int × Int)} {p q : Int} (h : OV encG 2 38 base w (.slice (some ⟨g, 0, none⟩) n cap) gs) (hn : gs.length = n) (hi : gs[i]? = some (p, q)) (u : Int) :
    OV encG 2 38 base (w.setCell ⟨g, i * 2 + 1, none⟩ (.int .i64 u)) (.slice (some ⟨g, 0, none⟩) n cap) (gs.set i (p, u)) ∧ w.grownBy (w.setCell ⟨g, i * 2 + 1, none⟩ (.int .i64 u)) (some g) := by
  subst hn
  obtain ⟨h1, h2⟩ := World.ownsRow.stored h (i * 2 + 1) (.int .i64 u)
  refine ⟨?_, h2⟩
  unfold OV
  rw [← flat_set_snd gs i p q u hi, List.length_set]
  exact h1
theorem OV.row_form {α : Type} {enc : α → List Value} {k base : Nat} {e : TypeId} {w : World} {v : Value} {xs : List α} {n : Nat} (hk : ∀ x, (enc x).length = k) (h : OV enc k e base w v xs) (hl : xs.length = n) (hn : 0 < n) :
    ∃ g cap, v = .slice (some ⟨g, 0, none⟩) n cap ∧ n ≤ cap ∧ base ≤ g ∧ g < w.heap.size := by
  subst hl
  obtain ⟨g, cap, hv, h1, h2⟩ := h.form hn
  obtain ⟨b, o, c, hv', hc, _⟩ := (h.ev hk).row hn
  rw [hv] at hv'
  simp only [Value.slice.injEq, Option.some.injEq, Addr.mk.injEq, and_true] at hv'
  obtain ⟨⟨rfl, rfl⟩, _, rfl⟩ := hv'
  exact ⟨g, cap, hv, hc, h1, h2⟩

theorem new_g1 (w : World) (o : Obj) (p q : Int) : EV encG 2 ((w.alloc o).alloc (.cells #[.int .i64 p, .int .i64 q] 38)) (.slice (some ⟨w.heap.size + 1, 0, none⟩) 1 1) [(p, q)] := by
  have := EV.new1 (enc := encG) (k := 2) (w := w.alloc o) (x := (p, q)) (cs := #[.int .i64 p, .int .i64 q]) (e := 38) (c := 1) rfl (Nat.le_refl _)
  rwa [World.size_alloc] at this
def manyL (n : Nat) : List (Int × Int) := (List.range n).map (fun g => ((((g - 1) / 6 : Nat) : Int), (1 : Int)))
theorem manyL_len (n : Nat) : (manyL n).length = n := by simp [manyL]
theorem manyL_succ (n : Nat) : manyL (n + 1) = manyL n ++ [((((n - 1) / 6 : Nat) : Int), (1 : Int))] := by simp [manyL, List.range_succ]
theorem manyL_take {n m : Nat} (h : m ≤ n) : (manyL n).take m = manyL m := by
  unfold manyL
  rw [← List.map_take, List.take_range, Nat.min_eq_left h]
set_option maxRecDepth 100000 in
theorem many_add1 : addE (manyL 255) 0 1 = 0 ∧ (addL (manyL 255) 0 1).length = 256 := by
  have h : addE (manyL 255) 0 1 = 0 := by decide +kernel
  exact ⟨h, by unfold addL; rw [if_pos h]; simp [manyL_len]⟩
set_option maxRecDepth 100000 in
theorem many_add2 : addE (manyL 256) 0 1 = 5 := by decide +kernel
theorem many_check : checkG (manyL 257) = (-1, 5) := by unfold checkG; rw [if_pos (by rw [manyL_len]; decide)]

def six (q n : Nat) (m : Int) : List (Int × Int) := [(0, 0), ((q : Int), 1), (-1, 1), (0, 65537), ((n : Int), 0), (m, 3)]

set_option maxRecDepth 100000 in
set_option maxHeartbeats 8000000 in
theorem small_walk (w : World) :
    Calls Try.prog 5 #[] w fun e w' => e = .returned (.bool true) ∧ Below w.heap.size w w' := by
  go_enter Try.func5, Try.ntmps5
  go_wp2_with fail
  go_loopg [21] 24 (fun k i wr => ∃ t : Nat, t + k = 24 ∧ i = .int .i64 t ∧ Below w.heap.size w wr)
  case atStart => exact ⟨0, by omega, rfl, Below.refl _ _⟩
  case round =>
    obtain ⟨t, ht, rfl, hb⟩ := hrel
    have HT := Lib.hid ht
    have HB := Lib.hid hb
    have hsz := hb.size
    clear ht hb
    by_cases hlt : t < 24
    · have hd1 : decide ((t : Int) < 24) = true := by simp; omega
      go_wp2_with fail
      have o1 : OV encG 2 38 w.heap.size (wr.alloc (.cells #[.int .i64 0, .int .i64 1] 38)) (.slice (some ⟨wr.heap.size, 0, none⟩) 1 1) [(0, 1)] := OV.lit _ _ 1 hsz (by decide) rfl rfl rfl
      have b1 := HB.out.alloc hsz (.cells #[.int .i64 0, .int .i64 1] 38)
      generalize wr.alloc _ = wr1 at o1 b1 ⊢
      generalize wr.heap.size = m1 at o1 ⊢
      go_loopg [2, 3, 4] 4 (fun k v i kk wq => ∃ (g kn : Nat) (gs : List (Int × Int)), g + k = 5 ∧ 1 ≤ g ∧ i = .int .i64 g ∧ kk = .int .i64 kn ∧ kn ≤ 24 ∧ gs.length = g ∧ OV encG 2 38 w.heap.size wq v gs ∧ Below w.heap.size w wq)
      case atStart => exact ⟨1, t, [(0, 1)], by omega, by omega, rfl, rfl, by omega, rfl, o1, b1⟩
      case round =>
        obtain ⟨g, kn, gs, hg, hg1, rfl, rfl, hkn, hgl, ho, hb⟩ := hrel
        have HG := Lib.hid hg
        have HO := Lib.hid ho
        have HB := Lib.hid hb
        have hsz := hb.size
        have HGL := Lib.hid hgl
        clear hg ho hb o1 b1 hgl
        by_cases hg5 : g < 5
        · obtain ⟨r, hr4, hr⟩ : ∃ r : Nat, r < 4 ∧ (g + t) % 4 = r := ⟨_, Nat.mod_lt _ (by omega), rfl⟩
          obtain ⟨m, hm⟩ : ∃ m : Nat, kn % g = m := ⟨_, rfl⟩
          have e1 : IntKind.i64.wrap ((g : Int) + (t : Int)) = (g : Int) + (t : Int) := IntWalk.i64_in _ (by omega)
          have e2 : ((g : Int) + (t : Int)).tmod 4 = (r : Int) := by rw [Int.tmod_eq_emod_of_nonneg (by omega)]; omega
          have e3 : (kn : Int).tmod (g : Int) = (m : Int) := by rw [Int.tmod_eq_emod_of_nonneg (by omega)]; rw [← hm]; simp
          have e4 : ((g : Int) == 0) = false := by simp; omega
          have e5 : (g : Int) ≠ 0 := by omega
          have e6 : 0 ≤ (kn : Int) := by omega
          have e8 : ¬ g = 0 := by omega
          have e7 : 1 ≤ (g : Int) := by omega
          clear hr hm
          rcases (by omega : r = 0 ∨ r = 1 ∨ r = 2 ∨ r = 3) with rfl | rfl | rfl | rfl
          all_goals
            go_wp2_with fail
            go_region_law (go_loud (refine step_app elemG encG_len encG_one (by rfl) (.tmp 31) (.tmp 43) (by rfl) u2 (.slice (some ⟨wr.heap.size + 1, 0, none⟩) 1 1) (by rfl) (by rfl) (by exact ((HO.out.alloc _).alloc _).drew) (by exact (new_g1 _ _ (m : Int) _).drew_) (by rw [HGL.out]; simp; omega) (by simp; omega) ?_; intro v1 w1 o1 g1; have b1 : Below w.heap.size w w1 := (below_drew ((HB.out.alloc hsz _).alloc (by simp; omega) _)).grown g1 (by simp; omega) (fun k hk => (HO.out.block k hk).1); clear g1))
            clear e1 e2 e3 e4 e5 e6 e7 e8
            have hq1 : (0 : Int) ≤ (kn : Int) / (g : Int) := Int.ediv_nonneg (by omega) (by omega)
            have hq2 : (kn : Int) / (g : Int) ≤ 24 := Int.le_trans (Int.ediv_le_self _ (by omega)) (by omega)
            go_wp2
            go_roundg (gk - 1)
            case measure => have := HG.out; omega
            case rel => exact ⟨g + 1, kn / g, _, by have := HG.out; omega, by omega, by go_num, by first | rfl | (congr 1; simp; done) | (congr 1; omega), Nat.le_trans (Nat.div_le_self _ _) hkn, by simp [HGL.out], o1, b1⟩
        · obtain rfl : g = 5 := by have := HG.out; omega
          have hd0 : decide (((5 : Nat) : Int) < 5) = false := by simp
          obtain ⟨gv, cv, hvv, hcv, hgv1, hgv2⟩ := HO.out.row_form encG_len HGL.out (by omega)
          subst hvv
          clear HG hg1 hkn
          go_wp2_with fail
          rename_i wr2
          go_loopg [5] 5 (fun k i wr => ∃ n : Nat, n + k = 6 ∧ 1 ≤ n ∧ i = .int .i64 n ∧ OV encG 2 38 w.heap.size wr (.slice (some ⟨gv, 0, none⟩) 5 cv) gs ∧ Below w.heap.size w wr)
          case atStart => exact ⟨1, by omega, by omega, rfl, HO.out, HB.out⟩
          case round =>
            obtain ⟨n, hn, hn1, rfl, ho, hb⟩ := hrel
            have HN := Lib.hid hn
            have HO := Lib.hid ho
            have HB := Lib.hid hb
            have hsz := hb.size
            clear hn ho hb
            by_cases hn6 : n ≤ 5
            · have hd2 : decide ((n : Int) ≤ 5) = true := by simp; omega
              have hnc : n ≤ cv := by omega
              have TK := Lib.hid (fun (wz : World) (h : EV encG 2 wz (.slice (some ⟨gv, 0, none⟩) 5 cv) gs) => h.row_take (j := n) (by rw [HGL.out]; exact hn6) HGL.out.symm)
              have LT := Lib.hid (show (gs.take n).length ≤ 100000 from by simp; omega)
              go_wp2_with fail
              go_loopg [6] (n + 2) (fun k i wr => ∃ a : Int, (n + 1 - a).toNat = k ∧ -1 ≤ a ∧ a ≤ n + 1 ∧ i = .int .i64 a ∧ OV encG 2 38 w.heap.size wr (.slice (some ⟨gv, 0, none⟩) 5 cv) gs ∧ Below w.heap.size w wr)
              case atStart => exact ⟨-1, by omega, by omega, by omega, rfl, HO.out, HB.out⟩
              case round =>
                obtain ⟨a, ha, ha1, ha2, rfl, ho, hb⟩ := hrel
                have HA := Lib.hid ha
                have HO := Lib.hid ho
                have HB := Lib.hid hb
                have hsz := hb.size
                clear ha ho hb
                by_cases han : a ≤ n
                · go_wp2_with fail
                  refine (tells_ok wr _ (gs.take n) _ _ _ (TK.out _ (HO.out.ev encG_len)) LT.out).mono ?_
                  rintro e w2 ⟨rfl, b2⟩
                  have o2 := HO.out.below b2
                  have b2 := HB.out.trans (b2.mono hsz)
                  have s2 := b2.size
                  go_wp2_with fail
                  refine (tells_ok w2 _ (gs.take n) _ _ _ (TK.out _ (o2.ev encG_len)) LT.out).mono ?_
                  rintro e w3 ⟨rfl, b3⟩
                  have o3 := o2.below b3
                  have b3 := b2.trans (b3.mono s2)
                  go_wp2
                  go_roundg (gk - 1)
                  case measure => have := HA.out; omega
                  case rel => exact ⟨a + 1, by have := HA.out; omega, by omega, by omega, rfl, o3, b3⟩
                · have hd3 : decide (a ≤ (n : Int)) = false := by simp; omega
                  go_wp2_with fail
                  go_loopg [86] n (fun k i wr => ∃ q : Nat, q + k = n ∧ i = .int .i64 q ∧ OV encG 2 38 w.heap.size wr (.slice (some ⟨gv, 0, none⟩) 5 cv) gs ∧ Below w.heap.size w wr)
                  case atStart => exact ⟨0, by omega, rfl, HO.out, HB.out⟩
                  case round =>
                    obtain ⟨q, hq, rfl, ho, hb⟩ := hrel
                    have HQ := Lib.hid hq
                    have HO := Lib.hid ho
                    have HB := Lib.hid hb
                    have hsz := hb.size
                    clear hq ho hb
                    by_cases hqn : q < n
                    · have hd4 : decide (q < n) = true := by simp; omega
                      go_wp2_with fail
                      have e6 : EV encG 2 (wr.alloc (.cells #[.int .i64 0, .int .i64 0, .int .i64 q, .int .i64 1, .int .i64 (-1), .int .i64 1, .int .i64 0, .int .i64 65537, .int .i64 n, .int .i64 0, .int .i64 (max ((q : Int) - 1) 0), .int .i64 3] 38)) (.slice (some ⟨wr.heap.size, 0, none⟩) 6 6) (six q n (max ((q : Int) - 1) 0)) := EV.newL encG_len rfl rfl (Nat.le_refl _)
                      have bx := HB.out.alloc hsz (.cells #[.int .i64 0, .int .i64 0, .int .i64 q, .int .i64 1, .int .i64 (-1), .int .i64 1, .int .i64 0, .int .i64 65537, .int .i64 n, .int .i64 0, .int .i64 (max ((q : Int) - 1) 0), .int .i64 3] 38)
                      have ox := HO.out.alloc (.cells #[.int .i64 0, .int .i64 0, .int .i64 q, .int .i64 1, .int .i64 (-1), .int .i64 1, .int .i64 0, .int .i64 65537, .int .i64 n, .int .i64 0, .int .i64 (max ((q : Int) - 1) 0), .int .i64 3] 38)
                      have h6 : (six q n (max ((q : Int) - 1) 0)).length = 6 := rfl
                      generalize six q n (max ((q : Int) - 1) 0) = sx at e6 h6
                      generalize wr.alloc _ = wx at e6 bx ox ⊢
                      generalize wr.heap.size = X at e6 ⊢
                      have E6 := Lib.hid e6
                      have H6 := Lib.hid h6
                      clear e6 h6
                      go_loopg [102] 6 (fun k i wr => ∃ z : Nat, z + k = 6 ∧ i = .int .i64 z ∧ OV encG 2 38 w.heap.size wr (.slice (some ⟨gv, 0, none⟩) 5 cv) gs ∧ Below w.heap.size w wr ∧ Below wx.heap.size wx wr)
                      case atStart => exact ⟨0, by omega, rfl, ox, bx, Below.refl _ _⟩
                      case round =>
                        obtain ⟨z, hz, rfl, ho, hb, hbx⟩ := hrel
                        have HZ := Lib.hid hz
                        have HO := Lib.hid ho
                        have HB := Lib.hid hb
                        have HBX := Lib.hid hbx
                        have hsz := hb.size
                        clear hz ho hb hbx ox bx
                        by_cases hz6 : z < 6
                        · have hd5 : decide ((z : Int) < 6) = true := by simp; omega
                          obtain ⟨⟨zp, zw⟩, hzz⟩ : ∃ y, sx[z]? = some y := ⟨_, List.getElem?_eq_getElem (by rw [H6.out]; exact hz6)⟩
                          obtain ⟨c0, c1⟩ := (((E6.out.below HBX.out).row3 (by rw [H6.out]; omega))).grp hzz
                          dsimp only at c0 c1
                          rw [Nat.zero_add] at c0 c1
                          have hXl : X < wr.heap.size := cell_lt c0
                          clear hzz
                          go_wp2_with fail
                          have LTN := Lib.hid (show (gs.take n).length = n from by rw [List.length_take, HGL.out]; omega)
                          have oa := HO.out.alloc (.cells #[.int .i64 zp, .int .i64 zw] 38)
                          have ba := HB.out.alloc hsz (.cells #[.int .i64 zp, .int .i64 zw] 38)
                          have bxa := HBX.out.alloc HBX.out.size (.cells #[.int .i64 zp, .int .i64 zw] 38)
                          have ka := cell_of_row (wr.alloc (.cells #[.int .i64 zp, .int .i64 zw] 38)) wr.heap.size 0 _ _ (0, 0) (heap_alloc_new wr _)
                          have kb := cell_of_row (wr.alloc (.cells #[.int .i64 zp, .int .i64 zw] 38)) wr.heap.size 1 _ _ (0, 0) (heap_alloc_new wr _)
                          have sza : (wr.alloc (.cells #[.int .i64 zp, .int .i64 zw] 38)).heap.size = wr.heap.size + 1 := World.size_alloc _ _
                          have SZA := Lib.hid sza
                          clear c0 c1 sza
                          generalize wr.alloc (.cells #[.int .i64 zp, .int .i64 zw] 38) = wy at oa ba bxa ka kb SZA ⊢
                          generalize wr.heap.size = m9 at ka kb hXl hsz SZA ⊢
                          refine (clone_grp wy _ (gs.take n) (TK.out _ (oa.ev encG_len)) (by rw [LTN.out]; omega)).mono ?_
                          rintro e w2 ⟨vx, rfl, o2, b2⟩
                          have hgvl := (oa.block gv rfl).2
                          have hwxl := bxa.size
                          have oa := oa.below b2
                          have sza := ba.size
                          have ba := ba.trans (b2.mono sza)
                          have bxa := bxa.trans (b2.mono bxa.size)
                          have ka := below_cell b2 (ka.trans rfl)
                          have kb := below_cell b2 (kb.trans rfl)
                          obtain ⟨gx, cx, hvx, hcx, hgx1, hgx2⟩ := o2.row_form encG_len LTN.out (by omega)
                          subst hvx
                          have hsb := SZA.out
                          have hne : ¬ m9 = gx := by omega
                          have hgx3 : w.heap.size ≤ gx := by omega
                          have hne2 : ¬ gv = gx := by omega
                          obtain ⟨⟨y0, hy0⟩, hy1⟩ : (∃ u, w2.cell? ⟨gx, q * 2, none⟩ = some u) ∧ w2.frozen? ⟨gx, q * 2, none⟩ = false := by
                            rcases o2.wrt encG_len with ⟨h0, _⟩ | ⟨_, g', c', hv', hw'⟩
                            · rw [LTN.out] at h0; omega
                            · simp only [Value.slice.injEq, Option.some.injEq, Addr.mk.injEq, and_true] at hv'
                              obtain ⟨rfl, _, _⟩ := hv'
                              exact hw' _ (by rw [LTN.out]; omega)
                          obtain ⟨⟨z0, hz0⟩, hz1⟩ : (∃ u, w2.cell? ⟨gx, q * 2 + 1, none⟩ = some u) ∧ w2.frozen? ⟨gx, q * 2 + 1, none⟩ = false := by
                            rcases o2.wrt encG_len with ⟨h0, _⟩ | ⟨_, g', c', hv', hw'⟩
                            · rw [LTN.out] at h0; omega
                            · simp only [Value.slice.injEq, Option.some.injEq, Addr.mk.injEq, and_true] at hv'
                              obtain ⟨rfl, _, _⟩ := hv'
                              exact hw' _ (by rw [LTN.out]; omega)
                          clear b2 hsb sza
                          obtain ⟨⟨p0, q0⟩, hpq⟩ : ∃ y, (gs.take n)[q]? = some y := ⟨_, List.getElem?_eq_getElem (by rw [LTN.out]; exact hqn)⟩
                          obtain ⟨o3, g3⟩ := OV.setP o2 LTN.out hpq zp
                          have hl3 : ((gs.take n).set q (zp, q0)).length = n := by rw [List.length_set]; exact LTN.out
                          have hpq3 : ((gs.take n).set q (zp, q0))[q]? = some (zp, q0) := by rw [List.getElem?_set_self (by rw [LTN.out]; exact hqn)]
                          obtain ⟨o4, g4⟩ := OV.setW o3 hl3 hpq3 zw
                          have hl4 : (((gs.take n).set q (zp, q0)).set q (zp, zw)).length ≤ 100000 := by rw [List.length_set, hl3]; omega
                          have ob := (oa.keep g3 (.inr (by simp [Value.ownBlock]; omega))).keep g4 (.inr (by simp [Value.ownBlock]; omega))
                          have bb := (ba.grown g3 ba.size (fun k hk => by simp at hk; omega)).grown g4 (by simpa [World.setCell] using ba.size) (fun k hk => by simp at hk; omega)
                          have bbx := (bxa.grown g3 bxa.size (fun k hk => by simp at hk; omega)).grown g4 (by simpa [World.setCell] using bxa.size) (fun k hk => by simp at hk; omega)
                          have TT := Lib.hid (tells_ok _ _ _ (q : Int) 0 1 (o4.ev encG_len) hl4)
                          have ob := Lib.hid ob
                          have bb := Lib.hid bb
                          have bbx := Lib.hid bbx
                          clear hpq o3 g3 hl3 hpq3 o4 g4 hl4 oa ba bxa o2
                          go_wp2_with fail
                          refine TT.out.mono ?_
                          rintro e w3 ⟨rfl, b3⟩
                          have ob := ob.out.below b3
                          have bb := bb.out.trans (b3.mono bb.out.size)
                          have bbx := bbx.out.trans (b3.mono bbx.out.size)
                          clear TT b3
                          go_wp2
                          go_roundg (gk - 1)
                          case measure => have := HZ.out; omega
                          case rel => exact ⟨z + 1, by have := HZ.out; omega, by go_num, ob, bb, bbx⟩
                        · go_wp2
                          go_roundg (n - (q + 1))
                          case measure => have := HQ.out; omega
                          case rel => exact ⟨q + 1, by omega, by go_num, HO.out, HB.out⟩
                    · go_wp2
                      go_roundg (6 - (n + 1))
                      case measure => have := HN.out; omega
                      case rel => exact ⟨n + 1, by omega, by omega, by go_num, HO.out, HB.out⟩
            · go_wp2
              go_roundg (24 - (t + 1))
              case measure => have := HT.out; omega
              case rel => exact ⟨t + 1, by omega, by go_num, HB.out⟩
    · clear HT
      go_wp2_with fail
      go_loopg [11, 121] 257 (fun k v i wr => ∃ j : Nat, j + k = 257 ∧ i = .int .i64 j ∧ OV encG 2 38 w.heap.size wr v (manyL j) ∧ Below w.heap.size w wr)
      case atStart => exact ⟨0, by omega, rfl, OV.nil _ _, HB.out⟩
      case round =>
        obtain ⟨j, hj, rfl, ho, hb⟩ := hrel
        have HJ := Lib.hid hj
        have HO := Lib.hid ho
        have HB := Lib.hid hb
        have hsz := hb.size
        have HML := Lib.hid (manyL_len j)
        clear hj ho hb
        by_cases hj257 : j < 257
        · obtain ⟨d, hd, hd1, hd2⟩ : ∃ d : Int, (max ((j : Int) - 1) 0) / 6 = d ∧ 0 ≤ d ∧ d ≤ 100 := ⟨_, rfl, by omega, by omega⟩
          have HS := Lib.hid (show manyL (j + 1) = manyL j ++ [(d, 1)] from by rw [manyL_succ, ← hd]; congr 3; omega)
          have hm1 : 0 ≤ max ((j : Int) - 1) 0 := by omega
          have hm2 : max ((j : Int) - 1) 0 ≤ 300 := by omega
          go_wp2_with (at_builtin; refine wpList_app elemG encG_len encG_one rfl (.tmp 124) (.tmp 130) rfl _ _ rfl rfl (HO.out.alloc _) (EV.new1 (x := (d, 1)) rfl (Nat.le_refl _)) ?q1 ?q2 ?_)
          case q1 => rw [HML.out]; (try simp); omega
          case q2 => (try simp); omega
          intro v' w2 o2 g2
          rw [← HS.out] at o2
          have b2 : Below w.heap.size w w2 := (HB.out.alloc hsz _).grown g2 (by first | omega | (simp; omega)) (fun k hk => (HO.out.block k hk).1)
          clear g2 hd hm1 hm2
          go_wp2
          go_roundg (gk - 1)
          case measure => have := HJ.out; omega
          case rel => exact ⟨j + 1, by have := HJ.out; omega, by go_num, o2, b2⟩
        · obtain rfl : j = 257 := by have := HJ.out; omega
          obtain ⟨gm, cm, hvm, hcm, -, -⟩ := HO.out.row_form encG_len HML.out (by omega)
          subst hvm
          have hdj : decide (((257 : Nat) : Int) < 257) = false := by simp
          have EM := Lib.hid (HO.out.ev encG_len)
          clear HJ
          go_wp2_with fail
          have oc : OV encG 2 38 wr.heap.size (wr.alloc (.cells #[.int .i64 0, .int .i64 1] 38)) (.slice (some ⟨wr.heap.size, 0, none⟩) 1 1) [(0, 1)] := OV.lit _ _ 1 (Nat.le_refl _) (by decide) rfl rfl rfl
          have bc : Below wr.heap.size wr (wr.alloc (.cells #[.int .i64 0, .int .i64 1] 38)) := (Below.refl _ _).alloc (Nat.le_refl _) _
          rename_i wm
          obtain ⟨wn, hwn⟩ : ∃ wn, wr = wn := ⟨_, rfl⟩
          have HWN := Lib.hid hwn
          clear hwn
          generalize wr.alloc (.cells #[.int .i64 0, .int .i64 1] 38) = wc at oc bc ⊢
          go_loopg [13, 14] 7 (fun k v i wq => ∃ (g : Nat) (cs : List (Int × Int)), 1 ≤ g ∧ g + k = 8 ∧ i = .int .i64 g ∧ cs.length = g ∧ OV encG 2 38 wn.heap.size wq v cs ∧ Below wn.heap.size wn wq)
          case atStart => rw [← HWN.out]; exact ⟨1, [(0, 1)], by omega, by omega, rfl, rfl, oc, bc⟩
          case round =>
            obtain ⟨g, cs, hg1, hg, rfl, hgl, ho, hb⟩ := hrel
            rw [HWN.out] at EM HB hsz
            have HG := Lib.hid hg
            have HC := Lib.hid ho
            have HBC := Lib.hid hb
            have hsc := hb.size
            have HGL := Lib.hid hgl
            clear hg ho hb hgl oc bc HO
            by_cases hg8 : g < 8
            · have hg2 : (0 : Int) ≤ (g : Int) / 2 := by omega
              have hg3 : (g : Int) / 2 ≤ 8 := by omega
              go_wp2_with fail
              refine (tells_ok _ _ cs _ _ _ (HC.out.ev encG_len) (by rw [HGL.out]; omega)).mono ?_
              rintro e w2 ⟨rfl, b2⟩
              have o2 := HC.out.below b2
              have b2 := HBC.out.trans (b2.mono hsc)
              have s2 := b2.size
              go_wp2_with (at_builtin; refine wpList_app elemG encG_len encG_one rfl (.tmp 146) (.tmp 151) rfl _ _ rfl rfl (o2.alloc _) (EV.new1 (x := ((g : Int) - 1, (g : Int))) rfl (Nat.le_refl _)) ?q3 ?q4 ?_)
              case q3 => rw [HGL.out]; (try simp); omega
              case q4 => (try simp); omega
              intro v' w3 o3 g3
              have b3 : Below wn.heap.size wn w3 := (b2.alloc s2 _).grown g3 (by first | omega | (simp; omega)) (fun k hk => (o2.block k hk).1)
              clear g3
              go_wp2
              go_roundg (gk - 1)
              case measure => have := HG.out; omega
              case rel => exact ⟨g + 1, _, by omega, by have := HG.out; omega, by go_num, by simp [HGL.out], o3, b3⟩
            · have F := ((Facts.nil _).snoc (sB w) (HB.out.trans (HBC.out.mono hsz))).snoc (sEV encG 2 (.slice (some ⟨gm, 0, none⟩) 257 cm) (manyL 257)) (EM.out.below HBC.out)
              have T5 := Lib.hid (fun (wz : World) (h : EV encG 2 wz (.slice (some ⟨gm, 0, none⟩) 257 cm) (manyL 257)) => (show EV encG 2 wz (.slice (some ⟨gm, 0, none⟩) 255 cm) (manyL 255) from by
                have := h.row_take (j := 255) (by rw [manyL_len]; omega) (manyL_len 257).symm
                rwa [manyL_take (by omega)] at this))
              have T6 := Lib.hid (fun (wz : World) (h : EV encG 2 wz (.slice (some ⟨gm, 0, none⟩) 257 cm) (manyL 257)) => (show EV encG 2 wz (.slice (some ⟨gm, 0, none⟩) 256 cm) (manyL 256) from by
                have := h.row_take (j := 256) (by rw [manyL_len]; omega) (manyL_len 257).symm
                rwa [manyL_take (by omega)] at this))
              have A5 := Lib.hid (fun (wz : World) h => add_ok wz _ (manyL 255) 0 1 (T5.out wz h) (by rw [manyL_len]; omega))
              have A6 := Lib.hid (fun (wz : World) h => add_ok wz _ (manyL 256) 0 1 (T6.out wz h) (by rw [manyL_len]; omega))
              have C7 := Lib.hid (fun (wz : World) h => check_ok wz (.slice (some ⟨gm, 0, none⟩) 257 cm) (manyL 257) h (by rw [manyL_len]; omega))
              rw [many_add1.1] at A5
              rw [many_add2] at A6
              rw [many_check] at C7
              have AL := Lib.hid many_add1.2
              have c5 : (255 : Int) ≤ (cm : Int) := by omega
              have c6 : (256 : Int) ≤ (cm : Int) := by omega
              have c7 : 255 ≤ cm := by omega
              have c8 : 256 ≤ cm := by omega
              generalize addL (manyL 255) 0 1 = L5 at A5 AL
              clear HB HBC EM HML HC
              go_wp2_with fail
              refine (A5.out _ (F.get 1)).mono ?_
              rintro e x1 ⟨r5, rfl, o5, bb⟩
              replace F := F.below bb
              obtain ⟨Ar, cr, hvr⟩ := (o5.ev encG_len).shape
              rw [AL.out] at hvr
              subst hvr
              clear o5 bb A5
              go_wp2_with fail
              refine (A6.out _ (F.get 1)).mono ?_
              rintro e x2 ⟨r6, rfl, o6, bb⟩
              replace F := F.below bb
              clear o6 bb A6
              go_wp2_with fail
              refine (C7.out _ (F.get 1)).mono ?_
              rintro e x3 ⟨rfl, bb⟩
              replace F := F.below bb
              clear bb C7
              go_wp2_with fail
              refine (tells_ok x3 _ [] 0 0 1 (EV.nil _ _) (by simp)).mono ?_
              rintro e x4 ⟨rfl, bb⟩
              replace F := F.below bb
              clear bb
              go_wp2_with fail
              refine (tells_ok x4 _ (manyL 257) 3 4 5 (F.get 1) (by rw [manyL_len]; omega)).mono ?_
              rintro e x5 ⟨rfl, bb⟩
              replace F := F.below bb
              clear bb
              go_wp2_with fail
              refine (awake_ok x5).mono ?_
              rintro e x6 ⟨rfl, bb⟩
              have hfin : Below w.heap.size w x6 := (F.below bb).get 0
              clear bb F
              go_wp2
              go_ret
              exact ⟨rfl, hfin⟩
end Go.Proofs.Ytkkmmbmjpfecdaa
