/- The reference of layer 19: Order. -/
import Derived.Test.YtkkmmbmjpfecdaaRc
import Derived.Test.YtkkmmbmjpfecdaaK
namespace Go.Proofs.Ytkkmmbmjpfecdaa
open Go.RowKit Go.Shelf

theorem new_two1 (w : World) (o : Obj) (z : Int) : EV encI 1 ((w.alloc o).alloc (.cells #[.int .i64 z] 3)) (.slice (some ⟨w.heap.size + 1, 0, none⟩) 1 1) [z] := by
  have := new_one (w := w.alloc o) (z := z) (e := 3)
  rwa [World.size_alloc] at this
theorem new_two0 (w : World) (o : Obj) (z : Int) : EV encI 1 ((w.alloc (.cells #[.int .i64 z] 3)).alloc o) (.slice (some ⟨w.heap.size, 0, none⟩) 1 1) [z] :=
  (new_one (w := w) (z := z) (e := 3)).below ((Below.refl _ _).alloc (Nat.le_refl _) _)
theorem ov_made0 (w : World) : OV encI 1 3 w.heap.size (w.alloc (.cells #[] 3)) (.slice (some ⟨w.heap.size, 0, none⟩) 0 0) [] := OV.made w 0 #[] (Nat.le_refl _) (Nat.zero_le _) rfl
theorem ov_made1 (w : World) (o : Obj) : OV encI 1 3 w.heap.size ((w.alloc o).alloc (.cells #[] 3)) (.slice (some ⟨w.heap.size + 1, 0, none⟩) 0 0) [] := by
  have := OV.made (enc := encI) (k := 1) (e := 3) (w.alloc o) (base := w.heap.size) 0 #[] (by simp) (Nat.zero_le _) rfl
  rwa [World.size_alloc] at this
theorem lastQ_step (q : Nat → Bool) {O : List Nat} {t x : Nat} (hx : O[t]? = some x) : lastQ q (O.take (t + 1)) = if q x then t + 1 else lastQ q (O.take t) := by
  have ht := (List.getElem?_eq_some_iff.1 hx).1
  rw [List.take_add_one, hx, Option.toList_some, lastQ_snoc, List.length_take, Nat.min_eq_left (by omega)]

set_option maxRecDepth 100000 in
set_option maxHeartbeats 2000000 in
theorem rorder_ok (w : World) (v : Value) (gs : List (Int × Int)) (hv : EV encG 2 w v gs) (hlen : gs.length ≤ 100000) :
    Calls Try.prog 40 #[v] w fun e w' => ∃ r, e = .returned (.tuple #[r, .int .i64 (thereZ gs [])]) ∧ OV encI 1 3 w.heap.size w' r (orderL gs) ∧ Below w.heap.size w w' := by
  have HR := Lib.hid (rright_ok w v gs hv hlen)
  obtain ⟨A, c, rfl⟩ := hv.shape
  cases hr : rightB gs with
  | false =>
    have e1 : thereZ gs [] = 194 := by unfold thereZ; rw [if_pos hr]
    have e2 : orderL gs = [] := by unfold orderL; rw [if_neg (by rw [e1]; simp)]
    rw [e1, e2]
    rw [hr] at HR
    clear hv hr e1 e2
    go_enter Try.func40, Try.ntmps40
    go_wp2_with fail
    refine HR.out.mono ?_
    rintro e w1 ⟨rfl, b1⟩
    go_wp2
    go_ret2
    exact ⟨_, rfl, OV.nil _ _, b1⟩
  | true =>
    have HP := Lib.hid (fun (w1 : World) (h : Below w.heap.size w w1) z => rpath_ok w1 _ gs z (hv.below h) hlen)
    have hok := right_iff.1 hr
    have HOK := Lib.hid hok
    rw [hr] at HR
    have e1 : thereZ gs [] = 0 := there_zero.2 ⟨hok, by simp⟩
    have e2 : orderL gs = ints (ordX gs gs.length) := by unfold orderL; rw [if_pos e1, ordX_all]
    rw [e1, e2]
    have hpos := hok.pos
    have hmany := hok.many
    obtain ⟨b, off, cg, hvv, -, rg⟩ := hv.row hpos
    simp only [Value.slice.injEq] at hvv
    obtain ⟨rfl, -, rfl⟩ := hvv
    have RG := Lib.hid rg
    clear hv hr hok e1 e2 rg
    go_enter Try.func40, Try.ntmps40
    go_wp2_with fail
    refine HR.out.mono ?_
    rintro e w1 ⟨rfl, b1⟩
    clear HR
    go_wp2_with fail
    go_loopg [4, 5, 6, 7, 8, 9] gs.length (fun k ov i _ _ _ _ wr => ∃ j : Nat, j + k = gs.length ∧ i = .int .i64 j ∧ OV encI 1 3 w.heap.size wr ov (ints (ordX gs j)) ∧ Below w.heap.size w wr ∧ (j = 0 → ov = .slice none 0 0))
    case atStart => exact ⟨0, by omega, rfl, OV.nil _ _, b1, fun _ => rfl⟩
    case round =>
      obtain ⟨j, hj, rfl, ho, hb, hnil⟩ := hrel
      have HNIL := Lib.hid hnil
      have HJ := Lib.hid hj
      have HO := Lib.hid ho
      have HB := Lib.hid hb
      have hsz := hb.size
      clear hj hb b1 hnil
      by_cases hjl : j < gs.length
      · obtain ⟨hxl, hxm⟩ := ordX_lt HOK.out (j := j) (by omega)
        have HXL := Lib.hid (show (ints (ordX gs j)).length = j from by simp [ints, hxl])
        have HXM := Lib.hid hxm
        have SX := Lib.hid (ordX_step HOK.out hjl)
        obtain ⟨⟨p, q⟩, hg⟩ : ∃ g, gs[j]? = some g := ⟨_, List.getElem?_eq_getElem hjl⟩
        have hp := par_get hg
        dsimp only at hp
        have hp0 : 0 ≤ p := by
          rw [← hp]
          rcases Nat.eq_zero_or_pos j with rfl | h0
          · rw [HOK.out.root] at hg; cases hg; rw [hp]; omega
          · exact (HOK.out.each j h0 hjl).1
        obtain ⟨pn, rfl⟩ := Int.eq_ofNat_of_zero_le hp0
        rw [hp, Int.toNat_natCast] at SX
        have HG := Lib.hid hg
        have HXN := Lib.hid hxl
        clear hxm hp hg hp0 hxl ho
        generalize ordX gs j = O at *
        obtain ⟨Ao, co, hvo⟩ := (HO.out.ev encI_len).shape
        rw [HXL.out] at hvo
        subst hvo
        have HNIL := Lib.hid (fun h => (Value.slice.injEq _ _ _ _ _ _).mp (HNIL.out h))
        go_wp2_with fail
        go_loopg [6, 7, 8, 9] j (fun k av i _ _ wr => ∃ t : Nat, t + k = j ∧ i = .int .i64 t ∧ av = .int .i64 (lastQ (inPath gs pn) (O.take t)) ∧ OV encI 1 3 w.heap.size wr (.slice Ao j co) (ints O) ∧ Below w.heap.size w wr)
        case atStart => exact ⟨0, by omega, rfl, rfl, HO.out, HB.out⟩
        case round =>
          obtain ⟨t, ht, rfl, rfl, ho, hb⟩ := hrel
          have HTT := Lib.hid ht
          have HO := Lib.hid ho
          have HB := Lib.hid hb
          have hsz := hb.size
          have hlq := lastQ_le (inPath gs pn) (O.take t)
          rw [List.length_take] at hlq
          have hlq1 : lastQ (inPath gs pn) (O.take t) ≤ O.length := by omega
          have hlq2 : lastQ (inPath gs pn) (O.take t) ≤ t := by omega
          clear ht hb hlq
          by_cases hlt : t < j
          · obtain ⟨x, hx⟩ : ∃ x, O[t]? = some x := ⟨_, List.getElem?_eq_getElem (by rw [HXN.out]; exact hlt)⟩
            have hxj := HXM.out x (List.mem_of_getElem? hx)
            obtain ⟨b', off', c'', hv', -, rs⟩ := (ho.ev encI_len).row (by rw [HXL.out]; omega)
            simp only [Value.slice.injEq] at hv'
            obtain ⟨rfl, -, rfl⟩ := hv'
            have cx := rs t (x : Int) (by simp [ints, hx]) 0 _ rfl
            simp only [Nat.mul_one, Nat.add_zero] at cx
            have P1 := Lib.hid (HP.out wr HB.out x)
            have hpx := path_eq HOK.out (show x < gs.length by omega)
            have hpl := path_le HOK.out.bef x (show x < gs.length by omega)
            rw [hpx] at P1
            have hph := path_has pn x (gs := gs)
            have hip : (path gs x).contains pn = inPath gs pn x := rfl
            rw [hip] at hph
            have SU := Lib.hid (lastQ_step (inPath gs pn) hx)
            obtain ⟨cj, hcj⟩ : ∃ b, inPath gs pn x = b := ⟨_, rfl⟩
            rw [hcj] at hph SU
            have HPH := Lib.hid hph
            generalize thereZ gs [(x : Int)] = tzz at P1
            clear ho rs hx hpx hph hip hcj
            go_wp2_with fail
            refine P1.out.mono ?_
            rintro e w2 ⟨r, rfl, o2, b2⟩
            have hb2 := HB.out.trans (b2.mono hsz)
            have ho2 := HO.out.below b2
            have HA := Lib.hid (has_ok w2 r _ (pn : Int) (o2.ev encI_len) (by simp [ints]; omega))
            rw [HPH.out] at HA
            obtain ⟨cy, _⟩ := (RG.out.below hb2).grp HG.out
            dsimp only at cy
            clear o2 b2 P1 cx
            cases cj with
            | true =>
              go_wp2_with fail
              refine HA.out.mono ?_
              rintro e w3 ⟨rfl, rfl⟩
              go_wp2
              go_roundg (gk - 1)
              case measure => have := HTT.out; omega
              case rel => exact ⟨t + 1, by have := HTT.out; omega, by go_num, by rw [SU.out]; simp, ho2, hb2⟩
            | false =>
              go_wp2_with fail
              refine HA.out.mono ?_
              rintro e w3 ⟨rfl, rfl⟩
              go_wp2
              go_roundg (gk - 1)
              case measure => have := HTT.out; omega
              case rel => exact ⟨t + 1, by have := HTT.out; omega, by go_num, by rw [SU.out]; simp, ho2, hb2⟩
          · obtain rfl : t = j := by have := HTT.out; omega
            rw [List.take_of_length_le (by rw [HXN.out]; exact Nat.le_refl _)] at hlq1 hlq2 ⊢
            have hm : ∀ m, lastQ (inPath gs pn) O = m → ordX gs (t + 1) = O.take m ++ t :: O.drop m := fun m h => by rw [← h]; exact SX.out
            obtain ⟨at_, hat⟩ : ∃ m, lastQ (inPath gs pn) O = m := ⟨_, rfl⟩
            have SX2 := Lib.hid (hm _ hat)
            rw [hat] at hlq1 hlq2 ⊢
            clear hm hat SX ho
            have e1 : (0 : Int) ≤ (at_ : Int) := by omega
            have e2 : (at_ : Int) ≤ (t : Int) := by omega
            all_goals
              obtain ⟨X, hX⟩ : ∃ X, ints (O.take at_) = X := ⟨_, rfl⟩
              obtain ⟨Y, hY⟩ : ∃ Y, ints (O.drop at_) = Y := ⟨_, rfl⟩
              have LX := Lib.hid (show X.length = at_ from by rw [← hX]; simp [ints, HXN.out]; omega)
              have LY := Lib.hid (show Y.length = t - at_ from by rw [← hY]; simp [ints, HXN.out])
              have HF := Lib.hid (show ints (ordX gs (t + 1)) = X ++ [(t : Int)] ++ Y from by rw [SX2.out, ← hX, ← hY]; simp [ints])
              rcases Nat.eq_zero_or_pos t with h0 | h0
              · obtain ⟨h1, h2, h3⟩ := HNIL.out h0
                have ha0 : at_ = 0 := by omega
                have EX := Lib.hid (show EV encI 1 wr (.slice none 0 0) X from by
                  have : X = [] := List.eq_nil_of_length_eq_zero (by have := LX.out; omega)
                  rw [this]; exact EV.nil _ _)
                have EY := Lib.hid (show EV encI 1 wr (.slice none 0 0) Y from by
                  have : Y = [] := List.eq_nil_of_length_eq_zero (by have := LY.out; omega)
                  rw [this]; exact EV.nil _ _)
                clear hX hY e1 e2 hlq1 hlq2 h2
                subst h0; subst h1; subst ha0; subst h3
                all_goals
                  go_wp2_with fail
                  go_region_held3 (fun _ => True) (trivial) (first
                    | ((refine step_app elemI encI_len encI_one (by rfl) (.tmp 43) (.tmp 46) (by rfl) (.slice (some ⟨wr.heap.size, 0, none⟩) 0 0) (.slice none 0 0) (by rfl) (by rfl) (xs := []) (ys := X) (base := wr.heap.size) (by exact (ov_made0 wr).drew) (by exact EX.out.below (below_drew ((Below.refl _ wr).alloc (Nat.le_refl _) _))) (by rw [LX.out]; (first | omega | (simp; done) | (simp; omega))) (by (first | omega | (simp; done) | (simp; omega))) ?_; intro v1 w1 o1 g1; have b1 : Below wr.heap.size wr w1 := (below_drew ((Below.refl _ wr).alloc (Nat.le_refl _) _)).grown g1 (by (first | omega | (simp; done) | (simp; omega))) (fun k hk => by simp [Value.ownBlock] at hk; omega); have l1 := b1.size; clear g1))
                    | ((refine step_app elemI encI_len encI_one (by rfl) (.tmp 43) (.tmp 46) (by rfl) (.slice (some ⟨wr.heap.size, 0, none⟩) 0 0) (.slice none 0 0) (by rfl) (by rfl) (xs := []) (ys := X) (base := wr.heap.size) (by exact ((ov_made0 wr).alloc (.cells #[.int .i64 0] 3)).drew) (by exact EX.out.below (below_drew (((Below.refl _ wr).alloc (Nat.le_refl _) _).alloc (by simp) _))) (by rw [LX.out]; (first | omega | (simp; done) | (simp; omega))) (by (first | omega | (simp; done) | (simp; omega))) ?_; intro v1 w1 o1 g1; have b1 : Below wr.heap.size wr w1 := (below_drew (((Below.refl _ wr).alloc (Nat.le_refl _) _).alloc (by simp) _)).grown g1 (by (first | omega | (simp; done) | (simp; omega))) (fun k hk => by simp [Value.ownBlock] at hk; omega); have e49 : EV encI 1 w1 (.slice (some ⟨wr.heap.size + 1, 0, none⟩) 1 1) [(0 : Int)] := EV.grown (new_two1 wr _ _).drew_ g1 (by intro b o n c h; simp at h; simp [Value.ownBlock]; omega); have l1 := b1.size; clear g1))
                    | ((refine step_app elemI encI_len encI_one (by rfl) (.tmp 43) (.tmp 46) (by rfl) (.slice (some ⟨wr.heap.size + 1, 0, none⟩) 0 0) (.slice none 0 0) (by rfl) (by rfl) (xs := []) (ys := X) (base := wr.heap.size) (by exact (ov_made1 wr _).drew) (by exact EX.out.below (below_drew (((Below.refl _ wr).alloc (Nat.le_refl _) _).alloc (by simp) _))) (by rw [LX.out]; (first | omega | (simp; done) | (simp; omega))) (by (first | omega | (simp; done) | (simp; omega))) ?_; intro v1 w1 o1 g1; have b1 : Below wr.heap.size wr w1 := (below_drew (((Below.refl _ wr).alloc (Nat.le_refl _) _).alloc (by simp) _)).grown g1 (by (first | omega | (simp; done) | (simp; omega))) (fun k hk => by simp [Value.ownBlock] at hk; omega); have e49 : EV encI 1 w1 (.slice (some ⟨wr.heap.size, 0, none⟩) 1 1) [(0 : Int)] := EV.grown (new_two0 wr _ _).drew_ g1 (by intro b o n c h; simp at h; simp [Value.ownBlock]; omega); have l1 := b1.size; clear g1))
                    | ((refine step_app elemI encI_len encI_one (by rfl) (.tmp 47) (.tmp 49) (by rfl) v1 (.slice (some ⟨w1.heap.size, 0, none⟩) 1 1) (by rfl) (by rfl) (ys := [(0 : Int)]) (base := wr.heap.size) (by exact o1.alloc _) (by exact new_one) (by rw [List.length_append, LX.out]; (first | omega | (simp; done) | (simp; omega))) (by (first | omega | (simp; done) | (simp; omega))) ?_; intro v2 w2 o2 g2; have b2 : Below wr.heap.size wr w2 := (b1.alloc l1 _).grown g2 (by (first | omega | (simp; done) | (simp; omega))) (fun k hk => (o1.block k hk).1); have l2 := b2.size; clear g2 o1))
                    | ((refine step_app elemI encI_len encI_one (by rfl) (.tmp 47) (.tmp 49) (by rfl) v1 (.slice (some ⟨wr.heap.size + 1, 0, none⟩) 1 1) (by rfl) (by rfl) (ys := [(0 : Int)]) (base := wr.heap.size) (by exact o1) (by exact e49) (by rw [List.length_append, LX.out]; (first | omega | (simp; done) | (simp; omega))) (by (first | omega | (simp; done) | (simp; omega))) ?_; intro v2 w2 o2 g2; have b2 : Below wr.heap.size wr w2 := b1.grown g2 (by (first | omega | (simp; done) | (simp; omega))) (fun k hk => (o1.block k hk).1); have l2 := b2.size; clear g2 o1))
                    | ((refine step_app elemI encI_len encI_one (by rfl) (.tmp 47) (.tmp 49) (by rfl) v1 (.slice (some ⟨wr.heap.size, 0, none⟩) 1 1) (by rfl) (by rfl) (ys := [(0 : Int)]) (base := wr.heap.size) (by exact o1) (by exact e49) (by rw [List.length_append, LX.out]; (first | omega | (simp; done) | (simp; omega))) (by (first | omega | (simp; done) | (simp; omega))) ?_; intro v2 w2 o2 g2; have b2 : Below wr.heap.size wr w2 := b1.grown g2 (by (first | omega | (simp; done) | (simp; omega))) (fun k hk => (o1.block k hk).1); have l2 := b2.size; clear g2 o1))
                    | ((refine step_app elemI encI_len encI_one (by rfl) (.tmp 50) (.tmp 53) (by rfl) v2 (.slice none 0 0) (by rfl) (by rfl) (ys := Y) (base := wr.heap.size) (by exact o2) (by exact EY.out.below b2) (by rw [List.length_append, List.length_append, LX.out, LY.out]; (first | omega | (simp; done) | (simp; omega))) (by omega) ?_; intro v3 w3 o3 g3; have b3 : Below wr.heap.size wr w3 := b2.grown g3 (by omega) (fun k hk => (o2.block k hk).1); clear g3 o2)))
                  all_goals
                    go_wp2
                    go_roundg (gs.length - (0 + 1))
                    case measure => have := HJ.out; omega
                    case rel => exact ⟨0 + 1, by omega, by go_num, by rw [HF.out]; exact o3.base_le hsz, HB.out.trans (b3.mono hsz), fun h => by omega⟩
              · obtain ⟨go, oo, co', hvo, hco, -⟩ := (HO.out.ev encI_len).row (by rw [HXL.out]; exact h0)
                simp only [Value.slice.injEq] at hvo
                obtain ⟨rfl, -, rfl⟩ := hvo
                rw [HXL.out] at hco
                have e3 : (at_ : Int) ≤ (co : Int) := by omega
                have e4 : at_ ≤ co := by omega
                have e5 : at_ ≤ t := by omega
                have EX := Lib.hid (show EV encI 1 wr (.slice (some ⟨go, oo, none⟩) at_ co) X from by
                  have := (HO.out.ev encI_len).row_take (j := at_) (by rw [HXL.out]; omega) HXL.out.symm
                  rw [← hX]; unfold ints at this ⊢; rwa [← List.map_take] at this)
                have EY := Lib.hid (show EV encI 1 wr (.slice (some ⟨go, oo + at_, none⟩) (t - at_) (co - at_)) Y from by
                  have := (HO.out.ev encI_len).row_drop (j := at_) (by rw [HXL.out]; omega) HXL.out.symm
                  rw [← hY]; unfold ints at this ⊢; rwa [← List.map_drop, Nat.mul_one] at this)
                by_cases hca : co = at_
                · clear EY
                  have EY := Lib.hid (show EV encI 1 wr (.slice (some ⟨go, oo, none⟩) 0 0) Y from by
                    have : Y = [] := List.eq_nil_of_length_eq_zero (by have := LY.out; omega)
                    rw [this]; exact EV.nil _ _)
                  obtain rfl : t = at_ := by omega
                  clear hX hY e1 e2 e3 e4 e5 hco hlq1 hlq2
                  obtain rfl : t = co := hca.symm
                  go_wp2_with fail
                  go_region_held3 (fun _ => True) (trivial) (first
                    | ((refine step_app elemI encI_len encI_one (by rfl) (.tmp 43) (.tmp 46) (by rfl) (.slice (some ⟨wr.heap.size, 0, none⟩) 0 0) (.slice (some ⟨go, oo, none⟩) t t) (by rfl) (by rfl) (xs := []) (ys := X) (base := wr.heap.size) (by exact (ov_made0 wr).drew) (by exact EX.out.below (below_drew ((Below.refl _ wr).alloc (Nat.le_refl _) _))) (by rw [LX.out]; (first | omega | (simp; done) | (simp; omega))) (by (first | omega | (simp; done) | (simp; omega))) ?_; intro v1 w1 o1 g1; have b1 : Below wr.heap.size wr w1 := (below_drew ((Below.refl _ wr).alloc (Nat.le_refl _) _)).grown g1 (by (first | omega | (simp; done) | (simp; omega))) (fun k hk => by simp [Value.ownBlock] at hk; omega); have l1 := b1.size; clear g1))
                    | ((refine step_app elemI encI_len encI_one (by rfl) (.tmp 43) (.tmp 46) (by rfl) (.slice (some ⟨wr.heap.size, 0, none⟩) 0 0) (.slice (some ⟨go, oo, none⟩) t t) (by rfl) (by rfl) (xs := []) (ys := X) (base := wr.heap.size) (by exact ((ov_made0 wr).alloc (.cells #[.int .i64 t] 3)).drew) (by exact EX.out.below (below_drew (((Below.refl _ wr).alloc (Nat.le_refl _) _).alloc (by simp) _))) (by rw [LX.out]; (first | omega | (simp; done) | (simp; omega))) (by (first | omega | (simp; done) | (simp; omega))) ?_; intro v1 w1 o1 g1; have b1 : Below wr.heap.size wr w1 := (below_drew (((Below.refl _ wr).alloc (Nat.le_refl _) _).alloc (by simp) _)).grown g1 (by (first | omega | (simp; done) | (simp; omega))) (fun k hk => by simp [Value.ownBlock] at hk; omega); have e49 : EV encI 1 w1 (.slice (some ⟨wr.heap.size + 1, 0, none⟩) 1 1) [(t : Int)] := EV.grown (new_two1 wr _ _).drew_ g1 (by intro b o n c h; simp at h; simp [Value.ownBlock]; omega); have l1 := b1.size; clear g1))
                    | ((refine step_app elemI encI_len encI_one (by rfl) (.tmp 43) (.tmp 46) (by rfl) (.slice (some ⟨wr.heap.size + 1, 0, none⟩) 0 0) (.slice (some ⟨go, oo, none⟩) t t) (by rfl) (by rfl) (xs := []) (ys := X) (base := wr.heap.size) (by exact (ov_made1 wr _).drew) (by exact EX.out.below (below_drew (((Below.refl _ wr).alloc (Nat.le_refl _) _).alloc (by simp) _))) (by rw [LX.out]; (first | omega | (simp; done) | (simp; omega))) (by (first | omega | (simp; done) | (simp; omega))) ?_; intro v1 w1 o1 g1; have b1 : Below wr.heap.size wr w1 := (below_drew (((Below.refl _ wr).alloc (Nat.le_refl _) _).alloc (by simp) _)).grown g1 (by (first | omega | (simp; done) | (simp; omega))) (fun k hk => by simp [Value.ownBlock] at hk; omega); have e49 : EV encI 1 w1 (.slice (some ⟨wr.heap.size, 0, none⟩) 1 1) [(t : Int)] := EV.grown (new_two0 wr _ _).drew_ g1 (by intro b o n c h; simp at h; simp [Value.ownBlock]; omega); have l1 := b1.size; clear g1))
                    | ((refine step_app elemI encI_len encI_one (by rfl) (.tmp 47) (.tmp 49) (by rfl) v1 (.slice (some ⟨w1.heap.size, 0, none⟩) 1 1) (by rfl) (by rfl) (ys := [(t : Int)]) (base := wr.heap.size) (by exact o1.alloc _) (by exact new_one) (by rw [List.length_append, LX.out]; (first | omega | (simp; done) | (simp; omega))) (by (first | omega | (simp; done) | (simp; omega))) ?_; intro v2 w2 o2 g2; have b2 : Below wr.heap.size wr w2 := (b1.alloc l1 _).grown g2 (by (first | omega | (simp; done) | (simp; omega))) (fun k hk => (o1.block k hk).1); have l2 := b2.size; clear g2 o1))
                    | ((refine step_app elemI encI_len encI_one (by rfl) (.tmp 47) (.tmp 49) (by rfl) v1 (.slice (some ⟨wr.heap.size + 1, 0, none⟩) 1 1) (by rfl) (by rfl) (ys := [(t : Int)]) (base := wr.heap.size) (by exact o1) (by exact e49) (by rw [List.length_append, LX.out]; (first | omega | (simp; done) | (simp; omega))) (by (first | omega | (simp; done) | (simp; omega))) ?_; intro v2 w2 o2 g2; have b2 : Below wr.heap.size wr w2 := b1.grown g2 (by (first | omega | (simp; done) | (simp; omega))) (fun k hk => (o1.block k hk).1); have l2 := b2.size; clear g2 o1))
                    | ((refine step_app elemI encI_len encI_one (by rfl) (.tmp 47) (.tmp 49) (by rfl) v1 (.slice (some ⟨wr.heap.size, 0, none⟩) 1 1) (by rfl) (by rfl) (ys := [(t : Int)]) (base := wr.heap.size) (by exact o1) (by exact e49) (by rw [List.length_append, LX.out]; (first | omega | (simp; done) | (simp; omega))) (by (first | omega | (simp; done) | (simp; omega))) ?_; intro v2 w2 o2 g2; have b2 : Below wr.heap.size wr w2 := b1.grown g2 (by (first | omega | (simp; done) | (simp; omega))) (fun k hk => (o1.block k hk).1); have l2 := b2.size; clear g2 o1))
                    | ((refine step_app elemI encI_len encI_one (by rfl) (.tmp 50) (.tmp 53) (by rfl) v2 (.slice (some ⟨go, oo, none⟩) 0 0) (by rfl) (by rfl) (ys := Y) (base := wr.heap.size) (by exact o2) (by exact EY.out.below b2) (by rw [List.length_append, List.length_append, LX.out, LY.out]; (first | omega | (simp; done) | (simp; omega))) (by omega) ?_; intro v3 w3 o3 g3; have b3 : Below wr.heap.size wr w3 := b2.grown g3 (by omega) (fun k hk => (o2.block k hk).1); clear g3 o2)))
                  all_goals
                    go_wp2
                    go_roundg (gs.length - (t + 1))
                    case measure => have := HJ.out; omega
                    case rel => exact ⟨t + 1, by omega, by go_num, by rw [HF.out]; exact o3.base_le hsz, HB.out.trans (b3.mono hsz), fun h => by omega⟩
                · clear hX hY
                  go_wp2_with fail
                  go_region_held3 (fun _ => True) (trivial) (first
                    | ((refine step_app elemI encI_len encI_one (by rfl) (.tmp 43) (.tmp 46) (by rfl) (.slice (some ⟨wr.heap.size, 0, none⟩) 0 0) (.slice (some ⟨go, oo, none⟩) at_ co) (by rfl) (by rfl) (xs := []) (ys := X) (base := wr.heap.size) (by exact (ov_made0 wr).drew) (by exact EX.out.below (below_drew ((Below.refl _ wr).alloc (Nat.le_refl _) _))) (by rw [LX.out]; (first | omega | (simp; done) | (simp; omega))) (by (first | omega | (simp; done) | (simp; omega))) ?_; intro v1 w1 o1 g1; have b1 : Below wr.heap.size wr w1 := (below_drew ((Below.refl _ wr).alloc (Nat.le_refl _) _)).grown g1 (by (first | omega | (simp; done) | (simp; omega))) (fun k hk => by simp [Value.ownBlock] at hk; omega); have l1 := b1.size; clear g1))
                    | ((refine step_app elemI encI_len encI_one (by rfl) (.tmp 43) (.tmp 46) (by rfl) (.slice (some ⟨wr.heap.size, 0, none⟩) 0 0) (.slice (some ⟨go, oo, none⟩) at_ co) (by rfl) (by rfl) (xs := []) (ys := X) (base := wr.heap.size) (by exact ((ov_made0 wr).alloc (.cells #[.int .i64 t] 3)).drew) (by exact EX.out.below (below_drew (((Below.refl _ wr).alloc (Nat.le_refl _) _).alloc (by simp) _))) (by rw [LX.out]; (first | omega | (simp; done) | (simp; omega))) (by (first | omega | (simp; done) | (simp; omega))) ?_; intro v1 w1 o1 g1; have b1 : Below wr.heap.size wr w1 := (below_drew (((Below.refl _ wr).alloc (Nat.le_refl _) _).alloc (by simp) _)).grown g1 (by (first | omega | (simp; done) | (simp; omega))) (fun k hk => by simp [Value.ownBlock] at hk; omega); have e49 : EV encI 1 w1 (.slice (some ⟨wr.heap.size + 1, 0, none⟩) 1 1) [(t : Int)] := EV.grown (new_two1 wr _ _).drew_ g1 (by intro b o n c h; simp at h; simp [Value.ownBlock]; omega); have l1 := b1.size; clear g1))
                    | ((refine step_app elemI encI_len encI_one (by rfl) (.tmp 43) (.tmp 46) (by rfl) (.slice (some ⟨wr.heap.size + 1, 0, none⟩) 0 0) (.slice (some ⟨go, oo, none⟩) at_ co) (by rfl) (by rfl) (xs := []) (ys := X) (base := wr.heap.size) (by exact (ov_made1 wr _).drew) (by exact EX.out.below (below_drew (((Below.refl _ wr).alloc (Nat.le_refl _) _).alloc (by simp) _))) (by rw [LX.out]; (first | omega | (simp; done) | (simp; omega))) (by (first | omega | (simp; done) | (simp; omega))) ?_; intro v1 w1 o1 g1; have b1 : Below wr.heap.size wr w1 := (below_drew (((Below.refl _ wr).alloc (Nat.le_refl _) _).alloc (by simp) _)).grown g1 (by (first | omega | (simp; done) | (simp; omega))) (fun k hk => by simp [Value.ownBlock] at hk; omega); have e49 : EV encI 1 w1 (.slice (some ⟨wr.heap.size, 0, none⟩) 1 1) [(t : Int)] := EV.grown (new_two0 wr _ _).drew_ g1 (by intro b o n c h; simp at h; simp [Value.ownBlock]; omega); have l1 := b1.size; clear g1))
                    | ((refine step_app elemI encI_len encI_one (by rfl) (.tmp 47) (.tmp 49) (by rfl) v1 (.slice (some ⟨w1.heap.size, 0, none⟩) 1 1) (by rfl) (by rfl) (ys := [(t : Int)]) (base := wr.heap.size) (by exact o1.alloc _) (by exact new_one) (by rw [List.length_append, LX.out]; (first | omega | (simp; done) | (simp; omega))) (by (first | omega | (simp; done) | (simp; omega))) ?_; intro v2 w2 o2 g2; have b2 : Below wr.heap.size wr w2 := (b1.alloc l1 _).grown g2 (by (first | omega | (simp; done) | (simp; omega))) (fun k hk => (o1.block k hk).1); have l2 := b2.size; clear g2 o1))
                    | ((refine step_app elemI encI_len encI_one (by rfl) (.tmp 47) (.tmp 49) (by rfl) v1 (.slice (some ⟨wr.heap.size + 1, 0, none⟩) 1 1) (by rfl) (by rfl) (ys := [(t : Int)]) (base := wr.heap.size) (by exact o1) (by exact e49) (by rw [List.length_append, LX.out]; (first | omega | (simp; done) | (simp; omega))) (by (first | omega | (simp; done) | (simp; omega))) ?_; intro v2 w2 o2 g2; have b2 : Below wr.heap.size wr w2 := b1.grown g2 (by (first | omega | (simp; done) | (simp; omega))) (fun k hk => (o1.block k hk).1); have l2 := b2.size; clear g2 o1))
                    | ((refine step_app elemI encI_len encI_one (by rfl) (.tmp 47) (.tmp 49) (by rfl) v1 (.slice (some ⟨wr.heap.size, 0, none⟩) 1 1) (by rfl) (by rfl) (ys := [(t : Int)]) (base := wr.heap.size) (by exact o1) (by exact e49) (by rw [List.length_append, LX.out]; (first | omega | (simp; done) | (simp; omega))) (by (first | omega | (simp; done) | (simp; omega))) ?_; intro v2 w2 o2 g2; have b2 : Below wr.heap.size wr w2 := b1.grown g2 (by (first | omega | (simp; done) | (simp; omega))) (fun k hk => (o1.block k hk).1); have l2 := b2.size; clear g2 o1))
                    | ((refine step_app elemI encI_len encI_one (by rfl) (.tmp 50) (.tmp 53) (by rfl) v2 (.slice (some ⟨go, oo + at_, none⟩) (t - at_) (co - at_)) (by rfl) (by rfl) (ys := Y) (base := wr.heap.size) (by exact o2) (by exact EY.out.below b2) (by rw [List.length_append, List.length_append, LX.out, LY.out]; (first | omega | (simp; done) | (simp; omega))) (by omega) ?_; intro v3 w3 o3 g3; have b3 : Below wr.heap.size wr w3 := b2.grown g3 (by omega) (fun k hk => (o2.block k hk).1); clear g3 o2)))
                  all_goals
                    go_wp2
                    go_roundg (gs.length - (t + 1))
                    case measure => have := HJ.out; omega
                    case rel => exact ⟨t + 1, by omega, by go_num, by rw [HF.out]; exact o3.base_le hsz, HB.out.trans (b3.mono hsz), fun h => by omega⟩
      · obtain rfl : j = gs.length := by have := HJ.out; omega
        go_wp2
        go_ret2
        exact ⟨_, rfl, HO.out, HB.out⟩
end Go.Proofs.Ytkkmmbmjpfecdaa
