/- quantumref12.Blocks: the whole | quantumlaw10.Turned: a block for the reference. -/
import Derived.Test.YtalophngappkhaaGreatDoorV33
import Derived.Test.YtalophngappkhaaGreatDoorV30
import Derived.Test.YtalophngappkhaaGreatDoorV19
import Derived.Test.YtalophngappkhaaGreatDoorV31
set_option linter.unusedVariables false
set_option linter.unusedSimpArgs false
set_option linter.unusedSectionVars false
namespace Go.Proofs.YtalophngappkhaaGreatDoor
open Go Go.RowKit Go.Shelf
attribute [local go_sem] Oper.semAt_some

theorem RB2.grown {α : Type} {enc : α → List Value} {k : Nat} {e : TypeId} {xs : List α} {v : Value} {w W W' : World} {X Y : Nat} {v1 v2 v3 : Value} {lost next : Int} {opn : Bool} (h : RB2 w W X Y v1 v2 v3 lost next opn) (ho : OV enc k e w.heap.size W v xs) (he : e ≠ 91) (hg : W.grownBy W' v.ownBlock) : RB2 w W' X Y v1 v2 v3 lost next opn :=
 ⟨h.xy, h.rx.grown hg (ho.neB h.rx.cell he), h.ry.grown hg (ho.neB h.ry.cell he), h.bel.grown hg h.bel.size (fun g q => (ho.block g q).1)⟩
/-- The empty box, written over with nothing. -/
theorem RB2.zero {w W : World} {X Y : Nat} {v1 v2 v3 : Value} {lost next : Int} {opn : Bool} (h : RB2 w W X Y v1 v2 v3 lost next opn) :
  RmBox ((((((W.setCell ⟨X, 0, none⟩ (.slice none 0 0)).setCell ⟨X, 1, none⟩ (.slice none 0 0)).setCell ⟨X, 2, none⟩ (.slice none 0 0)).setCell ⟨X, 3, none⟩ (.int .i64 0)).setCell ⟨X, 4, none⟩ (.int .i64 0)).setCell ⟨X, 5, none⟩ (.bool false)) X (.slice none 0 0) (.slice none 0 0) (.slice none 0 0) 0 0 false ∧
  Below w.heap.size w ((((((W.setCell ⟨X, 0, none⟩ (.slice none 0 0)).setCell ⟨X, 1, none⟩ (.slice none 0 0)).setCell ⟨X, 2, none⟩ (.slice none 0 0)).setCell ⟨X, 3, none⟩ (.int .i64 0)).setCell ⟨X, 4, none⟩ (.int .i64 0)).setCell ⟨X, 5, none⟩ (.bool false)) := by
 have hm := (((((Mod.setCell (a := W) (p := ⟨X, 0, none⟩) (T := fun k => k = X) (.slice none 0 0) rfl).trans (Mod.setCell (p := ⟨X, 1, none⟩) (T := fun k => k = X) (.slice none 0 0) rfl)).trans (Mod.setCell (p := ⟨X, 2, none⟩) (T := fun k => k = X) (.slice none 0 0) rfl)).trans (Mod.setCell (p := ⟨X, 3, none⟩) (T := fun k => k = X) (.int .i64 0) rfl)).trans (Mod.setCell (p := ⟨X, 4, none⟩) (T := fun k => k = X) (.int .i64 0) rfl)).trans (Mod.setCell (p := ⟨X, 5, none⟩) (T := fun k => k = X) (.bool false) rfl)
 exact ⟨((((((h.rx.set0 _).set1 _).set2 _).set3 _).set4 _).set5 _), h.bel.trans (hm.below (B := w.heap.size) (fun k hk e => by have := h.xy; omega) h.bel.size)⟩
theorem mg0_post {w W' : World} {bs : List Bck} {c : Int} (hm : MrgRes bs mg0 c) (hb : Below w.heap.size w W') : RPost w bs (.returned (.tuple #[mgA (.slice none 0 0) (.slice none 0 0) (.slice none 0 0) 0 0 false, .int .i64 c])) W' :=
 ⟨none, 0, 0, none, 0, 0, none, 0, 0, mg0, c, rfl, hm, OV.nil _ _, OV.nil _ _, OV.nil _ _, hb⟩
set_option maxRecDepth 100000 in
set_option maxHeartbeats 6400000 in
theorem r12blocks_ok (w : World) (v : Value) (bs : List (Sl3 × Bck)) (hv : EV encSb 5 w v bs) (hes : ∀ x ∈ bs, EV encE 11 w (slV x.1) x.2.evs) (ho : ∀ x ∈ bs, BlkOk x.2) (hl : ∀ x ∈ bs, x.2.evs.length ≤ 1000) (hn : bs.length ≤ 1000) :
  Calls Tryz.prog 44 #[v] w (RPost w (bs.map Prod.snd)) := by
 obtain ⟨A, c, hA⟩ := hv.shape
 subst hA
 obtain ⟨n, hnn⟩ : ∃ n, bs.length = n := ⟨_, rfl⟩
 have HN := Lib.hid (show bs.length = n ∧ n ≤ 1000 by omega)
 rw [hnn] at hv ⊢
 have HV := Lib.hid hv
 have HES := Lib.hid hes
 have HO := Lib.hid ho
 have HLE := Lib.hid hl
 have HX := Lib.hid (RmBox.new w (.slice none 0 0) (.slice none 0 0) (.slice none 0 0) 0 0 false)
 have HA1 := Lib.hid (bel_alloc w (.cells #[.slice none 0 0, .slice none 0 0, .slice none 0 0, .int .i64 0, .int .i64 0, .bool false] 91))
 clear hv hes ho hl hn hnn
 go_enter Tryz.func44, Tryz.ntmps44
 have hn6 := HN.out.2
 have d0 : decide ((4096 : Int) < (n : Int)) = false := by simp; omega
 go_upto_region 1 with fail
 generalize w.alloc (.cells #[.slice none 0 0, .slice none 0 0, .slice none 0 0, .int .i64 0, .int .i64 0, .bool false] 91) = w1 at HX HA1 ⊢
 obtain ⟨X, hX⟩ : ∃ X, w.heap.size = X := ⟨_, rfl⟩
 rw [hX] at HX ⊢
 have HXX := Lib.hid hX
 clear hX
 have HY := Lib.hid (RmBox.new w1 (.slice none 0 0) (.slice none 0 0) (.slice none 0 0) 0 1 false)
 have HA2 := Lib.hid (bel_alloc w1 (.cells #[.slice none 0 0, .slice none 0 0, .slice none 0 0, .int .i64 0, .int .i64 1, .bool false] 91))
 go_upto_region 5 with fail
 have HB0 := Lib.hid (show RB2 w _ X w1.heap.size (.slice none 0 0) (.slice none 0 0) (.slice none 0 0) 0 1 false from ⟨⟨by have := HXX.out; omega, HX.out.lt⟩, HX.out.below HA2.out, HY.out, bstep HA1.out HA2.out⟩)
 clear HX HA1 HY HA2
 generalize w1.alloc (.cells #[.slice none 0 0, .slice none 0 0, .slice none 0 0, .int .i64 0, .int .i64 1, .bool false] 91) = w2 at HB0 ⊢
 generalize w1.heap.size = Y at HB0 ⊢
 go_wp2
 go_loopg [4, 6] n (fun k o i wr => ∃ j : Nat, j + k = n ∧ i = .int .i64 j ∧ OV encE 11 96 w.heap.size wr o (((bs.map Prod.snd).take j).flatMap Bck.evs) ∧ RB2 w wr X Y (.slice none 0 0) (.slice none 0 0) (.slice none 0 0) (lostB ((bs.map Prod.snd).take j)) (max 1 (endB ((bs.map Prod.snd).take j))) false ∧ ∀ b ∈ (bs.map Prod.snd).take j, chkB b = 0)
 case atStart => exact ⟨0, by omega, rfl, OV.nil _ _, HB0.out, fun b hb => by simp at hb⟩
 clear HB0
 case round =>
  obtain ⟨j, hj, rfl, ho, hbx, hck⟩ := hrel
  have HJ := Lib.hid hj
  have HOV := Lib.hid ho
  have HBX := Lib.hid hbx
  have HCK := Lib.hid hck
  clear hj ho hbx hck
  by_cases hlt : j < n
  ·obtain ⟨bb, off, c', hsl, hcc, hr⟩ := (HV.out.below HBX.out.bel).row (by rw [HN.out.1]; omega)
   rw [HN.out.1] at hsl
   cases hsl
   obtain ⟨⟨⟨As, ns, cs⟩, b⟩, hx⟩ : ∃ x, bs[j]? = some x := ⟨_, List.getElem?_eq_getElem (by rw [HN.out.1]; exact hlt)⟩
   have HXJ := Lib.hid hx
   have hm := List.mem_of_getElem? hx
   obtain ⟨g0, g1, g2, g3, g4⟩ := hr.sb5 hx
   have HVE := Lib.hid (HES.out _ hm)
   have HBO := Lib.hid (HO.out _ hm)
   have HLL := Lib.hid (HLE.out _ hm)
   dsimp only at g0 g1 g2 g3 g4 HVE HBO HLL
   unfold slV at g4 HVE
   dsimp only at g4 HVE
   have hgj : (bs.map Prod.snd)[j]? = some b := by rw [List.getElem?_map, hx]; rfl
   have HGJ := Lib.hid hgj
   have HTK := Lib.hid (show (bs.map Prod.snd).take (j + 1) = (bs.map Prod.snd).take j ++ [b] from by rw [List.take_add_one, hgj]; rfl)
   have HRC := Lib.hid (r10check_ok wr b (.slice As ns cs) (HVE.out.below HBX.out.bel) HBO.out (by have := HLL.out; omega))
   obtain ⟨K, hK⟩ : ∃ K, chkB b = K := ⟨_, rfl⟩
   have HK := Lib.hid hK
   rw [hK] at HRC
   have i0 : (0 : Int) ≤ (j : Int) := by omega
   have i1 : (j : Int) < (n : Int) := by omega
   clear hr hx hm hgj hK
   go_wp2_with fail
   refine HRC.out.mono ?_
   rintro r w3 ⟨rfl, b3⟩
   have HBX3 := Lib.hid (HBX.out.below b3)
   have HOV3 := Lib.hid (HOV.out.below b3)
   have HG := Lib.hid (show w3.cell? ⟨bb, off + j * 5 + 2, none⟩ = some (.int .i64 b.lost) ∧ w3.cell? ⟨bb, off + j * 5 + 3, none⟩ = some (.int .i64 b.next) ∧ w3.cell? ⟨bb, off + j * 5 + 4, none⟩ = some (.slice As ns cs) from ⟨below_cell b3 g2, below_cell b3 g3, below_cell b3 g4⟩)
   clear b3 g0 g1 g2 g3 g4 HBX HOV HRC
   by_cases hk : K = 0
   ·subst hk
    have hfit := chk0_fits HK.out
    have HFL := Lib.hid (And.intro (fits_lost hfit) (fits_next hfit))
    have HLB := Lib.hid (lostB_le ((bs.map Prod.snd).take j) (fun x hx => chk0_fits (HCK.out x hx)))
    have HEB := Lib.hid (endB_le (bs := (bs.map Prod.snd).take j) (fun x hx => chk0_fits (HCK.out x hx)))
    have HTLN := Lib.hid (show ((bs.map Prod.snd).take j).length ≤ 1000 by rw [List.length_take]; omega)
    have HFLT := Lib.hid (show ((bs.map Prod.snd).take (j + 1)).flatMap Bck.evs = ((bs.map Prod.snd).take j).flatMap Bck.evs ++ b.evs by rw [HTK.out, List.flatMap_append]; simp)
    have HLT2 := Lib.hid (show lostB ((bs.map Prod.snd).take (j + 1)) = lostB ((bs.map Prod.snd).take j) + b.lost by rw [HTK.out]; exact lostB_snoc _ _)
    have HET2 := Lib.hid (show endB ((bs.map Prod.snd).take (j + 1)) = max (endB ((bs.map Prod.snd).take j)) b.next by rw [HTK.out]; exact endB_snoc _ _)
    have HFLL := Lib.hid (show (((bs.map Prod.snd).take j).flatMap Bck.evs).length ≤ 1000000 by
     have key : ∀ l : List Bck, (∀ x ∈ l, x.evs.length ≤ 1000) → (l.flatMap Bck.evs).length ≤ 1000 * l.length := by
      intro l
      induction l with
      | nil => simp
      | cons a l ih =>
       intro h
       have h1 := h a (by simp)
       have h2 := ih (fun x hx => h x (by simp [hx]))
       simp only [List.flatMap_cons, List.length_append, List.length_cons]
       omega
     have := key ((bs.map Prod.snd).take j) (fun x hx => by
      obtain ⟨y, hy, rfl⟩ := List.mem_map.1 (List.mem_of_mem_take hx)
      exact HLE.out y hy)
     have := HTLN.out
     omega)
    have HCK2 := Lib.hid (show ∀ x ∈ (bs.map Prod.snd).take (j + 1), chkB x = 0 from fun x hx => by
     rw [HTK.out] at hx
     rcases List.mem_append.1 hx with hx | hx
     ·exact HCK.out x hx
     ·rw [List.mem_singleton.1 hx]; exact HK.out)
    obtain ⟨L0, hL0⟩ : ∃ L, lostB ((bs.map Prod.snd).take j) = L := ⟨_, rfl⟩
    obtain ⟨E0, hE0⟩ : ∃ E, endB ((bs.map Prod.snd).take j) = E := ⟨_, rfl⟩
    obtain ⟨N0, hN0⟩ : ∃ N, max 1 E0 = N := ⟨_, rfl⟩
    rw [hL0, hE0, hN0] at HBX3
    rw [hL0] at HLB HLT2
    rw [hE0] at HEB HET2
    have HN0 := Lib.hid hN0
    have HSUM := Lib.hid (show IntKind.i64.wrap (L0 + b.lost) = L0 + b.lost ∧ wrap64 (L0 + b.lost) = L0 + b.lost from by
     have h1 := HLB.out
     have h2 := HFL.out.1
     have h3 := HTLN.out
     have h4 : (281474976710656 : Int) * (((bs.map Prod.snd).take j).length : Nat) ≤ 281474976710656 * 1000 := by omega
     exact ⟨IntWalk.i64_in _ (by omega), IntWalk.wrap64_in _ (by omega)⟩)
    have g4 := HG.out.2.2
    clear hfit hL0 hE0 hN0
    go_wp2_with (at_builtin; refine wpList_app elemREv encE_len encE_one rfl _ _ rfl _ _ rfl rfl HOV3.out (HVE.out.below HBX3.out.bel) ?q1 ?q2 ?_)
    case q1 => have := HFLL.out; have := HLL.out; omega
    case q2 => exact HBX3.out.bel.size
    intro v4 w4 o4 gg4
    have o4' : OV encE 11 96 w.heap.size w4 v4 (((bs.map Prod.snd).take (j + 1)).flatMap Bck.evs) := by rw [HFLT.out]; exact o4
    have HO4 := Lib.hid o4'
    have HBX4 := Lib.hid (HBX3.out.grown HOV3.out (by decide) gg4)
    have HRW := Lib.hid (((HV.out.below HBX4.out.bel).row3 (by rw [HN.out.1]; omega)).sb5 HXJ.out)
    clear o4 o4' gg4 g4 HBX3 HOV3 HG
    go_upto_region 12 with fail
    have g2 := HRW.out.2.2.1
    have y3 := HBX4.out.ry.c3
    have f3 := HBX4.out.ry.frz 3
    have hs1 := HSUM.out.1
    have hs2 := HSUM.out.2
    dsimp only at g2
    go_wp2_with fail
    go_still_tail 9, (by kernel_rfl)
    change wpList _ _ _ _ _ w4.drew
    have y3 : w4.drew.cell? ⟨Y, 3, none⟩ = some (.int .i64 L0) := y3
    have f3 : w4.drew.frozen? ⟨Y, 3, none⟩ = false := f3
    have HBD := Lib.hid (HBX4.out.below (below_drew (Below.refl _ _)))
    have HOD := Lib.hid (show OV encE 11 96 w.heap.size w4.drew v4 (((bs.map Prod.snd).take (j + 1)).flatMap Bck.evs) from HO4.out)
    clear HBX4 HO4 HRW g2 hs1 hs2
    generalize w4.drew = w5 at y3 f3 HBD HOD ⊢
    have HBS := Lib.hid (HBD.out.setY 3 (.int .i64 (L0 + b.lost)) (HBD.out.ry.set3 (L0 + b.lost)))
    have HOS := Lib.hid (HBD.out.ov HOD.out (by decide) 3 (.int .i64 (L0 + b.lost)))
    clear HBD HOD
    go_upto_region 13 with fail
    clear y3 f3
    generalize w5.setCell ⟨Y, 3, none⟩ (.int .i64 (L0 + b.lost)) = w6 at HBS HOS ⊢
    have HRW := Lib.hid (((HV.out.below HBS.out.bel).row3 (by rw [HN.out.1]; omega)).sb5 HXJ.out)
    have g3 := HRW.out.2.2.2.1
    dsimp only at g3
    have y4 := HBS.out.ry.c4
    by_cases hgt : N0 < b.next
    ·have d1 : decide (N0 < b.next) = true := by simpa using hgt
     have HN2 := Lib.hid (show b.next = max 1 (endB ((bs.map Prod.snd).take (j + 1))) by rw [HET2.out]; have := HN0.out; omega)
     clear hgt
     go_wp2_with fail
     go_big_region
     have HBD := Lib.hid (HBS.out.below (below_drew (Below.refl _ _)))
     have HOD := Lib.hid (show OV encE 11 96 w.heap.size w6.drew v4 (((bs.map Prod.snd).take (j + 1)).flatMap Bck.evs) from HOS.out)
     have g3d : w6.drew.cell? ⟨bb, off + j * 5 + 3, none⟩ = some (.int .i64 b.next) := g3
     have y4d := HBD.out.ry.c4
     have f4d := HBD.out.ry.frz 4
     clear HBS HOS g3 y4 HRW
     generalize w6.drew = w7 at HBD HOD g3d y4d f4d ⊢
     have HBT := Lib.hid (HBD.out.setY 4 (.int .i64 b.next) (HBD.out.ry.set4 b.next))
     have HOT := Lib.hid (HBD.out.ov HOD.out (by decide) 4 (.int .i64 b.next))
     go_wp2
     go_roundg (gk - 1)
     case measure => have := HJ.out; omega
     case rel => exact ⟨j + 1, by have := HJ.out; omega, by go_num, HOT.out, by rw [HLT2.out, ← HN2.out]; exact HBT.out, HCK2.out⟩
    ·have d1 : decide (N0 < b.next) = false := by simpa using hgt
     have HN2 := Lib.hid (show N0 = max 1 (endB ((bs.map Prod.snd).take (j + 1))) by rw [HET2.out]; have := HN0.out; omega)
     clear hgt
     go_wp2_with fail
     go_big_region
     go_wp2
     go_roundg (gk - 1)
     case measure => have := HJ.out; omega
     case rel => exact ⟨j + 1, by have := HJ.out; omega, by go_num, HOS.out, by rw [HLT2.out, ← HN2.out]; exact HBS.out.below (by first | exact below_drewN (Below.refl _ _) _ | exact below_drew (Below.refl _ _)), HCK2.out⟩
   ·have dk : (K != 0) = true := by simp [hk]
    have HBX := HBX3
    have HMR := Lib.hid (show MrgRes (bs.map Prod.snd) mg0 K from .inr (.inl ⟨by rw [List.length_map]; have := HN.out; omega, ⟨j, b, HGJ.out, fun i b' hi hb' => HCK.out b' (by
     have : ((bs.map Prod.snd).take j)[i]? = some b' := by rw [List.getElem?_take_of_lt hi]; exact hb'
     exact List.mem_of_getElem? this), by rw [HK.out]; exact hk, HK.out.symm⟩, rfl⟩))
    clear hk
    have z0 := HBX.out.rx.c0
    have z1 := HBX.out.rx.c1
    have z2 := HBX.out.rx.c2
    have z3 := HBX.out.rx.c3
    have z4 := HBX.out.rx.c4
    have z5 := HBX.out.rx.c5
    have f0 := HBX.out.rx.frz 0
    have f1 := HBX.out.rx.frz 1
    have f2 := HBX.out.rx.frz 2
    have f3 := HBX.out.rx.frz 3
    have f4 := HBX.out.rx.frz 4
    have f5 := HBX.out.rx.frz 5
    have HZR := Lib.hid HBX.out.zero
    go_wp2
    refine bodyPost_ret (results_cellT rfl _ _ _ rfl rfl (load_rm HZR.out.1)) rfl ?_
    exact mg0_post (HMR.out) HZR.out.2
  ·obtain rfl : n = j := by have := HJ.out; omega
   have hta : (bs.map Prod.snd).take n = bs.map Prod.snd := List.take_of_length_le (by rw [List.length_map]; exact Nat.le_of_eq HN.out.1)
   have HCA := Lib.hid (show ∀ b ∈ bs.map Prod.snd, chkB b = 0 from fun b hb => HCK.out b (by rw [hta]; exact hb))
   rw [hta] at HOV HBX
   have hfl : ((bs.map Prod.snd).flatMap Bck.evs).length ≤ 1000000 := by
    have key : ∀ l : List Bck, (∀ x ∈ l, x.evs.length ≤ 1000) → (l.flatMap Bck.evs).length ≤ 1000 * l.length := by
     intro l
     induction l with
     | nil => simp
     | cons a l ih =>
      intro h
      have h1 := h a (by simp)
      have h2 := ih (fun x hx => h x (by simp [hx]))
      simp only [List.flatMap_cons, List.length_append, List.length_cons]
      omega
    have := key (bs.map Prod.snd) (fun x hx => by
     obtain ⟨y, hy, rfl⟩ := List.mem_map.1 hx
     exact HLE.out y hy)
    rw [List.length_map] at this
    have := HN.out
    omega
   have HSQ := Lib.hid (show ∀ e ∈ (bs.map Prod.snd).flatMap Bck.evs, 1 ≤ e.seq ∧ e.seq ≤ 281474976710656 from fun e he => by
    obtain ⟨b, hb, heb⟩ := List.mem_flatMap.1 he
    obtain ⟨y, hy, hyb⟩ := List.mem_map.1 hb
    obtain ⟨i, hi⟩ := List.getElem?_of_mem heb
    have h1 := ((fits_evs (chk0_fits (HCA.out b hb))).at i e hi).1
    exact (chk_lim ((HO.out y hy).evs e (by rw [hyb]; exact heb)) h1).2.1)
   have HJO := Lib.hid (r12join_ok wr u4 ((bs.map Prod.snd).flatMap Bck.evs) (HOV.out.ev encE_len) (fun e he => (HSQ.out e he).1) hfl)
   clear hta hfl
   go_wp2_with fail
   refine HJO.out.mono ?_
   rintro r w3 ⟨v1, v2, R, T, cj, rfl, o1, o2, jr, b3⟩
   have HBX3 := Lib.hid (HBX.out.below b3)
   have HO1 := Lib.hid (o1.base_le HBX.out.bel.size)
   have HO2 := Lib.hid (o2.base_le HBX.out.bel.size)
   have HJR := Lib.hid jr
   clear o1 o2 jr b3 HBX HOV HJO
   by_cases hc : cj = 0
   ·subst hc
    obtain ⟨A1, c1, h1⟩ := (HO1.out.ev encE_len).shape
    obtain ⟨A2, c2, h2⟩ := (HO2.out.ev encI_len).shape
    subst h1 h2
    have hjo : JoinOk ((bs.map Prod.snd).flatMap Bck.evs) R T ∧ ((bs.map Prod.snd).flatMap Bck.evs).length ≤ 65535 := by
     rcases HJR.out with ⟨_, h, _⟩ | ⟨_, _, h, _⟩ | ⟨h1, _, _, h2⟩
     ·omega
     ·omega
     ·exact ⟨h2, h1⟩
    have HJK := Lib.hid (show R.Pairwise (fun a b => a.seq < b.seq) ∧ (∀ e ∈ R, 1 ≤ e.seq ∧ e.seq ≤ 281474976710656) ∧ R.length ≤ 65535 from ⟨hjo.1.srt, fun e he => HSQ.out e ((hjo.1.mem e).1 he), by have := hjo.1.len; omega⟩)
    obtain ⟨m1, hm1⟩ : ∃ m, R.length = m := ⟨_, rfl⟩
    obtain ⟨m2, hm2⟩ : ∃ m, T.length = m := ⟨_, rfl⟩
    rw [hm1] at HO1 ⊢
    rw [hm2] at HO2 ⊢
    clear hjo hm1 hm2
    have y0 := HBX3.out.ry.c0
    have y1 := HBX3.out.ry.c1
    have f0 := HBX3.out.ry.frz 0
    have f1 := HBX3.out.ry.frz 1
    go_upto_region 18 with fail
    have HB4 := Lib.hid (HBX3.out.setY 0 (.slice A1 m1 c1) (HBX3.out.ry.set0 (.slice A1 m1 c1)))
    have HB5 := Lib.hid (HB4.out.setY 1 (.slice A2 m2 c2) (HB4.out.ry.set1 (.slice A2 m2 c2)))
    have HO15 := Lib.hid (HB4.out.ov (HBX3.out.ov HO1.out (by decide) 0 (.slice A1 m1 c1)) (by decide) 1 (.slice A2 m2 c2))
    have HO25 := Lib.hid (HB4.out.ov (HBX3.out.ov HO2.out (by decide) 0 (.slice A1 m1 c1)) (by decide) 1 (.slice A2 m2 c2))
    go_cut [] (fun wz => ∃ wq, wq = wz ∧ wq = (w3.setCell ⟨Y, 0, none⟩ (.slice A1 m1 c1)).setCell ⟨Y, 1, none⟩ (.slice A2 m2 c2))
    case first =>
     go_wp2
     go_meet
     exact ⟨_, rfl, rfl⟩
    case rest =>
     obtain ⟨wq, rfl, hwq⟩ := hcut
     subst hwq
     refine (‹∀ (a : Act) (w : World), Code.wp _ _ _ a w → _› : ∀ (a : Act) (w : World), _ → _) _ _ (rblocks_t19 w _ X Y n c m1 c1 m2 c2 A A1 A2 bs R T _ _ HV.out HN.out.1 (by have := HN.out; omega) HB5.out HO15.out HO25.out HJR.out HCA.out rfl rfl (endB_le (fun b hb => chk0_fits (HCA.out b hb))) HJK.out.1 HJK.out.2.1 HJK.out.2.2)
   ·have dk : (cj != 0) = true := by simp [hc]
    have HBX := HBX3
    have HMR := Lib.hid (show MrgRes (bs.map Prod.snd) mg0 cj from .inr (.inr ⟨by rw [List.length_map]; have := HN.out; omega, HCA.out, R, T, HJR.out, fun _ => rfl, fun h => absurd h hc⟩))
    clear hc
    have z0 := HBX.out.rx.c0
    have z1 := HBX.out.rx.c1
    have z2 := HBX.out.rx.c2
    have z3 := HBX.out.rx.c3
    have z4 := HBX.out.rx.c4
    have z5 := HBX.out.rx.c5
    have f0 := HBX.out.rx.frz 0
    have f1 := HBX.out.rx.frz 1
    have f2 := HBX.out.rx.frz 2
    have f3 := HBX.out.rx.frz 3
    have f4 := HBX.out.rx.frz 4
    have f5 := HBX.out.rx.frz 5
    have HZR := Lib.hid HBX.out.zero
    go_wp2
    refine bodyPost_ret (results_cellT rfl _ _ _ rfl rfl (load_rm HZR.out.1)) rfl ?_
    exact mg0_post (HMR.out) HZR.out.2
end Go.Proofs.YtalophngappkhaaGreatDoor
namespace Go.Proofs.YtalophngappkhaaGreatDoor
open Go Go.RowKit Go.Shelf
attribute [local go_sem] Oper.semAt_some

def bk0 : Bck := ⟨0, 0, 0, 0, []⟩
namespace RkBox
variable {w w' : World} {X : Nat} {b : Bck} {ve : Value}
theorem grown {row : Option Nat} (h : RkBox w X b ve) (hg : w.grownBy w' row) (hr : row ≠ some X) : RkBox w' X b ve := ⟨(hg.block X h.lt (fun e => hr e.symm)).trans h.cell⟩
theorem set4 (h : RkBox w X b ve) (u : Value) : RkBox (w.setCell ⟨X, 4, none⟩ u) X b u := ⟨heap_setCell_same w X 4 _ _ _ h.cell⟩
theorem setAll (h : RkBox w X b ve) (b' : Bck) (u : Value) : RkBox (((((w.setCell ⟨X, 0, none⟩ (.int .u8 b'.kind)).setCell ⟨X, 1, none⟩ (.int .u8 b'.cpu)).setCell ⟨X, 2, none⟩ (.int .i64 b'.lost)).setCell ⟨X, 3, none⟩ (.int .i64 b'.next)).setCell ⟨X, 4, none⟩ u) X b' u :=
 ⟨heap_setCell_same _ X 4 _ _ _ (heap_setCell_same _ X 3 _ _ _ (heap_setCell_same _ X 2 _ _ _ (heap_setCell_same _ X 1 _ _ _ (heap_setCell_same w X 0 _ _ _ h.cell))))⟩
end RkBox
theorem load_rk {w : World} {Y : Nat} {b : Bck} {ve : Value} (h : RkBox w Y b ve) : (loadVar 87 ⟨Y, 0, none⟩).run Tryz.prog w = .ok (.agg #[.int .u8 b.kind, .int .u8 b.cpu, .int .i64 b.lost, .int .i64 b.next, ve]) w := by
 have h1 : (isAgg 87).run Tryz.prog w = .ok true w := by kernel_rfl
 have h2 : (Go.sizeOf 87).run Tryz.prog w = .ok 5 w := by kernel_rfl
 unfold loadVar
 simp [Sem.run_bind, h1, h2, Result.andThen, loadCells, loadCellsFrom, go_sem, h.c0, h.c1, h.c2, h.c3, h.c4]
set_option maxRecDepth 100000 in
set_option maxHeartbeats 6400000 in
theorem turned10_ok (w : World) (ve : Value) (b : Bck) (hv : EV encE 11 w ve b.evs) (hl : b.evs.length ≤ 1000000) :
  Calls Tryz.prog 43 #[.agg #[.int .u8 b.kind, .int .u8 b.cpu, .int .i64 b.lost, .int .i64 b.next, ve]] w fun r w' => ∃ A n c, r = .returned (.agg #[.int .u8 b.kind, .int .u8 b.cpu, .int .i64 b.lost, .int .i64 b.next, .slice A n c]) ∧ OV encE 11 96 w.heap.size w' (.slice A n c) b.evs ∧ Below w.heap.size w w' := by
 obtain ⟨Al, cl, hA⟩ := hv.shape
 subst hA
 obtain ⟨n, hn⟩ : ∃ n, b.evs.length = n := ⟨_, rfl⟩
 have HN := Lib.hid hn
 rw [hn] at hv hl ⊢
 have HV := Lib.hid hv
 have HL := Lib.hid hl
 have HA1 := Lib.hid (bel_alloc w (.cells #[.int .u8 b.kind, .int .u8 b.cpu, .int .i64 b.lost, .int .i64 b.next, .slice Al n cl] 24))
 have HXC := Lib.hid (show (w.alloc (.cells #[.int .u8 b.kind, .int .u8 b.cpu, .int .i64 b.lost, .int .i64 b.next, .slice Al n cl] 24)).heap[w.heap.size]? = some (.cells #[.int .u8 b.kind, .int .u8 b.cpu, .int .i64 b.lost, .int .i64 b.next, .slice Al n cl] 24 (0, 0)) from heap_alloc_new w _)
 have HZ := Lib.hid (RkBox.new (w.alloc (.cells #[.int .u8 b.kind, .int .u8 b.cpu, .int .i64 b.lost, .int .i64 b.next, .slice Al n cl] 24)) bk0 (.slice none 0 0))
 have HA2 := Lib.hid (bel_alloc (w.alloc (.cells #[.int .u8 b.kind, .int .u8 b.cpu, .int .i64 b.lost, .int .i64 b.next, .slice Al n cl] 24)) (.cells #[.int .u8 0, .int .u8 0, .int .i64 0, .int .i64 0, .slice none 0 0] 87))
 have HX := Lib.hid ((HA2.out.block w.heap.size (Array.getElem?_eq_some_iff.1 HXC.out).1).trans HXC.out)
 have HB := Lib.hid (bstep HA1.out HA2.out)
 unfold bk0 at HZ
 dsimp only at HZ
 clear hv hn hl HA1 HXC HA2
 go_enter Tryz.func43, Tryz.ntmps43
 go_upto_region 1 with fail
 have hsz : (w.alloc (.cells #[.int .u8 b.kind, .int .u8 b.cpu, .int .i64 b.lost, .int .i64 b.next, .slice Al n cl] 24)).heap.size = w.heap.size + 1 := by simp
 try rw [hsz] at HZ
 generalize (w.alloc (.cells #[.int .u8 b.kind, .int .u8 b.cpu, .int .i64 b.lost, .int .i64 b.next, .slice Al n cl] 24)).alloc (.cells #[.int .u8 0, .int .u8 0, .int .i64 0, .int .i64 0, .slice none 0 0] 87) = wc at HX HZ HB ⊢
 clear hsz
 obtain ⟨Z, hZ⟩ : ∃ Z, w.heap.size + 1 = Z := ⟨_, rfl⟩
 obtain ⟨X, hX⟩ : ∃ X, w.heap.size = X := ⟨_, rfl⟩
 rw [hZ] at HZ ⊢
 have HZL := Lib.hid (show w.heap.size < Z by omega)
 rw [hX] at HX ⊢
 clear hZ hX
 have x0 : wc.cell? ⟨X, 0, none⟩ = some (.int .u8 b.kind) := (cell_of_row wc X 0 _ _ (0, 0) HX.out).trans rfl
 have x1 : wc.cell? ⟨X, 1, none⟩ = some (.int .u8 b.cpu) := (cell_of_row wc X 1 _ _ (0, 0) HX.out).trans rfl
 have x2 : wc.cell? ⟨X, 2, none⟩ = some (.int .i64 b.lost) := (cell_of_row wc X 2 _ _ (0, 0) HX.out).trans rfl
 have x3 : wc.cell? ⟨X, 3, none⟩ = some (.int .i64 b.next) := (cell_of_row wc X 3 _ _ (0, 0) HX.out).trans rfl
 have HY := Lib.hid (RkBox.new wc b (.slice none 0 0))
 have HAY := Lib.hid (bel_alloc wc (.cells #[.int .u8 b.kind, .int .u8 b.cpu, .int .i64 b.lost, .int .i64 b.next, .slice none 0 0] 87))
 go_upto_region 2 with fail
 have x4 : (wc.alloc (.cells #[.int .u8 b.kind, .int .u8 b.cpu, .int .i64 b.lost, .int .i64 b.next, .slice none 0 0] 87)).cell? ⟨X, 4, none⟩ = some (.slice Al n cl) := below_cell HAY.out ((cell_of_row wc X 4 _ _ (0, 0) HX.out).trans rfl)
 have HGC := Lib.hid (HV.out.below HB.out)
 clear x0 x1 x2 x3
 generalize wc.alloc (.cells #[.int .u8 b.kind, .int .u8 b.cpu, .int .i64 b.lost, .int .i64 b.next, .slice none 0 0] 87) = wd at HY HAY x4 ⊢
 obtain ⟨Y, hY⟩ : ∃ Y, wc.heap.size = Y := ⟨_, rfl⟩
 rw [hY] at HY ⊢
 have HYC := Lib.hid hY
 clear hY
 go_wp2
 go_loopg [18] n (fun k i wr => ∃ (j : Nat) (v3 : Value), j + k = n ∧ i = .int .i64 j ∧ RkBox wr Y b v3 ∧ OV encE 11 96 wc.heap.size wr v3 (b.evs.take j) ∧ Below wc.heap.size wc wr)
 case atStart => exact ⟨0, _, by omega, rfl, HY.out, OV.nil _ _, HAY.out⟩
 clear x4 HY HAY
 case round =>
  obtain ⟨j, v3, hj, rfl, hy, ho, hb⟩ := hrel
  have HJ := Lib.hid hj
  have HYR := Lib.hid hy
  have HOR := Lib.hid ho
  have HBR := Lib.hid hb
  have hl6 := HL.out
  clear hj hy ho hb
  by_cases hlt : j < n
  ·obtain ⟨bb, off, c', hsl, hcc, hr⟩ := (HGC.out.below HBR.out).row (by rw [HN.out]; omega)
   rw [HN.out] at hsl
   cases hsl
   obtain ⟨e, he⟩ : ∃ e, b.evs[j]? = some e := ⟨_, List.getElem?_eq_getElem (by rw [HN.out]; exact hlt)⟩
   obtain ⟨g0, g1, g2, g3, g4, g5, g6, g7, g8, g9, g10⟩ := hr.ev he
   have HTK := Lib.hid (show b.evs.take (j + 1) = b.evs.take j ++ [e] from by rw [List.take_add_one, he]; rfl)
   have HLJ := Lib.hid (show (b.evs.take j).length ≤ 1000000 by rw [List.length_take]; have := HN.out; omega)
   have HEV := Lib.hid (evp_new wr e)
   have HA := Lib.hid (bel_alloc wr (.cells #[.int .i64 e.seq, .int .i64 e.time, .int .u8 e.cpu, .int .u8 e.kind, .int .i64 e.task, .int .i64 e.grp, .int .i64 e.to, .int .i64 e.wt, .int .i64 e.ticks, .int .u64 e.mask, .int .i64 e.got] 28))
   clear hr he
   go_upto_region 5 with fail
   have h1 := HEV.out
   have HY2 := Lib.hid (HYR.out.below HA.out)
   have HO2 := Lib.hid (HOR.out.below HA.out)
   have HB2 := Lib.hid (bstep HBR.out HA.out)
   clear HEV g0 g1 g2 g3 g4 g5 g6 g7 g8 g9 g10 HA HYR HOR
   generalize wr.alloc (.cells #[.int .i64 e.seq, .int .i64 e.time, .int .u8 e.cpu, .int .u8 e.kind, .int .i64 e.task, .int .i64 e.grp, .int .i64 e.to, .int .i64 e.wt, .int .i64 e.ticks, .int .u64 e.mask, .int .i64 e.got] 28) = wb at h1 HY2 HO2 HB2 ⊢
   generalize wr.heap.size = Bb at h1 ⊢
   have e0 := h1.c0
   have e1 := h1.c1
   have e2 := h1.c2
   have e3 := h1.c3
   have e4 := h1.c4
   have e5 := h1.c5
   have e6 := h1.c6
   have e7 := h1.c7
   have e8 := h1.c8
   have e9 := h1.c9
   have e10 := h1.c10
   have y4 := HY2.out.c4
   clear h1
   go_wp2_with (at_builtin; refine wpList_app elemREv encE_len encE_one rfl _ _ rfl _ _ rfl rfl (HO2.out.alloc _) (EV.newL (xs := [e]) (n := 1) (c := 1) encE_len rfl rfl (Nat.le_refl _)) ?q1 ?q2 ?_)
   case q1 => have := HLJ.out; simp; omega
   case q2 => have := HB2.out.size; simp; omega
   intro v' w8 o8 g8
   obtain ⟨A4, c4, h4⟩ := (o8.ev encE_len).shape
   obtain ⟨m4, hm4⟩ : ∃ m, (b.evs.take j ++ [e]).length = m := ⟨_, rfl⟩
   rw [hm4] at h4
   clear hm4
   subst h4
   have hal := bel_alloc wb (.cells #[.int .i64 e.seq, .int .i64 e.time, .int .u8 e.cpu, .int .u8 e.kind, .int .i64 e.task, .int .i64 e.grp, .int .i64 e.to, .int .i64 e.wt, .int .i64 e.ticks, .int .u64 e.mask, .int .i64 e.got] 96)
   have hy3 := HY2.out.below hal
   have hbx := hy3.grown g8 ((HO2.out.below hal).neB hy3.cell (by decide))
   have hb5 := (bstep HB2.out hal).grown g8 (bstep HB2.out hal).size (fun g q => ((HO2.out.below hal).block g q).1)
   have hmo := Mod.setCell (a := w8) (p := ⟨Y, 4, none⟩) (T := fun k => k = Y) (.slice A4 m4 c4) rfl
   have HO4 := Lib.hid (o8.sixM hbx.cell (by decide) hmo)
   have HY4 := Lib.hid (hbx.set4 (.slice A4 m4 c4))
   have HB6 := Lib.hid (hb5.trans (hmo.below (B := wc.heap.size) (fun k hk e => by have := HYC.out; omega) hb5.size))
   have d4 := hbx.c4
   have f4 := hbx.frz 4
   clear o8 g8 hal hy3 hbx hb5 hmo e0 e1 e2 e3 e4 e5 e6 e7 e8 e9 e10 y4
   go_wp2
   go_roundg (n - (j + 1))
   case measure => have := HJ.out; omega
   case rel => exact ⟨j + 1, _, by have := HJ.out; omega, by go_num, HY4.out, by rw [HTK.out]; exact HO4.out, HB6.out⟩
  ·obtain rfl : n = j := by have := HJ.out; omega
   have ho := HOR.out
   rw [List.take_of_length_le (Nat.le_of_eq HN.out)] at ho
   obtain ⟨A4, c4, h4⟩ := (ho.ev encE_len).shape
   subst h4
   have hy := HYR.out
   have hz := HZ.out.cell
   have HZZ := Lib.hid (show RkBox wr Z bk0 (.slice none 0 0) from ⟨(HBR.out.block Z HZ.out.lt).trans hz⟩)
   have y0 := hy.c0
   have y1 := hy.c1
   have y2 := hy.c2
   have y3 := hy.c3
   have y4 := hy.c4
   have z0 := HZZ.out.c0
   have z1 := HZZ.out.c1
   have z2 := HZZ.out.c2
   have z3 := HZZ.out.c3
   have z4 := HZZ.out.c4
   have f0 := HZZ.out.frz 0
   have f1 := HZZ.out.frz 1
   have f2 := HZZ.out.frz 2
   have f3 := HZZ.out.frz 3
   have f4 := HZZ.out.frz 4
   have HOE := Lib.hid ho
   have HZ6 := Lib.hid (HZZ.out.setAll b (.slice A4 b.evs.length c4))
   have HM := Lib.hid (((((Mod.setCell (a := wr) (p := ⟨Z, 0, none⟩) (T := fun k => k = Z) (.int .u8 b.kind) rfl).trans (Mod.setCell (p := ⟨Z, 1, none⟩) (T := fun k => k = Z) (.int .u8 b.cpu) rfl)).trans (Mod.setCell (p := ⟨Z, 2, none⟩) (T := fun k => k = Z) (.int .i64 b.lost) rfl)).trans (Mod.setCell (p := ⟨Z, 3, none⟩) (T := fun k => k = Z) (.int .i64 b.next) rfl)).trans (Mod.setCell (p := ⟨Z, 4, none⟩) (T := fun k => k = Z) (.slice A4 b.evs.length c4) rfl))
   unfold bk0 at z0 z1 z2 z3
   dsimp only at z0 z1 z2 z3
   clear ho hy hz
   go_wp2
   refine bodyPost_ret (results_cell1 rfl _ _ _ rfl (load_rk HZ6.out)) rfl ?_
   have hbb := bstep HB.out HBR.out
   have hzl := HZL.out
   exact ⟨A4, _, c4, rfl, (HOE.out.sixM HZZ.out.cell (by decide) HM.out).base_le HB.out.size, hbb.trans (HM.out.below (B := w.heap.size) (fun k hk e => by omega) hbb.size)⟩
end Go.Proofs.YtalophngappkhaaGreatDoor
