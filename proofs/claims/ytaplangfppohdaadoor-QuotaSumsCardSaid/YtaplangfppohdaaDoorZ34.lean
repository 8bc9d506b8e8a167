/- QuotaSums: the law. -/
import Derived.Test.YtaplangfppohdaaDoorZ33
import Derived.Test.YtaplangfppohdaaDoorZ26
set_option linter.unusedVariables false
set_option linter.unusedSimpArgs false
set_option linter.unusedSectionVars false
namespace Go.Proofs.YtaplangfppohdaaDoor
open Go.RowKit Go.Shelf Go.Maps
attribute [local go_sem] Oper.semAt_some

def EachOk (e : Ev) : Prop := 0 ≤ e.ticks ∧ e.ticks ≤ 200 ∧ e.ticks ≤ e.time ∧ e.time ≤ 281474976710656 ∧ 0 ≤ e.cpu ∧ e.cpu < 64
theorem mkEv_each {G : Nat} {m : Md} {x : Sq} (h : MdIn G m) (hn : m.ev.length ≤ 1000) : EachOk (mkEv G m x) := by
  have hc := sqC_in x
  have ht := sqT_in x
  have hk := h.ck (sqC x)
  unfold EachOk mkEv
  split
  · dsimp only; omega
  · split
    · dsimp only; omega
    · dsimp only; omega
theorem madE_each {G : Nat} {l : List Sq} (hG : 0 < G) (hG2 : G ≤ 256) (hl : l.length ≤ 1000) : ∀ e ∈ madE G l, EachOk e := by
  have key : ∀ j, j ≤ l.length → ∀ e ∈ (mdJ G l j).ev, EachOk e := by
    intro j
    induction j with
    | zero => intro _ e he; cases he
    | succ j ih =>
      intro hj e he
      rw [mdJ_succ (x := l[j]) (List.getElem?_eq_getElem (by omega))] at he
      rcases List.mem_append.1 (show e ∈ (mdJ G l j).ev ++ [mkEv G (mdJ G l j) l[j]] from he) with he | he
      · exact ih (by omega) e he
      · simp only [List.mem_singleton] at he
        subst he
        obtain ⟨s, hs⟩ := mdJ_all (l := l) hG hG2 hl j (by omega)
        exact mkEv_each hs.i (by rw [mdJ_evlen j (by omega)]; omega)
  exact key l.length (Nat.le_refl _)
theorem pairsJ_bound {gs : List (Int × Int)} {g p : Nat} {hs : List (Int × Int)} {l : List Ev} (h : ∀ e ∈ l, EachOk e) : ∀ j, j ≤ l.length → (pairsJ gs g p hs l j).length ≤ 200 * j
  | 0, _ => by simp [pairsJ]
  | j + 1, hj => by
    have ih := pairsJ_bound (gs := gs) (g := g) (p := p) (hs := hs) h j (by omega)
    rw [pairsJ_succ (e := l[j]) (List.getElem?_eq_getElem (by omega)), List.length_append]
    have he := h l[j] (List.getElem_mem _)
    unfold EachOk at he
    have h2 : (pairsE gs g p (ranG (ofJ hs l j) l[j]) l[j]).length ≤ 200 := by
      unfold pairsE
      split
      · unfold pairsR; rw [List.length_map, timesT_len]; omega
      · simp
    omega
theorem underL_len (gs : List (Int × Int)) (p : Int) : (underL gs p).length ≤ gs.length := by
  unfold underL
  split
  · unfold chosen ints
    rw [List.length_map]
    exact Nat.le_trans (List.length_filter_le _ _) (by simp)
  · simp
theorem under_thereZ {gs : List (Int × Int)} (hg : GOK gs) {g : Nat} (h : g < gs.length) : thereZ gs [(g : Int)] = 0 := there_zero.2 ⟨hg, fun z hz => by simp only [List.mem_singleton] at hz; omega⟩
set_option maxRecDepth 100000 in
set_option maxHeartbeats 3200000 in
theorem sums_walk (w : World) (vn vl : Value) (ns : List Nat) (sq : List Sq) (which period limit : Nat) (hU : UsesAt w) (hn : U16 w vn ns) (hs : SqArg w vl sq) (h1 : which < 256) (h2 : period < 65536) (h3 : limit < 65536) :
    Calls Tryd.prog 9 #[vn, vl, .int .u8 (which : Nat), .int .u16 (period : Nat), .int .u16 (limit : Nat)] w fun e w' => e = .returned (.bool true) ∧ Below w.heap.size w w' := by
  have HAW := Lib.hid (awake_ok w hU)
  have HU := Lib.hid hU
  have HN := Lib.hid hn
  have HS := Lib.hid hs
  clear hU hn hs
  obtain ⟨p, hp⟩ : ∃ p, p = 1 + period % 1000 := ⟨_, rfl⟩
  have HPI := Lib.hid (show 1 + (period : Int) % 1000 = (p : Int) from by omega)
  have hp2 : 1 ≤ p ∧ p ≤ 1000 := by omega
  obtain ⟨q, hq⟩ : ∃ q, limit % (p + 1) = q := ⟨_, rfl⟩
  have HQI := Lib.hid (show (limit : Int) % ((p : Int) + 1) = (q : Int) from by rw [← hq]; simp)
  have hq2 : q ≤ p := by have := Nat.mod_lt limit (show 0 < p + 1 by omega); omega
  have HP := Lib.hid hp2
  have HQ := Lib.hid hq2
  clear hp hq
  go_enter Tryd.func9, Tryd.ntmps9
  go_wp2_with fail
  refine HAW.out.mono ?_
  rintro e w1 ⟨rfl, hb1⟩
  have HB1 := Lib.hid hb1
  clear HAW
  go_wp2_with fail
  refine (made28_ok w1 vn vl ns sq (HN.out.below hb1).1 HN.out.2.1 HN.out.2.2 (HS.out.below hb1)).mono ?_
  rintro e w2 ⟨vg, vh, ve, rfl, og, oh, oe, b2⟩
  have hgok := made_ok (l := ns.take 8) (fun n hn => HN.out.2.1 n (List.mem_of_mem_take hn))
  generalize madG (ns.take 8) = gs at hgok og oh oe
  have HG := Lib.hid hgok.1
  have hG : gs.length ≤ 256 := by have := hgok.2; omega
  have hG9 : gs.length ≤ 9 := by have := hgok.2; simp at this; omega
  have HGL := Lib.hid (And.intro hgok.1.pos hG9)
  have HHI := Lib.hid (homesG_i64 hG)
  have HEO := Lib.hid (show ∀ e ∈ madE gs.length (sq.take 60), EvOk e from by
    obtain ⟨_, _, _, _, _, h⟩ := madE_look (l := sq.take 60) hgok.1.pos hG (by simp; omega)
    exact h)
  have HEL := Lib.hid (show (madE gs.length (sq.take 60)).length ≤ 60 from by rw [madE_len]; simp; omega)
  have HEA := Lib.hid (madE_each (l := sq.take 60) hgok.1.pos hG (by simp; omega))
  have hgl0 : which % gs.length < gs.length := Nat.mod_lt _ hgok.1.pos
  have HACC := Lib.hid (acc_one (l := sq.take 60) (r := ⟨((which % gs.length : Nat) : Int), p, q⟩) hgok.1 ⟨⟨by dsimp only; omega, by dsimp only; omega⟩, ⟨by dsimp only; omega, by dsimp only; omega⟩, ⟨by dsimp only; omega, by dsimp only; omega⟩⟩ hG (by simp; omega))
  have F : Facts w2 [sOV encG 2 53 w1.heap.size vg gs, sOV encG 2 61 w1.heap.size vh (homesG gs.length), sOV encE 11 59 w1.heap.size ve (madE gs.length (sq.take 60)), sB w] := ⟨og, oh, oe, HB1.out.trans (b2.mono HB1.out.size), trivial⟩
  obtain ⟨Ag, cg, hvg⟩ := (og.ev encG_len).shape
  obtain ⟨Ae, ce, hve⟩ := (oe.ev encE_len).shape
  obtain ⟨G, hGe⟩ : ∃ G, gs.length = G := ⟨_, rfl⟩
  have HGE := Lib.hid hGe
  rw [hGe] at hvg
  subst hvg
  have hGb : 0 < G ∧ G ≤ 9 := by have := HGL.out; omega
  have HGB := Lib.hid hGb
  rw [hGe] at F HACC HHI HEO HEL HEA hve hgl0
  obtain ⟨g, hg⟩ : ∃ g, which % G = g := ⟨_, rfl⟩
  have hgi : (which : Int) % (G : Int) = (g : Int) := by rw [← hg]; simp
  rw [hg] at hgl0 HACC
  have HGLT := Lib.hid hgl0
  have hG0 : ((G : Int) == 0) = false := by simp; omega
  generalize madE G (sq.take 60) = E at F HACC HEO HEL HEA hve
  obtain ⟨n, hnE⟩ : ∃ n, E.length = n := ⟨_, rfl⟩
  rw [hnE] at hve
  subst hve
  have HNE := Lib.hid hnE
  clear hb1 og oh oe b2 hgok hG hG9 HN HS HB1 hGe HGL hnE hg
  go_upto_region 5 with fail
  rw [hgi]
  clear hgi hG0
  have hp1 := HP.out.2
  have hp0 : (((p : Int) + 1) == 0) = false := by simp; omega
  go_upto_region 6 with fail
  rw [HPI.out]
  go_upto_region 7 with fail
  rw [HQI.out]
  have HSO := Lib.hid (show ∀ (o : List Rn), lookL G (homesG G) E = some o → OOk gs.length o → ∀ (c : Nat) (F : Lit → Option Value), Cnt (pairsJ gs g p (homesG G) E E.length) F c → SOk p (usesL gs [⟨(g : Int), (p : Int), (q : Int)⟩] o) F ∧ (usesL gs [⟨(g : Int), (p : Int), (q : Int)⟩] o).length = c from by
    intro o ho hoo c F hc
    have hgl : g < gs.length := by rw [HGE.out]; exact hgl0
    have hl : (0 : Int) ≤ (q : Int) ∧ (q : Int) ≤ p := by omega
    rw [look_pairs HG.out hgl (by rw [HGE.out]; exact ho) hoo.each] at hc
    obtain ⟨s1, s2⟩ := sums_end HG.out hgl hoo hp2.1 hp2.2 hl hc
    refine ⟨⟨fun u hu => ?_, s1, fun j u v hv hu => ?_⟩, s2⟩
    · obtain ⟨f1, ⟨c', f2, f3⟩, f4, f5, f6, _⟩ := one_facts hoo hp2.1 hp2.2 hl hu
      omega
    · have hs : (usesL gs [⟨(g : Int), (p : Int), (q : Int)⟩] o).Pairwise LtU := uses_sorted (n := gs.length) (fun i hi => by
        simp only [List.length_singleton] at hi
        obtain rfl : i = 0 := by omega
        show RuOk gs.length ⟨(g : Int), (p : Int), (q : Int)⟩
        unfold RuOk; dsimp only; omega) hoo.each hoo.apart
      obtain ⟨hjl, hju⟩ := List.getElem?_eq_some_iff.1 hv
      obtain ⟨hil, hiu⟩ := List.getElem?_eq_some_iff.1 hu
      have hlt := List.pairwise_iff_getElem.1 hs j (j + 1) hjl hil (by omega)
      rw [hju, hiu] at hlt
      have r1 := (one_facts hoo hp2.1 hp2.2 hl (List.mem_of_getElem? hv)).1
      have r2 := (one_facts hoo hp2.1 hp2.2 hl (List.mem_of_getElem? hu)).1
      unfold LtU at hlt
      omega)
  have HUD := Lib.hid (under_thereZ HG.out (show g < gs.length by rw [HGE.out]; exact hgl0))
  have hal := bel_alloc w2 (.cells #[.int .i64 (g : Int), .int .i64 (p : Int), .int .i64 (q : Int)] 44)
  have r0 : (w2.alloc (.cells #[.int .i64 (g : Int), .int .i64 (p : Int), .int .i64 (q : Int)] 44)).cell? ⟨w2.heap.size, 0, none⟩ = some (.int .i64 (g : Int)) := by go_simp
  have r1 : (w2.alloc (.cells #[.int .i64 (g : Int), .int .i64 (p : Int), .int .i64 (q : Int)] 44)).cell? ⟨w2.heap.size, 1, none⟩ = some (.int .i64 (p : Int)) := by go_simp
  have r2 : (w2.alloc (.cells #[.int .i64 (g : Int), .int .i64 (p : Int), .int .i64 (q : Int)] 44)).cell? ⟨w2.heap.size, 2, none⟩ = some (.int .i64 (q : Int)) := by go_simp
  replace F := F.below hal
  clear hal hp0 hp1
  generalize w2.alloc (.cells #[.int .i64 (g : Int), .int .i64 (p : Int), .int .i64 (q : Int)] 44) = w3 at F r0 r1 r2 ⊢
  generalize w2.heap.size = RB at r0 r1 r2 ⊢
  obtain ⟨o, hlk, _, a3, a4, hae, haL⟩ := HACC.out
  have HSO2 := Lib.hid (HSO.out o hlk ⟨fun t ht => by rw [HGE.out]; exact (a3 t ht).2, a4⟩)
  have HLEN := Lib.hid (accL_len (gs := gs) (rs := [⟨(g : Int), (p : Int), (q : Int)⟩]) (hs := homesG G) (l := E) (by simp))
  rw [haL] at HLEN
  clear HSO hlk
  have hbw : Below w.heap.size w w3 := F.get 3
  have hal2 := bel_alloc w3 (.cells #[.int .i64 (g : Int), .int .i64 (p : Int), .int .i64 (q : Int)] 44)
  have HCA := Lib.hid (account_ok (w3.alloc (.cells #[.int .i64 (g : Int), .int .i64 (p : Int), .int .i64 (q : Int)] 44)) (.slice Ag G cg) (.slice (some ⟨w3.heap.size, 0, none⟩) 1 1) vh (.slice Ae n ce) gs [⟨(g : Int), (p : Int), (q : Int)⟩] (homesG G) E
    ((OV.ev (F.get 0) encG_len).below hal2) (new_ruM (r := ⟨(g : Int), (p : Int), (q : Int)⟩) rfl) ((OV.ev (F.get 1) encG_len).below hal2) ((OV.ev (F.get 2) encE_len).below hal2) (HU.out.below (hbw.trans (hal2.mono hbw.size)))
    (by rw [HGE.out]; omega) (by simp) (by rw [homesG_len]; omega) (by have := HEL.out; omega) HEO.out HHI.out)
  rw [hae, haL] at HCA
  replace F := F.below hal2
  have HR1 := Lib.hid (below_cell hal2 r1)
  clear hbw hal2 HACC hae haL a3 a4
  generalize usesL gs [⟨(g : Int), (p : Int), (q : Int)⟩] o = us at HCA HSO2 HLEN
  go_wp2_with fail
  refine HCA.out.mono ?_
  rintro e w4 ⟨vu, rfl, o4, b4⟩
  obtain ⟨Au, cu, hvu⟩ := (o4.ev encUs_len).shape
  obtain ⟨nu, hnu⟩ : ∃ nu, us.length = nu := ⟨_, rfl⟩
  rw [hnu] at hvu
  subst hvu
  have HNU := Lib.hid hnu
  replace F : Facts w4 (sOV encUs 5 50 _ (.slice Au nu cu) us :: _) := ⟨o4, F.below b4⟩
  have HR4 := Lib.hid (below_cell b4 HR1.out)
  clear o4 b4 HCA r0 r1 r2 HR1 hnu
  have HUN := Lib.hid (under_ok w4 (.slice Ag G cg) gs (g : Int) (OV.ev (F.get 1) encG_len) (by rw [HGE.out]; omega))
  rw [HUD.out] at HUN
  go_wp2_with fail
  refine HUN.out.mono ?_
  rintro e w5 ⟨vd, rfl, o5, b5⟩
  replace F : Facts w5 (sOV encI 1 3 _ vd (underL gs g) :: _) := ⟨o5, F.below b5⟩
  have HR5 := Lib.hid (below_cell b5 HR4.out)
  clear o5 b5 HUN HR4
  go_upto_region 11 with fail
  have hmm := @run_makeMap Tryd.prog
  obtain ⟨mb, hmb⟩ : ∃ mb, mb = w5.heap.size := ⟨_, rfl⟩
  have HM0 := Lib.hid (show MpC Tryd.prog 77 (w5.alloc (.map #[] 0)) mb 0 (fun _ => none) from by rw [hmb]; exact MpC.made _ _ _)
  have HB0 := Lib.hid (show Below w5.heap.size w5 (w5.alloc (.map #[] 0)) from bel_alloc w5 _)
  have HMB := Lib.hid (show w5.heap.size = mb from hmb.symm)
  obtain ⟨w6, hw6⟩ : ∃ w6, w6 = w5.alloc (.map #[] 0) := ⟨_, rfl⟩
  rw [← hw6] at HM0 HB0
  have HSZ := Lib.hid (show w.heap.size ≤ mb from by rw [hmb]; exact (F.get 5 : Below w.heap.size w w5).size)
  replace F := F.below HB0.out
  have HR6 := Lib.hid (below_cell HB0.out HR5.out)
  have HBW := Lib.hid (F.get 5 : Below w.heap.size w w6)
  have HT1 := Lib.hid (show EV encE 11 w6 (.slice Ae n ce) E ∧ E.length = n ∧ n ≤ 1000 ∧ ∀ e ∈ E, EvOk e from ⟨OV.ev (F.get 4) encE_len, HNE.out, by rw [← HNE.out]; have := HEL.out; omega, HEO.out⟩)
  have HT2 := Lib.hid (show EV encG 2 w6 vh (homesG G) ∧ (homesG G).length ≤ 1000000 ∧ ∀ h ∈ homesG G, I64 h.1 ∧ I64 h.2 from ⟨OV.ev (F.get 3) encG_len, by rw [homesG_len]; omega, HHI.out⟩)
  have HT3 := Lib.hid (show EV encI 1 w6 vd (underL gs g) ∧ (underL gs g).length ≤ 1000 from ⟨OV.ev (F.get 0) encI_len, by have := underL_len gs g; rw [HGE.out] at this; omega⟩)
  have HT4 := Lib.hid (show EV encUs 5 w6 (.slice Au nu cu) us ∧ us.length = nu ∧ nu ≤ 1000000000 from ⟨OV.ev (F.get 1) encUs_len, HNU.out, by rw [← HNU.out]; exact HLEN.out⟩)
  have HT5 := Lib.hid (show ∀ (c : Nat) (F : Lit → Option Value), Cnt (pairsJ gs g p (homesG G) E E.length) F c → SOk p us F ∧ nu = c from fun c F h => by rw [← HNU.out]; exact HSO2.out c F h)
  have HT6 := Lib.hid (show (pairsJ gs g p (homesG G) E E.length).length ≤ 100000 from by have := pairsJ_bound (gs := gs) (g := g) (p := p) (hs := homesG G) HEA.out E.length (Nat.le_refl _); have := HEL.out; omega)
  clear F HSO2 HR5 HB0
  go_cut [20] (fun v wx => v = .map (some mb) ∧ wx = w6)
  case first =>
    go_wp2
    go_meet
    exact ⟨by rw [hmb], hw6.symm⟩
  case rest =>
    obtain ⟨rfl, rfl⟩ := hcut
    refine (‹∀ (a : Act) (w : World), Code.wp _ _ _ a w → _› : ∀ (a : Act) (w : World), _ → _) _ _ (sums_mid _ RB p g n mb n ce Ae vh vd nu cu Au us gs (homesG G) E (fun (e : Ending) (w' : World) => e = .returned (.bool true) ∧ Below w.heap.size w w') HT1 HT2 HT3 HR6 hp2 (Lib.hid fun e he => HEA.out e he) HM0 HT6 HT4 HT5 (Lib.hid fun w' hb => ⟨rfl, HBW.out.trans (hb.mono HSZ.out)⟩))
end Go.Proofs.YtaplangfppohdaaDoor
