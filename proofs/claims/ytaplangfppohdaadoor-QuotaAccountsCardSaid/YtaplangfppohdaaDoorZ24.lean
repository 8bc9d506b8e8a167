/- Made of the laws of quotas | quota.Over. -/
import Derived.Test.YtaplangfppohdaaDoorZ23
import Derived.Test.YtaplangfppohdaaDoorZ14
set_option linter.unusedVariables false
set_option linter.unusedSimpArgs false
set_option linter.unusedSectionVars false
namespace Go.Proofs.YtaplangfppohdaaDoor
open Go.RowKit Go.Shelf
attribute [local go_sem] Oper.semAt_some

theorem take_evG {α : Type} {enc : α → List Value} {k : Nat} {w : World} {v : Value} {ns : List α} {m : Nat} (h : EV enc k w v ns) (hl : ns.length ≤ 9223372036854775807) : ∃ A c L, v = .slice A L c ∧ ns.length = L ∧ L ≤ 9223372036854775807 ∧ (A = none → L = 0) ∧ EV enc k w (.slice A (min L m) c) (ns.take m) ∧ (ns.take m).length = min L m ∧ (0 < L → L ≤ c) := by
  rcases Nat.eq_zero_or_pos ns.length with h0 | h0
  · obtain rfl : ns = [] := List.eq_nil_of_length_eq_zero h0
    obtain ⟨A, c, rfl⟩ := h.shape
    exact ⟨A, c, 0, rfl, rfl, by omega, fun _ => rfl, (by rw [Nat.zero_min, List.take_nil]; exact EV.nil _ _), by simp, fun h => by omega⟩
  · obtain ⟨b, off, c, rfl, hc, _⟩ := h.row h0
    refine ⟨_, c, _, rfl, rfl, hl, (fun e => by cases e), ?_, (by simp [Nat.min_comm]), fun _ => hc⟩
    have h2 := EV.row_take (j := min ns.length m) h (by omega) rfl
    have ht : ns.take (min ns.length m) = ns.take m := by
      rcases Nat.le_total ns.length m with h | h
      · rw [Nat.min_eq_left h, List.take_of_length_le (by omega), List.take_of_length_le (by omega)]
      · rw [Nat.min_eq_right h]
    rwa [ht] at h2
theorem new_homeM {w : World} {p q : Int} {m : Nat} (hm : w.heap.size = m) : EV encG 2 (w.alloc (.cells #[.int .i64 p, .int .i64 q] 61)) (.slice (some ⟨m, 0, none⟩) 1 1) [(p, q)] := by subst hm; exact EV.new1 rfl (Nat.le_refl _)
theorem elemHo : ElemT Tryd.prog 38 61 2 16 := ⟨Tryd.underlying38, by
  have h : (Tryd.prog.info? 61).map (fun i => (i.zero, i.size, i.bytes)) = some (some (.agg #[.int .i64 0, .int .i64 0]), 2, 16) := by kernel_rfl
  obtain ⟨i, h1, h2, h3, h4⟩ := info_parts h
  exact ⟨i, _, h1, h2, h3, h4, rfl⟩, by omega, by omega⟩
theorem clk_new3 (w : World) : ClkN 3 (w.alloc (.cells #[.int .i64 0, .int .i64 0, .int .i64 0] 51)) w.heap.size (fun _ => 0) := by
  intro c hc
  have : c = 0 ∨ c = 1 ∨ c = 2 := by omega
  rcases this with rfl | rfl | rfl <;> exact ⟨by go_simp, by go_simp⟩
def thereG (j : Nat) : List Int := (List.range j).map fun i : Nat => (i : Int) + 1
theorem thereG_succ (j : Nat) : thereG (j + 1) = thereG j ++ [(j : Int) + 1] := by simp [thereG, List.range_succ]
theorem thereG_len (j : Nat) : (thereG j).length = j := by simp [thereG]
set_option maxRecDepth 100000 in
set_option maxHeartbeats 3200000 in
theorem made28_ok (w : World) (vn vl : Value) (ns : List Nat) (sq : List Sq) (hn : EV encU16 1 w vn ns) (hlt : ∀ n ∈ ns, n < 65536) (hlen : ns.length ≤ 9223372036854775807) (hs : SqArg w vl sq) :
    Calls Tryd.prog 15 #[vn, vl] w fun e w' => ∃ vg vh ve, e = .returned (.tuple #[vg, vh, ve]) ∧ OV encG 2 53 w.heap.size w' vg (madG (ns.take 8)) ∧ OV encG 2 61 w.heap.size w' vh (homesG (madG (ns.take 8)).length) ∧
      OV encE 11 59 w.heap.size w' ve (madE (madG (ns.take 8)).length (sq.take 60)) ∧ Below w.heap.size w w' := by
  obtain ⟨A, c, L, rfl, hL, hLm, hAL, hEV, hTL, hLc⟩ := take_evG (m := 8) hn hlen
  obtain ⟨hsv, hsok, hsl⟩ := hs
  obtain ⟨A2, c2, L2, rfl, hL2, hLm2, hAL2, hEV2, hTL2, hLc2⟩ := take_evG (m := 60) hsv hsl
  have HMA := Lib.hid (made_walk w _ (ns.take 8) hEV (fun n hn => hlt n (List.mem_of_mem_take hn)) (by rw [hTL]; omega))
  have hgl := made_ok (l := ns.take 8) (fun n hn => hlt n (List.mem_of_mem_take hn))
  have HS := Lib.hid hEV2
  have HSN := Lib.hid (show min L2 60 = (sq.take 60).length ∧ min L2 60 ≤ 60 ∧ min L2 60 = min L2 60 ∧ L2 ≤ 9223372036854775807 ∧ (0 < L2 → L2 ≤ c2) ∧ (A2 = none → L2 = 0) from ⟨hTL2.symm, by omega, rfl, hLm2, hLc2, hAL2⟩)
  have HSO := Lib.hid (show ∀ x ∈ sq.take 60, SqOk x from fun x hx => hsok x (List.mem_of_mem_take hx))
  generalize madG (ns.take 8) = gs at HMA hgl ⊢
  obtain ⟨G, hG⟩ : ∃ G, gs.length = G := ⟨_, rfl⟩
  have HGL := Lib.hid hG
  have HG := Lib.hid (show 0 < G ∧ G ≤ 256 from by have := hgl.2; have := hgl.1.pos; simp at *; omega)
  obtain ⟨Post, hPost⟩ : ∃ P : Ending → World → Prop, P = (fun (e : Ending) (w' : World) => ∃ vg vh ve, e = .returned (.tuple #[vg, vh, ve]) ∧ OV encG 2 53 w.heap.size w' vg gs ∧ OV encG 2 61 w.heap.size w' vh (homesG gs.length) ∧
      OV encE 11 59 w.heap.size w' ve (madE gs.length (sq.take 60)) ∧ Below w.heap.size w w') := ⟨_, rfl⟩
  have HPO := Lib.hid (show ∀ w' ve th' Y Ag cg vh, MW w Y (.slice Ag G cg) vh th' ve gs (homesG G) (mdJ G (sq.take 60) (min L2 60)).th (mdJ G (sq.take 60) (min L2 60)).ev (mdJ G (sq.take 60) (min L2 60)).ck w' → Post (.returned (.tuple #[.slice Ag G cg, vh, ve])) w' from by
    intro w' ve th' Y Ag cg vh h
    rw [hPost]
    refine ⟨_, _, _, rfl, h.og, by rw [HGL.out]; exact h.oh, ?_, h.low⟩
    have := h.oev
    rw [HGL.out]
    unfold madE
    rw [← HSN.out.1]
    exact this)
  rw [← hPost]
  clear hPost hn hlt hlen hEV hTL hsv hsok hsl hEV2 hTL2 hgl hG hL hL2 hLc2 hAL2 hLm2
  go_enter Tryd.func15, Tryd.ntmps15
  go_wp2_with fail
  rw [show (min (L : Int) 8).toNat = min L 8 from by omega]
  refine HMA.out.mono ?_
  rintro e w1 ⟨vg, rfl, o1, b1⟩
  obtain ⟨Ag, cg, hvs⟩ := (o1.ev encG_len).shape
  rw [HGL.out] at hvs
  subst hvs
  have HO1 := Lib.hid o1
  have HB1 := Lib.hid b1
  clear o1 b1 HMA hAL hLc hLm
  go_wp2
  have HB2 := Lib.hid (HB1.out.trans ((bel_alloc w1 (.cells #[] 3)).mono HB1.out.size))
  have HT2 := Lib.hid (show OV encI 1 3 w.heap.size (w1.alloc (.cells #[] 3)) (.slice (some ⟨w1.heap.size, 0, none⟩) 0 0) [] from OV.made w1 0 #[] HB1.out.size (Nat.zero_le _) rfl)
  have HO2 := Lib.hid (HO1.out.alloc (.cells #[] 3))
  clear HB1 HO1
  have hG256 := HG.out.2
  generalize hvt : Value.slice (some ⟨w1.heap.size, 0, none⟩) 0 0 = vt at HT2 ⊢
  generalize w1.alloc (.cells #[] 3) = w2 at HB2 HT2 HO2 ⊢
  clear hvt
  go_loopg [8, 9, 28] G (fun k vh vt i wr => ∃ j : Nat, j + k = G ∧ i = .int .i64 j ∧ OV encG 2 53 w.heap.size wr (.slice Ag G cg) gs ∧ OV encG 2 61 w.heap.size wr vh (homesG j) ∧ OV encI 1 3 w.heap.size wr vt (thereG j) ∧ Below w.heap.size w wr)
  case atStart => exact ⟨0, by omega, rfl, HO2.out, OV.nil _ _, HT2.out, HB2.out⟩
  case round =>
    obtain ⟨j, hj, rfl, hog, hoh, hot, hb⟩ := hrel
    have HJ := Lib.hid hj
    have HOG := Lib.hid hog
    have HOH := Lib.hid hoh
    have HOT := Lib.hid hot
    have HBW := Lib.hid hb
    clear hj hog hoh hot hb
    by_cases hlt : j < G
    · go_wp2_with (at_builtin; refine wpList_app elemHo encG_len encG_one rfl _ _ rfl _ _ rfl rfl (HOH.out.alloc _) (new_homeM (p := (j : Int) + 1) (q := (j : Int)) (by simp)) ?q1 ?q2 ?_)
      case q1 => rw [homesG_len]; simp; omega
      case q2 => have := HBW.out.size; simp; omega
      intro v' w3 ho3 hg3
      have hb2 : Below w.heap.size w (wr.alloc (.cells #[.int .i64 ((j : Int) + 1), .int .i64 (j : Int)] 61)) := HBW.out.alloc HBW.out.size _
      have HOH3 := Lib.hid ho3
      have HOG3 := Lib.hid ((HOG.out.alloc _).keep hg3 (HOG.out.ne HOH.out (by decide)))
      have HOT3 := Lib.hid ((HOT.out.alloc _).keep hg3 (HOT.out.ne HOH.out (by decide)))
      have HBW3 := Lib.hid (hb2.grown hg3 hb2.size (fun k hk => (HOH.out.block k hk).1))
      clear ho3 hg3 hb2
      go_wp2_with (at_builtin; refine wpList_app elemI encI_len encI_one rfl _ _ rfl _ _ rfl rfl (HOT3.out.alloc _) (new_oneM (z := (j : Int) + 1) (by simp)) ?q1 ?q2 ?_)
      case q1 => rw [thereG_len]; simp; omega
      case q2 => have := HBW3.out.size; simp; omega
      intro v2' w4 ho4 hg4
      have hb4 : Below w.heap.size w (w3.alloc (.cells #[.int .i64 ((j : Int) + 1)] 3)) := HBW3.out.alloc HBW3.out.size _
      have HOT4 := Lib.hid ho4
      have HOG4 := Lib.hid ((HOG3.out.alloc _).keep hg4 (HOG3.out.ne HOT3.out (by decide)))
      have HOH4 := Lib.hid ((HOH3.out.alloc _).keep hg4 (HOH3.out.ne HOT3.out (by decide)))
      have HBW4 := Lib.hid (hb4.grown hg4 hb4.size (fun k hk => (HOT3.out.block k hk).1))
      clear ho4 hg4 hb4
      go_wp2
      go_roundg (gk - 1)
      case measure => have := HJ.out; omega
      case rel => exact ⟨j + 1, by have := HJ.out; omega, by go_num, HOG4.out, by rw [homesG_succ]; exact HOH4.out, by rw [thereG_succ]; exact HOT4.out, HBW4.out⟩
    · obtain rfl : G = j := by have := HJ.out; omega
      clear HJ hlt
      go_upto_region 12 with fail
      have HBA := Lib.hid (bel_alloc wr (.cells #[.int .i64 0, .int .i64 0, .int .i64 0] 51))
      have HMW := Lib.hid (show MW w wr.heap.size (.slice Ag G cg) u8 u9 (.slice none 0 0) gs (homesG G) (md0 G).th [] (md0 G).ck (wr.alloc (.cells #[.int .i64 0, .int .i64 0, .int .i64 0] 51)) from
        ⟨HOG.out.below HBA.out, HOH.out.below HBA.out, HOT.out.below HBA.out, OV.nil _ _, clk_new3 wr, ⟨_, _, World.alloc_heap_new wr _⟩, HBW.out.trans (HBA.out.mono HBW.out.size), HBW.out.size, by simp⟩)
      clear HOG HOH HOT HBW HBA
      generalize wr.heap.size = Y at HMW ⊢
      generalize wr.alloc (.cells #[.int .i64 0, .int .i64 0, .int .i64 0] 51) = w3 at HMW ⊢
      go_cut [13] (fun v wx => v = .int .i64 ((G : Int) + 1) ∧ wx = w3)
      case first =>
        go_wp2
        go_meet
        exact ⟨rfl, rfl⟩
      case rest =>
        obtain ⟨rfl, rfl⟩ := hcut
        refine (‹∀ (a : Act) (w : World), Code.wp _ _ _ a w → _› : ∀ (a : Act) (w : World), _ → _) _ _ (md_tail w _ G (min L2 60) L2 Y cg c2 Ag A2 u8 u9 gs (homesG G) (sq.take 60) Post HS (Lib.hid ⟨HSN.out.1, HSN.out.2.1, rfl, HSN.out.2.2.2⟩) HSO HG HMW (Lib.hid fun w' ve th' h => HPO.out w' ve th' Y Ag cg u8 h))
end Go.Proofs.YtaplangfppohdaaDoor
namespace Go.Proofs.YtaplangfppohdaaDoor
open Go.RowKit Go.Shelf
attribute [local go_sem] Oper.semAt_some

set_option maxHeartbeats 400000 in
theorem clone_use (w : World) (v1 : Value) (xs : List (Us)) (h1 : EV encUs 5 w v1 xs) (b1 : xs.length ≤ 1000000000) :
    Calls Tryd.prog 68 #[v1] w fun e w' => ∃ v, e = .returned v ∧ OV encUs 5 50 w.heap.size w' v xs ∧ Below w.heap.size w w' := by
  obtain ⟨A, c, rfl⟩ := h1.shape
  have H1 := Lib.hid h1
  clear h1
  have heq : ∀ (w : World) (a : Option Addr) (n c n' c' : Nat), (binOp .eql 45 (.slice a n c) (.slice none n' c')).run Tryd.prog w = .ok (.bool a.isNone) w := fun w a n c n' c' => Lib.run_eql_slice_nil w _ _ a n c n' c' Tryd.underlying45
  cases A with
  | none =>
    obtain rfl : xs = [] := by
      rcases H1.out with ⟨h, _⟩ | ⟨_, b, off, c', h, _⟩
      · exact h
      · cases h
    clear H1 b1
    go_enter Tryd.func68, Tryd.ntmps68
    go_wp2
    go_ret
    exact ⟨_, rfl, OV.nil _ _, Below.refl _ _⟩
  | some ad =>
    go_enter Tryd.func68, Tryd.ntmps68
    go_wp2_with (at_builtin; refine wpList_app elemUs encUs_len encUs_one rfl _ _ rfl _ _ rfl rfl (OV.made w 0 #[] (Nat.le_refl _) (Nat.zero_le _) rfl) (H1.out.keep fun p u hc => ?qc) ?qn ?qb ?_)
    case qc => exact (World.cell?_alloc_lt w _ p (cell_lt hc)).trans hc
    case qn => simpa using b1
    case qb => simp
    intro v' w1 hown hgrow
    go_wp2
    go_ret
    refine ⟨v', rfl, by simpa using hown, ((Below.refl _ w).alloc (Nat.le_refl _) _).grown hgrow (by simp) (by intro k hk; simp [Value.ownBlock] at hk; omega)⟩

def usV (u : Us) : Value := .agg #[.int .i64 u.r, .int .i64 u.c, .int .i64 u.p, .int .i64 u.t, .int .i64 u.d]
theorem over1_ok (w : World) (u : Us) : Calls Tryd.prog 69 #[usV u] w fun e w' => e = .returned (.bool (decide (u.d ≤ 0))) ∧ Below w.heap.size w w' := by
  unfold usV
  by_cases h : u.d ≤ 0
  · go_enter Tryd.func69, Tryd.ntmps69
    go_wp2
    go_ret
    exact ⟨ret_bool (by simp [h]), bel_alloc _ _⟩
  · go_enter Tryd.func69, Tryd.ntmps69
    go_wp2
    go_ret
    exact ⟨ret_bool (by simp; omega), bel_alloc _ _⟩
def posD (u : Us) : Bool := decide (u.d ≤ 0)
def idxU (us : List Us) : Int := if us.findIdx posD < us.length then (us.findIdx posD : Int) else -1
set_option maxHeartbeats 800000 in
theorem idxU_ok (w : World) (v : Value) (us : List Us) (h : EV encUs 5 w v us) (hl : us.length ≤ 1000000000) :
    Calls Tryd.prog 89 #[v, .func (.func 69) #[] #[]] w fun e w' => e = .returned (.int .i64 (idxU us)) ∧ Below w.heap.size w w' := by
  obtain ⟨A, c, rfl⟩ := h.shape
  have H := Lib.hid h
  obtain ⟨n, hn⟩ : ∃ n, us.length = n := ⟨_, rfl⟩
  have HN := Lib.hid hn
  rw [hn] at hl H ⊢
  clear h hn
  go_enter Tryd.func89, Tryd.ntmps89
  go_wp2
  go_loopg [8] n (fun k i wr => ∃ j : Nat, j + k = n ∧ i = .int .i64 j ∧ (∀ q, q < j → ∀ u, us[q]? = some u → posD u = false) ∧ Below w.heap.size w wr)
  case atStart => exact ⟨0, by omega, rfl, fun q hq => by omega, Below.refl _ _⟩
  case round =>
    obtain ⟨j, hj, rfl, ha, hb⟩ := hrel
    have HJ := Lib.hid hj
    have HA := Lib.hid ha
    have HB := Lib.hid hb
    clear hj ha hb
    by_cases hlt : j < n
    · obtain ⟨x, hx⟩ : ∃ x, us[j]? = some x := ⟨_, List.getElem?_eq_getElem (by rw [HN.out]; exact hlt)⟩
      obtain ⟨b, off, c', hs, hc, hr⟩ := (H.out.below HB.out).row (by rw [HN.out]; omega)
      rw [HN.out] at hs hc
      simp only [Value.slice.injEq, true_and] at hs
      obtain ⟨rfl, rfl⟩ := hs
      obtain ⟨c0, c1, c2, c3, c4⟩ := hr.us hx
      have HX := Lib.hid hx
      clear hr hx
      go_wp2_with fail
      refine (over1_ok wr x).mono ?_
      rintro e w2 ⟨rfl, bb⟩
      have HB2 := Lib.hid (HB.out.trans (bb.mono HB.out.size))
      clear bb c0 c1 c2 c3 c4
      have HIF := Lib.hid (fun (h : posD x = true) => (show idxU us = (j : Int) from by
        have hf : us.findIdx posD = j := by
          rw [List.findIdx_eq (by rw [HN.out]; exact hlt)]
          have e : ∀ q (hq : q < us.length), us[q]? = some us[q] := fun q hq => List.getElem?_eq_getElem hq
          refine ⟨?_, fun q hq => HA.out q hq _ (e q (by rw [HN.out]; omega))⟩
          have := e j (by rw [HN.out]; exact hlt)
          rw [HX.out] at this
          rw [← Option.some.inj this]; exact h
        unfold idxU
        rw [hf, HN.out, if_pos hlt]))
      by_cases hd : x.d ≤ 0
      · have hd' : decide (x.d ≤ 0) = true := decide_eq_true hd
        have HV := Lib.hid (HIF.out hd')
        clear hd
        go_wp2
        go_ret
        exact ⟨ret_int HV.out.symm, HB2.out⟩
      · have hd' : decide (x.d ≤ 0) = false := decide_eq_false hd
        have HD := Lib.hid hd'
        clear hd
        go_wp2
        go_roundg (gk - 1)
        case measure => have := HJ.out; omega
        case rel =>
          refine ⟨j + 1, by have := HJ.out; omega, by go_num, fun q hq u hu => ?_, HB2.out⟩
          rcases Nat.lt_or_ge q j with h | h
          · exact HA.out q h u hu
          · obtain rfl : q = j := by omega
            rw [HX.out] at hu
            cases hu
            exact HD.out
    · obtain rfl : n = j := by have := HJ.out; omega
      have HV := Lib.hid (show idxU us = -1 from by
        unfold idxU
        rw [if_neg]
        rw [List.findIdx_lt_length]
        rintro ⟨u, hu, hp⟩
        obtain ⟨q, hq⟩ := List.getElem?_of_mem hu
        have hql := (List.getElem?_eq_some_iff.1 hq).1
        rw [HA.out q (by rw [← HN.out]; exact hql) u hq] at hp
        cases hp)
      go_wp2
      go_ret
      exact ⟨ret_int HV.out.symm, HB.out⟩
end Go.Proofs.YtaplangfppohdaaDoor
