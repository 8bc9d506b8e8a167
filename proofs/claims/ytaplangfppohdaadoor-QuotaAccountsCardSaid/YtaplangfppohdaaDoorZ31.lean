/- QuotaSums: ran: the group of the task of each tick | Maps whose count of entries is known; `m[k]++` as the program does it: an entry, and a store into it | Contracts of group.those, Children, Under | QuotaSums, plain: the times that were used, one by one | QuotaSums, plain: the counts, and the uses of one rule. -/
import Derived.Test.YtaplangfppohdaaDoorZ30
import Derived.WideKeyEntry
import Derived.Maps.Views
import Derived.Test.YtaplangfppohdaaDoorZ2
set_option linter.unusedVariables false
set_option linter.unusedSimpArgs false
set_option linter.unusedSectionVars false
namespace Go.Proofs.YtaplangfppohdaaDoor
open Go.RowKit Go.Shelf Go.Maps
attribute [local go_sem] Oper.semAt_some

def ofH (hs : List (Int × Int)) : Int → Option Int := hs.foldl (fun T h => updT T h.1 (some h.2)) (fun _ => none)
def ofE (T : Int → Option Int) (e : Ev) : Int → Option Int := if e.kind = 1 then updT T e.task (some e.grp) else T
def ranG (T : Int → Option Int) (e : Ev) : Int := if e.kind = 5 ∧ 0 < e.got then (T e.got).getD 0 else -1
def ofJ (hs : List (Int × Int)) (l : List Ev) (j : Nat) : Int → Option Int := (l.take j).foldl ofE (ofH hs)
def ranL (hs : List (Int × Int)) (l : List Ev) (j : Nat) : List Int := (List.range j).map fun i => match l[i]? with | some e => ranG (ofJ hs l i) e | none => -1
theorem ofH_succ {hs : List (Int × Int)} {j : Nat} {h : Int × Int} (hx : hs[j]? = some h) : ofH (hs.take (j + 1)) = updT (ofH (hs.take j)) h.1 (some h.2) := by
  unfold ofH; rw [List.take_add_one, hx, List.foldl_append]; rfl
theorem ofJ_succ {hs : List (Int × Int)} {l : List Ev} {j : Nat} {e : Ev} (hx : l[j]? = some e) : ofJ hs l (j + 1) = ofE (ofJ hs l j) e := by
  unfold ofJ; rw [List.take_add_one, hx, List.foldl_append]; rfl
theorem ranL_succ {hs : List (Int × Int)} {l : List Ev} {j : Nat} {e : Ev} (hx : l[j]? = some e) : ranL hs l (j + 1) = ranL hs l j ++ [ranG (ofJ hs l j) e] := by
  unfold ranL; rw [List.range_succ, List.map_append]; simp [hx]
theorem ranL_len (hs : List (Int × Int)) (l : List Ev) (j : Nat) : (ranL hs l j).length = j := by simp [ranL]
set_option maxRecDepth 100000 in
set_option maxHeartbeats 3200000 in
theorem lawran_ok (w : World) (vh ve : Value) (hs : List (Int × Int)) (l : List Ev) (h1 : EV encG 2 w vh hs) (h2 : EV encE 11 w ve l) (lh : hs.length ≤ 1000000) (ll : l.length ≤ 1000000) (ho : ∀ e ∈ l, EvOk e) (hho : ∀ h ∈ hs, I64 h.1 ∧ I64 h.2) :
    Calls Tryd.prog 24 #[vh, ve] w fun e w' => ∃ v, e = .returned v ∧ OV encI 1 3 w.heap.size w' v (ranL hs l l.length) ∧ Below w.heap.size w w' := by
  obtain ⟨A1, c1, rfl⟩ := h1.shape
  obtain ⟨A2, c2, rfl⟩ := h2.shape
  have H1 := Lib.hid h1
  have H2 := Lib.hid h2
  have HO := Lib.hid ho
  have HH := Lib.hid hho
  obtain ⟨a, ha⟩ : ∃ a, hs.length = a := ⟨_, rfl⟩
  obtain ⟨n, hn⟩ : ∃ n, l.length = n := ⟨_, rfl⟩
  have HA := Lib.hid ha
  have HN := Lib.hid hn
  rw [ha] at lh H1
  rw [hn] at ll H2
  rw [ha, hn]
  clear h1 h2 ho hho ha hn
  have hmm := @run_makeMap Tryd.prog
  go_enter Tryd.func24, Tryd.ntmps24
  go_upto_region 2 with fail
  clear hmm
  obtain ⟨b, hb⟩ : ∃ b, b = w.heap.size := ⟨_, rfl⟩
  have HM0 := Lib.hid (show MpV Tryd.prog 3 (w.alloc (.map #[] 0)) b 0 (mapT (ofH (hs.take 0))) from by rw [show ofH (hs.take 0) = fun _ => none from rfl, mapT_none, hb]; exact MpV.made _ _ _)
  have HB0 := Lib.hid (bel_alloc w (.map #[] 0))
  have HBB := Lib.hid (show w.heap.size ≤ b from by omega)
  rw [← hb]
  clear hb
  generalize w.alloc (.map #[] 0) = w1 at HM0 HB0 ⊢
  go_wp2
  go_loopg [15] a (fun k i wr => ∃ j : Nat, j + k = a ∧ i = .int .i64 j ∧ MpV Tryd.prog 3 wr b j (mapT (ofH (hs.take j))) ∧ Below w.heap.size w wr)
  case atStart => exact ⟨0, by omega, rfl, HM0.out, HB0.out⟩
  case round =>
    obtain ⟨j, hj, rfl, hm, hbw⟩ := hrel
    have HJ := Lib.hid hj
    have HM := Lib.hid hm
    have HB := Lib.hid hbw
    clear hj hm hbw
    by_cases hlt : j < a
    · obtain ⟨h, hx⟩ : ∃ h, hs[j]? = some h := ⟨_, List.getElem?_eq_getElem (by rw [HA.out]; exact hlt)⟩
      obtain ⟨bb, off, c', hsl, hcc, hr⟩ := (H1.out.below HB.out).row (by rw [HA.out]; omega)
      rw [HA.out] at hsl hcc
      simp only [Value.slice.injEq, true_and] at hsl
      obtain ⟨rfl, rfl⟩ := hsl
      obtain ⟨g0, g1⟩ := hr.pt hx
      have KEY := Lib.hid (keyI (HH.out h (List.mem_of_getElem? hx)).1)
      have HST := Lib.hid (show mapT (ofH (hs.take (j + 1))) = updF (mapT (ofH (hs.take j))) (.int .i64 h.1) (some (.int .i64 h.2)) from by rw [ofH_succ hx, ← mapT_upd]; rfl)
      have HMA := Lib.hid (HM.out.below (bel_alloc wr (.cells #[.int .i64 h.1, .int .i64 h.2] 61)))
      have HBA := Lib.hid (HB.out.trans ((bel_alloc wr (.cells #[.int .i64 h.1, .int .i64 h.2] 61)).mono HB.out.size))
      clear hr hx hcc
      go_wp2_with (at_mapUpdate; refine wpList_putV (k := 3) (e := 3) rfl _ _ _ (by rfl) lawI Tryd.underlying142 (by rfl) HMA.out (by unfold maxLen; omega) _ _ _ (by rfl) (by rfl) KEY.out ?_)
      intro w5 hm5 hg5
      have HM5 := Lib.hid hm5
      have HB5 := Lib.hid (HBA.out.grown hg5 HBA.out.size (fun k hk => by cases hk; exact HBB.out))
      clear hm5 hg5 g0 g1
      go_wp2
      go_roundg (gk - 1)
      case measure => have := HJ.out; omega
      case rel => exact ⟨j + 1, by have := HJ.out; omega, by go_num, by rw [HST.out]; exact HM5.out, HB5.out⟩
    · obtain rfl : a = j := by have := HJ.out; omega
      have HM1 := Lib.hid (show MpV Tryd.prog 3 wr b a (mapT (ofJ hs l 0)) from by
        have := HM.out
        rw [List.take_of_length_le (by rw [HA.out]; omega)] at this
        exact this)
      have HB1 := Lib.hid HB.out
      clear HM HB HJ hlt
      go_wp2
      go_loopg [8, 27] n (fun k v i wq => ∃ j : Nat, j + k = n ∧ i = .int .i64 j ∧ OV encI 1 3 w.heap.size wq v (ranL hs l j) ∧ MpV Tryd.prog 3 wq b (a + j) (mapT (ofJ hs l j)) ∧ Below w.heap.size w wq)
      case atStart => exact ⟨0, by omega, rfl, OV.nil _ _, HM1.out, HB1.out⟩
      clear HM1 HB1
      case round =>
        obtain ⟨j, hj, rfl, hov, hm, hbw⟩ := hrel
        have HJ := Lib.hid hj
        have HV := Lib.hid hov
        have HM := Lib.hid hm
        have HB := Lib.hid hbw
        clear hj hov hm hbw
        by_cases hlt : j < n
        · obtain ⟨e, hx⟩ : ∃ e, l[j]? = some e := ⟨_, List.getElem?_eq_getElem (by rw [HN.out]; exact hlt)⟩
          obtain ⟨bb, off, c', hsl, hcc, hr⟩ := (H2.out.below HB.out).row (by rw [HN.out]; omega)
          rw [HN.out] at hsl hcc
          simp only [Value.slice.injEq, true_and] at hsl
          obtain ⟨rfl, rfl⟩ := hsl
          obtain ⟨c0, c1, c2, c3, c4, c5, c6, c7, c8, c9, c10⟩ := hr.ev hx
          have HX := Lib.hid hx
          have HE := Lib.hid (HO.out e (List.mem_of_getElem? hx))
          go_upto_region 11 with fail
          obtain ⟨B, hB⟩ : ∃ B, wr.heap.size = B := ⟨_, rfl⟩
          obtain ⟨w3, hw3⟩ : ∃ w3, w3 = wr.alloc (.cells #[.int .i64 e.seq, .int .i64 e.time, .int .u8 e.cpu, .int .u8 e.kind, .int .i64 e.task, .int .i64 e.grp, .int .i64 e.to, .int .i64 e.wt, .int .i64 e.ticks, .int .u64 e.mask, .int .i64 e.got] 59) := ⟨_, rfl⟩
          have hbel : Below wr.heap.size wr w3 := by rw [hw3]; exact bel_alloc _ _
          have HEB := Lib.hid (show EvB w3 B e from by rw [hw3, ← hB]; exact EvB.new wr e)
          have HV3 := Lib.hid (HV.out.below hbel)
          have HM3 := Lib.hid (HM.out.below hbel)
          have HB3 := Lib.hid (HB.out.trans (hbel.mono HB.out.size))
          have HBL := Lib.hid (show w.heap.size ≤ B from by have := HB.out.size; omega)
          have d3 := HEB.out.cell (j := 3) rfl
          have d4 := HEB.out.cell (j := 4) rfl
          have d5 := HEB.out.cell (j := 5) rfl
          have d10 := HEB.out.cell (j := 10) rfl
          rw [hB, ← hw3]
          clear hB hw3 hbel c0 c1 c2 c3 c4 c5 c6 c7 c8 c9 c10 hr hcc hx HV HM HB
          rcases (show e.kind = 1 ∨ (e.kind ≠ 1 ∧ e.kind = 5 ∧ 0 < e.got) ∨ (e.kind ≠ 1 ∧ e.kind = 5 ∧ ¬ 0 < e.got) ∨ (e.kind ≠ 1 ∧ e.kind ≠ 5) from by omega) with q1 | ⟨q1, q2, q3⟩ | ⟨q1, q2, q3⟩ | ⟨q1, q2⟩
          · have hk1 : (e.kind == 1) = true := by simp [q1]
            have hk5 : (e.kind == 5) = false := by simp [q1]
            have HRG := Lib.hid (show ranG (ofJ hs l j) e = -1 from by unfold ranG; rw [if_neg (by omega)])
            have HOE := Lib.hid (show mapT (ofE (ofJ hs l j) e) = updF (mapT (ofJ hs l j)) (.int .i64 e.task) (some (.int .i64 e.grp)) from by unfold ofE; rw [if_pos q1, ← mapT_upd]; rfl)
            have KEY := Lib.hid (keyI HE.out.task)
            clear q1
            go_wp2_with (at_mapUpdate; refine wpList_putV (k := 3) (e := 3) rfl _ _ _ (by rfl) lawI Tryd.underlying142 (by rfl) HM3.out (by unfold maxLen; omega) _ _ _ (by rfl) (by rfl) KEY.out ?_)
            intro w4 hm4 hg4
            have HM2 := Lib.hid hm4
            have HO2 := Lib.hid (HV3.out.keep hg4 (by cases hv : u8.ownBlock with | none => exact .inl rfl | some g0 => exact .inr (fun e => HM3.out.ne_row HV3.out (by rw [hv, e]))))
            have HB2 := Lib.hid (HB3.out.grown hg4 HB3.out.size (fun k hk => by cases hk; exact HBB.out))
            replace d3 := (World.cell?_of_block (a := ⟨B, 3, none⟩) (hg4.block B HEB.out.lt (fun e => (HM3.out.ne_cells HEB.out.obj) (Option.some.inj e)))).trans d3
            clear hm4 hg4 d4 d5 d10
            go_wp2_with (at_builtin; refine wpList_app elemI encI_len encI_one rfl _ _ rfl _ _ rfl rfl (HO2.out.alloc _) (new_oneM (z := -1) (by simp)) ?q1 ?q2 ?_)
            case q1 => rw [ranL_len]; (try simp); omega
            case q2 => have := HB2.out.size; simp; omega
            intro v' w5 ho5 hg5
            have HO5 := Lib.hid ho5
            have HB5 := Lib.hid ((HB2.out.alloc HB2.out.size (.cells #[.int .i64 (-1)] 3)).grown hg5 (by have := HB2.out.size; simp; omega) (fun k hk => (HO2.out.block k hk).1))
            have HM5 := Lib.hid ((HM2.out.below (bel_alloc _ (.cells #[.int .i64 (-1)] 3))).kept hg5 (fun e => (HM2.out.below (bel_alloc _ (.cells #[.int .i64 (-1)] 3))).ne_row (HO2.out.alloc (.cells #[.int .i64 (-1)] 3)) e.symm))
            clear ho5 hg5
            go_wp2
            go_roundg (gk - 1)
            case measure => have := HJ.out; omega
            case rel => exact ⟨j + 1, by have := HJ.out; omega, by go_num, by rw [ranL_succ HX.out, HRG.out]; exact HO5.out, by rw [ofJ_succ HX.out, HOE.out]; exact HM5.out, HB5.out⟩
          · have hk1 : (e.kind == 1) = false := by simp [q1]
            have hk5 : (e.kind == 5) = true := by simp [q2]
            have HRG := Lib.hid (show ranG (ofJ hs l j) e = (ofJ hs l j e.got).getD 0 from by unfold ranG; rw [if_pos ⟨q2, q3⟩])
            have HOE := Lib.hid (show mapT (ofE (ofJ hs l j) e) = mapT (ofJ hs l j) from by unfold ofE; rw [if_neg q1])
            have KEY := Lib.hid (keyI HE.out.got)
            have MA := Lib.hid (mapT_at (ofJ hs l j) e.got).1
            clear q1 q2 d4 d5
            generalize (ofJ hs l j e.got).getD 0 = Z at HRG MA
            have HM2 := Lib.hid (HM3.out.mono (m := a + j + 1) (by omega))
            have HO2 := Lib.hid HV3.out
            have HB2 := Lib.hid HB3.out
            go_upto_region 15 with fail
            go_wp2_with (first | (at_lookup; refine wpList_lookV (k := 3) (e := 3) (z := .int .i64 0) rfl _ _ (by rfl) lawI Tryd.underlying142 (zeroI _) (by rfl) HM3.out _ _ (by rfl) KEY.out ?_; rw [MA.out]) | (at_builtin; refine wpList_app elemI encI_len encI_one rfl _ _ rfl _ _ rfl rfl (HO2.out.alloc _) (new_oneM (z := Z) (by simp)) ?q1 ?q2 ?_))
            case q1 => rw [ranL_len]; (try simp); omega
            case q2 => have := HB2.out.size; simp; omega
            intro v' w5 ho5 hg5
            have HO5 := Lib.hid ho5
            have HB5 := Lib.hid ((HB2.out.alloc HB2.out.size (.cells #[.int .i64 (Z)] 3)).grown hg5 (by have := HB2.out.size; simp; omega) (fun k hk => (HO2.out.block k hk).1))
            have HM5 := Lib.hid ((HM2.out.below (bel_alloc _ (.cells #[.int .i64 (Z)] 3))).kept hg5 (fun e => (HM2.out.below (bel_alloc _ (.cells #[.int .i64 (Z)] 3))).ne_row (HO2.out.alloc (.cells #[.int .i64 (Z)] 3)) e.symm))
            clear ho5 hg5
            go_wp2
            go_roundg (gk - 1)
            case measure => have := HJ.out; omega
            case rel => exact ⟨j + 1, by have := HJ.out; omega, by go_num, by rw [ranL_succ HX.out, HRG.out]; exact HO5.out, by rw [ofJ_succ HX.out, HOE.out]; exact HM5.out, HB5.out⟩
          · have hk1 : (e.kind == 1) = false := by simp [q1]
            have hk5 : (e.kind == 5) = true := by simp [q2]
            have HRG := Lib.hid (show ranG (ofJ hs l j) e = -1 from by unfold ranG; rw [if_neg (by omega)])
            have HOE := Lib.hid (show mapT (ofE (ofJ hs l j) e) = mapT (ofJ hs l j) from by unfold ofE; rw [if_neg q1])
            have HM2 := Lib.hid (HM3.out.mono (m := a + j + 1) (by omega))
            have HO2 := Lib.hid HV3.out
            have HB2 := Lib.hid HB3.out
            clear q1 q2 d4 d5
            go_wp2_with (at_builtin; refine wpList_app elemI encI_len encI_one rfl _ _ rfl _ _ rfl rfl (HO2.out.alloc _) (new_oneM (z := -1) (by simp)) ?q1 ?q2 ?_)
            case q1 => rw [ranL_len]; (try simp); omega
            case q2 => have := HB2.out.size; simp; omega
            intro v' w5 ho5 hg5
            have HO5 := Lib.hid ho5
            have HB5 := Lib.hid ((HB2.out.alloc HB2.out.size (.cells #[.int .i64 (-1)] 3)).grown hg5 (by have := HB2.out.size; simp; omega) (fun k hk => (HO2.out.block k hk).1))
            have HM5 := Lib.hid ((HM2.out.below (bel_alloc _ (.cells #[.int .i64 (-1)] 3))).kept hg5 (fun e => (HM2.out.below (bel_alloc _ (.cells #[.int .i64 (-1)] 3))).ne_row (HO2.out.alloc (.cells #[.int .i64 (-1)] 3)) e.symm))
            clear ho5 hg5
            go_wp2
            go_roundg (gk - 1)
            case measure => have := HJ.out; omega
            case rel => exact ⟨j + 1, by have := HJ.out; omega, by go_num, by rw [ranL_succ HX.out, HRG.out]; exact HO5.out, by rw [ofJ_succ HX.out, HOE.out]; exact HM5.out, HB5.out⟩
          · have hk1 : (e.kind == 1) = false := by simp [q1]
            have hk5 : (e.kind == 5) = false := by simp; omega
            have HRG := Lib.hid (show ranG (ofJ hs l j) e = -1 from by unfold ranG; rw [if_neg (by omega)])
            have HOE := Lib.hid (show mapT (ofE (ofJ hs l j) e) = mapT (ofJ hs l j) from by unfold ofE; rw [if_neg q1])
            have HM2 := Lib.hid (HM3.out.mono (m := a + j + 1) (by omega))
            have HO2 := Lib.hid HV3.out
            have HB2 := Lib.hid HB3.out
            clear q1 q2 d4 d5
            go_wp2_with (at_builtin; refine wpList_app elemI encI_len encI_one rfl _ _ rfl _ _ rfl rfl (HO2.out.alloc _) (new_oneM (z := -1) (by simp)) ?q1 ?q2 ?_)
            case q1 => rw [ranL_len]; (try simp); omega
            case q2 => have := HB2.out.size; simp; omega
            intro v' w5 ho5 hg5
            have HO5 := Lib.hid ho5
            have HB5 := Lib.hid ((HB2.out.alloc HB2.out.size (.cells #[.int .i64 (-1)] 3)).grown hg5 (by have := HB2.out.size; simp; omega) (fun k hk => (HO2.out.block k hk).1))
            have HM5 := Lib.hid ((HM2.out.below (bel_alloc _ (.cells #[.int .i64 (-1)] 3))).kept hg5 (fun e => (HM2.out.below (bel_alloc _ (.cells #[.int .i64 (-1)] 3))).ne_row (HO2.out.alloc (.cells #[.int .i64 (-1)] 3)) e.symm))
            clear ho5 hg5
            go_wp2
            go_roundg (gk - 1)
            case measure => have := HJ.out; omega
            case rel => exact ⟨j + 1, by have := HJ.out; omega, by go_num, by rw [ranL_succ HX.out, HRG.out]; exact HO5.out, by rw [ofJ_succ HX.out, HOE.out]; exact HM5.out, HB5.out⟩
        · obtain rfl : n = j := by have := HJ.out; omega
          go_wp2
          go_ret
          exact ⟨_, rfl, HV.out, HB.out⟩
end Go.Proofs.YtaplangfppohdaaDoor
namespace Go.Proofs.YtaplangfppohdaaDoor
open Go Go.RowKit Go.Maps Go.WideElems
open Go.ChangeMaps (setBlock heap_setBlock_same heap_setBlock_other)
open Go.WideMaps (KeyLaw)

/-- Block b is a map of just c entries that holds F. -/
def MpC (P : Program) (k : TypeId) (w : World) (b c : Nat) (F : Lit → Option Value) : Prop := ∃ D, w.ownsMap P k tokR b c D ∧ Rep D F ∧ Maps.size D = c
section
variable {P : Program} {k e t : TypeId} {w w' : World} {b c : Nat} {F : Lit → Option Value}
theorem MpC.mpv (h : MpC P k w b c F) : MpV P k w b c F := by obtain ⟨D, h1, h2, _⟩ := h; exact ⟨D, h1, h2⟩
theorem MpC.made (P : Program) (k : TypeId) (w : World) : MpC P k (w.alloc (.map #[] 0)) w.heap.size 0 (fun _ => none) :=
  ⟨_, World.ownsMap_made w P k tokR, fun kl => ⟨fun v h => (nomatch h), fun _ => rfl⟩, rfl⟩
theorem MpC.same (h : MpC P k w b c F) (he : w'.heap[b]? = w.heap[b]?) : MpC P k w' b c F := by
  obtain ⟨D, ⟨es, clock, h1, h2⟩, r, hs⟩ := h
  exact ⟨D, ⟨es, clock, he.trans h1, h2⟩, r, hs⟩
theorem MpC.below (h : MpC P k w b c F) (hb : Below w.heap.size w w') : MpC P k w' b c F := h.same (hb.block b h.mpv.lt)
theorem MpC.kept {row : Option Nat} (h : MpC P k w b c F) (hg : w.grownBy w' row) (hne : some b ≠ row) : MpC P k w' b c F := h.same (hg.block b h.mpv.lt hne)
theorem MpC.len (h : MpC P k w b c F) (ht : P.underlying t = some (.map k e)) (ty : TypeId) : (Builtin.len_ #[t] ty #[.map (some b)]).run P w = .ok (.int .i64 c) w := by
  obtain ⟨D, h1, _, h3⟩ := h
  rw [h1.len ht ty, h3]
/-- How many entries there are behind a store. -/
def cntP (F : Lit → Option Value) (kl : Lit) (c : Nat) : Nat := if (F kl).isSome then c else c + 1
theorem MpC.update (h : MpC P k w b c F) (K : Keyed P k) (ht : P.underlying t = some (.map k e)) (hn : c < maxLen) {key : Value} {kl : Lit} (hkey : keyOf P k key = some kl) (v : Value) :
    ∃ w', (Instr.mapUpdate t (.map (some b)) key v).run P w = .ok () w' ∧ MpC P k w' b (cntP F kl c) (updF F kl (some v)) ∧ w.grownBy w' (some b) := by
  obtain ⟨D, h, r, hs⟩ := h
  obtain ⟨w', hr, h1, h2⟩ := h.update K ht hn hkey (show tokR v = some (.held v, []) from rfl)
  have hsz : Maps.size (D.put kl (.held v)) = cntP F kl c := by
    rw [size_put (h.tidy K), rep_has r, hs]; rfl
  obtain ⟨es, clock, a1, a2, a3, a4⟩ := h1
  have : es.size = Maps.size (D.put kl (.held v)) := by
    rw [a4]; simp [Maps.size, length_sorted]
  exact ⟨w', hr, ⟨_, ⟨es, clock, a1, a2, by omega, a4⟩, rep_put h.isMap (K.one.key ⟨key, hkey⟩) r v, hsz⟩, h2⟩
theorem entry_update {H : Type} {R : Value → Option (DataW H × List MemPlace)} {es : Array MapEntry} {clock : Nat} (K : KeyLaw P k) (ht : P.underlying t = some (.map k e)) {z : Value} (hz : ∀ u : World, (zeroValue e).run P u = .ok z u) (hb : w.heap[b]? = some (.map es clock)) (F : Fit P k R es clock)
    {key : Value} {kl : Lit} (hkey : keyOf P k key = some kl) :
    ∃ (v0 : Value) (st : Nat) (es1 : Array MapEntry) (clock1 : Nat), (Instr.mapEntry t (.map (some b)) key).run P w = .ok (.tuple #[v0, goInt st]) (setBlock w b (.map es1 clock1)) ∧
      (Instr.mapUpdate t (.map (some b)) key v0).run P w = .ok () (setBlock w b (.map es1 clock1)) ∧ (Instr.lookup t (.map (some b)) key false).run P w = .ok v0 w := by
  rcases K.find w hkey es.toList F.keys with ⟨h1, h2⟩ | ⟨j, e0, h1, h2, h3⟩
  · refine ⟨z, clock, es.push ⟨key, z, clock⟩, clock + 1, ?_, ?_, ?_⟩
    · simp [Instr.mapEntry, run_underlying ht, MapKept.run_getObj_map hb, K.check w false hkey, h1, hz, MapKept.run_setObj_map _ hb, Result.andThen, setBlock]
    · simp [Instr.mapUpdate, run_underlying ht, MapKept.run_getObj_map hb, K.check w false hkey, h1, MapKept.run_setObj_map _ hb, Result.andThen, setBlock]
    · simp [Instr.lookup, run_underlying ht, MapKept.run_getObj_map hb, K.check w _ hkey, h1, hz, Result.andThen]
  · have hj : es[j]? = some e0 := by simpa using h2
    have hsame : es.modify j (fun e => { e with key := key }) = es := by
      apply Array.ext'
      rw [Array.toList_modify, Go.ChangeMaps.modify_eq_set _ _ _ _ h2]
      have : ({ e0 with key := key } : MapEntry) = e0 := by rw [← h3]
      rw [this]
      exact set_self _ _ _ h2
    have hsame2 : es.modify j (fun e => { e with key := key, val := e0.val }) = es := by
      apply Array.ext'
      rw [Array.toList_modify, Go.ChangeMaps.modify_eq_set _ _ _ _ h2]
      have : ({ e0 with key := key, val := e0.val } : MapEntry) = e0 := by rw [← h3]
      rw [this]
      exact set_self _ _ _ h2
    refine ⟨e0.val, e0.born, es, clock, ?_, ?_, ?_⟩
    · simp [Instr.mapEntry, run_underlying ht, MapKept.run_getObj_map hb, K.check w false hkey, h1, hj, h3, K.stays w hkey, hsame, MapKept.run_setObj_map _ hb, Result.andThen, setBlock]
    · simp [Instr.mapUpdate, run_underlying ht, MapKept.run_getObj_map hb, K.check w false hkey, h1, hj, h3, K.stays w hkey, hsame2, MapKept.run_setObj_map _ hb, Result.andThen, setBlock]
    · simp [Instr.lookup, run_underlying ht, MapKept.run_getObj_map hb, K.check w _ hkey, h1, hj, Result.andThen]
theorem MpC.entry (h : MpC P k w b c F) (KL : KeyLaw P k) (K : Keyed P k) (ht : P.underlying t = some (.map k e)) {z : Value} (hz : ∀ u : World, (zeroValue e).run P u = .ok z u) (hn : c < maxLen) {key : Value} {kl : Lit} (hkey : keyOf P k key = some kl) :
    ∃ (st : Nat) (w1 : World), (Instr.mapEntry t (.map (some b)) key).run P w = .ok (.tuple #[(F kl).getD z, goInt st]) w1 ∧ MpC P k w1 b (cntP F kl c) (updF F kl (some ((F kl).getD z))) ∧ w.grownBy w1 (some b) ∧
      ∀ (w2 : World) (val : Value), w2.heap[b]? = w1.heap[b]? → ∃ w3, (Instr.entryStore t (.map (some b)) (goInt st) val).run P w2 = .ok () w3 ∧ MpC P k w3 b (cntP F kl c) (updF F kl (some val)) ∧ w2.grownBy w3 (some b) := by
  have hl := h.mpv.look K ht (hz w) hkey
  obtain ⟨es, clock, hb, Fi⟩ : ∃ es clock, w.heap[b]? = some (.map es clock) ∧ Fit P k (tokR) es clock := by
    obtain ⟨D, ⟨es, clock, h1, h2, _⟩, _⟩ := h; exact ⟨es, clock, h1, h2⟩
  obtain ⟨v0, st, es1, clock1, r1, r2, r3⟩ := entry_update KL ht hz hb Fi hkey
  obtain ⟨v0', st', es1', clock1', q1, _, q3⟩ := entry_then_store KL ht hz hb Fi hkey
  rw [r1] at q1
  simp only [Result.ok.injEq, Value.tuple.injEq] at q1
  obtain ⟨q1, q2⟩ := q1
  simp only [Array.mk.injEq, List.cons.injEq, and_true] at q1
  obtain ⟨rfl, hst⟩ := q1
  rw [hl] at r3
  simp only [Result.ok.injEq, and_true] at r3
  obtain ⟨w1, u1, u2, u3⟩ := h.update K ht hn hkey v0
  rw [r2] at u1
  simp only [Result.ok.injEq, true_and] at u1
  subst u1
  rw [r3]
  refine ⟨st, _, r1, u2, u3, fun w2 val hw2 => ?_⟩
  have hblk : (setBlock w b (.map es1 clock1)).heap[b]? = some (.map es1' clock1') := by rw [q2]; exact heap_setBlock_same hb _
  rw [hblk] at hw2
  obtain ⟨es', clock', g1, g2⟩ := q3 w2 val hw2
  obtain ⟨w4, y1, y2, y3⟩ := h.update K ht hn hkey val
  rw [g2] at y1
  simp only [Result.ok.injEq, true_and] at y1
  subst y1
  refine ⟨setBlock w2 b (.map es' clock'), by rw [hst]; exact g1, y2.same ?_, ⟨rfl, rfl, rfl, by simp [setBlock], fun i _ hi => heap_setBlock_other hw2 _ (fun e => hi (by rw [e]))⟩⟩
  rw [heap_setBlock_same hw2, heap_setBlock_same hb]
end
end Go.Proofs.YtaplangfppohdaaDoor
namespace Go.Proofs.YtaplangfppohdaaDoor
open Go.RowKit Go.Shelf
attribute [local go_sem] Oper.semAt_some

set_option maxHeartbeats 400000 in
theorem those_ok (w : World) (A : Option Addr) (n c : Nat) (gf : Nat) (lb : Array Value) (p : Nat → Bool) (hn : n ≤ 100000) (eg : ∀ args w, (callFunc gf args).run Tryd.prog w = .ok (.enter gf args) w)
    (hp : ∀ (W : World) (x : Nat), Below w.heap.size w W → x < n → Calls Tryd.prog gf (#[.int .i64 x] ++ lb) W fun e W' => e = .returned (.bool (p x)) ∧ Below W.heap.size W W') :
    Calls Tryd.prog 63 #[.slice A n c, .func (.func gf) #[] lb] w fun e w' => ∃ r, e = .returned r ∧ OV encI 1 3 w.heap.size w' r (chosen p n) ∧ Below w.heap.size w w' := by
  have HP := Lib.hid hp
  clear hp
  go_enter Tryd.func63, Tryd.ntmps63
  go_wp2
  go_loopg [5, 9] n (fun k v i wr => ∃ j : Nat, j + k = n ∧ i = .int .i64 j ∧ OV encI 1 3 w.heap.size wr v (chosen p j) ∧ Below w.heap.size w wr)
  case atStart => exact ⟨0, by omega, rfl, OV.nil _ _, Below.refl _ _⟩
  case round =>
    rename_i v0 _ _ _ _
    obtain ⟨j, hj, rfl, ho, hb⟩ := hrel
    have HJ := Lib.hid hj
    have HO := Lib.hid ho
    have HB := Lib.hid hb
    have hsz := hb.size
    clear hj ho hb
    by_cases hlt : j < n
    · have hc := HP.out wr j HB.out hlt
      have HC := Lib.hid hc
      clear hc
      have hcl := chosen_len p j
      have HS := Lib.hid (chosen_succ p j)
      go_wp2_with fail
      refine HC.out.mono ?_
      rintro e w1 ⟨rfl, hb1⟩
      have hbw := HB.out.trans (hb1.mono hsz)
      have how := HO.out.below hb1
      have hsz1 := hbw.size
      clear HC hb1
      cases hpj : p j with
      | false =>
        rw [hpj] at HS
        have HPJ := Lib.hid hpj
        clear hpj
        go_wp2
        go_roundg (gk - 1)
        case measure => have := HJ.out; omega
        case rel => exact ⟨j + 1, by have := HJ.out; omega, by go_num, by rw [HS.out]; simpa using how, hbw⟩
      | true =>
        rw [hpj] at HS
        have HPJ := Lib.hid hpj
        clear hpj
        go_wp2_with (at_builtin; refine wpList_app elemI encI_len encI_one rfl _ _ rfl _ _ rfl rfl (how.alloc _) (new_one (z := (j : Int))) ?q1 ?q2 ?_)
        case q1 => simp; omega
        case q2 => simp; omega
        intro v' w2 ho2 hg2
        have hb2 : Below w.heap.size w w2 := (hbw.alloc hsz1 _).grown hg2 (by simp; omega) (fun k hk => (how.block k hk).1)
        clear hg2
        go_wp2
        go_roundg (gk - 1)
        case measure => have := HJ.out; omega
        case rel => exact ⟨j + 1, by have := HJ.out; omega, by go_num, by rw [HS.out]; exact ho2, hb2⟩
    · obtain rfl : j = n := by have := HJ.out; omega
      go_wp2
      go_ret
      exact ⟨_, rfl, HO.out, HB.out⟩



/-- A function with one range over a function returns, its result lies in a cell. -/
theorem results_cell47 (w : World) (tmps : Array Value) (B : Nat) (b : Bool) (ht : tmps.getD 4 undef = .pointer (some ⟨B, 0, none⟩)) (hc : w.cell? ⟨B, 0, none⟩ = some (.bool b)) :
    (results Tryd.f64 tmps).run Tryd.prog w = .ok (.bool b) w := by
  have ht' : tmps[4]?.getD undef = .pointer (some ⟨B, 0, none⟩) := by simpa using ht
  simp [results, Tryd.results64, go_sem, ht', hc]
theorem post_mark_cell {P : Program} {fn : Func} {R : Ending → World → Prop} {tmps : Array Value} {w : World} {D : Nat} {v : Value}
    (hK : w.heap[D]? = some (.deferred (some []))) (hr : (results fn tmps).run P (w.putObj D (.deferred none)) = .ok v (w.putObj D (.deferred none))) (hR : R (.returned v) (w.putObj D (.deferred none))) :
    bodyPostM W0 0 P fn R .ret { tmps, defers := [{ target := .collected D, args := #[] }] } w :=
  ⟨by simp, .inl ⟨_, _, rfl, run_takeDeferred hK, ⟨_, hr, hR⟩⟩⟩
theorem notin_path {p : List Nat} {g k x : Nat} (h : g ∉ p.take k) (hx : p[k]? = some x) (hne : ¬ x = g) : g ∉ p.take (k + 1) := notin_step h hx (fun e => hne e.symm)

set_option maxHeartbeats 400000 in
theorem under1_ok (w : World) (Bl Bg b off c x g : Nat) (gs : List (Int × Int)) (hok : GOK gs) (hx : x < gs.length) (hlen : gs.length ≤ 100000) (hr : ER encG 2 w b off gs)
    (h1 : w.cell? ⟨Bl, 0, none⟩ = some (.slice (some ⟨b, off, none⟩) gs.length c)) (h2 : w.cell? ⟨Bg, 0, none⟩ = some (.int .i64 g)) :
    Calls Tryd.prog 64 #[.int .i64 x, .pointer (some ⟨Bl, 0, none⟩), .pointer (some ⟨Bg, 0, none⟩)] w fun e w' => e = .returned (.bool (underB gs g x)) ∧ Below w.heap.size w w' := by
  refine of_in ?_
  have D := Lib.hid (fun (w1 : World) (Bg Bl : Nat) (h : Below w.heap.size w w1) h1 h2 h3 h4 h5 => up1_iter w1 Bg Bl b off c x gs (path gs x) (path_up hok.bef (Nat.le_refl _) x hx) (path_head hok.bef hx) h1 h2 h3 (hr.below h) hlen h4 h5)
  have hbl : b < w.heap.size := hr.lt hok.pos (fun _ => by simp [encG_len])
  have hBg := cell_lt h2
  simp only at hBg
  have HU := Lib.hid (show underB gs g x = (path gs x).contains g from rfl)
  have HBB := Lib.hid h2
  clear hr hok
  generalize path gs x = p at D HU
  have hfn : ∀ f, W0.fn f := fun _ => trivial
  have hd0 : W0.depth = none := rfl
  have h1' : ∀ o, (w.alloc o).cell? ⟨Bl, 0, none⟩ = some (.slice (some ⟨b, off, none⟩) gs.length c) := fun o => below_cell ((Below.refl _ _).alloc (Nat.le_refl _) o) h1
  refine callsIn_of_wp_marks Tryd.func64 rfl trivial ?_ rfl
  simp only [Tryd.ntmps64, List.size_toArray, List.length_cons, List.length_nil, Nat.reduceAdd, Nat.reduceSub, Array.replicate_succ, Array.replicate_zero, List.push_toArray, List.append_toArray, List.nil_append, List.cons_append]
  gi_wp2
  clear h1'
  refine (up_ok _ _ _ _ _).mono ?_
  rintro e w1 ⟨rfl, hw⟩
  have hb0 : Below w.heap.size w w1 := by rw [← hw]; exact (((Below.refl _ _).alloc (Nat.le_refl _) _).alloc (by simp) _).alloc (by simp; omega) _
  have hz : w1.heap.size = w.heap.size + 3 := by rw [← hw]; simp
  have bx : Boxed w1 w.heap.size 4 (.bool false) := by rw [← hw]; exact ((Boxed.new _ _ _).alloc _).alloc _
  have i := D.out w1 (w.heap.size + 2) (w.heap.size + 1) hb0 (by rw [← hw]; simp [go_sem]) (by rw [← hw]; simp [go_sem]) (by rw [← hw]; simp [go_sem]) (by omega) (by omega)
  have h2' := hb0.cell (p := ⟨Bg, 0, none⟩) hBg
  rw [HBB.out] at h2'
  have HZ := Lib.hid hz
  clear hw h1 h2
  gi_wp2
  refine wp_range (xs := fun k => #[.int .i64 (p[k]?.getD 0 : Nat)]) rfl (enters_of Tryd.func88 (by kernel_rfl) rfl) i
    (fun k e => by subst e; omega) (fun k e => by omega) (fun k => rfl)
    (fun k W => Boxed W w.heap.size 4 (.bool false) ∧ g ∉ p.take k ∧ Below w.heap.size w W) (fun jc W => jc = .ret ∧ Boxed W w.heap.size 4 (.bool true) ∧ g ∈ p ∧ Below w.heap.size w W)
    (fun k W1 W2 h hc => ⟨h.1.chg hc (fun e => by simp at e), h.2.1, hc.below h.2.2 (Nat.le_refl _) (by omega) (fun k e => by omega)⟩)
    (fun k W1 W2 h hc => ⟨h.1, h.2.1.chg hc (fun e => by simp at e), h.2.2.1, hc.below h.2.2.2 (Nat.le_refl _) (by omega) (fun k e => by omega)⟩) ⟨bx, by simp, hb0⟩ ?round ?done ?stop
  case round =>
    rintro l k W hk hl hl2 ⟨q1, q2, q3⟩
    obtain ⟨y, hy⟩ : ∃ y, p[k]? = some y := ⟨_, List.getElem?_eq_getElem hk⟩
    rw [hy, Option.getD_some]
    have HY := Lib.hid hy
    have HN := Lib.hid q2
    clear hy q2
    gi_wp2
    refine ⟨BK.refl _ _, fun W2 hc hq => ?_⟩
    have g1 := q1.chg hc (fun t => t)
    have g3 := hc.below q3 (Nat.le_refl _) (by omega) (fun k t => t.elim)
    have g4 := g3.cell (p := ⟨Bg, 0, none⟩) hBg
    rw [HBB.out] at g4
    have g1c := g1.cell
    have g1f := g1.frozen
    clear q1 q3 hc hq bx i h2'
    by_cases he : y = g
    · subst he
      gi_wp2
      exact ⟨BK.setCell _ g1.cell (by simp; omega), rfl, g1.set _, List.mem_of_getElem? HY.out, g3.setCell (Nat.le_refl _) _⟩
    · have he' : ((y : Int) == (g : Int)) = false := by simp; omega
      have HE := Lib.hid he
      clear he
      gi_wp2
      exact ⟨BK.refl _ _, g1, notin_path HN.out HY.out HE.out, g3⟩
  case done =>
    rintro D W ⟨q1, q2, q3⟩ hD hK
    have q1c := q1.cell
    have q1f := q1.frozen
    have e : underB gs g x = false := by
      rw [HU.out]
      rw [List.take_of_length_le (Nat.le_refl _)] at q2
      simpa using q2
    have E := Lib.hid e
    have HQ := Lib.hid q2
    have hne : D ≠ w.heap.size := by omega
    have hK2 : (W.setCell ⟨w.heap.size, 0, none⟩ (.bool false)).heap[D]? = some (.deferred (some [])) := (Below.heap_setCell _ _ _ _ hne).trans hK
    clear bx i e q2 h2'
    gi_wp2
    refine post_mark_cell hK2 (results_cell47 _ _ w.heap.size false rfl ?_) ⟨ret_bool E.out.symm, below_putObj (q3.setCell (Nat.le_refl _) _) (by omega) _⟩
    have := (q1.set (.bool false)).chg (Chg.putObj (B := 0) (T := fun _ => False) (o' := .deferred none) hK2 rfl (Nat.zero_le _)) (fun t => t)
    exact this.cell
  case stop =>
    rintro D jc W ⟨rfl, q1, q2, q3⟩ hD hK
    have e : underB gs g x = true := by
      rw [HU.out]
      simpa using q2
    have E := Lib.hid e
    have HQ := Lib.hid q2
    clear bx i e q2 h2'
    gi_wp2
    refine post_mark_cell hK (results_cell47 _ _ w.heap.size true rfl ?_) ⟨ret_bool E.out.symm, below_putObj q3 (by omega) _⟩
    have := q1.chg (Chg.putObj (B := 0) (T := fun _ => False) (o' := .deferred none) hK rfl (Nat.zero_le _)) (fun t => t)
    exact this.cell

set_option maxHeartbeats 400000 in
theorem under_ok (w : World) (v : Value) (gs : List (Int × Int)) (z : Int) (hv : EV encG 2 w v gs) (hlen : gs.length ≤ 100000) :
    Calls Tryd.prog 23 #[v, .int .i64 z] w fun e w' => ∃ r, e = .returned (.tuple #[r, .int .i64 (thereZ gs [z])]) ∧ OV encI 1 3 w.heap.size w' r (underL gs z) ∧ Below w.heap.size w w' := by
  have HT := Lib.hid (fun (w1 : World) (h : Below w.heap.size w w1) => there_one w1 v gs z (hv.below h) hlen)
  obtain ⟨A, c, rfl⟩ := hv.shape
  by_cases ht : thereZ gs [z] = 0
  · have hd : underL gs z = chosen (underB gs z.toNat) gs.length := if_pos ht
    obtain ⟨hok, hz⟩ := there_zero.1 ht
    obtain ⟨hz1, hz2⟩ := hz z (by simp)
    obtain ⟨g, rfl⟩ := Int.eq_ofNat_of_zero_le hz1
    rw [Int.toNat_natCast] at hd
    obtain ⟨b, off, c', he, hc, hr⟩ := hv.row hok.pos
    simp only [Value.slice.injEq, true_and] at he
    obtain ⟨rfl, rfl⟩ := he
    have C := Lib.hid (fun (w1 : World) (Bl Bg : Nat) (h : Below w.heap.size w w1) (h1 : w1.cell? ⟨Bl, 0, none⟩ = some (.slice (some ⟨b, off, none⟩) gs.length c)) (h2 : w1.cell? ⟨Bg, 0, none⟩ = some (.int .i64 g)) =>
      those_ok w1 (some ⟨b, off, none⟩) gs.length c 64 #[.pointer (some ⟨Bl, 0, none⟩), .pointer (some ⟨Bg, 0, none⟩)] (underB gs g) hlen (enters_of Tryd.func64 (by kernel_rfl) rfl)
        (fun W x hb hx => under1_ok W Bl Bg b off c x g gs hok hx hlen (hr.below (h.trans (hb.mono h.size))) (below_cell hb h1) (below_cell hb h2)))
    rw [ht] at HT
    rw [ht, hd]
    clear hv hr hz hz1 hd ht hok
    go_enter Tryd.func23, Tryd.ntmps23
    go_wp2_with fail
    refine (HT.out _ (((Below.refl _ _).alloc (Nat.le_refl _) _).alloc (by simp) _) _ (by simp)).mono ?_
    rintro e w1 ⟨rfl, hb⟩
    have hb0 := (((Below.refl _ w).alloc (Nat.le_refl _) (.cells #[.slice (some ⟨b, off, none⟩) gs.length c] 37)).alloc (by simp) (.cells #[.int .i64 g] 3)).trans (hb.mono (by simp; omega))
    have c0 := below_cell hb (p := ⟨w.heap.size, 0, none⟩) (u := .slice (some ⟨b, off, none⟩) gs.length c) (by simp [go_sem])
    have c1 := below_cell hb (p := ⟨w.heap.size + 1, 0, none⟩) (u := .int .i64 g) (by simp [go_sem])
    have hsz := hb0.size
    clear hb HT
    go_wp2_with fail
    refine (C.out w1 w.heap.size (w.heap.size + 1) hb0 c0 c1).mono ?_
    rintro e w2 ⟨r, rfl, ho, hb2⟩
    have hb3 := hb0.trans (hb2.mono hsz)
    have ho' := ho.base_le hsz
    clear ho hb2 c0 c1
    go_wp2
    go_ret2
    exact ⟨r, rfl, ho', hb3⟩
  · have hd : underL gs z = [] := if_neg ht
    rw [hd]
    generalize thereZ gs [z] = t at HT ht ⊢
    have ht' : (t != 0) = true := by simp [ht]
    clear ht hv hd
    go_enter Tryd.func23, Tryd.ntmps23
    go_wp2_with fail
    refine (HT.out _ (((Below.refl _ _).alloc (Nat.le_refl _) _).alloc (by simp) _) _ (by simp)).mono ?_
    rintro e w1 ⟨rfl, hb⟩
    have hb0 := (((Below.refl _ w).alloc (Nat.le_refl _) (.cells #[.slice A gs.length c] 37)).alloc (by simp) (.cells #[.int .i64 z] 3)).trans (hb.mono (by simp; omega))
    clear hb HT
    go_wp2
    go_ret2
    exact ⟨_, rfl, OV.nil _ _, hb0⟩

end Go.Proofs.YtaplangfppohdaaDoor
namespace Go.Proofs.YtaplangfppohdaaDoor
open Go.RowKit Go.Shelf Go.Maps

/-- The period of each time of a tick: a times p on. -/
def timesT (a p n : Nat) : List Int := (List.range n).map fun i => (((a + i) / p : Nat) : Int)
theorem timesT_add (a p m d : Nat) : timesT a p (m + d) = timesT a p m ++ timesT (a + m) p d := by
  unfold timesT
  rw [List.range_add, List.map_append, List.map_map]
  congr 1
  apply List.map_congr_left
  intro i _
  simp only [Function.comp_apply, Nat.add_assoc]
theorem timesT_const {a p d c : Nat} (h : ∀ i, i < d → (a + i) / p = c) (x : Int) : ((timesT a p d).count x : Int) = if (c : Int) = x then (d : Int) else 0 := by
  have : timesT a p d = List.replicate d (c : Int) := by
    apply List.ext_getElem?
    intro i
    unfold timesT
    rw [List.getElem?_replicate, List.getElem?_map]
    by_cases hi : i < d
    · rw [if_pos hi]; simp [hi]; exact_mod_cast h i hi
    · rw [if_neg hi]; simp [hi]
  rw [this, List.count_replicate]
  by_cases hc : (c : Int) = x
  · simp [hc]
  · simp [hc]
theorem times_upto {t a p : Nat} (hp : 1 ≤ p) (ha : a < t) (x : Int) : ∀ k, k ≤ nP t a p → ((timesT a p (cutA t a p k - a)).count x : Int) = sumP (uptoP (partI t a p) k) x
  | 0, _ => by
    have : cutA t a p 0 = a := by unfold cutA; rw [if_pos rfl]
    rw [this, Nat.sub_self]; rfl
  | k + 1, hk => by
    have ih := times_upto hp ha x k (by omega)
    obtain ⟨f1, f2, f3, f4⟩ := cutA_facts (N := nP t a p) hp ha rfl (by omega : k < nP t a p)
    obtain ⟨_, g1, g2⟩ := cut_sum hp ha (by omega : k < nP t a p)
    rw [uptoP_succ, sumP_append, sumP_one, ← ih]
    rw [show cutA t a p (k + 1) - a = (cutA t a p k - a) + (cutA t a p (k + 1) - cutA t a p k) by omega, timesT_add, List.count_append]
    rw [show a + (cutA t a p k - a) = cutA t a p k by omega]
    have hc := timesT_const (a := cutA t a p k) (p := p) (d := cutA t a p (k + 1) - cutA t a p k) (c := a / p + k) (fun i hi => by
      apply Nat.le_antisymm
      · have h1 : cutA t a p k + i < (a / p + k + 1) * p := by omega
        have := (Nat.div_lt_iff_lt_mul (by omega : 0 < p)).2 h1
        omega
      · rw [← f2]; exact Nat.div_le_div_right (by omega)) x
    rw [Int.natCast_add, hc]
    rw [partI_fst]
    unfold partI
    dsimp only
    split <;> omega
theorem times_sum {t n p : Nat} (hp : 1 ≤ p) (h1 : 1 ≤ n) (h2 : n ≤ t) (x : Int) : ((timesT (t - n) p n).count x : Int) = sumP (partsL t n p) x := by
  have h := times_upto (t := t) (a := t - n) hp (by omega) x (nP t (t - n) p) (Nat.le_refl _)
  have hc : cutA t (t - n) p (nP t (t - n) p) = t := by
    unfold cutA nP
    rw [if_neg (by omega)]
    have e : (t - n) / p + ((t - 1) / p - (t - n) / p + 1) = (t - 1) / p + 1 := by
      have : (t - n) / p ≤ (t - 1) / p := Nat.div_le_div_right (by omega)
      omega
    rw [e]
    have := Nat.lt_div_mul_add (a := t - 1) (b := p) (by omega)
    rw [Nat.add_mul, Nat.one_mul]
    omega
  rw [hc, show t - (t - n) = n by omega] at h
  rw [h]; rfl

/-- The times of a tick, each with its CPU and period. -/
def pairsR (p : Nat) (c : Int) (t n : Nat) : List (Int × Int) := (timesT (t - n) p n).map fun k => (c, k)
theorem pairs_count {p t n : Nat} (c c' x : Int) : (pairsR p c t n).count (c', x) = if c = c' then (timesT (t - n) p n).count x else 0 := by
  unfold pairsR
  by_cases h : c = c'
  · subst h
    rw [if_pos rfl]
    rw [List.count_eq_countP, List.count_eq_countP, List.countP_map]
    apply List.countP_congr
    intro y _
    simp
  · rw [if_neg h, List.count_eq_zero]
    intro hm
    obtain ⟨_, _, e⟩ := List.mem_map.1 hm
    exact h (by simpa using (congrArg Prod.fst e))
def pairsO (gs : List (Int × Int)) (g p : Nat) (o : List Rn) : List (Int × Int) := o.flatMap fun t => if hitB gs ⟨g, p, p⟩ t = true then pairsR p t.cpu t.time.toNat t.ticks.toNat else []
theorem pairsO_snoc (gs : List (Int × Int)) (g p : Nat) (o : List Rn) (t : Rn) : pairsO gs g p (o ++ [t]) = pairsO gs g p o ++ if hitB gs ⟨g, p, p⟩ t = true then pairsR p t.cpu t.time.toNat t.ticks.toNat else [] := by
  unfold pairsO; rw [List.flatMap_append]; simp
theorem pairs_use {gs : List (Int × Int)} {G g p : Nat} (hp : 1 ≤ p) (c x : Int) : ∀ o : List Rn, (∀ t ∈ o, RnOk G t) → ((pairsO gs g p o).count (c, x) : Int) = useAt gs ⟨g, p, p⟩ c o x := by
  intro o
  refine snoc_ind (p := fun o => (∀ t ∈ o, RnOk G t) → ((pairsO gs g p o).count (c, x) : Int) = useAt gs ⟨g, p, p⟩ c o x) (fun _ => rfl) (fun l t ih h => ?_) o
  have ih := ih (fun y hy => h y (by simp [hy]))
  have ht := h t (by simp)
  rw [pairsO_snoc, List.count_append, Int.natCast_add, ih]
  unfold useAt
  rw [List.map_append, List.sum_append]
  simp only [List.map_cons, List.map_nil, List.sum_cons, List.sum_nil, Int.add_zero]
  congr 1
  obtain ⟨h1, h2, h3, h4⟩ := ht
  have hs := times_sum (t := t.time.toNat) (n := t.ticks.toNat) hp (by omega) (by omega) x
  by_cases hh : hitB gs ⟨g, p, p⟩ t = true
  · rw [if_pos hh, pairs_count]
    by_cases hc : t.cpu = c
    · rw [if_pos hc, if_pos ⟨hc, hh⟩, hs]; unfold tickP; rw [Int.toNat_natCast]
    · rw [if_neg hc, if_neg (fun h => hc h.1)]; rfl
  · rw [if_neg hh, if_neg (fun h => hh h.2)]; rfl
/-! ### by events -/
def pairsE (gs : List (Int × Int)) (g p : Nat) (x : Int) (e : Ev) : List (Int × Int) := if (underL gs g).contains x = true then pairsR p e.cpu e.time.toNat e.ticks.toNat else []
def pairsJ (gs : List (Int × Int)) (g p : Nat) (hs : List (Int × Int)) (l : List Ev) (j : Nat) : List (Int × Int) :=
  (List.range j).flatMap fun i => match l[i]? with | some e => pairsE gs g p (ranG (ofJ hs l i) e) e | none => []
theorem pairsJ_succ {gs : List (Int × Int)} {g p : Nat} {hs : List (Int × Int)} {l : List Ev} {j : Nat} {e : Ev} (hx : l[j]? = some e) :
    pairsJ gs g p hs l (j + 1) = pairsJ gs g p hs l j ++ pairsE gs g p (ranG (ofJ hs l j) e) e := by
  unfold pairsJ; rw [List.range_succ, List.flatMap_append]; simp [hx]
theorem under_mem {gs : List (Int × Int)} (hg : GOK gs) {g : Nat} (h : g < gs.length) (x : Int) : (underL gs g).contains x = true ↔ 0 ≤ x ∧ x < gs.length ∧ g ∈ path gs x.toNat := by
  unfold underL
  rw [if_pos (there_zero.2 ⟨hg, fun z hz => by simp only [List.mem_singleton] at hz; omega⟩), Int.toNat_natCast]
  unfold chosen ints underB
  simp only [List.contains_iff_mem, List.mem_map, List.mem_filter, List.mem_range]
  constructor
  · rintro ⟨a, ⟨h1, h2⟩, rfl⟩
    exact ⟨by omega, by omega, by simpa using h2⟩
  · rintro ⟨h1, h2, h3⟩
    exact ⟨x.toNat, ⟨by omega, by simpa using h3⟩, by omega⟩
theorem homes_eq {n : Nat} {hs : List (Int × Int)} {T : Int → Option Int} (h : homesR n hs = some T) : T = ofH hs := by
  have key : ∀ (l : List (Int × Int)) (T0 T1 : Int → Option Int), runO (homeS n) T0 l = some T1 → T1 = l.foldl (fun T h => updT T h.1 (some h.2)) T0 := by
    intro l
    induction l with
    | nil => intro T0 T1 h; rw [runO_nil] at h; cases h; rfl
    | cons x r ih =>
      intro T0 T1 h
      rw [runO_cons] at h
      unfold homeS at h
      split at h
      · cases h
      · exact ih _ _ h
  exact key _ _ _ h
theorem hit_under {gs : List (Int × Int)} (hg : GOK gs) {g p : Nat} (h : g < gs.length) {t : Rn} (ht : RnOk gs.length t) : hitB gs ⟨g, p, p⟩ t = (underL gs g).contains t.grp := by
  rw [Bool.eq_iff_iff, hit_iff hg ht rfl, under_mem hg h]
  exact ⟨fun h1 => ⟨ht.2.2.2.1, ht.2.2.2.2, h1⟩, fun h1 => h1.2.2⟩
/-- The ticks of a right trace, by events. -/
theorem look_pairs {gs : List (Int × Int)} (hg : GOK gs) {g p : Nat} (h : g < gs.length) {hs : List (Int × Int)} {l : List Ev} {o : List Rn} (hl : lookL gs.length hs l = some o) (ho : ∀ t ∈ o, RnOk gs.length t) :
    pairsJ gs g p hs l l.length = pairsO gs g p o := by
  unfold lookL at hl
  cases hh : homesR gs.length hs with
  | none => rw [hh] at hl; cases hl
  | some T0 =>
    rw [hh] at hl
    have hT := homes_eq hh
    subst hT
    simp only [Option.bind_some, Option.map_eq_some_iff] at hl
    obtain ⟨s, hs1, rfl⟩ := hl
    have key : ∀ j, j ≤ l.length → ∃ s', runO (stepL gs.length) (lk0 (ofH hs)) (l.take j) = some s' ∧ (∀ x y, s'.T x = some y → ofJ hs l j x = some y) ∧ (∃ r, s.out = s'.out ++ r) ∧ pairsJ gs g p hs l j = pairsO gs g p s'.out := by
      intro j
      induction j with
      | zero =>
        intro _
        refine ⟨_, rfl, fun x y e => e, ⟨s.out, rfl⟩, rfl⟩
      | succ j ih =>
        intro hj
        obtain ⟨s', r1, r2, r3, r4⟩ := ih (by omega)
        obtain ⟨e, he⟩ : ∃ e, l[j]? = some e := ⟨_, List.getElem?_eq_getElem (by omega)⟩
        have hst := runO_step (f := stepL gs.length) (s := lk0 (ofH hs)) he
        rw [r1, Option.bind_some] at hst
        cases hsl : stepL gs.length s' e with
        | none =>
          rw [hsl] at hst
          have := runO_dead hst
          rw [hs1] at this; cases this
        | some s2 =>
          rw [hsl] at hst
          have hout : ∃ r, s.out = s2.out ++ r := by
            have h1 := hs1
            rw [← List.take_append_drop (j + 1) l, runO_append, hst, Option.bind_some] at h1
            refine runO_inv (I := fun q : Lk => ∃ r, q.out = s2.out ++ r) ⟨[], by simp⟩ (fun a x b _ ⟨r, hr⟩ hab => ?_) h1
            unfold stepL at hab
            split at hab
            · cases hab
            · obtain ⟨T, _, rfl⟩ := Option.map_eq_some_iff.1 hab
              exact ⟨r ++ ranOf a.T x, by dsimp only; rw [hr, List.append_assoc]⟩
          refine ⟨s2, hst, ?_, hout, ?_⟩
          · unfold stepL at hsl
            split at hsl
            · cases hsl
            · obtain ⟨T, hT, rfl⟩ := Option.map_eq_some_iff.1 hsl
              intro x y hxy
              rw [ofJ_succ he]
              unfold ofE
              dsimp only at hxy
              unfold doesL at hT
              by_cases k1 : e.kind = 1
              · rw [if_pos k1] at hT ⊢
                split at hT
                · cases hT
                · cases hT
                  unfold updT at hxy ⊢
                  split
                  · rename_i hx; rw [if_pos hx] at hxy; exact hxy
                  · rename_i hx; rw [if_neg hx] at hxy; exact r2 _ _ hxy
              · rw [if_neg k1] at hT ⊢
                split at hT
                · split at hT
                  · cases hT; exact r2 _ _ hxy
                  · split at hT
                    · cases hT; exact r2 _ _ hxy
                    · cases hT
                · split at hT
                  · split at hT
                    · cases hT; exact r2 _ _ hxy
                    · cases hT
                  · split at hT
                    · split at hT
                      · cases hT
                        unfold updT at hxy
                        split at hxy
                        · cases hxy
                        · exact r2 _ _ hxy
                      · cases hT
                    · cases hT; exact r2 _ _ hxy
          · rw [pairsJ_succ he, r4]
            unfold stepL at hsl
            split at hsl
            · cases hsl
            · obtain ⟨T, hT, rfl⟩ := Option.map_eq_some_iff.1 hsl
              dsimp only at hout ⊢
              unfold ranOf at hout ⊢
              by_cases hk : e.kind = 5 ∧ 0 < e.got
              · rw [if_pos hk] at hout ⊢
                rw [pairsO_snoc]
                congr 1
                have hsome : (s'.T e.got).isSome = true := by
                  unfold doesL at hT
                  rw [if_neg (by omega), if_pos hk.1, if_neg (by omega)] at hT
                  split at hT
                  · assumption
                  · cases hT
                obtain ⟨y, hy⟩ := Option.isSome_iff_exists.1 hsome
                have hy2 := r2 _ _ hy
                have hrg : ranG (ofJ hs l j) e = y := by unfold ranG; rw [if_pos hk, hy2]; rfl
                obtain ⟨r, hr⟩ := hout
                have hrn := ho ⟨e.cpu, e.time, e.ticks, (s'.T e.got).getD 0⟩ (by rw [hr]; simp)
                rw [hit_under hg h hrn, hrg, hy]
                rfl
              · rw [if_neg hk, List.append_nil]
                have hrg : ranG (ofJ hs l j) e = -1 := by unfold ranG; rw [if_neg hk]
                have hnc : ¬ (underL gs g).contains (-1) = true := by rw [under_mem hg h]; omega
                unfold pairsE
                rw [hrg, if_neg hnc, List.append_nil]
    obtain ⟨s', r1, _, _, r4⟩ := key l.length (Nat.le_refl _)
    rw [List.take_of_length_le (Nat.le_refl _), hs1] at r1
    cases r1
    exact r4
end Go.Proofs.YtaplangfppohdaaDoor
namespace Go.Proofs.YtaplangfppohdaaDoor
open Go.RowKit Go.Shelf Go.Maps

/-- F counts the pairs of L; c pairs are there. -/
def Cnt (L : List (Int × Int)) (F : Lit → Option Value) (c : Nat) : Prop :=
  (∀ x y : Int, I64 x → I64 y → F (kA2 x y) = if L.count (x, y) = 0 then none else some (.int .i64 (L.count (x, y) : Nat))) ∧ (∃ K : List (Int × Int), K.Nodup ∧ (∀ q, q ∈ K ↔ q ∈ L) ∧ K.length = c) ∧ ∀ q ∈ L, I64 q.1 ∧ I64 q.2
theorem Cnt.nil : Cnt [] (fun _ => none) 0 := ⟨fun x y _ _ => by simp, ⟨[], by simp, by simp, rfl⟩, fun q h => by cases h⟩
theorem Cnt.get {L : List (Int × Int)} {F : Lit → Option Value} {c : Nat} (h : Cnt L F c) {x y : Int} (hx : I64 x) (hy : I64 y) : (F (kA2 x y)).getD (.int .i64 0) = .int .i64 (L.count (x, y) : Nat) := by
  rw [h.1 x y hx hy]
  split
  · rename_i e; rw [e]; rfl
  · rfl
theorem Cnt.step {L : List (Int × Int)} {F : Lit → Option Value} {c : Nat} (h : Cnt L F c) {x y : Int} (hx : I64 x) (hy : I64 y) :
    Cnt (L ++ [(x, y)]) (updF F (kA2 x y) (some (.int .i64 ((L.count (x, y) : Nat) + 1)))) (cntP F (kA2 x y) c) := by
  refine ⟨fun a b ha hb => ?_, ?_, fun q hq => ?_⟩
  · by_cases e : kA2 a b = kA2 x y
    · obtain ⟨rfl, rfl⟩ := kA2_inj ha hb hx hy e
      rw [updF_same, List.count_append]
      simp
    · rw [updF_ne e, h.1 a b ha hb, List.count_append]
      have : List.count (a, b) [(x, y)] = 0 := by
        rw [List.count_eq_zero]
        intro hm
        simp only [List.mem_singleton, Prod.mk.injEq] at hm
        exact e (by rw [hm.1, hm.2])
      rw [this]; rfl
  · obtain ⟨K, h1, h2, h3⟩ := h.2.1
    have hf := h.1 x y hx hy
    unfold cntP
    by_cases hz : L.count (x, y) = 0
    · rw [if_pos hz] at hf
      have hn : (x, y) ∉ L := List.count_eq_zero.1 hz
      refine ⟨(x, y) :: K, List.nodup_cons.2 ⟨fun hm => hn ((h2 _).1 hm), h1⟩, fun q => ?_, by simp [hf, h3]⟩
      simp only [List.mem_cons, List.mem_append, List.not_mem_nil, or_false, h2]
      exact ⟨fun t => t.symm, fun t => t.symm⟩
    · rw [if_neg hz] at hf
      have hn : (x, y) ∈ L := List.count_pos_iff.1 (by omega)
      refine ⟨K, h1, fun q => ?_, by simp [hf, h3]⟩
      simp only [List.mem_append, List.mem_singleton, h2]
      exact ⟨fun t => .inl t, fun t => t.elim id fun t => t ▸ hn⟩
  · rcases List.mem_append.1 hq with hq | hq
    · exact h.2.2 q hq
    · simp only [List.mem_singleton] at hq; subst hq; exact ⟨hx, hy⟩
section
variable {gs : List (Int × Int)} {G g p : Nat} {lim : Int} {o : List Rn}
theorem uses_one {u : Us} : u ∈ usesL gs [⟨(g : Int), (p : Int), lim⟩] o ↔ ∃ c : Nat, c < 64 ∧ u ∈ usesOf 0 c lim (usedAt gs ⟨(g : Int), (p : Int), (p : Int)⟩ (c : Int) o) := by
  unfold usesL
  simp only [List.mem_flatMap, List.mem_range, List.length_singleton]
  constructor
  · rintro ⟨i, hi, c, hc, hu⟩
    obtain rfl : i = 0 := by omega
    exact ⟨c, hc, hu⟩
  · rintro ⟨c, hc, hu⟩
    exact ⟨0, by omega, c, hc, hu⟩
theorem acc_partsOk {p : Nat} {l : List (Int × Int)} (hp : 1 ≤ p) (hp2 : p ≤ 1000) (h : AccOk p 281474976710656 l) : PartsOk l := by
  intro j hj
  have h1 := acc_inc h j hj
  have h2 := h.each _ (part_mem hj)
  have h3 : (partAt l j).1 * 1 ≤ (partAt l j).1 * (p : Int) := Int.mul_le_mul_of_nonneg_left (by omega) h2.1
  unfold PartOk
  omega
theorem one_facts (h : OOk G o) (hp : 1 ≤ p) (hp2 : p ≤ 1000) (hl : 0 ≤ lim ∧ lim ≤ p) {u : Us} (hu : u ∈ usesL gs [⟨(g : Int), (p : Int), lim⟩] o) :
    u.r = 0 ∧ (∃ c : Nat, c < 64 ∧ u.c = c) ∧ 0 ≤ u.d ∧ (0 ≤ u.p ∧ u.p ≤ 281474976710656) ∧ (1 ≤ u.t ∧ u.t ≤ p) ∧ useAt gs ⟨(g : Int), (p : Int), (p : Int)⟩ u.c o u.p = u.t := by
  obtain ⟨c, hc, hu⟩ := uses_one.1 hu
  unfold usesOf at hu
  obtain ⟨j, hj, rfl⟩ := List.mem_map.1 hu
  have hj := List.mem_range.1 hj
  have ha := h.acc (gs := gs) hp g c
  have hm := part_mem hj
  have he := ha.each _ hm
  have hd := debt_bound (l := usedAt gs ⟨(g : Int), (p : Int), (p : Int)⟩ (c : Int) o) (limit := lim) (j := j + 1) ⟨hl.1, by omega⟩ (fun q hq => acc_partsOk hp hp2 ha q (by omega))
  have h2 : (partAt (usedAt gs ⟨(g : Int), (p : Int), (p : Int)⟩ (c : Int) o) j).1 * 1 ≤ (partAt (usedAt gs ⟨(g : Int), (p : Int), (p : Int)⟩ (c : Int) o) j).1 * (p : Int) := Int.mul_le_mul_of_nonneg_left (by omega) he.1
  refine ⟨rfl, ⟨c, hc, rfl⟩, hd.1, ⟨he.1, by dsimp only; omega⟩, ⟨he.2.1, he.2.2.2⟩, ?_⟩
  rw [← used_sum]
  exact sumP_get ha.inc hm
/-- Each use is what was counted, and nothing else was. -/
theorem sums_end (hg : GOK gs) (hgl : g < gs.length) (h : OOk gs.length o) (hp : 1 ≤ p) (hp2 : p ≤ 1000) (hl : 0 ≤ lim ∧ lim ≤ p) {F : Lit → Option Value} {c : Nat} (hc : Cnt (pairsO gs g p o) F c) :
    (∀ u ∈ usesL gs [⟨(g : Int), (p : Int), lim⟩] o, (F (kA2 u.c u.p)).getD (.int .i64 0) = .int .i64 u.t) ∧ (usesL gs [⟨(g : Int), (p : Int), lim⟩] o).length = c := by
  have hcount := fun u (hu : u ∈ usesL gs [⟨(g : Int), (p : Int), lim⟩] o) => by
    have hf := one_facts h hp hp2 hl hu
    have := pairs_use (gs := gs) (g := g) hp u.c u.p o h.each
    rw [hf.2.2.2.2.2] at this
    exact this
  refine ⟨fun u hu => ?_, ?_⟩
  · have hf := one_facts h hp hp2 hl hu
    obtain ⟨f1, ⟨c', f2, f3⟩, f4, f5, f6, f7⟩ := hf
    rw [hc.get (by unfold I64; omega) (by unfold I64; omega), hcount u hu]
  · obtain ⟨K, k1, k2, k3⟩ := hc.2.1
    rw [← k3]
    have hs : (usesL gs [⟨(g : Int), (p : Int), lim⟩] o).Pairwise LtU := uses_sorted (n := gs.length) (fun i hi => by
      simp only [List.length_singleton] at hi
      obtain rfl : i = 0 := by omega
      show RuOk gs.length ⟨(g : Int), (p : Int), lim⟩
      unfold RuOk; dsimp only; omega) h.each h.apart
    have hU : ((usesL gs [⟨(g : Int), (p : Int), lim⟩] o).map fun u => (u.c, u.p)).Nodup := by
      unfold List.Nodup
      rw [List.pairwise_map]
      refine List.Pairwise.imp_of_mem (fun {a b} ha hb hab e => ?_) hs
      have ra := (one_facts h hp hp2 hl ha).1
      have rb := (one_facts h hp hp2 hl hb).1
      simp only [Prod.mk.injEq] at e
      unfold LtU at hab
      omega
    have hmem : ∀ q, q ∈ ((usesL gs [⟨(g : Int), (p : Int), lim⟩] o).map fun u => (u.c, u.p)) ↔ q ∈ K := by
      intro q
      rw [k2]
      constructor
      · intro hq
        obtain ⟨u, hu, rfl⟩ := List.mem_map.1 hq
        have h1 := hcount u hu
        have h2 := (one_facts h hp hp2 hl hu).2.2.2.2.1
        exact List.count_pos_iff.1 (by omega)
      · intro hq
        have hq0 := hq
        unfold pairsO at hq
        obtain ⟨t, ht, hq⟩ := List.mem_flatMap.1 hq
        split at hq
        · unfold pairsR at hq
          obtain ⟨x, _, rfl⟩ := List.mem_map.1 hq
          have hrn := (h.each t ht).1
          obtain ⟨cc, hcc⟩ : ∃ cc : Nat, t.cpu = cc := ⟨t.cpu.toNat, by omega⟩
          rw [hcc] at hq0 ⊢
          have h1 := pairs_use (gs := gs) (g := g) hp (cc : Int) x o h.each
          have h2 : 0 < (pairsO gs g p o).count ((cc : Int), x) := List.count_pos_iff.2 hq0
          rw [← used_sum] at h1
          obtain ⟨z, hz, rfl⟩ := sumP_mem (l := usedAt gs ⟨(g : Int), (p : Int), (p : Int)⟩ (cc : Int) o) (k := x) (by omega)
          obtain ⟨j, hj, rfl⟩ := mem_part hz
          exact List.mem_map.2 ⟨_, uses_one.2 ⟨cc, by omega, List.mem_map.2 ⟨j, List.mem_range.2 hj, rfl⟩⟩, rfl⟩
        · cases hq
    have hperm := (List.perm_ext_iff_of_nodup hU k1).2 hmem
    rw [← hperm.length_eq, List.length_map]
end
end Go.Proofs.YtaplangfppohdaaDoor
