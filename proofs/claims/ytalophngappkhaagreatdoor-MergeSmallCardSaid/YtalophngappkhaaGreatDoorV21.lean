/- merge.First | merge.After | merge.Rows | merge.Split: the family of rows. -/
import Derived.Test.YtalophngappkhaaGreatDoorV20
import Derived.Deep.OwnRows
set_option linter.unusedVariables false
set_option linter.unusedSimpArgs false
set_option linter.unusedSectionVars false
namespace Go.Proofs.YtalophngappkhaaGreatDoor
open Go.RowKit Go.Shelf
attribute [local go_sem] Oper.semAt_some

/-- The least number from fr on that a gap has. -/
def frsG : List (Int × Int) → Int → Int → Option Int
 | [], _, _ => none
 | r :: l, next, fr => if max r.1 fr < r.1 + r.2 ∧ max r.1 fr < next then some (max r.1 fr) else frsG l next fr
/-- What First returns. -/
def frsE (gaps : List (Int × Int)) (next : Int) (opn : Bool) (fr : Int) : Int × Int :=
 if rightB gaps = false then (0, 90)
 else if fr < 1 ∨ next < fr ∨ 281474976710657 < next then (0, 2)
 else match frsG gaps next fr with
  | some n => (n, 122)
  | none => if opn then (0, 123) else (0, 0)
theorem frsG_take {l : List (Int × Int)} {next fr : Int} : ∀ {j : Nat}, frsG (l.take j) next fr = none → ∀ {r : Int × Int}, l[j]? = some r → frsG (l.take (j + 1)) next fr = if max r.1 fr < r.1 + r.2 ∧ max r.1 fr < next then some (max r.1 fr) else none := by
 induction l with
 | nil => intro j _ r h; simp at h
 | cons x l ih =>
  intro j h r hr
  cases j with
  | zero => simp at hr; subst hr; simp [frsG]
  | succ j =>
   rw [List.take_succ_cons] at h ⊢
   unfold frsG at h ⊢
   by_cases hc : max x.1 fr < x.1 + x.2 ∧ max x.1 fr < next
   ·rw [if_pos hc] at h; cases h
   ·rw [if_neg hc] at h ⊢
    exact ih h (by simpa using hr)
theorem frsG_pre {l : List (Int × Int)} {next fr n : Int} : ∀ {j : Nat}, frsG (l.take j) next fr = some n → frsG l next fr = some n := by
 induction l with
 | nil => intro j h; simpa using h
 | cons x l ih =>
  intro j h
  cases j with
  | zero => cases h
  | succ j =>
   rw [List.take_succ_cons] at h
   unfold frsG at h ⊢
   by_cases hc : max x.1 fr < x.1 + x.2 ∧ max x.1 fr < next
   ·rw [if_pos hc] at h ⊢; exact h
   ·rw [if_neg hc] at h ⊢; exact ih h
theorem can_at : ∀ {l : List (Int × Int)} {lo : Int}, Can lo l → ∀ r ∈ l, rokB r = true
 | [], _, _, r, h => by cases h
 | x :: l, lo, h, r, hr => by
  obtain ⟨_, h2, h3⟩ := can_cons.1 h
  rcases List.mem_cons.1 hr with rfl | hr
  ·exact h2
  ·exact can_at h3 r hr
set_option maxRecDepth 100000 in
set_option maxHeartbeats 6400000 in
theorem first_ok (w : World) (ve vt vg : Value) (lost next fr : Int) (opn : Bool) (gaps : List (Int × Int)) (hv : EV encP 2 w vg gaps) (hl : gaps.length ≤ 1000000000) :
  Calls Tryz.prog 30 #[mgA ve vt vg lost next opn, .int .i64 fr] w fun r w' => r = .returned (.tuple #[.int .i64 (frsE gaps next opn fr).1, .int .i64 (frsE gaps next opn fr).2]) ∧ Below w.heap.size w w' := by
 have HX := Lib.hid (MgBox.new w ve vt vg lost next opn)
 have HB := Lib.hid (bel_alloc w (.cells #[ve, vt, vg, .int .i64 lost, .int .i64 next, .bool opn] 39))
 have HV := Lib.hid hv
 have HR := Lib.hid (right_ok _ vg gaps (hv.below HB.out) hl)
 obtain ⟨A, c, hA⟩ := hv.shape
 subst hA
 obtain ⟨n, hn⟩ : ∃ n, gaps.length = n := ⟨_, rfl⟩
 have HN := Lib.hid hn
 rw [hn] at hl HX HB HV HR ⊢
 obtain ⟨E, hE⟩ : ∃ E, frsE gaps next opn fr = E := ⟨_, rfl⟩
 have HE := Lib.hid hE
 rw [hE]
 clear hv hn hE
 unfold mgA
 go_enter Tryz.func30, Tryz.ntmps30
 go_upto_region 1 with fail
 generalize w.alloc (.cells #[ve, vt, .slice A n c, .int .i64 lost, .int .i64 next, .bool opn] 39) = wx at HX HB HR ⊢
 generalize w.heap.size = X at HX ⊢
 have c2 := HX.out.c2
 go_wp2_with fail
 refine HR.out.mono ?_
 rintro r w1 ⟨rfl, b1⟩
 have HX1 := Lib.hid (HX.out.below b1)
 have HB1 := Lib.hid (bstep HB.out b1)
 clear HX HB HR b1 c2
 by_cases hr : rightB gaps = true
 ·have HRT := Lib.hid (right_iff.1 hr)
  have c4 := HX1.out.c4
  by_cases hb : fr < 1 ∨ next < fr ∨ 281474976710657 < next
  ·have HEE := Lib.hid (show E = (0, 2) by rw [← HE.out]; unfold frsE; rw [if_neg (by rw [hr]; simp), if_pos hb])
   rw [hr]
   clear hr
   by_cases h1 : fr < 1
   ·have d1 : decide (fr < 1) = true := by simpa using h1
    clear hb h1
    go_wp2
    go_ret2
    exact ⟨by rw [HEE.out]; rfl, HB1.out⟩
   ·have d1 : decide (fr < 1) = false := by simpa using h1
    by_cases h2 : next < fr
    ·have d2 : decide (next < fr) = true := by simpa using h2
     clear hb h1 h2
     go_wp2
     go_ret2
     exact ⟨by rw [HEE.out]; rfl, HB1.out⟩
    ·have d2 : decide (next < fr) = false := by simpa using h2
     have d3 : decide (281474976710657 < next) = true := by simp; omega
     clear hb h1 h2
     go_wp2
     go_ret2
     exact ⟨by rw [HEE.out]; rfl, HB1.out⟩
  ·have HEE := Lib.hid (show E = match frsG gaps next fr with | some n => (n, 122) | none => if opn then (0, 123) else (0, 0) by rw [← HE.out]; unfold frsE; rw [if_neg (by rw [hr]; simp), if_neg hb])
   have d1 : decide (fr < 1) = false := by simp; omega
   have d2 : decide (next < fr) = false := by simp; omega
   have d3 : decide (281474976710657 < next) = false := by simp; omega
   have HFR := Lib.hid (show 1 ≤ fr ∧ next ≤ 281474976710657 by omega)
   rw [hr]
   clear hr hb
   have c2 := HX1.out.c2
   go_upto_block 0 with fail
   clear d1 d2 d3 c2 c4
   go_cut [] (fun wz => frsG gaps next fr = none ∧ MgBox wz X ve vt (.slice A n c) lost next opn ∧ Below w.heap.size w wz)
   case first =>
    go_wp2
    go_loopg [29] n (fun k i wr => ∃ j : Nat, j + k = n ∧ i = .int .i64 j ∧ frsG (gaps.take j) next fr = none ∧ MgBox wr X ve vt (.slice A n c) lost next opn ∧ Below w.heap.size w wr)
    case atStart => exact ⟨0, by omega, rfl, rfl, HX1.out, HB1.out⟩
    clear HX1 HB1
    case round =>
     obtain ⟨j, hj, rfl, hg, hx, hb⟩ := hrel
     have HJ := Lib.hid hj
     have HG := Lib.hid hg
     have HXW := Lib.hid hx
     have HBW := Lib.hid hb
     clear hj hg hx hb
     by_cases hlt : j < n
     ·obtain ⟨b, off, c', hvv, hcc, rr⟩ := (HV.out.below HBW.out).row (by rw [HN.out]; omega)
      rw [HN.out] at hvv
      simp only [Value.slice.injEq] at hvv
      obtain ⟨rfl, -, rfl⟩ := hvv
      obtain ⟨⟨p, q⟩, hr⟩ : ∃ r, gaps[j]? = some r := ⟨_, List.getElem?_eq_getElem (by rw [HN.out]; exact hlt)⟩
      obtain ⟨c0, c1⟩ := rr.prs hr
      dsimp only at c0 c1
      obtain ⟨h1, h2, h3, h4⟩ := rok_iff.1 (can_at HRT.out.2 _ (List.mem_of_getElem? hr))
      dsimp only at h1 h2 h3 h4
      have hst := frsG_take HG.out hr
      dsimp only at hst
      have HBA := Lib.hid (bel_alloc wr (.cells #[.int .i64 p, .int .i64 q] 34))
      have HXA := Lib.hid (HXW.out.below HBA.out)
      have c4 := HXA.out.c4
      obtain ⟨M, hM⟩ : ∃ M, max p fr = M := ⟨_, rfl⟩
      rw [hM] at hst
      have HST := Lib.hid hst
      clear hst hr rr
      by_cases k1 : M < p + q
      ·have d1 : decide (M < p + q) = true := by simpa using k1
       by_cases k2 : M < next
       ·have d2 : decide (M < next) = true := by simpa using k2
        have HRES := Lib.hid (show E = (M, 122) by rw [HEE.out, frsG_pre (j := j + 1) (by rw [HST.out, if_pos ⟨k1, k2⟩])])
        clear k1 k2
        go_wp2
        go_ret2
        exact ⟨by rw [HRES.out]; rfl, bstep HBW.out HBA.out⟩
       ·have d2 : decide (M < next) = false := by simpa using k2
        have HRES := Lib.hid (show frsG (gaps.take (j + 1)) next fr = none by rw [HST.out, if_neg (fun h => k2 h.2)])
        clear k1 k2
        go_wp2
        go_roundg (n - (j + 1))
        case measure => have := HJ.out; omega
        case rel => exact ⟨j + 1, by have := HJ.out; omega, by go_num, HRES.out, HXA.out, bstep HBW.out HBA.out⟩
      ·have d1 : decide (M < p + q) = false := by simpa using k1
       have HRES := Lib.hid (show frsG (gaps.take (j + 1)) next fr = none by rw [HST.out, if_neg (fun h => k1 h.1)])
       clear k1
       go_wp2
       go_roundg (n - (j + 1))
       case measure => have := HJ.out; omega
       case rel => exact ⟨j + 1, by have := HJ.out; omega, by go_num, HRES.out, HXA.out, bstep HBW.out HBA.out⟩
     ·obtain rfl : n = j := by have := HJ.out; omega
      go_wp2
      go_meet
      exact ⟨by have := HG.out; rwa [List.take_of_length_le (Nat.le_of_eq HN.out)] at this, HXW.out, HBW.out⟩
   case rest =>
    obtain ⟨hnone, hx, hb⟩ := hcut
    have HBZ := Lib.hid hb
    have hre := HEE.out
    rw [hnone] at hre
    have c5 := hx.c5
    clear hnone hx hb
    cases opn with
    | true =>
     have HRES := Lib.hid (show E = (0, 123) from hre)
     clear hre
     go_wp2
     go_ret2
     exact ⟨by rw [HRES.out]; rfl, HBZ.out⟩
    | false =>
     have HRES := Lib.hid (show E = (0, 0) from hre)
     clear hre
     go_wp2
     go_ret2
     exact ⟨by rw [HRES.out]; rfl, HBZ.out⟩
 ·have hrf : rightB gaps = false := by simpa using hr
  have HEE := Lib.hid (show E = (0, 90) by rw [← HE.out]; unfold frsE; rw [if_pos hrf])
  rw [hrf]
  clear hr hrf
  go_wp2
  go_ret2
  exact ⟨by rw [HEE.out]; rfl, HB1.out⟩
end Go.Proofs.YtalophngappkhaaGreatDoor
namespace Go.Proofs.YtalophngappkhaaGreatDoor
open Go.RowKit Go.Shelf
attribute [local go_sem] Oper.semAt_some

/-- The events from a number on. -/
def fromE (fr : Int) (l : List Ev) : List Ev := l.filter (fun e => decide (fr ≤ e.seq))
theorem from_take {l : List Ev} {j : Nat} {e : Ev} (fr : Int) (h : l[j]? = some e) : fromE fr (l.take (j + 1)) = fromE fr (l.take j) ++ (if fr ≤ e.seq then [e] else []) := by
 unfold fromE
 rw [List.take_add_one, h, List.filter_append]
 congr 1
 by_cases hc : fr ≤ e.seq <;> simp [hc]
/-- What After returns. -/
def aftL (evs : List Ev) (gaps : List (Int × Int)) (next : Int) (opn : Bool) (fr : Int) : List Ev := if (frsE gaps next opn fr).2 = 0 then fromE fr evs else []
set_option maxRecDepth 100000 in
set_option maxHeartbeats 6400000 in
theorem after_ok (w : World) (ve vt vg : Value) (lost next fr : Int) (opn : Bool) (evs : List Ev) (gaps : List (Int × Int)) (hv : EV encP 2 w vg gaps) (hl : gaps.length ≤ 1000000000) (he : EV encE 11 w ve evs) (hle : evs.length ≤ 100000000) :
  Calls Tryz.prog 31 #[mgA ve vt vg lost next opn, .int .i64 fr] w fun r w' => ∃ v, r = .returned (.tuple #[v, .int .i64 (frsE gaps next opn fr).2]) ∧ OV encE 11 28 w.heap.size w' v (aftL evs gaps next opn fr) ∧ Below w.heap.size w w' := by
 have HX := Lib.hid (MgBox.new w ve vt vg lost next opn)
 have HB := Lib.hid (bel_alloc w (.cells #[ve, vt, vg, .int .i64 lost, .int .i64 next, .bool opn] 39))
 have HV := Lib.hid he
 have HF := Lib.hid (first_ok _ ve vt vg lost next fr opn gaps (hv.below HB.out) hl)
 obtain ⟨A, c, hA⟩ := he.shape
 subst hA
 obtain ⟨n, hn⟩ : ∃ n, evs.length = n := ⟨_, rfl⟩
 have HN := Lib.hid hn
 rw [hn] at hle HX HB HV HF ⊢
 obtain ⟨E, hE⟩ : ∃ E, aftL evs gaps next opn fr = E := ⟨_, rfl⟩
 have HE := Lib.hid hE
 obtain ⟨⟨F1, F2⟩, hF⟩ : ∃ F, frsE gaps next opn fr = F := ⟨_, rfl⟩
 have HE2 := Lib.hid (show E = if F2 = 0 then fromE fr evs else [] by rw [← hE]; unfold aftL; rw [hF])
 rw [hE, hF]
 rw [hF] at HF
 dsimp only at HF ⊢
 clear hv hn hE he hl hF
 unfold mgA at HF ⊢
 go_enter Tryz.func31, Tryz.ntmps31
 go_upto_region 1 with fail
 generalize w.alloc (.cells #[.slice A n c, vt, vg, .int .i64 lost, .int .i64 next, .bool opn] 39) = wx at HX HB HF ⊢
 obtain ⟨X, hX⟩ : ∃ X, w.heap.size = X := ⟨_, rfl⟩
 have HXX := Lib.hid hX
 rw [hX] at HX ⊢
 clear hX
 have c0 := HX.out.c0
 have c1 := HX.out.c1
 have c2 := HX.out.c2
 have c3 := HX.out.c3
 have c4 := HX.out.c4
 have c5 := HX.out.c5
 go_wp2_with fail
 refine HF.out.mono ?_
 rintro r w1 ⟨rfl, b1⟩
 have HX1 := Lib.hid (HX.out.below b1)
 have HB1 := Lib.hid (bstep HB.out b1)
 have HSZ := Lib.hid (Nat.lt_of_lt_of_le HX.out.lt b1.size)
 clear HX HB HF b1 c0 c1 c2 c3 c4 c5
 by_cases hz : F2 = 0
 ·subst hz
  have HRE := Lib.hid (show E = fromE fr evs by rw [HE2.out, if_pos rfl])
  obtain ⟨bn, hbn⟩ : ∃ bn, w1.heap.size = bn := ⟨_, rfl⟩
  have HBN := Lib.hid (show bn ≤ w1.heap.size by omega)
  have HXB := Lib.hid (show X < bn by rw [← hbn]; exact HSZ.out)
  have c0 := HX1.out.c0
  clear hbn HE HE2 HSZ
  go_wp2
  go_loopg [8, 23] n (fun k o i wr => ∃ j : Nat, j + k = n ∧ i = .int .i64 j ∧ OV encE 11 28 bn wr o (fromE fr (evs.take j)) ∧ Below w.heap.size w wr ∧ bn ≤ wr.heap.size)
  case atStart => exact ⟨0, by omega, rfl, OV.nil _ _, HB1.out, HBN.out⟩
  clear HX1 HB1 HBN
  case round =>
   obtain ⟨j, hj, rfl, ho, hb, hs⟩ := hrel
   have HJ := Lib.hid hj
   have HO := Lib.hid ho
   have HBW := Lib.hid hb
   have HS := Lib.hid hs
   clear hj ho hb hs
   by_cases hlt : j < n
   ·obtain ⟨b, off, c', hsl, hcc, hr⟩ := (HV.out.below HBW.out).row (by rw [HN.out]; omega)
    rw [HN.out] at hsl
    cases hsl
    obtain ⟨e, hev⟩ : ∃ e, evs[j]? = some e := ⟨_, List.getElem?_eq_getElem (by rw [HN.out]; exact hlt)⟩
    obtain ⟨g0, g1, g2, g3, g4, g5, g6, g7, g8, g9, g10⟩ := hr.ev hev
    have HT := Lib.hid (from_take fr hev)
    have HEV := Lib.hid (evp_new wr e)
    have HA := Lib.hid (bel_alloc wr (.cells #[.int .i64 e.seq, .int .i64 e.time, .int .u8 e.cpu, .int .u8 e.kind, .int .i64 e.task, .int .i64 e.grp, .int .i64 e.to, .int .i64 e.wt, .int .i64 e.ticks, .int .u64 e.mask, .int .i64 e.got] 28))
    clear hr hcc hev
    go_upto_region 8 with fail
    obtain ⟨B, hB⟩ : ∃ B, wr.heap.size = B := ⟨_, rfl⟩
    have h1 := HEV.out
    have h2 := HA.out
    clear HEV HA g0 g1 g2 g3 g4 g5 g6 g7 g8 g9 g10
    generalize wr.alloc (.cells #[.int .i64 e.seq, .int .i64 e.time, .int .u8 e.cpu, .int .u8 e.kind, .int .i64 e.task, .int .i64 e.grp, .int .i64 e.to, .int .i64 e.wt, .int .i64 e.ticks, .int .u64 e.mask, .int .i64 e.got] 28) = wa at h1 h2 ⊢
    rw [hB] at h1 ⊢
    have HEV := Lib.hid h1
    have HB2 := Lib.hid (bstep HBW.out h2)
    have HO2 := Lib.hid (HO.out.below h2)
    have HS2 := Lib.hid (show bn ≤ wa.heap.size from Nat.le_trans HS.out h2.size)
    have HOB := Lib.hid (fun g (q : u8.ownBlock = some g) => (show bn ≤ g ∧ g < B from by rw [← hB]; exact HO.out.block g q))
    have e0 := h1.c0
    clear h1 h2 HBW HO HS hB
    by_cases hc : fr ≤ e.seq
    ·have d1 : decide (fr ≤ e.seq) = true := by simpa using hc
     have HT2 := Lib.hid (show fromE fr (evs.take (j + 1)) = fromE fr (evs.take j) ++ [e] by rw [HT.out, if_pos hc])
     have HLN := Lib.hid (show (fromE fr (evs.take j)).length ≤ j by unfold fromE; exact Nat.le_trans (List.length_filter_le _ _) (by rw [List.length_take]; omega))
     obtain ⟨e1, e2, e3, e4, e5, e6, e7, e8, e9⟩ : _ ∧ _ ∧ _ ∧ _ ∧ _ ∧ _ ∧ _ ∧ _ ∧ _ := ⟨HEV.out.c1, HEV.out.c2, HEV.out.c3, HEV.out.c4, HEV.out.c5, HEV.out.c6, HEV.out.c7, HEV.out.c8, HEV.out.c9⟩
     have e10 := HEV.out.c10
     clear hc HT
     go_wp2_with (at_builtin; refine wpList_app elemE encE_len encE_one rfl _ _ rfl _ _ rfl rfl (HO2.out.alloc _) (EV.newL (xs := [e]) (n := 1) (c := 1) encE_len rfl rfl (Nat.le_refl _)) ?q1 ?q2 ?_)
     case q1 => have := HLN.out; simp; omega
     case q2 => have := HS2.out; simp; omega
     intro v' w4 o4 g4
     rw [← HT2.out] at o4
     have ba := bel_alloc wa (.cells #[.int .i64 e.seq, .int .i64 e.time, .int .u8 e.cpu, .int .u8 e.kind, .int .i64 e.task, .int .i64 e.grp, .int .i64 e.to, .int .i64 e.wt, .int .i64 e.ticks, .int .u64 e.mask, .int .i64 e.got] 28)
     have hwb : w.heap.size ≤ bn := by have := HXX.out; have := HXB.out; omega
     have HB3 := Lib.hid ((bstep HB2.out ba).grown g4 (bstep HB2.out ba).size (fun g q => by have := (HOB.out g q).1; omega))
     have HO3 := Lib.hid o4
     have HS3 := Lib.hid (show bn ≤ w4.heap.size from Nat.le_trans HS2.out (Nat.le_trans ba.size g4.size))
     clear o4 g4 ba hwb e0 e1 e2 e3 e4 e5 e6 e7 e8 e9 e10
     go_wp2
     go_roundg (n - (j + 1))
     case measure => have := HJ.out; omega
     case rel => exact ⟨j + 1, by have := HJ.out; omega, by go_num, HO3.out, HB3.out, HS3.out⟩
    ·have d1 : decide (fr ≤ e.seq) = false := by simpa using hc
     have HT2 := Lib.hid (show fromE fr (evs.take (j + 1)) = fromE fr (evs.take j) by rw [HT.out, if_neg hc, List.append_nil])
     clear hc HT
     go_wp2
     go_roundg (n - (j + 1))
     case measure => have := HJ.out; omega
     case rel => exact ⟨j + 1, by have := HJ.out; omega, by go_num, by rw [HT2.out]; exact HO2.out, HB2.out, HS2.out⟩
   ·obtain rfl : n = j := by have := HJ.out; omega
    go_wp2
    go_ret2
    refine ⟨_, rfl, ?_, HBW.out⟩
    rw [HRE.out]
    have := HO.out
    rw [List.take_of_length_le (Nat.le_of_eq HN.out)] at this
    exact this.base_le (by have := HXX.out; have := HXB.out; omega)
 ·have hz2 : (F2 != 0) = true := by simpa using hz
  have HRE := Lib.hid (show E = [] by rw [HE2.out, if_neg hz])
  clear hz
  go_wp2
  go_ret2
  exact ⟨_, rfl, by rw [HRE.out]; exact OV.nil _ _, HB1.out⟩
end Go.Proofs.YtalophngappkhaaGreatDoor
namespace Go.Proofs.YtalophngappkhaaGreatDoor
open Go.RowKit Go.Shelf
attribute [local go_sem] Oper.semAt_some

theorem rows1_ok (w : World) (v : Value) (l : List Ev) (hv : EV encE 11 w v l) (hl : ∀ e ∈ l, EvOk e) (hL : l.length ≤ 1000000000) (hU : UsesAt w) :
  Calls Tryz.prog 61 #[v] w fun r w' => (∃ b, r = .returned (.bool b) ∧ (b = false ↔ RowM l)) ∧ Below w.heap.size w w' := by
 have H := Lib.hid (mrow_ok w v l hv hl hL hU)
 obtain ⟨A, c, rfl⟩ := hv.shape
 obtain ⟨n, hn⟩ : ∃ n, l.length = n := ⟨_, rfl⟩
 rw [hn] at H ⊢
 clear hv hl hL hU hn
 go_enter Tryz.func61, Tryz.ntmps61
 go_wp2_with fail
 refine H.out.mono ?_
 rintro r w1 ⟨⟨b, rfl, hb⟩, b1⟩
 have HB := Lib.hid hb
 have H1 := Lib.hid b1
 clear hb b1 H
 cases b with
 | true =>
  go_wp2
  go_ret
  exact ⟨⟨_, rfl, ⟨fun _ => HB.out.1 (by simp), fun _ => rfl⟩⟩, H1.out⟩
 | false =>
  go_wp2
  go_ret
  exact ⟨⟨_, rfl, ⟨fun h => (by cases h), fun h => absurd (HB.out.2 h) (by simp)⟩⟩, H1.out⟩
/-- All lists are rows. -/
def AllRow (rows : List (Value × List Ev)) : Prop := ∀ x ∈ rows, RowM x.2
set_option maxRecDepth 100000 in
set_option maxHeartbeats 3200000 in
theorem anyrow_ok (w : World) (v : Value) (rows : List (Value × List Ev)) (hv : EV encVs 1 w v rows) (hx : ∀ x ∈ rows, EV encE 11 w x.1 x.2) (ho : ∀ x ∈ rows, ∀ e ∈ x.2, EvOk e) (hL : ∀ x ∈ rows, x.2.length ≤ 1000000000) (hlen : rows.length ≤ 1000000000) (hU : UsesAt w) :
  Calls Tryz.prog 60 #[v, .func (.func 61) #[] #[]] w fun r w' => (∃ b, r = .returned (.bool b) ∧ (b = false ↔ AllRow rows)) ∧ Below w.heap.size w w' := by
 have eg : ∀ args w, (callFunc 61 args).run Tryz.prog w = .ok (.enter 61 args) w := enters_of Tryz.func61 (by kernel_rfl) rfl
 obtain ⟨A, c, hA⟩ := hv.shape
 subst hA
 obtain ⟨L, hLn⟩ : ∃ L, rows.length = L := ⟨_, rfl⟩
 rw [hLn] at hlen hv ⊢
 have idx : Calls Tryz.prog 93 #[.slice A L c, .func (.func 61) #[] #[]] w fun e w' => (∃ i : Int, e = .returned (.int .i64 i) ∧ (0 ≤ i ∧ ¬ AllRow rows ∨ i = -1 ∧ AllRow rows)) ∧ Below w.heap.size w w' := by
  have H := Lib.hid hv
  have HX := Lib.hid hx
  have HO := Lib.hid ho
  have HLL := Lib.hid hL
  have HL := Lib.hid hLn
  have HU := Lib.hid hU
  clear hv hx ho hL hLn hU
  go_enter Tryz.func93, Tryz.ntmps93
  go_wp2
  go_loopg [8] L (fun k i wr => ∃ j : Nat, j + k = L ∧ i = .int .i64 j ∧ Below w.heap.size w wr ∧ ∀ q x, q < j → rows[q]? = some x → RowM x.2)
  case atStart => exact ⟨0, by omega, rfl, Below.refl _ _, fun q x h => by omega⟩
  case round =>
   obtain ⟨j, hj, rfl, hb, ht⟩ := hrel
   have HT := Lib.hid ht
   have HJ := Lib.hid hj
   have HB := Lib.hid hb
   clear ht hj hb
   by_cases hlt : j < L
   ·have hd : decide ((j : Int) < (L : Int)) = true := by rw [decide_eq_true_eq]; omega
    obtain ⟨x, hxx⟩ : ∃ x, rows[j]? = some x := ⟨_, List.getElem?_eq_getElem (by rw [HL.out]; omega)⟩
    obtain ⟨b, off, c', hv, _, hr⟩ := (H.out.below HB.out).row (by rw [HL.out]; omega)
    rw [HL.out] at hv
    simp only [Value.slice.injEq] at hv
    obtain ⟨rfl, hz, rfl⟩ := hv
    clear hz
    have cj := hr j x hxx 0 _ rfl
    simp only [Nat.mul_one, Nat.add_zero] at cj
    have XM := Lib.hid (List.mem_of_getElem? hxx)
    have HXX := Lib.hid hxx
    have hxe := (HX.out x XM.out).below HB.out
    obtain ⟨Ax, cx, hsx⟩ := hxe.shape
    have CL := Lib.hid (rows1_ok wr x.1 x.2 hxe (HO.out x XM.out) (HLL.out x XM.out) (HU.out.below HB.out))
    obtain ⟨nx, hnx⟩ : ∃ nx, x.2.length = nx := ⟨_, rfl⟩
    rw [hnx] at hsx
    rw [hsx] at cj CL
    clear hr hxx hsx hxe hnx
    go_wp2_with fail
    refine CL.out.mono ?_
    rintro e w' ⟨⟨b, rfl, hb⟩, b1⟩
    have HBI := Lib.hid hb
    have HB1 := Lib.hid (bstep HB.out b1)
    clear hb b1 CL
    cases b with
    | false =>
     go_wp2
     go_roundg (L - (j + 1))
     case measure => have := HJ.out; omega
     case rel =>
      refine ⟨j + 1, by have := HJ.out; omega, by go_num, HB1.out, fun q y hq hy => ?_⟩
      by_cases hqj : q < j
      ·exact HT.out q y hqj hy
      ·obtain rfl : q = j := by omega
       rw [HXX.out] at hy
       cases hy
       exact HBI.out.1 (by simp)
    | true =>
     go_wp2
     go_ret
     exact ⟨⟨(j : Int), rfl, .inl ⟨by omega, fun h => absurd (HBI.out.2 (h x XM.out)) (by simp)⟩⟩, HB1.out⟩
   ·have hd : decide ((j : Int) < (L : Int)) = false := by rw [decide_eq_false_iff_not]; omega
    obtain rfl : L = j := by have := HJ.out; omega
    go_wp2
    go_ret
    refine ⟨⟨-1, rfl, .inr ⟨rfl, fun x hx => ?_⟩⟩, HB.out⟩
    obtain ⟨q, hq, rfl⟩ := List.getElem_of_mem hx
    exact HT.out q _ (by rw [← HL.out]; exact hq) (List.getElem?_eq_getElem hq)
 have ID := Lib.hid idx
 clear idx hv hx ho hL hLn hU hlen
 go_enter Tryz.func60, Tryz.ntmps60
 go_wp2_with fail
 refine ID.out.mono ?_
 rintro e w' ⟨⟨i, rfl, hi⟩, b1⟩
 have HI := Lib.hid hi
 have HB := Lib.hid b1
 clear hi ID b1
 go_wp2
 go_ret
 refine ⟨⟨_, rfl, ?_⟩, HB.out⟩
 rcases HI.out with ⟨h1, h2⟩ | ⟨rfl, h2⟩
 ·exact ⟨fun h => (by simp at h; omega), fun h => absurd h h2⟩
 ·exact ⟨fun _ => h2, fun _ => rfl⟩
/-- What Rows returns. -/
def RowsRes (rows : List (Value × List Ev)) (R : List Ev) (T : List Int) (c : Int) : Prop := (¬ AllRow rows ∧ c = 121 ∧ R = [] ∧ T = []) ∨ (AllRow rows ∧ JoinRes (flatR rows) R T c)
set_option maxRecDepth 100000 in
set_option maxHeartbeats 3200000 in
theorem mrows_ok (w : World) (v : Value) (rows : List (Value × List Ev)) (hv : EV encVs 1 w v rows) (hx : ∀ x ∈ rows, EV encE 11 w x.1 x.2) (ho : ∀ e ∈ flatR rows, EvOk e) (hlen : rows.length ≤ 1000000) (hT : (flatR rows).length ≤ 100000000) (hU : UsesAt w) :
  Calls Tryz.prog 28 #[v] w fun r w' => ∃ v1 v2 c R T, r = .returned (.tuple #[v1, v2, .int .i64 c]) ∧ OV encE 11 28 w.heap.size w' v1 R ∧ OV encI 1 3 w.heap.size w' v2 T ∧ RowsRes rows R T c ∧ Below w.heap.size w w' := by
 have hL : ∀ x ∈ rows, x.2.length ≤ 1000000000 := fun x hxm => by
  obtain ⟨s, t, hst⟩ := List.append_of_mem hxm
  have : x.2.length ≤ (flatR rows).length := by rw [hst]; unfold flatR; simp; omega
  omega
 have H1 := Lib.hid (anyrow_ok w v rows hv hx (fun x hxm e he => ho e (List.mem_flatMap.2 ⟨x, hxm, he⟩)) hL (by omega) hU)
 have H2 := Lib.hid (fun W (hb : Below w.heap.size w W) => join_ok W v rows (hv.below hb) (fun x hxm => (hx x hxm).below hb) ho hlen hT)
 obtain ⟨A, c, hA⟩ := hv.shape
 obtain ⟨n, hn⟩ : ∃ n, rows.length = n := ⟨_, rfl⟩
 rw [hn] at hA
 subst hA
 clear hv hx ho hlen hT hU hL hn
 go_enter Tryz.func28, Tryz.ntmps28
 go_wp2_with fail
 refine H1.out.mono ?_
 rintro r w1 ⟨⟨b, rfl, hb⟩, b1⟩
 have HB := Lib.hid hb
 have HB1 := Lib.hid b1
 clear hb b1 H1
 cases b with
 | true =>
  go_wp2
  go_ret3
  exact ⟨_, _, _, [], [], rfl, OV.nil _ _, OV.nil _ _, .inl ⟨fun h => absurd (HB.out.2 h) (by simp), rfl, rfl, rfl⟩, HB1.out⟩
 | false =>
  have HJ := Lib.hid (H2.out w1 HB1.out)
  go_wp2_with fail
  refine HJ.out.mono ?_
  rintro r w2 ⟨v1, v2, cj, R, T, rfl, o1, o2, jr, b2⟩
  have HO1 := Lib.hid o1
  have HO2 := Lib.hid o2
  have HJR := Lib.hid jr
  have HB2 := Lib.hid (bstep HB1.out b2)
  clear o1 o2 jr b2 HJ
  go_wp2
  go_ret3
  exact ⟨_, _, _, R, T, rfl, HO1.out.base_le HB1.out.size, HO2.out.base_le HB1.out.size, .inr ⟨HB.out.1 (by simp), HJR.out⟩, HB2.out⟩
end Go.Proofs.YtalophngappkhaaGreatDoor
namespace Go.Proofs.YtalophngappkhaaGreatDoor
open Go.RowKit Go.Shelf
attribute [local go_sem] Oper.semAt_some

/-- The rows that two values name are different ones. -/
def Dj (u v : Value) : Prop := u.ownBlock = none ∨ u.ownBlock ≠ v.ownBlock
/-- 64 rows of the call's own, whose slices lie in the block Z. -/
structure Fam (W : World) (Z bn : Nat) (A : Array Value) (P : Nat → List Ev) : Prop where
 sz : A.size = 64
 cell : W.heap[Z]? = some (.cells A 22 (0, 0))
 zb : Z < bn ∧ bn ≤ W.heap.size
 rows : ∀ q, q < 64 → OV encE 11 28 bn W (A.getD q undef) (P q)
 dist : ∀ i j, i < 64 → j < 64 → i ≠ j → Dj (A.getD i undef) (A.getD j undef)
/-- The same, when row q is held by v. -/
structure FamH (W : World) (Z bn : Nat) (A : Array Value) (P : Nat → List Ev) (q : Nat) (v : Value) (ys : List Ev) : Prop where
 sz : A.size = 64
 cell : W.heap[Z]? = some (.cells A 22 (0, 0))
 zb : Z < bn ∧ bn ≤ W.heap.size
 rows : ∀ i, i < 64 → i ≠ q → OV encE 11 28 bn W (A.getD i undef) (P i)
 dist : ∀ i j, i < 64 → j < 64 → i ≠ q → j ≠ q → i ≠ j → Dj (A.getD i undef) (A.getD j undef)
 new : OV encE 11 28 bn W v ys
 newd : ∀ i, i < 64 → i ≠ q → Dj (A.getD i undef) v ∧ Dj v (A.getD i undef)
theorem Fam.below {W W' : World} {Z bn : Nat} {A : Array Value} {P : Nat → List Ev} (h : Fam W Z bn A P) (hb : Below W.heap.size W W') : Fam W' Z bn A P :=
 ⟨h.sz, (hb.block Z (Array.getElem?_eq_some_iff.1 h.cell).1).trans h.cell, ⟨h.zb.1, Nat.le_trans h.zb.2 hb.size⟩, fun q hq => (h.rows q hq).below hb, h.dist⟩
theorem Fam.at {W : World} {Z bn : Nat} {A : Array Value} {P : Nat → List Ev} (h : Fam W Z bn A P) {q : Nat} (hq : q < 64) : W.cell? ⟨Z, q, none⟩ = some (A.getD q undef) := by
 rw [cell_of_row W Z q _ _ _ h.cell, Array.getElem?_eq_getElem (by rw [h.sz]; exact hq), Array.getD_eq_getD_getElem?, Array.getElem?_eq_getElem (by rw [h.sz]; exact hq)]
 rfl
theorem Fam.app {W W' : World} {Z bn q : Nat} {A : Array Value} {P : Nat → List Ev} {v : Value} {ys : List Ev} (h : Fam W Z bn A P) (hq : q < 64) (ho : OV encE 11 28 bn W' v ys) (hg : W.grownBy W' (A.getD q undef).ownBlock) (ha : v.ownBlock = (A.getD q undef).ownBlock ∨ v.ownBlock = some W.heap.size) : FamH W' Z bn A P q v ys := by
 have hz : (A.getD q undef).ownBlock ≠ some Z := fun e => by have := ((h.rows q hq).block Z e).1; have := h.zb.1; omega
 refine ⟨h.sz, (hg.block Z (Array.getElem?_eq_some_iff.1 h.cell).1 (fun e => hz e.symm)).trans h.cell, ⟨h.zb.1, Nat.le_trans h.zb.2 hg.size⟩, fun i hi hne => (h.rows i hi).keep hg (h.dist i q hi hq hne), fun i j hi hj _ _ hij => h.dist i j hi hj hij, ho, fun i hi hne => ?_⟩
 rcases ha with e | e
 ·exact ⟨by unfold Dj; rw [e]; exact h.dist i q hi hq hne, by unfold Dj; rw [e]; exact h.dist q i hq hi (Ne.symm hne)⟩
 ·have hno : (A.getD i undef).ownBlock ≠ some W.heap.size := fun e' => by have := ((h.rows i hi).block _ e').2; omega
  exact ⟨.inr (by rw [e]; exact hno), .inr (by rw [e]; exact fun e' => hno e'.symm)⟩
/-- One of the lists exchanged. -/
def updL (P : Nat → List Ev) (q : Nat) (ys : List Ev) : Nat → List Ev := fun i => if i = q then ys else P i
theorem FamH.sto {W : World} {Z bn q : Nat} {A : Array Value} {P : Nat → List Ev} {v : Value} {ys : List Ev} (h : FamH W Z bn A P q v ys) (hq : q < 64) : Fam (W.setCell ⟨Z, q, none⟩ v) Z bn (A.setIfInBounds q v) (updL P q ys) := by
 have hm := Mod.setCell (a := W) (p := ⟨Z, q, none⟩) (T := fun k => k = Z) v rfl
 have hg : ∀ i, i < 64 → (A.setIfInBounds q v).getD i undef = if i = q then v else A.getD i undef := by
  intro i hi
  rw [Array.getD_eq_getD_getElem?, Array.getD_eq_getD_getElem?, Array.getElem?_setIfInBounds]
  by_cases hiq : i = q
  ·subst hiq; rw [if_pos rfl, if_pos rfl, if_pos (by rw [h.sz]; exact hi)]; rfl
  ·rw [if_neg (fun e => hiq e.symm), if_neg hiq]
 refine ⟨by simp [h.sz], heap_setCell_same W Z q _ _ v h.cell, ⟨h.zb.1, by simpa using h.zb.2⟩, fun i hi => ?_, fun i j hi hj hij => ?_⟩
 ·rw [hg i hi]
  unfold updL
  by_cases hiq : i = q
  ·rw [if_pos hiq, if_pos hiq]
   exact h.new.mod hm (fun g e t => by have := (h.new.block g e).1; have := h.zb.1; omega)
  ·rw [if_neg hiq, if_neg hiq]
   exact (h.rows i hi hiq).mod hm (fun g e t => by have := ((h.rows i hi hiq).block g e).1; have := h.zb.1; omega)
 ·rw [hg i hi, hg j hj]
  by_cases hiq : i = q
  ·rw [if_pos hiq, if_neg (by omega)]
   exact (h.newd j hj (by omega)).2
  ·by_cases hjq : j = q
   ·rw [if_neg hiq, if_pos hjq]
    exact (h.newd i hi hiq).1
   ·rw [if_neg hiq, if_neg hjq]
    exact h.dist i j hi hj hiq hjq hij
theorem Fam.new {W : World} {bn : Nat} (hb : bn = W.heap.size + 1) : Fam (W.alloc (.cells (Array.replicate 64 (.slice none 0 0)) 22)) W.heap.size bn (Array.replicate 64 (.slice none 0 0)) (fun _ => []) := by
 have hg : ∀ i, i < 64 → (Array.replicate 64 (Value.slice none 0 0)).getD i undef = .slice none 0 0 := fun i hi => by
  rw [Array.getD_eq_getD_getElem?, Array.getElem?_eq_getElem (by simpa using hi)]
  simp
 subst hb
 refine ⟨by simp, heap_alloc_new W _, ⟨Nat.lt_succ_self _, by simp⟩, fun q hq => ?_, fun i j hi hj hij => ?_⟩
 ·rw [hg q hq]; exact OV.nil _ _
 ·rw [hg i hi]; exact .inl rfl
theorem run_mkS {t e : TypeId} (ht : Tryz.prog.underlying t = some (.slice e)) (he : e = 22) (w : World) : (Instr.makeSlice t (.int .i64 64) (.int .i64 64)).run Tryz.prog w = .ok (.slice (some ⟨w.heap.size, 0, none⟩) 64 64) (w.alloc (.cells (Array.replicate 64 (.slice none 0 0)) 22)) := by
 subst he
 have h := run_make_row' (P := Tryz.prog) t 22 (.slice none 0 0) 24 ht (by kernel_rfl) rfl .i64 .i64 64 (by omega) (by omega) w
 rw [show madeCells #[Value.slice none 0 0] 64 = Array.replicate 64 (.slice none 0 0) from Array.toList_inj.1 (by rw [toList_madeCells_one]; simp)] at h
 exact h
/-- The events of a CPU. -/
def cpuL (l : List Ev) (q : Nat) : List Ev := l.filter (fun e => decide (e.cpu = (q : Int)))
theorem cpu_take {l : List Ev} {j q : Nat} {e : Ev} (h : l[j]? = some e) (hq : e.cpu = (q : Int)) : (fun i => cpuL (l.take (j + 1)) i) = updL (fun i => cpuL (l.take j) i) q (cpuL (l.take j) q ++ [e]) := by
 funext i
 unfold cpuL updL
 rw [List.take_add_one, h, List.filter_append]
 by_cases hi : i = q
 ·subst hi
  rw [if_pos rfl]
  simp [hq]
 ·rw [if_neg hi]
  have : ¬ (e.cpu = (i : Int)) := by omega
  simp [this]
/-- What is known in the region that appends. -/
structure FS (w : World) (Z bn : Nat) (A : Array Value) (P : Nat → List Ev) (B q : Nat) (e : Ev) (d9 d10 d12 : Bool) (v9 v10 : Value) (W : World) : Prop where
 bel : Below w.heap.size w W
 ev : d12 = false → EvP W B e
 lt : B < W.heap.size
 fam : d10 = false → d12 = false → Fam W Z bn A P
 a9 : d9 = true → d10 = false → EV encE 11 W v9 [e]
 a10 : d10 = true → d12 = false → FamH W Z bn A P q v10 (P q ++ [e])
 a12 : d12 = true → Fam W Z bn (A.setIfInBounds q v10) (updL P q (P q ++ [e]))
end Go.Proofs.YtalophngappkhaaGreatDoor
