/- quantumref12.First | The builtin append with its bound in bytes: lists as long as arguments may be | quantumlaw12.Turned: what is merged, for the reference | quantumlaw12.same, where both are the same. -/
import Derived.Test.YtalophngappkhaaGreatDoorV25
import Derived.Test.YtalophngappkhaaGreatDoorV27
import Derived.Test.YtalophngappkhaaGreatDoorV21
import Derived.Test.YtalophngappkhaaGreatDoorV1
import Derived.Test.YtalophngappkhaaGreatDoorV3
import Derived.Test.YtalophngappkhaaGreatDoorV24
import Derived.Deep.DeepCutAuto
import Derived.Test.YtalophngappkhaaGreatDoorV8
set_option linter.unusedVariables false
set_option linter.unusedSimpArgs false
set_option linter.unusedSectionVars false
namespace Go.Proofs.YtalophngappkhaaGreatDoor
open Go Go.RowKit Go.Shelf
attribute [local go_sem] Oper.semAt_some

structure RmBox (w : World) (Y : Nat) (ve vt vg : Value) (lost next : Int) (opn : Bool) : Prop where
 cell : w.heap[Y]? = some (.cells #[ve, vt, vg, .int .i64 lost, .int .i64 next, .bool opn] 91 (0, 0))
namespace RmBox
variable {w w' : World} {Y : Nat} {ve vt vg : Value} {lost next : Int} {opn : Bool}
theorem new (w : World) (ve vt vg : Value) (lost next : Int) (opn : Bool) : RmBox (w.alloc (.cells #[ve, vt, vg, .int .i64 lost, .int .i64 next, .bool opn] 91)) w.heap.size ve vt vg lost next opn := ⟨heap_alloc_new w _⟩
theorem lt (h : RmBox w Y ve vt vg lost next opn) : Y < w.heap.size := (Array.getElem?_eq_some_iff.1 h.cell).1
theorem c0 (h : RmBox w Y ve vt vg lost next opn) : w.cell? ⟨Y, 0, none⟩ = some ve := (cell_of_row w Y 0 _ _ (0, 0) h.cell).trans rfl
theorem c1 (h : RmBox w Y ve vt vg lost next opn) : w.cell? ⟨Y, 1, none⟩ = some vt := (cell_of_row w Y 1 _ _ (0, 0) h.cell).trans rfl
theorem c2 (h : RmBox w Y ve vt vg lost next opn) : w.cell? ⟨Y, 2, none⟩ = some vg := (cell_of_row w Y 2 _ _ (0, 0) h.cell).trans rfl
theorem c3 (h : RmBox w Y ve vt vg lost next opn) : w.cell? ⟨Y, 3, none⟩ = some (.int .i64 lost) := (cell_of_row w Y 3 _ _ (0, 0) h.cell).trans rfl
theorem c4 (h : RmBox w Y ve vt vg lost next opn) : w.cell? ⟨Y, 4, none⟩ = some (.int .i64 next) := (cell_of_row w Y 4 _ _ (0, 0) h.cell).trans rfl
theorem c5 (h : RmBox w Y ve vt vg lost next opn) : w.cell? ⟨Y, 5, none⟩ = some (.bool opn) := (cell_of_row w Y 5 _ _ (0, 0) h.cell).trans rfl
theorem below (h : RmBox w Y ve vt vg lost next opn) (hb : Below w.heap.size w w') : RmBox w' Y ve vt vg lost next opn := ⟨(hb.block Y h.lt).trans h.cell⟩
end RmBox
set_option maxRecDepth 100000 in
set_option maxHeartbeats 6400000 in
theorem r12first_ok (w : World) (ve vt vg : Value) (lost next fr : Int) (opn : Bool) (gaps : List (Int × Int)) (hv : EV encP 2 w vg gaps) (hl : gaps.length ≤ 100000000) :
  Calls Tryz.prog 49 #[mgA ve vt vg lost next opn, .int .i64 fr] w fun r w' => r = .returned (.tuple #[.int .i64 (frsE gaps next opn fr).1, .int .i64 (frsE gaps next opn fr).2]) ∧ Below w.heap.size w w' := by
 have HX := Lib.hid (RmBox.new w ve vt vg lost next opn)
 have HB := Lib.hid (bel_alloc w (.cells #[ve, vt, vg, .int .i64 lost, .int .i64 next, .bool opn] 91))
 have HV := Lib.hid hv
 have HR := Lib.hid (rright_ok _ vg gaps (hv.below HB.out) (by omega))
 obtain ⟨A, c, hA⟩ := hv.shape
 subst hA
 obtain ⟨n, hn⟩ : ∃ n, gaps.length = n := ⟨_, rfl⟩
 have HN := Lib.hid hn
 rw [hn] at hl HX HB HV HR ⊢
 obtain ⟨E, hE⟩ : ∃ E, frsE gaps next opn fr = E := ⟨_, rfl⟩
 have HE := Lib.hid hE
 rw [hE]
 clear hv hn hE
 unfold mgA
 go_enter Tryz.func49, Tryz.ntmps49
 go_upto_region 1 with fail
 generalize w.alloc (.cells #[ve, vt, .slice A n c, .int .i64 lost, .int .i64 next, .bool opn] 91) = wx at HX HB HR ⊢
 generalize w.heap.size = X at HX ⊢
 have c2 := HX.out.c2
 go_wp2_with fail
 refine HR.out.mono ?_
 rintro r w1 ⟨rfl, b1⟩
 have HX1 := Lib.hid (HX.out.below b1)
 have HB1 := Lib.hid (bstep HB.out b1)
 clear HX HB HR b1 c2
 by_cases hr : rightB gaps = true
 ·have HRT := Lib.hid (right_iff.1 hr)
  have c4 := HX1.out.c4
  by_cases hb : fr < 1 ∨ next < fr ∨ 281474976710657 < next
  ·have HEE := Lib.hid (show E = (0, 2) by rw [← HE.out]; unfold frsE; rw [if_neg (by rw [hr]; simp), if_pos hb])
   rw [hr]
   clear hr
   by_cases h1 : fr < 1
   ·have d1 : decide (fr < 1) = true := by simpa using h1
    clear hb h1
    go_wp2
    go_ret2
    exact ⟨by rw [HEE.out]; rfl, HB1.out⟩
   ·have d1 : decide (fr < 1) = false := by simpa using h1
    by_cases h2 : next < fr
    ·have d2 : decide (next < fr) = true := by simpa using h2
     clear hb h1 h2
     go_wp2
     go_ret2
     exact ⟨by rw [HEE.out]; rfl, HB1.out⟩
    ·have d2 : decide (next < fr) = false := by simpa using h2
     have d3 : decide (281474976710657 < next) = true := by simp; omega
     clear hb h1 h2
     go_wp2
     go_ret2
     exact ⟨by rw [HEE.out]; rfl, HB1.out⟩
  ·have HEE := Lib.hid (show E = match frsG gaps next fr with | some n => (n, 122) | none => if opn then (0, 123) else (0, 0) by rw [← HE.out]; unfold frsE; rw [if_neg (by rw [hr]; simp), if_neg hb]; cases frsG gaps next fr <;> rfl)
   have d1 : decide (fr < 1) = false := by simp; omega
   have d2 : decide (next < fr) = false := by simp; omega
   have d3 : decide (281474976710657 < next) = false := by simp; omega
   have HFR := Lib.hid (show 1 ≤ fr ∧ next ≤ 281474976710657 ∧ fr ≤ next by omega)
   rw [hr]
   clear hr hb
   have c2 := HX1.out.c2
   have c5 := HX1.out.c5
   have HEND := Lib.hid (show frsG gaps next fr = none → E = if opn then (0, 123) else (0, 0) from fun h => by rw [HEE.out, h])
   by_cases h4 : fr < next
   ·have d4 : decide (fr < next) = true := by simpa using h4
    obtain ⟨F1, F2⟩ := first_both (t := tkT 4) (fun x y => by cases x <;> cases y <;> rfl) HRT.out.2 HFR.out.1 h4 HFR.out.2.1
    have HF1 := Lib.hid F1
    have HF2 := Lib.hid F2
    have h1 := HFR.out.1
    have h3 := HFR.out.2.1
    have hwr : IntKind.i64.wrap (next - fr) = next - fr := IntWalk.i64_in _ (by omega)
    have HR0 := Lib.hid (show rerr [gaps, [(fr, next - fr)]] = 0 from by
     have e1 : rightB gaps = true := right_iff.2 HRT.out
     have e2 : rightB [(fr, next - fr)] = true := right_iff.2 ⟨by simp, can_one h1 h4 h3⟩
     unfold rerr; simp [e1, e2])
    have HNU := Lib.hid (EV.newL (w := w1) (e := 137) (cs := #[.int .i64 fr, .int .i64 (next - fr)]) (xs := [((fr, next - fr) : Int × Int)]) (n := 1) (c := 1) encP_len rfl rfl (Nat.le_refl _))
    have HNB := Lib.hid (bel_alloc w1 (.cells #[.int .i64 fr, .int .i64 (next - fr)] 137))
    clear F1 F2 h4
    go_wp2_with fail
    refine (rboth_ok _ (.slice A n c) _ gaps [(fr, next - fr)] 4 ((HV.out.below HB1.out).below HNB.out) HNU.out (by rw [HN.out]; omega) (by simp) (by omega) (by omega)).mono ?_
    rintro r w2 ⟨v2, rfl, o2, b2⟩
    rw [HR0.out] at o2 ⊢
    rw [if_pos rfl] at o2
    have HX2 := Lib.hid ((HX1.out.below HNB.out).below b2)
    have HB2 := Lib.hid (bstep (bstep HB1.out HNB.out) b2)
    clear b2 HNU HNB c2 c4 c5 hwr d1 d2 d3 d4 HX1 HB1
    rcases hg : frsG gaps next fr with _ | m
    ·rw [HF1.out hg] at o2
     obtain ⟨A2, c2', rfl⟩ := (o2.ev encP_len).shape
     have c5 := HX2.out.c5
     have HEN := Lib.hid (HEND.out hg)
     clear hg o2 h1 h3
     cases opn
     ·go_wp2
      go_ret2
      exact ⟨by rw [HEN.out]; rfl, HB2.out⟩
     ·go_wp2
      go_ret2
      exact ⟨by rw [HEN.out]; rfl, HB2.out⟩
    ·obtain ⟨cc, l, hcl⟩ := HF2.out m hg
     rw [hcl] at o2
     obtain ⟨b, off, c', rfl, hcc, rr⟩ := (o2.ev encP_len).row (by simp)
     obtain ⟨k0, k1⟩ := rr.prs (show ((m, cc) :: l)[0]? = some (m, cc) from rfl)
     have HEN := Lib.hid (show E = (m, 122) by rw [HEE.out, hg])
     obtain ⟨L, hL⟩ : ∃ L, ((m, cc) :: l).length = L := ⟨_, rfl⟩
     have hL0 : 0 < L := by rw [← hL]; simp
     rw [hL]
     clear hg hcl o2 h1 h3 hcc rr hL
     dsimp only at k0
     simp only [Nat.zero_mul, Nat.add_zero] at k0
     go_wp2
     go_ret2
     exact ⟨by rw [HEN.out]; rfl, HB2.out⟩
   ·have d4 : decide (fr < next) = false := by simpa using h4
    have hg : frsG gaps next fr = none := by
     rcases hg : frsG gaps next fr with _ | m
     ·rfl
     ·obtain ⟨_, a, b, _⟩ := (frsG_spec (next := next) (fr := fr) HRT.out.2).1 m hg
      omega
    have HEN := Lib.hid (HEND.out hg)
    clear h4 hg
    cases opn
    ·go_wp2
     go_ret2
     exact ⟨by rw [HEN.out]; rfl, HB1.out⟩
    ·go_wp2
     go_ret2
     exact ⟨by rw [HEN.out]; rfl, HB1.out⟩
 ·have hrf : rightB gaps = false := by simpa using hr
  have HEE := Lib.hid (show E = (0, 90) by rw [← HE.out]; unfold frsE; rw [if_pos hrf])
  rw [hrf]
  clear hr hrf
  go_wp2
  go_ret2
  exact ⟨by rw [HEE.out]; rfl, HB1.out⟩
end Go.Proofs.YtalophngappkhaaGreatDoor
namespace Go.Proofs.YtalophngappkhaaGreatDoor
open Go Go.RowKit
section
variable {P : Program} {α : Type} {enc : α → List Value} {k bytes base : Nat} {t e : TypeId} {w w' : World} {v sv : Value} {xs ys : List α}
theorem run_appB (T : ElemT P t e k bytes) (hk : ∀ x, (enc x).length = k) (h1 : ∀ x, ∀ u ∈ enc x, u.oneCell' = true) (ty : TypeId)
  (hown : OV enc k e base w v xs) (hys : EV enc k w sv ys) (hbb : (xs.length + ys.length) * bytes ≤ 140737488355328) (hml : xs.length + ys.length ≤ maxLen) (hbase : base ≤ w.heap.size) :
  ∃ v' w', (Builtin.append_ #[t, t] ty #[v, sv]).run P w = .ok v' w' ∧ OV enc k e base w' v' (xs ++ ys) ∧ w.grownBy w' v.ownBlock := by
 obtain ⟨i, z, hi, hz, hsz, hby, hzs⟩ := T.hi
 have own : ∀ {ad : Addr} {c : Nat}, sv = .slice (some ad) ys.length c → (∀ j u, (ys.flatMap enc)[j]? = some u → w.cell? (ad.add j) = some u) →
   ∃ v' w', (Builtin.append_ #[t, t] ty #[v, sv]).run P w = .ok v' w' ∧ OV enc k e base w' v' (xs ++ ys) ∧ w.grownBy w' v.ownBlock := by
  intro ad c hsv hc
  subst hsv
  obtain ⟨v', w', hr, ho, hg, _⟩ := run_append_own (P := P) w base t ty e i z k bytes T.ht hi hz hsz hby hzs T.hk v xs.length _ hown ad ys.length c (ys.flatMap enc)
   (flat_len hk ys) hc (fun u hu => by obtain ⟨x, _, hx⟩ := List.mem_flatMap.1 hu; exact h1 x u hx) hml hbb hbase
  refine ⟨v', w', hr, ?_, hg⟩
  unfold OV
  rw [List.length_append, List.flatMap_append]
  exact ho
 rcases hys with ⟨rfl, A, c, rfl⟩ | ⟨hne, b, off, c, rfl, hle, hr⟩
 ·cases A with
  | some ad => exact own rfl (by simp)
  | none =>
   refine ⟨v, w, ?_, by simpa using hown, ⟨rfl, rfl, rfl, Nat.le_refl _, fun _ _ _ => rfl⟩⟩
   rcases hown.2 with ⟨rfl, _⟩ | ⟨g, cap, cur, rfl, _, _, hnc, _⟩
   ·simp [Builtin.append_, run_underlying T.ht, sizeOf, typeInfo, hi, Builtin.lenOf, Builtin.firstCells]
   ·simp [Builtin.append_, run_underlying T.ht, sizeOf, typeInfo, hi, Builtin.lenOf, Builtin.firstCells, hnc, storeCells]
 ·refine own rfl fun j u hj => ?_
  rw [Addr.add_lit]
  have hkp := T.hk
  have hjl : j < ys.length * k := by
   have := (List.getElem?_eq_some_iff.1 hj).1
   rwa [flat_len hk] at this
  have hq : j / k < ys.length := Nat.div_lt_of_lt_mul (by rwa [Nat.mul_comm])
  have hdm : j / k * k + j % k = j := by rw [Nat.mul_comm]; exact Nat.div_add_mod j k
  have hm : j % k < (enc ys[j / k]).length := by rw [hk]; exact Nat.mod_lt _ hkp
  obtain ⟨u', hu'⟩ : ∃ u', (enc ys[j / k])[j % k]? = some u' := ⟨_, List.getElem?_eq_getElem hm⟩
  have h2 := flat_get hk ys (j / k) ys[j / k] (List.getElem?_eq_getElem hq) (j % k) u' hu'
  rw [hdm, hj] at h2
  cases h2
  have := hr (j / k) ys[j / k] (List.getElem?_eq_getElem hq) (j % k) u hu'
  rwa [Nat.add_assoc, hdm] at this

theorem wpList_appB {ops : Array Oper} {rest : List Oper} {o : Oper} {a : Act} {Q : Exit → Act → World → Prop} (T : ElemT P t e k bytes) (hk : ∀ x, (enc x).length = k) (h1 : ∀ x, ∀ u ∈ enc x, u.oneCell' = true)
  (hgd : o.guard = none) (s x : Operand) (ho : o.op = .call { callee := .builtin .append, args := #[s, x], argTypes := #[t, t] })
  (v sv : Value) (hs : a.eval s = v) (hx : a.eval x = sv) (hown : OV enc k e base w v xs) (hys : EV enc k w sv ys) (hbb : (xs.length + ys.length) * bytes ≤ 140737488355328) (hml : xs.length + ys.length ≤ maxLen) (hbase : base ≤ w.heap.size)
  (h : ∀ v' w', OV enc k e base w' v' (xs ++ ys) → w.grownBy w' v.ownBlock → wpList P ops Q rest (a.put o.dst v') w') : wpList P ops Q (o :: rest) a w := by
 refine wpList_plain hgd fun _ hK => ?_
 obtain ⟨v', w', hr, h2, h3⟩ := run_appB T hk h1 o.type hown hys hbb hml hbase
 unfold Oper.wp execOp
 simp only [ho, resolve, invoke, builtin, Sem.run_bind, Sem.run_pure, Result.andThen_ok, List.map_toArray, List.map_cons, List.map_nil, hs, hx, hr]
 exact hK _ _ (h v' w' h2 h3)

end
end Go.Proofs.YtalophngappkhaaGreatDoor
namespace Go.Proofs.YtalophngappkhaaGreatDoor
open Go Go.RowKit Go.Shelf
attribute [local go_sem] Oper.semAt_some

set_option maxHeartbeats 400000 in
theorem clone_intB (w : World) (v1 : Value) (xs : List (Int)) (h1 : EV encI 1 w v1 xs) (b1 : xs.length * 8 ≤ 140737488355328) :
  Calls Tryz.prog 78 #[v1] w fun e w' => ∃ v, e = .returned v ∧ OV encI 1 3 w.heap.size w' v xs ∧ Below w.heap.size w w' := by
 obtain ⟨A, c, rfl⟩ := h1.shape
 have H1 := Lib.hid h1
 clear h1
 have heq : ∀ (w : World) (a : Option Addr) (n c n' c' : Nat), (binOp .eql 32 (.slice a n c) (.slice none n' c')).run Tryz.prog w = .ok (.bool a.isNone) w := fun w a n c n' c' => Lib.run_eql_slice_nil w _ _ a n c n' c' Tryz.underlying32
 cases A with
 | none =>
  obtain rfl : xs = [] := by
   rcases H1.out with ⟨h, _⟩ | ⟨_, b, off, c', h, _⟩
   ·exact h
   ·cases h
  clear H1 b1
  go_enter Tryz.func78, Tryz.ntmps78
  go_wp2
  go_ret
  exact ⟨_, rfl, OV.nil _ _, Below.refl _ _⟩
 | some ad =>
  go_enter Tryz.func78, Tryz.ntmps78
  go_wp2_with (at_builtin; refine wpList_appB elemI encI_len encI_one rfl _ _ rfl _ _ rfl rfl (OV.made w 0 #[] (Nat.le_refl _) (Nat.zero_le _) rfl) (H1.out.keep fun p u hc => ?qc) ?qn ?qm ?qb ?_)
  case qc => exact (World.cell?_alloc_lt w _ p (cell_lt hc)).trans hc
  case qn => simpa using b1
  case qm => unfold maxLen; simp; omega
  case qb => simp
  intro v' w1 hown hgrow
  go_wp2
  go_ret
  refine ⟨v', rfl, by simpa using hown, ((Below.refl _ w).alloc (Nat.le_refl _) _).grown hgrow (by simp) (by intro k hk; simp [Value.ownBlock] at hk; omega)⟩

namespace RmBox
variable {w w' : World} {Y : Nat} {ve vt vg : Value} {lost next : Int} {opn : Bool}
theorem frz (h : RmBox w Y ve vt vg lost next opn) (i : Nat) : w.frozen? ⟨Y, i, none⟩ = false := frozen_of_row w Y i _ _ h.cell
theorem grown {row : Option Nat} (h : RmBox w Y ve vt vg lost next opn) (hg : w.grownBy w' row) (hr : row ≠ some Y) : RmBox w' Y ve vt vg lost next opn := ⟨(hg.block Y h.lt (fun e => hr e.symm)).trans h.cell⟩
theorem setOther (h : RmBox w Y ve vt vg lost next opn) {p : Addr} (hp : Y ≠ p.block) (u : Value) : RmBox (w.setCell p u) Y ve vt vg lost next opn := ⟨(Below.heap_setCell _ _ _ _ hp).trans h.cell⟩
theorem set0 (h : RmBox w Y ve vt vg lost next opn) (u : Value) : RmBox (w.setCell ⟨Y, 0, none⟩ u) Y u vt vg lost next opn := ⟨heap_setCell_same w Y 0 _ _ _ h.cell⟩
theorem set1 (h : RmBox w Y ve vt vg lost next opn) (u : Value) : RmBox (w.setCell ⟨Y, 1, none⟩ u) Y ve u vg lost next opn := ⟨heap_setCell_same w Y 1 _ _ _ h.cell⟩
theorem set2 (h : RmBox w Y ve vt vg lost next opn) (u : Value) : RmBox (w.setCell ⟨Y, 2, none⟩ u) Y ve vt u lost next opn := ⟨heap_setCell_same w Y 2 _ _ _ h.cell⟩
theorem set3 (h : RmBox w Y ve vt vg lost next opn) (u : Int) : RmBox (w.setCell ⟨Y, 3, none⟩ (.int .i64 u)) Y ve vt vg u next opn := ⟨heap_setCell_same w Y 3 _ _ _ h.cell⟩
theorem set4 (h : RmBox w Y ve vt vg lost next opn) (u : Int) : RmBox (w.setCell ⟨Y, 4, none⟩ (.int .i64 u)) Y ve vt vg lost u opn := ⟨heap_setCell_same w Y 4 _ _ _ h.cell⟩
theorem set5 (h : RmBox w Y ve vt vg lost next opn) (u : Bool) : RmBox (w.setCell ⟨Y, 5, none⟩ (.bool u)) Y ve vt vg lost next u := ⟨heap_setCell_same w Y 5 _ _ _ h.cell⟩
end RmBox
theorem load_rm {w : World} {Y : Nat} {ve vt vg : Value} {lost next : Int} {opn : Bool} (h : RmBox w Y ve vt vg lost next opn) : (loadVar 91 ⟨Y, 0, none⟩).run Tryz.prog w = .ok (mgA ve vt vg lost next opn) w := by
 have h1 : (isAgg 91).run Tryz.prog w = .ok true w := by kernel_rfl
 have h2 : (Go.sizeOf 91).run Tryz.prog w = .ok 6 w := by kernel_rfl
 unfold loadVar
 simp [Sem.run_bind, h1, h2, Result.andThen, loadCells, loadCellsFrom, go_sem, h.c0, h.c1, h.c2, h.c3, h.c4, h.c5]
 rfl
theorem OV.sixM {α : Type} {enc : α → List Value} {k base : Nat} {e : TypeId} {w w' : World} {v : Value} {xs : List α} {Y : Nat} {cs : Array Value} {t : TypeId} (h : OV enc k e base w v xs) (hb : w.heap[Y]? = some (.cells cs t (0, 0))) (hne : e ≠ t) (hm : Mod (fun j => j = Y) w w') : OV enc k e base w' v xs := by
 refine h.mod hm fun g hg he => ?_
 subst he
 rcases h.2 with ⟨rfl, _⟩ | ⟨g', cap, cur, rfl, _, hg', _⟩
 ·cases hg
 ·obtain rfl : g' = g := by simpa [Value.ownBlock] using hg
  rw [hb] at hg'
  cases hg'
  exact hne rfl
theorem OV.neB {α : Type} {enc : α → List Value} {k base : Nat} {e : TypeId} {w : World} {v : Value} {xs : List α} {Y : Nat} {cs : Array Value} {t : TypeId} (h : OV enc k e base w v xs) (hb : w.heap[Y]? = some (.cells cs t (0, 0))) (hne : e ≠ t) : v.ownBlock ≠ some Y := by
 intro hg
 rcases h.2 with ⟨rfl, _⟩ | ⟨g', cap, cur, rfl, _, hg', _⟩
 ·cases hg
 ·obtain rfl : g' = Y := by simpa [Value.ownBlock] using hg
  rw [hb] at hg'
  cases hg'
  exact hne rfl
/-- The box of what is turned, in memory of the call's own. -/
structure TnS (B : Nat) (W : World) (Y : Nat) (v1 v2 v3 : Value) (evs : List Ev) (tw : List Int) (G : List (Int × Int)) (lost next : Int) (opn : Bool) : Prop where
 yb : B ≤ Y
 box : RmBox W Y v1 v2 v3 lost next opn
 oe : OV encE 11 96 B W v1 evs
 ot : OV encI 1 3 B W v2 tw
 og : OV encP 2 137 B W v3 G
theorem TnS.below {B : Nat} {W W' : World} {Y : Nat} {v1 v2 v3 : Value} {evs : List Ev} {tw : List Int} {G : List (Int × Int)} {lost next : Int} {opn : Bool} (h : TnS B W Y v1 v2 v3 evs tw G lost next opn) (hb : Below W.heap.size W W') : TnS B W' Y v1 v2 v3 evs tw G lost next opn :=
 ⟨h.yb, h.box.below hb, h.oe.below hb, h.ot.below hb, h.og.below hb⟩
theorem TnS.put {B : Nat} {W W' : World} {Y : Nat} {v1 v2 v3 v' : Value} {evs : List Ev} {tw : List Int} {G G' : List (Int × Int)} {lost next : Int} {opn : Bool} (h : TnS B W Y v1 v2 v3 evs tw G lost next opn) (hg : W.grownBy W' v3.ownBlock) (ho : OV encP 2 137 B W' v' G') : TnS B (W'.setCell ⟨Y, 2, none⟩ v') Y v1 v2 v' evs tw G' lost next opn := by
 have hb := h.box.grown hg (h.og.neB h.box.cell (by decide))
 have hm : Mod (fun j => j = Y) W' (W'.setCell ⟨Y, 2, none⟩ v') := Mod.setCell _ rfl
 have n1 := h.oe.ne h.og (by decide)
 have n2 := h.ot.ne h.og (by decide)
 exact ⟨h.yb, hb.set2 v', (h.oe.keep hg n1).sixM hb.cell (by decide) hm, (h.ot.keep hg n2).sixM hb.cell (by decide) hm, ho.sixM hb.cell (by decide) hm⟩
def RZBox (B : Nat) (W : World) (v : Value) : Prop := ∃ Y, v = .pointer (some ⟨Y, 0, none⟩) ∧ B ≤ Y ∧ RmBox W Y (.slice none 0 0) (.slice none 0 0) (.slice none 0 0) 0 0 false
theorem RZBox.below {B : Nat} {W W' : World} {v : Value} (h : RZBox B W v) (hb : Below W.heap.size W W') : RZBox B W' v := by
 obtain ⟨Y, e, a, b⟩ := h
 exact ⟨Y, e, a, b.below hb⟩
/-- The built struct, ahead of its store. -/
def TnV (B : Nat) (W : World) (v : Value) (evs : List Ev) (tw : List Int) (lost next : Int) (opn : Bool) : Prop :=
 ∃ A1 n1 c1 A2 n2 c2, v = mgA (.slice A1 n1 c1) (.slice A2 n2 c2) (.slice none 0 0) lost next opn ∧ OV encE 11 96 B W (.slice A1 n1 c1) evs ∧ OV encI 1 3 B W (.slice A2 n2 c2) tw
theorem TnV.below {B : Nat} {W W' : World} {v : Value} {evs : List Ev} {tw : List Int} {lost next : Int} {opn : Bool} (h : TnV B W v evs tw lost next opn) (hb : Below W.heap.size W W') : TnV B W' v evs tw lost next opn := by
 obtain ⟨A1, n1, c1, A2, n2, c2, e, a, b⟩ := h
 exact ⟨A1, n1, c1, A2, n2, c2, e, a.below hb, b.below hb⟩
def TFB (B : Nat) (W : World) (v : Value) (evs : List Ev) (tw : List Int) (lost next : Int) (opn : Bool) : Prop :=
 ∃ Y A1 n1 c1 A2 n2 c2, v = .pointer (some ⟨Y, 0, none⟩) ∧ TnS B W Y (.slice A1 n1 c1) (.slice A2 n2 c2) (.slice none 0 0) evs tw [] lost next opn
theorem TFB.below {B : Nat} {W W' : World} {v : Value} {evs : List Ev} {tw : List Int} {lost next : Int} {opn : Bool} (h : TFB B W v evs tw lost next opn) (hb : Below W.heap.size W W') : TFB B W' v evs tw lost next opn := by
 obtain ⟨Y, A1, n1, c1, A2, n2, c2, e, a⟩ := h
 exact ⟨Y, A1, n1, c1, A2, n2, c2, e, a.below hb⟩
theorem rm_store {wc W : World} {Y : Nat} {v1 v2 v3 : Value} {lost next : Int} {opn : Bool} {A1 A2 : Option Addr} {n1 c1 n2 c2 : Nat} {R : List Ev} {T : List Int} {l0 x0 : Int} {o0 : Bool} (hb : RmBox W Y v1 v2 v3 l0 x0 o0) (hy : wc.heap.size ≤ Y) (hw : Below wc.heap.size wc W)
  (h1 : OV encE 11 96 wc.heap.size W (.slice A1 n1 c1) R) (h2 : OV encI 1 3 wc.heap.size W (.slice A2 n2 c2) T) :
  TnS wc.heap.size ((((((W.setCell ⟨Y, 0, none⟩ (.slice A1 n1 c1)).setCell ⟨Y, 1, none⟩ (.slice A2 n2 c2)).setCell ⟨Y, 2, none⟩ (.slice none 0 0)).setCell ⟨Y, 3, none⟩ (.int .i64 lost)).setCell ⟨Y, 4, none⟩ (.int .i64 next)).setCell ⟨Y, 5, none⟩ (.bool opn)) Y (.slice A1 n1 c1) (.slice A2 n2 c2) (.slice none 0 0) R T [] lost next opn ∧
  Below wc.heap.size wc ((((((W.setCell ⟨Y, 0, none⟩ (.slice A1 n1 c1)).setCell ⟨Y, 1, none⟩ (.slice A2 n2 c2)).setCell ⟨Y, 2, none⟩ (.slice none 0 0)).setCell ⟨Y, 3, none⟩ (.int .i64 lost)).setCell ⟨Y, 4, none⟩ (.int .i64 next)).setCell ⟨Y, 5, none⟩ (.bool opn)) := by
 have hm := (((((Mod.setCell (a := W) (p := ⟨Y, 0, none⟩) (T := fun k => k = Y) (.slice A1 n1 c1) rfl).trans (Mod.setCell (p := ⟨Y, 1, none⟩) (T := fun k => k = Y) (.slice A2 n2 c2) rfl)).trans (Mod.setCell (p := ⟨Y, 2, none⟩) (T := fun k => k = Y) (.slice none 0 0) rfl)).trans (Mod.setCell (p := ⟨Y, 3, none⟩) (T := fun k => k = Y) (.int .i64 lost) rfl)).trans (Mod.setCell (p := ⟨Y, 4, none⟩) (T := fun k => k = Y) (.int .i64 next) rfl)).trans (Mod.setCell (p := ⟨Y, 5, none⟩) (T := fun k => k = Y) (.bool opn) rfl)
 exact ⟨⟨hy, (((((hb.set0 _).set1 _).set2 _).set3 _).set4 _).set5 _, h1.sixM hb.cell (by decide) hm, h2.sixM hb.cell (by decide) hm, OV.nil _ _⟩,
  hw.trans (hm.below (B := wc.heap.size) (fun k hk e => by omega) hw.size)⟩
set_option maxRecDepth 100000 in
set_option maxHeartbeats 6400000 in
theorem turned12_ok (w : World) (ve vt vg : Value) (evs : List Ev) (tw : List Int) (gaps : List (Int × Int)) (lost next : Int) (opn : Bool) (he : EV encE 11 w ve evs) (ht : EV encI 1 w vt tw) (hg : EV encP 2 w vg gaps)
  (l1 : evs.length ≤ 1000000) (l2 : tw.length * 8 ≤ 140737488355328) (l3 : gaps.length ≤ 1000000) :
  Calls Tryz.prog 48 #[mgA ve vt vg lost next opn] w fun r w' => ∃ A1 n1 c1 A2 n2 c2 A3 n3 c3, r = .returned (mgA (.slice A1 n1 c1) (.slice A2 n2 c2) (.slice A3 n3 c3) lost next opn) ∧
   OV encE 11 96 w.heap.size w' (.slice A1 n1 c1) evs ∧ OV encI 1 3 w.heap.size w' (.slice A2 n2 c2) tw ∧ OV encP 2 137 w.heap.size w' (.slice A3 n3 c3) gaps ∧ Below w.heap.size w w' := by
 have HA1 := Lib.hid (bel_alloc w (.cells #[ve, vt, vg, .int .i64 lost, .int .i64 next, .bool opn] 39))
 have HX := Lib.hid ((MgBox.new w ve vt vg lost next opn).below (bel_alloc _ (.cells #[.slice none 0 0, .slice none 0 0, .slice none 0 0, .int .i64 0, .int .i64 0, .bool false] 91)))
 have HZ := Lib.hid (RmBox.new (w.alloc (.cells #[ve, vt, vg, .int .i64 lost, .int .i64 next, .bool opn] 39)) (.slice none 0 0) (.slice none 0 0) (.slice none 0 0) 0 0 false)
 have HB := Lib.hid (bstep HA1.out (bel_alloc _ (.cells #[.slice none 0 0, .slice none 0 0, .slice none 0 0, .int .i64 0, .int .i64 0, .bool false] 91)))
 have HE := Lib.hid he
 have HT := Lib.hid ht
 have HG := Lib.hid hg
 have HL := Lib.hid (And.intro l1 (And.intro l2 l3))
 clear he ht hg l1 l2 l3 HA1
 unfold mgA
 go_enter Tryz.func48, Tryz.ntmps48
 go_upto_region 1 with fail
 have hsz : (w.alloc (.cells #[ve, vt, vg, .int .i64 lost, .int .i64 next, .bool opn] 39)).heap.size = w.heap.size + 1 := by simp
 try rw [hsz] at HZ
 generalize (w.alloc (.cells #[ve, vt, vg, .int .i64 lost, .int .i64 next, .bool opn] 39)).alloc (.cells #[.slice none 0 0, .slice none 0 0, .slice none 0 0, .int .i64 0, .int .i64 0, .bool false] 91) = wc at HX HZ HB ⊢
 clear hsz
 obtain ⟨Z, hZ⟩ : ∃ Z, w.heap.size + 1 = Z := ⟨_, rfl⟩
 obtain ⟨X, hX⟩ : ∃ X, w.heap.size = X := ⟨_, rfl⟩
 rw [hZ] at HZ ⊢
 have HZL := Lib.hid (show w.heap.size < Z by omega)
 rw [hX] at HX ⊢
 have HXX := Lib.hid hX
 clear hZ hX
 have HBX := HX
 go_cut [3] (fun a wz => ∃ wq, wq = wz ∧ TFB wc.heap.size wq a evs tw lost next opn ∧ Below wc.heap.size wc wq)
 case first =>
  go_wp2_with fail
  refine wp_region_dagG (by kernel_rfl) 15 rfl (fun i => i == 2 || i == 5 || i == 12 || i == 13 || i == 14) (fun i => !(false)) ?hMw (fun x => ⟨#[.agg #[ve, vt, vg, .int .i64 lost, .int .i64 next, .bool opn], .pointer (some ⟨X, 0, none⟩), .pointer (some ⟨Z, 0, none⟩), x 13, undef, undef, x 0, x 1, x 2, x 3, x 4, x 5, x 6, x 7, x 8, x 9, x 10, x 11, x 12, undef, undef, undef, undef, undef, undef, undef, undef, undef, undef, undef, undef, undef, undef, undef], []⟩) (fun iF vF => match iF with | 0 => vF = .pointer (some ⟨X, 0, none⟩) | 1 => vF = ve | 3 => vF = .pointer (some ⟨X, 1, none⟩) | 4 => vF = vt | 6 => vF = .pointer (some ⟨X, 3, none⟩) | 7 => vF = .int .i64 lost | 8 => vF = .pointer (some ⟨X, 4, none⟩) | 9 => vF = .int .i64 next | 10 => vF = .pointer (some ⟨X, 5, none⟩) | 11 => vF = .bool opn | _ => True)
   (fun d x W => Below wc.heap.size wc W ∧ (d 2 = true → d 14 = false → OV encE 11 96 wc.heap.size W (x 2) evs) ∧ (d 5 = true → d 14 = false → OV encI 1 3 wc.heap.size W (x 5) tw) ∧ (d 12 = true → d 14 = false → TnV wc.heap.size W (x 12) evs tw lost next opn) ∧ (d 13 = true → d 14 = false → RZBox wc.heap.size W (x 13)) ∧ (d 14 = true → TFB wc.heap.size W (x 13) evs tw lost next opn)) ?hB ?hwant ?hoff (by kernel_rfl) ?hpure ?hmem ?hend (fun i => (#[undef, undef, undef, undef, undef, undef, undef, undef, undef, undef, undef, undef, undef, undef, undef] : Array Value).getD i undef) rfl ?hstart
  case hstart =>
   try dsimp only
   exact ⟨below_drew (Below.refl _ _), fun h => (by cases h), fun h => (by cases h), fun h => (by cases h), fun h => (by cases h), fun h => (by cases h)⟩
  case hB =>
   intro d d' x i v W hi hm h
   have g2 : ¬ 2 = i := by rintro rfl; exact absurd (show true = false from hi) (by simp)
   have e2 : d' 2 = d 2 := hm 2 rfl
   have g5 : ¬ 5 = i := by rintro rfl; exact absurd (show true = false from hi) (by simp)
   have e5 : d' 5 = d 5 := hm 5 rfl
   have g12 : ¬ 12 = i := by rintro rfl; exact absurd (show true = false from hi) (by simp)
   have e12 : d' 12 = d 12 := hm 12 rfl
   have g13 : ¬ 13 = i := by rintro rfl; exact absurd (show true = false from hi) (by simp)
   have e13 : d' 13 = d 13 := hm 13 rfl
   have g14 : ¬ 14 = i := by rintro rfl; exact absurd (show true = false from hi) (by simp)
   have e14 : d' 14 = d 14 := hm 14 rfl
   try dsimp only at h ⊢
   first | rw [upd_ne g2, upd_ne g5, upd_ne g12, upd_ne g13, upd_ne g14, e2, e5, e12, e13, e14] | simp only [upd_ne g2, upd_ne g5, upd_ne g12, upd_ne g13, upd_ne g14, e2, e5, e12, e13, e14]
   exact h
  case hMw =>
   intro i hi
   simp only [Bool.or_eq_true, beq_iff_eq] at hi
   rcases hi with (((rfl | rfl) | rfl) | rfl) | rfl
   all_goals rfl
  case hwant =>
   intro iF o hi ho x hf
   rcases (show iF = 0 ∨ iF = 1 ∨ iF = 2 ∨ iF = 3 ∨ iF = 4 ∨ iF = 5 ∨ iF = 6 ∨ iF = 7 ∨ iF = 8 ∨ iF = 9 ∨ iF = 10 ∨ iF = 11 ∨ iF = 12 ∨ iF = 13 ∨ iF = 14 by omega) with rfl | rfl | rfl | rfl | rfl | rfl | rfl | rfl | rfl | rfl | rfl | rfl | rfl | rfl | rfl <;> obtain rfl := Option.some.inj ho
   all_goals rfl
  case hoff =>
   intro iF o hi hw ho x
   rcases (show iF = 0 ∨ iF = 1 ∨ iF = 2 ∨ iF = 3 ∨ iF = 4 ∨ iF = 5 ∨ iF = 6 ∨ iF = 7 ∨ iF = 8 ∨ iF = 9 ∨ iF = 10 ∨ iF = 11 ∨ iF = 12 ∨ iF = 13 ∨ iF = 14 by omega) with rfl | rfl | rfl | rfl | rfl | rfl | rfl | rfl | rfl | rfl | rfl | rfl | rfl | rfl | rfl
   all_goals first | exact absurd (show true = false from hw) (by simp) | skip
  case hpure =>
   intro iF o hi hnm hww ho d x W hB hd hdn hnd hcl Kq hK
   rcases (show iF = 0 ∨ iF = 1 ∨ iF = 2 ∨ iF = 3 ∨ iF = 4 ∨ iF = 5 ∨ iF = 6 ∨ iF = 7 ∨ iF = 8 ∨ iF = 9 ∨ iF = 10 ∨ iF = 11 ∨ iF = 12 ∨ iF = 13 ∨ iF = 14 by omega) with rfl | rfl | rfl | rfl | rfl | rfl | rfl | rfl | rfl | rfl | rfl | rfl | rfl | rfl | rfl <;> obtain rfl := Option.some.inj ho
   all_goals first | exact absurd (show true = false from hnm) (by simp) | skip
   ·clear ho hd hdn hnd hcl hB hnm hi
    simp only [upd, reduceIte, Nat.reduceEqDiff] at hK
    try dsimp only
    go_simp
    exact hK _ rfl
   ·have e0 : x 0 = .pointer (some ⟨X, 0, none⟩) := hd 0 (by kernel_rfl) (by kernel_rfl)
    have hb := hB.1
    have hz := HBX.out.below hb
    have cz := hz.c0
    clear hz
    clear ho hd hdn hnd hcl hB hnm hi
    simp only [upd, reduceIte, Nat.reduceEqDiff, e0] at hK
    try dsimp only
    go_simp
    exact hK _ rfl
   ·clear ho hd hdn hnd hcl hB hnm hi
    simp only [upd, reduceIte, Nat.reduceEqDiff] at hK
    try dsimp only
    go_simp
    exact hK _ rfl
   ·have e3 : x 3 = .pointer (some ⟨X, 1, none⟩) := hd 3 (by kernel_rfl) (by kernel_rfl)
    have hb := hB.1
    have hz := HBX.out.below hb
    have cz := hz.c1
    clear hz
    clear ho hd hdn hnd hcl hB hnm hi
    simp only [upd, reduceIte, Nat.reduceEqDiff, e3] at hK
    try dsimp only
    go_simp
    exact hK _ rfl
   ·clear ho hd hdn hnd hcl hB hnm hi
    simp only [upd, reduceIte, Nat.reduceEqDiff] at hK
    try dsimp only
    go_simp
    exact hK _ rfl
   ·have e6 : x 6 = .pointer (some ⟨X, 3, none⟩) := hd 6 (by kernel_rfl) (by kernel_rfl)
    have hb := hB.1
    have hz := HBX.out.below hb
    have cz := hz.c3
    clear hz
    clear ho hd hdn hnd hcl hB hnm hi
    simp only [upd, reduceIte, Nat.reduceEqDiff, e6] at hK
    try dsimp only
    go_simp
    exact hK _ rfl
   ·clear ho hd hdn hnd hcl hB hnm hi
    simp only [upd, reduceIte, Nat.reduceEqDiff] at hK
    try dsimp only
    go_simp
    exact hK _ rfl
   ·have e8 : x 8 = .pointer (some ⟨X, 4, none⟩) := hd 8 (by kernel_rfl) (by kernel_rfl)
    have hb := hB.1
    have hz := HBX.out.below hb
    have cz := hz.c4
    clear hz
    clear ho hd hdn hnd hcl hB hnm hi
    simp only [upd, reduceIte, Nat.reduceEqDiff, e8] at hK
    try dsimp only
    go_simp
    exact hK _ rfl
   ·clear ho hd hdn hnd hcl hB hnm hi
    simp only [upd, reduceIte, Nat.reduceEqDiff] at hK
    try dsimp only
    go_simp
    exact hK _ rfl
   ·have e10 : x 10 = .pointer (some ⟨X, 5, none⟩) := hd 10 (by kernel_rfl) (by kernel_rfl)
    have hb := hB.1
    have hz := HBX.out.below hb
    have cz := hz.c5
    clear hz
    clear ho hd hdn hnd hcl hB hnm hi
    simp only [upd, reduceIte, Nat.reduceEqDiff, e10] at hK
    try dsimp only
    go_simp
    exact hK _ rfl
  case hmem =>
   intro iF o hi hmm ho d d' x W hB hd hdn hnd hdi hdi' hdm hcl Kq hK
   rcases (show iF = 0 ∨ iF = 1 ∨ iF = 2 ∨ iF = 3 ∨ iF = 4 ∨ iF = 5 ∨ iF = 6 ∨ iF = 7 ∨ iF = 8 ∨ iF = 9 ∨ iF = 10 ∨ iF = 11 ∨ iF = 12 ∨ iF = 13 ∨ iF = 14 by omega) with rfl | rfl | rfl | rfl | rfl | rfl | rfl | rfl | rfl | rfl | rfl | rfl | rfl | rfl | rfl <;> obtain rfl := Option.some.inj ho
   all_goals first | exact absurd (show false = true from hmm) (by simp) | skip
   ·have e1 : x 1 = ve := hd 1 (by kernel_rfl) (by kernel_rfl)
    have dm5 : d' 5 = d 5 := hdm 5 (by omega)
    have dm12 : d' 12 = d 12 := hdm 12 (by omega)
    have dm13 : d' 13 = d 13 := hdm 13 (by omega)
    have dm14 : d' 14 = d 14 := hdm 14 (by omega)
    obtain ⟨hb, h2, h5, h12, h13, h14⟩ := hB
    clear ho hd hdn hnd hcl hmm
    simp only [upd, reduceIte, Nat.reduceEqDiff, e1] at hK
    try dsimp only
    go_simp
    go_at_call 47
    refine (theirs_ok W ve evs (HE.out.below (HB.out.trans (hb.mono HB.out.size))) HL.out.1).mono ?_
    rintro r W2 ⟨v2, rfl, o2, bb⟩
    go_simp
    refine hK _ _ ?_
    try dsimp only
    rw [dm5, dm12, dm13, dm14, hdi']
    exact ⟨(bstep hb bb), fun _ _ => o2.base_le hb.size, fun a b => (h5 a b).below bb, fun a b => (h12 a b).below bb, fun a b => (h13 a b).below bb, fun a => (h14 a).below bb⟩
   ·have e4 : x 4 = vt := hd 4 (by kernel_rfl) (by kernel_rfl)
    have dm2 : d' 2 = d 2 := hdm 2 (by omega)
    have dm12 : d' 12 = d 12 := hdm 12 (by omega)
    have dm13 : d' 13 = d 13 := hdm 13 (by omega)
    have dm14 : d' 14 = d 14 := hdm 14 (by omega)
    obtain ⟨hb, h2, h5, h12, h13, h14⟩ := hB
    clear ho hd hdn hnd hcl hmm
    simp only [upd, reduceIte, Nat.reduceEqDiff, e4] at hK
    try dsimp only
    go_simp
    go_at_call 78
    refine (clone_intB W vt tw (HT.out.below (HB.out.trans (hb.mono HB.out.size))) HL.out.2.1).mono ?_
    rintro r W2 ⟨v2, rfl, o2, bb⟩
    go_simp
    refine hK _ _ ?_
    try dsimp only
    rw [dm2, dm12, dm13, dm14, hdi']
    exact ⟨(bstep hb bb), fun a b => (h2 a b).below bb, fun _ _ => o2.base_le hb.size, fun a b => (h12 a b).below bb, fun a b => (h13 a b).below bb, fun a => (h14 a).below bb⟩
   ·have e7 : x 7 = .int .i64 lost := hd 7 (by kernel_rfl) (by kernel_rfl)
    have e9 : x 9 = .int .i64 next := hd 9 (by kernel_rfl) (by kernel_rfl)
    have e11 : x 11 = .bool opn := hd 11 (by kernel_rfl) (by kernel_rfl)
    have dm2 : d' 2 = d 2 := hdm 2 (by omega)
    have dm5 : d' 5 = d 5 := hdm 5 (by omega)
    have dm13 : d' 13 = d 13 := hdm 13 (by omega)
    have dm14 : d' 14 = d 14 := hdm 14 (by omega)
    have dn2 : d 2 = true := hdn 2 (by kernel_rfl)
    have dn5 : d 5 = true := hdn 5 (by kernel_rfl)
    have dz14 : d 14 = false := hnd 14 (by kernel_rfl)
    obtain ⟨hb, h2, h5, h12, h13, h14⟩ := hB
    have o1 := h2 dn2 dz14
    have o2 := h5 dn5 dz14
    obtain ⟨A1, c1, e1⟩ := (o1.ev encE_len).shape
    obtain ⟨A2, c2, e2⟩ := (o2.ev encI_len).shape
    rw [e1] at o1
    rw [e2] at o2
    clear ho hd hdn hnd hcl hmm
    simp only [upd, reduceIte, Nat.reduceEqDiff, e7, e9, e11, e1, e2] at hK
    try dsimp only
    go_simp
    refine hK _ _ ?_
    try dsimp only
    rw [dm2, dm5, dm13, dm14, hdi']
    exact ⟨hb, fun _ _ => o1, fun _ _ => o2, fun _ _ => ⟨A1, _, c1, A2, _, c2, rfl, o1, o2⟩, h13, h14⟩
   ·have dm2 : d' 2 = d 2 := hdm 2 (by omega)
    have dm5 : d' 5 = d 5 := hdm 5 (by omega)
    have dm12 : d' 12 = d 12 := hdm 12 (by omega)
    have dm14 : d' 14 = d 14 := hdm 14 (by omega)
    have dz14 : d 14 = false := hnd 14 (by kernel_rfl)
    obtain ⟨hb, h2, h5, h12, h13, h14⟩ := hB
    clear ho hd hdn hnd hcl hmm
    simp only [upd, reduceIte, Nat.reduceEqDiff] at hK
    try dsimp only
    go_simp
    have bb := bel_alloc W (.cells #[.slice none 0 0, .slice none 0 0, .slice none 0 0, .int .i64 0, .int .i64 0, .bool false] 91)
    refine hK _ _ ?_
    try dsimp only
    rw [dm2, dm5, dm12, dm14, hdi']
    exact ⟨(bstep hb bb), fun a b => (h2 a b).below bb, fun a b => (h5 a b).below bb, fun a b => (h12 a b).below bb, fun _ _ => ⟨W.heap.size, rfl, hb.size, RmBox.new W _ _ _ _ _ _⟩, fun k => absurd k (by rw [dz14]; simp)⟩
   ·have dm2 : d' 2 = d 2 := hdm 2 (by omega)
    have dm5 : d' 5 = d 5 := hdm 5 (by omega)
    have dm12 : d' 12 = d 12 := hdm 12 (by omega)
    have dm13 : d' 13 = d 13 := hdm 13 (by omega)
    have dn12 : d 12 = true := hdn 12 (by kernel_rfl)
    have dn13 : d 13 = true := hdn 13 (by kernel_rfl)
    obtain ⟨hb, h2, h5, h12, h13, h14⟩ := hB
    obtain ⟨A1, n1, c1, A2, n2, c2, e12, o1, o2⟩ := h12 dn12 hdi
    obtain ⟨Y, e13, hy, hbx⟩ := h13 dn13 hdi
    have hst := rm_store (lost := lost) (next := next) (opn := opn) hbx hy hb o1 o2
    unfold mgA at e12
    clear ho hd hdn hnd hcl hmm
    simp only [upd, reduceIte, Nat.reduceEqDiff, e12, e13] at hK
    try dsimp only
    have f0 := hbx.frz 0
    have f1 := hbx.frz 1
    have f2 := hbx.frz 2
    have f3 := hbx.frz 3
    have f4 := hbx.frz 4
    have f5 := hbx.frz 5
    have g0 := hbx.c0
    have g1 := hbx.c1
    have g2 := hbx.c2
    have g3 := hbx.c3
    have g4 := hbx.c4
    have g5 := hbx.c5
    go_simp
    refine hK undef _ ?_
    try dsimp only
    rw [dm2, dm5, dm12, dm13, hdi']
    rw [dn12, dn13]
    exact ⟨hst.2, fun _ k => (by cases k), fun _ k => (by cases k), fun _ k => (by cases k), fun _ k => (by cases k), fun _ => ⟨Y, A1, n1, c1, A2, n2, c2, rfl, hst.1⟩⟩
  case hend =>
   intro d x W hall hB hd
   have d14 := hall 14 (by omega)
   obtain ⟨hb, h2, h5, h12, h13, h14⟩ := hB
   have hfb := h14 d14
   clear hd hall h2 h5 h12 h13 h14 d14
   try dsimp only
   generalize x 0 = y0
   generalize x 1 = y1
   generalize x 2 = y2
   generalize x 3 = y3
   generalize x 4 = y4
   generalize x 5 = y5
   generalize x 6 = y6
   generalize x 7 = y7
   generalize x 8 = y8
   generalize x 9 = y9
   generalize x 10 = y10
   generalize x 11 = y11
   generalize x 12 = y12
   generalize x 13 = y13 at hfb ⊢
   go_wp2
   go_meet
   exact ⟨_, rfl, hfb, hb⟩
 case rest =>
  obtain ⟨wd, rfl, ⟨Y, A1, n1, c1, A2, n2, c2, rfl, hs⟩, b2⟩ := hcut
  obtain ⟨A3, c3, hA3⟩ := HG.out.shape
  subst hA3
  obtain ⟨n, hn⟩ : ∃ n, gaps.length = n := ⟨_, rfl⟩
  have HN := Lib.hid hn
  rw [hn] at HG HX ⊢
  have x2 := (HX.out.below b2).c2
  have HGC := Lib.hid (HG.out.below HB.out)
  have HS := Lib.hid hs
  have HBD := Lib.hid b2
  clear hs b2 hn HBX
  go_wp2
  go_loopg [22] n (fun k i wr => ∃ (j : Nat) (v3 : Value), j + k = n ∧ i = .int .i64 j ∧ TnS wc.heap.size wr Y (.slice A1 n1 c1) (.slice A2 n2 c2) v3 evs tw (gaps.take j) lost next opn ∧ Below wc.heap.size wc wr)
  case atStart => exact ⟨0, _, by omega, rfl, HS.out, HBD.out⟩
  clear x2 HS HBD
  case round =>
   obtain ⟨j, v3, hj, rfl, hs, hb⟩ := hrel
   have HJ := Lib.hid hj
   have HSR := Lib.hid hs
   have HBR := Lib.hid hb
   have hn6 := HL.out.2.2
   rw [HN.out] at hn6
   clear hj hs hb
   by_cases hlt : j < n
   ·obtain ⟨b, off, c', hsl, hcc, hr⟩ := (HGC.out.below HBR.out).row (by rw [HN.out]; omega)
    rw [HN.out] at hsl
    cases hsl
    obtain ⟨⟨p, q⟩, hx⟩ : ∃ x, gaps[j]? = some x := ⟨_, List.getElem?_eq_getElem (by rw [HN.out]; exact hlt)⟩
    obtain ⟨g0, g1⟩ := hr.prs hx
    dsimp only at g0 g1
    have HTK := Lib.hid (show gaps.take (j + 1) = gaps.take j ++ [(p, q)] from by rw [List.take_add_one, hx]; rfl)
    have HLJ := Lib.hid (show (gaps.take j).length ≤ 1000000 by rw [List.length_take]; have := HN.out; omega)
    have HA := Lib.hid (bel_alloc wr (.cells #[.int .i64 p, .int .i64 q] 34))
    have HEV := Lib.hid (EV.newL (w := wr) (e := 34) (cs := #[.int .i64 p, .int .i64 q]) (xs := [((p, q) : Int × Int)]) (n := 1) (c := 1) encP_len rfl rfl (Nat.le_refl _))
    clear hr hx
    go_upto_region 5 with fail
    obtain ⟨k0, k1⟩ := (HEV.out.row3 (by simp)).prs (show [((p, q) : Int × Int)][0]? = some (p, q) from rfl)
    dsimp only at k0 k1
    simp only [Nat.zero_mul, Nat.zero_add, Nat.add_zero] at k0 k1
    have HS2 := Lib.hid (HSR.out.below HA.out)
    have HB2 := Lib.hid (bstep HBR.out HA.out)
    clear HEV g0 g1 HA
    generalize wr.alloc (.cells #[.int .i64 p, .int .i64 q] 34) = wb at k0 k1 HS2 HB2 ⊢
    generalize wr.heap.size = Bb at k0 k1 ⊢
    have y2 := HS2.out.box.c2
    go_wp2_with (at_builtin; refine wpList_app elemQ encP_len encP_one rfl _ _ rfl _ _ rfl rfl (HS2.out.og.alloc _) (EV.newL (xs := [((p, q) : Int × Int)]) (n := 1) (c := 1) encP_len rfl rfl (Nat.le_refl _)) ?q1 ?q2 ?_)
    case q1 => have := HLJ.out; simp; omega
    case q2 => have := HB2.out.size; simp; omega
    intro v' w8 o8 g8
    obtain ⟨A4, c4, h4⟩ := (o8.ev encP_len).shape
    obtain ⟨m4, hm4⟩ : ∃ m, (gaps.take j ++ [(p, q)]).length = m := ⟨_, rfl⟩
    rw [hm4] at h4
    clear hm4
    subst h4
    have hal := bel_alloc wb (.cells #[.int .i64 p, .int .i64 q] 137)
    have hs3 := HS2.out.below hal
    have hbx := hs3.box.grown g8 (hs3.og.neB hs3.box.cell (by decide))
    have hb5 := (bstep HB2.out hal).grown g8 (bstep HB2.out hal).size (fun g q => (hs3.og.block g q).1)
    have HS4 := Lib.hid (hs3.put g8 o8)
    have hyb := hs3.yb
    have HB6 := Lib.hid (hb5.trans ((Mod.setCell (a := w8) (p := ⟨Y, 2, none⟩) (T := fun k => k = Y) (.slice A4 m4 c4) rfl).below (B := wc.heap.size) (fun k hk e => by omega) hb5.size))
    have d2 := hbx.c2
    have f2 := hbx.frz 2
    clear o8 g8 hal hs3 hbx hb5 hyb k0 k1 y2
    go_wp2
    go_roundg (n - (j + 1))
    case measure => have := HJ.out; omega
    case rel => exact ⟨j + 1, _, by have := HJ.out; omega, by go_num, by rw [HTK.out]; exact HS4.out, HB6.out⟩
   ·obtain rfl : n = j := by have := HJ.out; omega
    have hs := HSR.out
    rw [List.take_of_length_le (Nat.le_of_eq HN.out)] at hs
    obtain ⟨A4, c4, h4⟩ := (hs.og.ev encP_len).shape
    subst h4
    have hz := HZ.out.below HBR.out
    have HZZ := Lib.hid hz
    have y0 := hs.box.c0
    have y1 := hs.box.c1
    have y2 := hs.box.c2
    have y3 := hs.box.c3
    have y4 := hs.box.c4
    have y5 := hs.box.c5
    have z0 := hz.c0
    have z1 := hz.c1
    have z2 := hz.c2
    have z3 := hz.c3
    have z4 := hz.c4
    have z5 := hz.c5
    have f0 := hz.frz 0
    have f1 := hz.frz 1
    have f2 := hz.frz 2
    have f3 := hz.frz 3
    have f4 := hz.frz 4
    have f5 := hz.frz 5
    have HS4 := Lib.hid hs
    have HM := Lib.hid ((((((Mod.setCell (a := wr) (p := ⟨Z, 0, none⟩) (T := fun k => k = Z) (.slice A1 n1 c1) rfl).trans (Mod.setCell (p := ⟨Z, 1, none⟩) (T := fun k => k = Z) (.slice A2 n2 c2) rfl)).trans (Mod.setCell (p := ⟨Z, 2, none⟩) (T := fun k => k = Z) (.slice A4 gaps.length c4) rfl)).trans (Mod.setCell (p := ⟨Z, 3, none⟩) (T := fun k => k = Z) (.int .i64 lost) rfl)).trans (Mod.setCell (p := ⟨Z, 4, none⟩) (T := fun k => k = Z) (.int .i64 next) rfl)).trans (Mod.setCell (p := ⟨Z, 5, none⟩) (T := fun k => k = Z) (.bool opn) rfl))
    have HZ6 := Lib.hid ((((((hz.set0 (.slice A1 n1 c1)).set1 (.slice A2 n2 c2)).set2 (.slice A4 gaps.length c4)).set3 lost).set4 next).set5 opn)
    clear hs hz
    go_wp2
    refine bodyPost_ret (results_cell1 rfl _ _ _ rfl (load_rm HZ6.out)) rfl ?_
    have hbb := bstep HB.out HBR.out
    have hzl := HZL.out
    exact ⟨A1, n1, c1, A2, n2, c2, A4, _, c4, rfl, (HS4.out.oe.sixM HZZ.out.cell (by decide) HM.out).base_le HB.out.size, (HS4.out.ot.sixM HZZ.out.cell (by decide) HM.out).base_le HB.out.size, (HS4.out.og.sixM HZZ.out.cell (by decide) HM.out).base_le HB.out.size, hbb.trans (HM.out.below (B := w.heap.size) (fun k hk e => by omega) hbb.size)⟩
end Go.Proofs.YtalophngappkhaaGreatDoor
namespace Go.Proofs.YtalophngappkhaaGreatDoor
open Go Go.RowKit Go.Shelf
attribute [local go_sem] Oper.semAt_some

set_option maxRecDepth 100000 in
set_option maxHeartbeats 6400000 in
theorem same12_ok (w : World) (ve vt vg ue ut ug : Value) (R : List Ev) (T : List Int) (G : List (Int × Int)) (lost next : Int) (opn : Bool) (h1 : EV encE 11 w ve R) (h2 : EV encI 1 w vt T) (h3 : EV encP 2 w vg G) (k1 : EV encE 11 w ue R) (k2 : EV encI 1 w ut T) (k3 : EV encP 2 w ug G)
  (b1 : R.length ≤ 1000000) (b2 : T.length * 8 ≤ 140737488355328) (b3 : G.length ≤ 1000000) :
  Calls Tryz.prog 45 #[mgA ve vt vg lost next opn, mgA ue ut ug lost next opn] w fun r w' => r = .returned (.bool true) ∧ Below w.heap.size w w' := by
 have HB1 := Lib.hid (bel_alloc w (.cells #[ve, vt, vg, .int .i64 lost, .int .i64 next, .bool opn] 39))
 have HX := Lib.hid ((MgBox.new w ve vt vg lost next opn).below (bel_alloc _ (.cells #[ue, ut, ug, .int .i64 lost, .int .i64 next, .bool opn] 91)))
 have HY := Lib.hid (RmBox.new (w.alloc (.cells #[ve, vt, vg, .int .i64 lost, .int .i64 next, .bool opn] 39)) ue ut ug lost next opn)
 have HB := Lib.hid (bstep HB1.out (bel_alloc _ (.cells #[ue, ut, ug, .int .i64 lost, .int .i64 next, .bool opn] 91)))
 have E1 := Lib.hid (And.intro h1 (And.intro h2 h3))
 have E2 := Lib.hid (And.intro k1 (And.intro k2 k3))
 have HL := Lib.hid (And.intro b1 (And.intro b2 b3))
 clear h1 h2 h3 k1 k2 k3 HB1 b1 b2 b3
 unfold mgA
 go_enter Tryz.func45, Tryz.ntmps45
 go_upto_region 1 with fail
 have hsz : (w.alloc (.cells #[ve, vt, vg, .int .i64 lost, .int .i64 next, .bool opn] 39)).heap.size = w.heap.size + 1 := by simp
 try rw [hsz] at HY
 generalize (w.alloc (.cells #[ve, vt, vg, .int .i64 lost, .int .i64 next, .bool opn] 39)).alloc (.cells #[ue, ut, ug, .int .i64 lost, .int .i64 next, .bool opn] 91) = w1 at HX HY HB ⊢
 clear hsz
 generalize w.heap.size + 1 = Y at HY ⊢
 obtain ⟨X, hX⟩ : ∃ X, w.heap.size = X := ⟨_, rfl⟩
 rw [hX] at HX ⊢
 clear hX
 have HT := Lib.hid (turned12_ok w1 ve vt vg R T G lost next opn (E1.out.1.below HB.out) (E1.out.2.1.below HB.out) (E1.out.2.2.below HB.out) HL.out.1 HL.out.2.1 HL.out.2.2)
 have a0 := HX.out.c0
 have a1 := HX.out.c1
 have a2 := HX.out.c2
 have a3 := HX.out.c3
 have a4 := HX.out.c4
 have a5 := HX.out.c5
 unfold mgA at HT
 go_wp2_with fail
 refine HT.out.mono ?_
 rintro r w2 ⟨A1, n1, c1, A2, n2, c2, A3, n3, c3, rfl, o1, o2, o3, bb⟩
 have HY2 := Lib.hid (HY.out.below bb)
 have HB2 := Lib.hid (bstep HB.out bb)
 have HA3 := Lib.hid (bel_alloc w2 (.cells #[.slice A1 n1 c1, .slice A2 n2 c2, .slice A3 n3 c3, .int .i64 lost, .int .i64 next, .bool opn] 91))
 have HU := Lib.hid (RmBox.new w2 (.slice A1 n1 c1) (.slice A2 n2 c2) (.slice A3 n3 c3) lost next opn)
 have HO := Lib.hid (show EV encE 11 w2 (.slice A1 n1 c1) R ∧ EV encI 1 w2 (.slice A2 n2 c2) T ∧ EV encP 2 w2 (.slice A3 n3 c3) G from ⟨o1.ev encE_len, o2.ev encI_len, o3.ev encP_len⟩)
 clear bb a0 a1 a2 a3 a4 a5 o1 o2 o3 HX HY HB HT E1
 go_upto_region 2 with fail
 have HO3 := Lib.hid (show EV encE 11 _ (.slice A1 n1 c1) R ∧ EV encI 1 _ (.slice A2 n2 c2) T ∧ EV encP 2 _ (.slice A3 n3 c3) G from ⟨HO.out.1.below HA3.out, HO.out.2.1.below HA3.out, HO.out.2.2.below HA3.out⟩)
 have HY3 := Lib.hid (HY2.out.below HA3.out)
 have HB3 := Lib.hid (bstep HB2.out HA3.out)
 clear HY2 HB2 HA3 HO
 generalize w2.alloc (.cells #[.slice A1 n1 c1, .slice A2 n2 c2, .slice A3 n3 c3, .int .i64 lost, .int .i64 next, .bool opn] 91) = w3 at HU HY3 HB3 HO3 ⊢
 generalize w2.heap.size = U at HU ⊢
 have a0 := HU.out.c0
 have d0 := HY3.out.c0
 go_wp2_with fail
 refine (eq_rev w3 (.slice A1 n1 c1) ue R HO3.out.1 (E2.out.1.below HB3.out) (by have := HL.out; omega)).mono ?_
 rintro r w4 ⟨rfl, bb⟩
 have HB4 := Lib.hid (bstep HB3.out bb)
 have HU4 := Lib.hid (HU.out.below bb)
 have HY4 := Lib.hid (HY3.out.below bb)
 have HO4 := Lib.hid (And.intro (HO3.out.2.1.below bb) (HO3.out.2.2.below bb))
 clear bb a0 d0 HU HY3 HB3 HO3
 have a1 := HU4.out.c1
 have d1 := HY4.out.c1
 go_wp2_with fail
 refine (eq_int w4 (.slice A2 n2 c2) ut T HO4.out.1 (E2.out.2.1.below HB4.out) (by have := HL.out; omega)).mono ?_
 rintro r w5 ⟨rfl, bb⟩
 have HB5 := Lib.hid (bstep HB4.out bb)
 have HU5 := Lib.hid (HU4.out.below bb)
 have HY5 := Lib.hid (HY4.out.below bb)
 have HO5 := Lib.hid (HO4.out.2.below bb)
 clear bb a1 d1 HU4 HY4 HB4 HO4
 have a2 := HU5.out.c2
 have d2 := HY5.out.c2
 go_wp2_with fail
 refine (equal_rrun_same w5 (.slice A3 n3 c3) ug G HO5.out (E2.out.2.2.below HB5.out) (by have := HL.out; omega)).mono ?_
 rintro r w6 ⟨rfl, bb⟩
 have HB6 := Lib.hid (bstep HB5.out bb)
 have HU6 := Lib.hid (HU5.out.below bb)
 have HY6 := Lib.hid (HY5.out.below bb)
 clear bb a2 d2 HU5 HY5 HB5 HO5
 have a3 := HU6.out.c3
 have d3 := HY6.out.c3
 have a4 := HU6.out.c4
 have d4 := HY6.out.c4
 have a5 := HU6.out.c5
 have d5 := HY6.out.c5
 cases opn
 all_goals
  go_wp2
  go_ret
  exact ⟨rfl, HB6.out⟩
end Go.Proofs.YtalophngappkhaaGreatDoor
