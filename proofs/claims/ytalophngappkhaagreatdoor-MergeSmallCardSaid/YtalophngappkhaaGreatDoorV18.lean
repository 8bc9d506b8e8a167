/- Plain laws for package seq's Of: a fold over the sorted numbers | package seq: Of | Tails of a function's body, for walks that are cut into declarations: what is left of a chain of statements from region k on | merge.Blocks: what blocks are merged to, in plain words; the boxes | merge.Blocks: the end of the walk, from the events that are joined on. -/
import Derived.Test.YtalophngappkhaaGreatDoorV12
import Derived.Deep.DeepCutAuto
import Derived.OwnWalk
import Derived.Test.YtalophngappkhaaGreatDoorV3
import Derived.Test.YtalophngappkhaaGreatDoorV16
import Derived.Test.YtalophngappkhaaGreatDoorV17
import Derived.Deep.CutBlock
set_option linter.unusedVariables false
set_option linter.unusedSimpArgs false
set_option linter.unusedSectionVars false
namespace Go.Proofs.YtalophngappkhaaGreatDoor
open Go.RowKit Go.Shelf

structure Os where
 set : List (Int × Int)
 tw : List Int
 last : Int
 ag : Int
def Os.st (s : Os) (n : Int) : Os :=
 ⟨if n = s.last then s.set else addR s.set (n, 1), if n = s.last ∧ n ≠ s.ag then s.tw ++ [n] else s.tw, n, if n = s.last ∧ n ≠ s.ag then n else s.ag⟩
def os0 : Os := ⟨[], [], 0, 0⟩
def ofS (ns : List Int) : Os := ns.foldl Os.st os0
def okN (n : Int) : Bool := decide (1 ≤ n ∧ n ≤ 281474976710656)
def ofE (ns : List Int) : Int := if 65536 < ns.length then 5 else if ns.all okN then 0 else 2
def ofL (ns : List Int) : List (Int × Int) := if ofE ns = 0 then (ofS (srtI ns)).set else []
def ofT (ns : List Int) : List Int := if ofE ns = 0 then (ofS (srtI ns)).tw else []

theorem ofS_snoc (ns : List Int) (n : Int) : ofS (ns ++ [n]) = (ofS ns).st n := by unfold ofS; rw [List.foldl_append]; rfl

structure OsOk (pre : List Int) (s : Os) : Prop where
 can : Can 0 s.set
 has : ∀ n, hasR s.set n = decide (n ∈ pre)
 slen : s.set.length ≤ pre.length
 tlen : s.tw.length ≤ pre.length
 le : ∀ n ∈ pre, n ≤ s.last
 lastM : s.last ≠ 0 → s.last ∈ pre
 lo : 0 ≤ s.last
 hi : s.last ≤ 281474976710656
 e : endR 0 s.set ≤ s.last + 1
 pw : s.tw.Pairwise (· < ·)
 tm : ∀ n, n ∈ s.tw ↔ 2 ≤ pre.count n
 tle : ∀ n ∈ s.tw, n ≤ s.ag
 agM : s.ag ≠ 0 → s.ag ∈ s.tw
 agle : s.ag ≤ s.last
 aglo : 0 ≤ s.ag

theorem os0_ok : OsOk [] os0 := by
 refine ⟨can_nil _, fun n => by simp [os0, hasR_nil], by simp [os0], by simp [os0], by simp, fun h => absurd rfl h, by simp [os0], by simp [os0], by simp [os0, endR], by simp [os0], by simp [os0], by simp [os0], fun h => absurd rfl h, by simp [os0], by simp [os0]⟩

theorem OsOk.st {pre : List Int} {s : Os} {n : Int} (h : OsOk pre s) (h1 : 1 ≤ n) (h2 : n ≤ 281474976710656) (hs : s.last ≤ n) : OsOk (pre ++ [n]) (s.st n) := by
 have hle : ∀ m ∈ pre ++ [n], m ≤ n := fun m hm => by
  rcases List.mem_append.1 hm with hm | hm
  ·exact Int.le_trans (h.le m hm) hs
  ·simp at hm; omega
 by_cases he : n = s.last
 ·have hin : n ∈ pre := by rw [he]; exact h.lastM (by omega)
  have hmem : ∀ m, (m ∈ pre ++ [n]) ↔ m ∈ pre := fun m => by
   rw [List.mem_append]
   exact ⟨fun hm => hm.elim id (fun hm => by simp at hm; rw [hm]; exact hin), .inl⟩
  have hc1 : 1 ≤ pre.count n := List.count_pos_iff.2 hin
  by_cases ha : n = s.ag
  ·have hst : s.st n = ⟨s.set, s.tw, n, s.ag⟩ := by unfold Os.st; rw [if_pos he, if_neg (fun x => x.2 ha), if_neg (fun x => x.2 ha)]
   have htw : n ∈ s.tw := by rw [ha]; exact h.agM (by omega)
   have hc2 := (h.tm n).1 htw
   rw [hst]
   exact ⟨h.can, fun m => by rw [h.has m]; simp only [hmem], by simpa using Nat.le_succ_of_le h.slen, by simpa using Nat.le_succ_of_le h.tlen, hle, fun _ => by simp, by show 0 ≤ n; omega, h2, by show endR 0 s.set ≤ n + 1; have := h.e; omega, h.pw,
    fun m => by
     rw [show (m ∈ (⟨s.set, s.tw, n, s.ag⟩ : Os).tw) = (m ∈ s.tw) from rfl, h.tm m, List.count_append, List.count_singleton]
     by_cases hm : n = m
     ·subst hm; simp only [beq_self_eq_true, if_true]; omega
     ·rw [if_neg (by simpa using hm)]; rfl, h.tle, h.agM, by show s.ag ≤ n; omega, h.aglo⟩
  ·have hst : s.st n = ⟨s.set, s.tw ++ [n], n, n⟩ := by unfold Os.st; rw [if_pos he, if_pos ⟨he, ha⟩, if_pos ⟨he, ha⟩]
   have hal := h.agle
   have hno : n ∉ s.tw := fun hm => by have := h.tle n hm; omega
   have hc2 : ¬ 2 ≤ pre.count n := fun hm => hno ((h.tm n).2 hm)
   rw [hst]
   exact ⟨h.can, fun m => by rw [h.has m]; simp only [hmem], by simpa using Nat.le_succ_of_le h.slen, by simpa using h.tlen, hle, fun _ => by simp, by show 0 ≤ n; omega, h2, by show endR 0 s.set ≤ n + 1; have := h.e; omega,
    by
     rw [show (⟨s.set, s.tw ++ [n], n, n⟩ : Os).tw = s.tw ++ [n] from rfl, List.pairwise_append]
     exact ⟨h.pw, List.pairwise_singleton _ _, fun a hm b hb => by simp at hb; subst hb; have := h.tle a hm; show a < b; omega⟩,
    fun m => by
     rw [show (m ∈ (⟨s.set, s.tw ++ [n], n, n⟩ : Os).tw) = (m ∈ s.tw ++ [n]) from rfl, List.mem_append, h.tm m, List.count_append, List.count_singleton]
     by_cases hm : n = m
     ·subst hm; simp only [beq_self_eq_true, if_true, List.mem_singleton, or_true, true_iff]; omega
     ·rw [if_neg (by simpa using hm), List.mem_singleton]
      exact ⟨fun x => x.elim id (fun x => absurd x.symm hm), .inl⟩,
    fun m hm => by
     rw [show (m ∈ (⟨s.set, s.tw ++ [n], n, n⟩ : Os).tw) = (m ∈ s.tw ++ [n]) from rfl, List.mem_append, List.mem_singleton] at hm
     show m ≤ n
     rcases hm with hm | hm
     ·have := h.tle m hm; omega
     ·omega,
    fun _ => by show n ∈ s.tw ++ [n]; simp, Int.le_refl _, by show 0 ≤ n; omega⟩
 ·have hni : n ∉ pre := fun hm => by have := h.le n hm; omega
  have hc0 : pre.count n = 0 := List.count_eq_zero.2 hni
  have hst : s.st n = ⟨addR s.set (n, 1), s.tw, n, s.ag⟩ := by unfold Os.st; rw [if_neg he, if_neg (fun x => he x.1), if_neg (fun x => he x.1)]
  obtain ⟨a1, a2, a3⟩ := addR_spec h.can (p := n) (c := 1) (by have := h.e; omega) h1 (by omega) (by omega)
  rw [hst]
  exact ⟨a1, fun m => by
    rw [show hasR (⟨addR s.set (n, 1), s.tw, n, s.ag⟩ : Os).set m = hasR (addR s.set (n, 1)) m from rfl, a3 m, h.has m, Bool.eq_iff_iff]
    simp only [Bool.or_eq_true, decide_eq_true_eq, List.mem_append, List.mem_singleton]
    exact or_congr Iff.rfl ⟨fun x => by omega, fun x => by omega⟩,
   by have := addR_len s.set (n, 1); have := h.slen; show (addR s.set (n, 1)).length ≤ _; rw [List.length_append]; simp; omega, by simpa using Nat.le_succ_of_le h.tlen, hle, fun _ => by simp, by show 0 ≤ n; omega, h2,
   by show endR 0 (addR s.set (n, 1)) ≤ n + 1; omega, h.pw,
   fun m => by
    rw [show (m ∈ (⟨addR s.set (n, 1), s.tw, n, s.ag⟩ : Os).tw) = (m ∈ s.tw) from rfl, h.tm m, List.count_append, List.count_singleton]
    by_cases hm : n = m
    ·subst hm; simp only [beq_self_eq_true, if_true]; omega
    ·rw [if_neg (by simpa using hm)]; rfl, h.tle, h.agM, by show s.ag ≤ n; have := h.agle; omega, h.aglo⟩

theorem ofS_ok (pre : List Int) (hp : pre.Pairwise (· ≤ ·)) (hk : ∀ n ∈ pre, okN n = true) : OsOk pre (ofS pre) := by
 rcases List.eq_nil_or_concat pre with rfl | ⟨l, n, rfl⟩
 ·exact os0_ok
 ·rw [List.concat_eq_append] at *
  rw [ofS_snoc]
  have hp' := List.pairwise_append.1 hp
  have h := ofS_ok l hp'.1 (fun m hm => hk m (List.mem_append_left _ hm))
  have hn := hk n (by simp)
  unfold okN at hn
  rw [decide_eq_true_eq] at hn
  refine h.st hn.1 hn.2 ?_
  by_cases h0 : (ofS l).last = 0
  ·omega
  ·exact hp'.2.2 _ (h.lastM h0) n (by simp)
termination_by pre.length
decreasing_by all_goals (simp_all <;> omega)

/-- The sorted numbers. -/
theorem srt_pw (ns : List Int) : (srtI ns).Pairwise (· ≤ ·) := by
 unfold srtI
 have := List.pairwise_mergeSort (le := fun x y : Int => decide (x ≤ y)) (fun a b c h1 h2 => by simp at h1 h2 ⊢; omega) (fun a b => by simp; omega) ns
 exact this.imp (fun h => by simpa using h)
theorem srt_mem (ns : List Int) (n : Int) : n ∈ srtI ns ↔ n ∈ ns := by unfold srtI; exact List.mem_mergeSort
theorem srt_all (ns : List Int) : (srtI ns).all okN = ns.all okN := by
 rw [Bool.eq_iff_iff, List.all_eq_true, List.all_eq_true]
 exact ⟨fun h x hx => h x ((srt_mem ns x).2 hx), fun h x hx => h x ((srt_mem ns x).1 hx)⟩
theorem ofS_pre (ns : List Int) (j : Nat) (h : ((srtI ns).take j).all okN = true) : OsOk ((srtI ns).take j) (ofS ((srtI ns).take j)) :=
 ofS_ok _ ((srt_pw ns).sublist (List.take_sublist _ _)) (fun n hn => List.all_eq_true.1 h n hn)
theorem ofS_take {ns : List Int} {j : Nat} {n : Int} (h : ns[j]? = some n) : ofS (ns.take (j + 1)) = (ofS (ns.take j)).st n := by
 rw [List.take_add_one, h, Option.toList_some, ofS_snoc]
end Go.Proofs.YtalophngappkhaaGreatDoor
namespace Go.Proofs.YtalophngappkhaaGreatDoor
open Go.RowKit Go.Shelf

theorem ofS_le (ns : List Int) (j : Nat) (n : Int) (h : (srtI ns)[j]? = some n) (h' : ((srtI ns).take j).all okN = true) (h0 : okN n = true) : (ofS ((srtI ns).take j)).last ≤ n := by
 have hok := ofS_pre ns j h'
 unfold okN at h0
 rw [decide_eq_true_eq] at h0
 by_cases hl : (ofS ((srtI ns).take j)).last = 0
 ·omega
 ·have hm := hok.lastM hl
  have hp := (srt_pw ns).sublist (List.take_sublist (j + 1) _)
  rw [List.take_add_one, h, Option.toList_some] at hp
  exact (List.pairwise_append.1 hp).2.2 _ hm n (by simp)
theorem ret_tri {a b : Value} {c d : Int} (h : c = d) : Ending.returned (.tuple #[a, b, .int .i64 c]) = .returned (.tuple #[a, b, .int .i64 d]) := by rw [h]

set_option maxRecDepth 100000 in
set_option maxHeartbeats 2000000 in
theorem of_ok (w : World) (v : Value) (ns : List Int) (hv : EV encI 1 w v ns) (hlen : ns.length ≤ 100000000) :
  Calls Tryz.prog 36 #[v] w fun e w' => ∃ a b, e = .returned (.tuple #[a, b, .int .i64 (ofE ns)]) ∧ OV encP 2 34 w.heap.size w' a (ofL ns) ∧ OV encI 1 3 w.heap.size w' b (ofT ns) ∧ Below w.heap.size w w' := by
 have hL : ofE ns ≠ 0 → ofL ns = [] := fun h => by unfold ofL; rw [if_neg h]
 have hT : ofE ns ≠ 0 → ofT ns = [] := fun h => by unfold ofT; rw [if_neg h]
 have hL0 : ofE ns = 0 → ofL ns = (ofS (srtI ns)).set := fun h => by unfold ofL; rw [if_pos h]
 have hT0 : ofE ns = 0 → ofT ns = (ofS (srtI ns)).tw := fun h => by unfold ofT; rw [if_pos h]
 by_cases h5 : 65536 < ns.length
 ·have hE : ofE ns = 5 := by unfold ofE; rw [if_pos h5]
  rw [hE] at hL hT ⊢
  rw [hL (by simp), hT (by simp)]
  obtain ⟨A, c, rfl⟩ := hv.shape
  have d5 : decide ((65536 : Int) < (ns.length : Int)) = true := by rw [decide_eq_true_eq]; omega
  clear hL hT hL0 hT0 hE hv
  go_enter Tryz.func36, Tryz.ntmps36
  go_wp2
  go_ret3
  exact ⟨_, _, rfl, OV.nil _ _, OV.nil _ _, Below.refl _ _⟩
 ·have hE : ofE ns = if (srtI ns).all okN then 0 else 2 := by unfold ofE; rw [if_neg h5, srt_all]
  have hxl : (srtI ns).length = ns.length := srtI_len ns
  have hpre := fun j h => ofS_pre ns j h
  have hle := fun j n h h' h0 => ofS_le ns j n h h' h0
  obtain ⟨A, c, rfl⟩ := hv.shape
  have VO := Lib.hid (values_ok w A ns.length c)
  have SO := Lib.hid (sorted_vals w A ns.length c ns hv (by omega))
  have d5 : decide ((65536 : Int) < (ns.length : Int)) = false := by rw [decide_eq_false_iff_not]; omega
  generalize ofE ns = oe at *
  generalize ofL ns = ol at *
  generalize ofT ns = ot at *
  generalize srtI ns = xs at *
  have H5 := Lib.hid (show ns.length ≤ 65536 from by omega)
  generalize ns.length = N at *
  have HL := Lib.hid hL
  have HT := Lib.hid hT
  have HL0 := Lib.hid hL0
  have HT0 := Lib.hid hT0
  have HE := Lib.hid hE
  have HN := Lib.hid hxl
  have HP := Lib.hid hpre
  have HLE := hle
  clear hL hT hL0 hT0 hE hv hxl hpre hlen h5 hle
  go_enter Tryz.func36, Tryz.ntmps36
  go_wp2_with fail
  refine VO.out.mono ?_
  rintro e w1 ⟨rfl, rfl⟩
  go_wp2_with fail
  refine SO.out.mono ?_
  rintro e w2 ⟨r, rfl, o2, b2⟩
  have rev := o2.ev encI_len
  obtain ⟨A2, c2, he⟩ := rev.shape
  rw [HN.out] at he
  subst he
  have B2 := Lib.hid b2
  have sz2 := b2.size
  have RE := Lib.hid rev
  clear VO SO o2 b2 rev d5
  go_wp2_with fail
  go_loopg [5, 6, 7, 8, 10, 18, 22, 29, 43] N (fun k s t la ag _ i _ _ _ wr => ∃ j : Nat, j + k = N ∧ i = .int .i64 j ∧ la = .int .i64 (ofS (xs.take j)).last ∧ ag = .int .i64 (ofS (xs.take j)).ag ∧
   OV encP 2 34 w2.heap.size wr s (ofS (xs.take j)).set ∧ OV encI 1 3 w2.heap.size wr t (ofS (xs.take j)).tw ∧ Below w2.heap.size w2 wr ∧ (xs.take j).all okN = true)
  case atStart => exact ⟨0, by omega, rfl, rfl, rfl, OV.nil _ _, OV.nil _ _, Below.refl _ _, by simp⟩
  case round =>
   obtain ⟨j, hj, rfl, rfl, rfl, os, ot', hb, ht⟩ := hrel
   have HJ := Lib.hid hj
   have hok := HP.out j ht
   have hszr := hb.size
   by_cases hlt : j < N
   ·obtain ⟨b, off, c', hvv, hcc, rr⟩ := (RE.out.below hb).row (by rw [HN.out]; omega)
    simp only [Value.slice.injEq] at hvv
    obtain ⟨rfl, -, rfl⟩ := hvv
    obtain ⟨n, hx, cx⟩ := rr.get1 (i := j) (by rw [HN.out]; exact hlt)
    have HX := Lib.hid hx
    have HB := Lib.hid hb
    have HT' := Lib.hid ht
    have HST := Lib.hid (ofS_take hx)
    have h1l : (xs.take j).length ≤ j := List.length_take_le _ _
    have hlo := hok.lo
    have hhi := hok.hi
    have hle : j ≤ N ∧ (okN n = true → (ofS (xs.take j)).last ≤ n) := ⟨by omega, fun h => HLE j n hx ht h⟩
    have hcan := hok.can
    have hsl := hok.slen
    have htl := hok.tlen
    have hend := hok.e
    clear hx hj ht rr hb hok
    have bad : okN n = false → oe = 2 := fun h => by
     rw [HE.out, if_neg]
     intro h'
     have := List.all_eq_true.1 h' _ (List.mem_of_getElem? HX.out)
     rw [h] at this; cases this
    have HN5 := H5.out
    cases hb : okN n with
    | false =>
     have E := Lib.hid (bad hb)
     have L0 := Lib.hid (HL.out (by rw [E.out]; simp))
     have T0 := Lib.hid (HT.out (by rw [E.out]; simp))
     have bw : Below w.heap.size w wr := B2.out.trans (HB.out.mono sz2)
     have BW := Lib.hid bw
     unfold okN at hb
     rw [decide_eq_false_iff_not] at hb
     generalize ofS (xs.take j) = q at *
     clear bad bw
     by_cases k1 : n < 1
     ·have d1 : decide (n < 1) = true := by rw [decide_eq_true_eq]; exact k1
      go_wp2
      go_ret3
      exact ⟨_, _, ret_tri E.out.symm, by rw [L0.out]; exact OV.nil _ _, by rw [T0.out]; exact OV.nil _ _, BW.out⟩
     ·have d1 : decide (n < 1) = false := by rw [decide_eq_false_iff_not]; exact k1
      have d2 : decide (281474976710656 < n) = true := by rw [decide_eq_true_eq]; omega
      go_wp2
      go_ret3
      exact ⟨_, _, ret_tri E.out.symm, by rw [L0.out]; exact OV.nil _ _, by rw [T0.out]; exact OV.nil _ _, BW.out⟩
    | true =>
     have HT2 := Lib.hid (all_take_step HT'.out HX.out hb)
     have hle2 := hle.2 hb
     unfold okN at hb
     rw [decide_eq_true_eq] at hb
     have d1 : decide (n < 1) = false := by rw [decide_eq_false_iff_not]; omega
     have d2 : decide (281474976710656 < n) = false := by rw [decide_eq_false_iff_not]; omega
     have OS := Lib.hid os
     have OT := Lib.hid ot'
     generalize ofS (xs.take j) = q at *
     obtain ⟨qs, qt, ql, qa⟩ := q
     dsimp only at *
     clear os ot' hle bad
     by_cases k1 : n = ql
     ·by_cases k2 : n = qa
      ·have d3 : (n == ql) = true := by simp [k1]
       have d4 : (n != qa) = false := by simp [k2]
       have d5 : (n != ql) = false := by simp [k1]
       have E := Lib.hid (show ofS (xs.take (j + 1)) = ⟨qs, qt, n, qa⟩ from by rw [HST.out]; unfold Os.st; rw [if_pos k1, if_neg (fun x => x.2 k2), if_neg (fun x => x.2 k2)])
       have K1 := Lib.hid k1
       clear k1 k2
       go_wp2
       go_roundg (gk - 1)
       case measure => have := HJ.out; omega
       case rel => exact ⟨j + 1, by have := HJ.out; omega, by go_num, by rw [E.out, K1.out], by rw [E.out], by rw [E.out]; exact OS.out, by rw [E.out]; exact OT.out, HB.out, HT2.out⟩
      ·have d3 : (n == ql) = true := by simp [k1]
       have d4 : (n != qa) = true := by simp [k2]
       have d5 : (n != ql) = false := by simp [k1]
       have E := Lib.hid (show ofS (xs.take (j + 1)) = ⟨qs, qt ++ [n], n, n⟩ from by rw [HST.out]; unfold Os.st; rw [if_pos k1, if_pos ⟨k1, k2⟩, if_pos ⟨k1, k2⟩])
       have K1 := Lib.hid k1
       clear k1 k2
       go_wp2_with (at_builtin; refine wpList_app elemI encI_len encI_one rfl _ _ rfl _ _ rfl rfl (OT.out.alloc _) (new_one (z := n)) ?q1 ?q2 ?_)
       case q1 => simp; omega
       case q2 => (try simp); omega
       intro v' x2 o3 g2
       have b3 : Below w2.heap.size w2 x2 := (HB.out.alloc hszr _).grown g2 (by simp; omega) (fun k hk => (OT.out.block k hk).1)
       have s3 := (OS.out.alloc (Obj.cells #[.int .i64 n] 3)).keep g2 (OS.out.ne OT.out (by decide))
       have B3 := Lib.hid b3
       clear g2 b3
       go_wp2
       go_roundg (gk - 1)
       case measure => have := HJ.out; omega
       case rel => exact ⟨j + 1, by have := HJ.out; omega, by go_num, by rw [E.out, K1.out], by rw [E.out], by rw [E.out]; exact s3, by rw [E.out]; exact o3, B3.out, HT2.out⟩
     ·have d3 : (n == ql) = false := by simp [k1]
      have d5 : (n != ql) = true := by simp [k1]
      have E := Lib.hid (show ofS (xs.take (j + 1)) = ⟨addR qs (n, 1), qt, n, qa⟩ from by rw [HST.out]; unfold Os.st; rw [if_neg k1, if_neg (fun x => k1 x.1), if_neg (fun x => k1 x.1)])
      have AD := Lib.hid (add_ok wr _ qs n 1 w2.heap.size OS.out hcan (by omega) hszr (by omega) (by omega) (by omega) (by omega))
      clear k1
      go_wp2_with fail
      refine AD.out.mono ?_
      rintro e x2 ⟨v', rfl, o3, m3⟩
      have t3 := OT.out.mod m3 (fun g hg hg' => (OT.out.ne OS.out (by decide)).elim (fun h => by rw [h] at hg; cases hg) (fun h => h (hg.trans hg'.symm)))
      have b3 := HB.out.trans (m3.below (fun k hk hk' => by have := (OS.out.block k hk').1; omega) hszr)
      have B3 := Lib.hid b3
      clear m3 b3 AD
      go_wp2
      go_roundg (gk - 1)
      case measure => have := HJ.out; omega
      case rel => exact ⟨j + 1, by have := HJ.out; omega, by go_num, by rw [E.out], by rw [E.out], by rw [E.out]; exact o3, by rw [E.out]; exact t3, B3.out, HT2.out⟩
   ·obtain rfl : j = N := by omega
    rw [List.take_of_length_le (by rw [HN.out]; exact Nat.le_refl _)] at os ot' ht
    have E := Lib.hid (show oe = 0 from by rw [HE.out, if_pos ht])
    have L0 := Lib.hid (HL0.out E.out)
    have T0 := Lib.hid (HT0.out E.out)
    have BW := Lib.hid (B2.out.trans (hb.mono sz2))
    have os := os.base_le sz2
    have ot' := ot'.base_le sz2
    clear hok hb ht
    go_wp2
    go_ret3
    exact ⟨_, _, ret_tri E.out.symm, by rw [L0.out]; exact os, by rw [T0.out]; exact ot', BW.out⟩
end Go.Proofs.YtalophngappkhaaGreatDoor
namespace Go.Proofs.YtalophngappkhaaGreatDoor
open Go
def lmR : Code → Option Nat
 | .region j _ _ => some j
 | .seq a _ => lmR a
 | _ => none
def isR (k : Nat) : Option Nat → Bool
 | some j => Nat.beq j k
 | none => false
/-- The outermost chain that begins with region k. -/
def fromR (k : Nat) : Code → Option Code
 | .seq a b => match isR k (lmR a) with
  | true => some (.seq a b)
  | false => match fromR k a with
   | some c => some c
   | none => fromR k b
 | .cond _ x y => match fromR k x with
  | some c => some c
  | none => fromR k y
 | .block _ x => fromR k x
 | .loop x => fromR k x
 | .scope x => fromR k x
 | .region j ops d => match Nat.beq j k with
  | true => some (.region j ops d)
  | false => none
 | _ => none
noncomputable def tailR (f : Func) (k : Nat) : Code := ((f.body.bind (fromR k)).getD .skip)
end Go.Proofs.YtalophngappkhaaGreatDoor
namespace Go.Proofs.YtalophngappkhaaGreatDoor
open Go.RowKit Go.Shelf
attribute [local go_sem] Oper.semAt_some

/-- What blocks are merged to. -/
structure Mg where
 evs : List Ev
 tw : List Int
 gaps : List (Int × Int)
 lost : Int
 next : Int
 opn : Bool
def mg0 : Mg := ⟨[], [], [], 0, 0, false⟩
def mgA (ve vt vg : Value) (lost next : Int) (opn : Bool) : Value := .agg #[ve, vt, vg, .int .i64 lost, .int .i64 next, .bool opn]
def encBk (x : Value × Bck) : List Value := [.int .u8 x.2.kind, .int .u8 x.2.cpu, .int .i64 x.2.lost, .int .i64 x.2.next, x.1]
theorem encBk_len (x : Value × Bck) : (encBk x).length = 5 := rfl
theorem ER.bk {w : World} {b off : Nat} {l : List (Value × Bck)} (h : ER encBk 5 w b off l) {i : Nat} {x : Value × Bck} (hi : l[i]? = some x) :
  w.cell? ⟨b, off + i * 5, none⟩ = some (.int .u8 x.2.kind) ∧ w.cell? ⟨b, off + i * 5 + 1, none⟩ = some (.int .u8 x.2.cpu) ∧ w.cell? ⟨b, off + i * 5 + 2, none⟩ = some (.int .i64 x.2.lost) ∧ w.cell? ⟨b, off + i * 5 + 3, none⟩ = some (.int .i64 x.2.next) ∧ w.cell? ⟨b, off + i * 5 + 4, none⟩ = some x.1 :=
 ⟨h i x hi 0 _ rfl, h i x hi 1 _ rfl, h i x hi 2 _ rfl, h i x hi 3 _ rfl, h i x hi 4 _ rfl⟩
/-- A slice of blocks. -/
structure BksS (w : World) (v : Value) (bs : List (Value × Bck)) : Prop where
 row : EV encBk 5 w v bs
 evs : ∀ x ∈ bs, EV encE 11 w x.1 x.2.evs
theorem BksS.below {w w' : World} {v : Value} {bs : List (Value × Bck)} (h : BksS w v bs) (hb : Below w.heap.size w w') : BksS w' v bs := ⟨h.row.below hb, fun x hx => (h.evs x hx).below hb⟩
def endB (bs : List Bck) : Int := bs.foldl (fun a b => max a b.next) 0
def lostB (bs : List Bck) : Int := bs.foldl (fun a b => a + b.lost) 0
def nxtS (R : List Ev) : Int := R.foldl (fun a e => max a (e.seq + 1)) 1
def seqsL (R : List Ev) : List Int := R.map Ev.seq
def gapsOf (R : List Ev) (next : Int) : List (Int × Int) := missL (ofL (seqsL R)) 1 next
def mgOf (bs : List Bck) (R : List Ev) (T : List Int) : Mg := ⟨R, T, gapsOf R (max (nxtS R) (endB bs)), lostB bs, max (nxtS R) (endB bs), decide (endB bs ≠ max (nxtS R) (endB bs))⟩
/-- What Blocks returns. -/
def MrgRes (bs : List Bck) (m : Mg) (c : Int) : Prop :=
 (4096 < bs.length ∧ c = 5 ∧ m = mg0) ∨
 (bs.length ≤ 4096 ∧ (∃ (i : Nat) (b : Bck), bs[i]? = some b ∧ (∀ (j : Nat) (b' : Bck), j < i → bs[j]? = some b' → chkB b' = 0) ∧ chkB b ≠ 0 ∧ c = chkB b) ∧ m = mg0) ∨
 (bs.length ≤ 4096 ∧ (∀ b ∈ bs, chkB b = 0) ∧ ∃ R T, JoinRes (bs.flatMap Bck.evs) R T c ∧ (c ≠ 0 → m = mg0) ∧ (c = 0 → m = mgOf bs R T))
theorem endB_snoc (bs : List Bck) (b : Bck) : endB (bs ++ [b]) = max (endB bs) b.next := by unfold endB; rw [List.foldl_append]; rfl
theorem lostB_snoc (bs : List Bck) (b : Bck) : lostB (bs ++ [b]) = lostB bs + b.lost := by unfold lostB; rw [List.foldl_append]; rfl
theorem nxtS_snoc (R : List Ev) (e : Ev) : nxtS (R ++ [e]) = max (nxtS R) (e.seq + 1) := by unfold nxtS; rw [List.foldl_append]; rfl
theorem nxtS_le {R : List Ev} (h : ∀ e ∈ R, e.seq ≤ 281474976710656) : 1 ≤ nxtS R ∧ nxtS R ≤ 281474976710657 := by
 have : ∀ (l : List Ev) (a : Int), 1 ≤ a → a ≤ 281474976710657 → (∀ e ∈ l, e.seq ≤ 281474976710656) → 1 ≤ l.foldl (fun a e => max a (e.seq + 1)) a ∧ l.foldl (fun a e => max a (e.seq + 1)) a ≤ 281474976710657 := by
  intro l
  induction l with
  | nil => intro a h1 h2 _; exact ⟨h1, h2⟩
  | cons x l ih =>
   intro a h1 h2 h3
   have := h3 x (by simp)
   exact ih _ (show 1 ≤ max a (x.seq + 1) by omega) (show max a (x.seq + 1) ≤ 281474976710657 by omega) (fun e he => h3 e (by simp [he]))
 exact this R 1 (by omega) (by omega) h
/-- The box of what is merged. -/
structure MgBox (w : World) (Y : Nat) (ve vt vg : Value) (lost next : Int) (opn : Bool) : Prop where
 cell : w.heap[Y]? = some (.cells #[ve, vt, vg, .int .i64 lost, .int .i64 next, .bool opn] 39 (0, 0))
namespace MgBox
variable {w w' : World} {Y : Nat} {ve vt vg : Value} {lost next : Int} {opn : Bool}
theorem new (w : World) (ve vt vg : Value) (lost next : Int) (opn : Bool) : MgBox (w.alloc (.cells #[ve, vt, vg, .int .i64 lost, .int .i64 next, .bool opn] 39)) w.heap.size ve vt vg lost next opn := ⟨heap_alloc_new w _⟩
theorem lt (h : MgBox w Y ve vt vg lost next opn) : Y < w.heap.size := (Array.getElem?_eq_some_iff.1 h.cell).1
theorem c0 (h : MgBox w Y ve vt vg lost next opn) : w.cell? ⟨Y, 0, none⟩ = some ve := (cell_of_row w Y 0 _ _ (0, 0) h.cell).trans rfl
theorem c1 (h : MgBox w Y ve vt vg lost next opn) : w.cell? ⟨Y, 1, none⟩ = some vt := (cell_of_row w Y 1 _ _ (0, 0) h.cell).trans rfl
theorem c2 (h : MgBox w Y ve vt vg lost next opn) : w.cell? ⟨Y, 2, none⟩ = some vg := (cell_of_row w Y 2 _ _ (0, 0) h.cell).trans rfl
theorem c3 (h : MgBox w Y ve vt vg lost next opn) : w.cell? ⟨Y, 3, none⟩ = some (.int .i64 lost) := (cell_of_row w Y 3 _ _ (0, 0) h.cell).trans rfl
theorem c4 (h : MgBox w Y ve vt vg lost next opn) : w.cell? ⟨Y, 4, none⟩ = some (.int .i64 next) := (cell_of_row w Y 4 _ _ (0, 0) h.cell).trans rfl
theorem c5 (h : MgBox w Y ve vt vg lost next opn) : w.cell? ⟨Y, 5, none⟩ = some (.bool opn) := (cell_of_row w Y 5 _ _ (0, 0) h.cell).trans rfl
theorem frz (h : MgBox w Y ve vt vg lost next opn) (i : Nat) : w.frozen? ⟨Y, i, none⟩ = false := frozen_of_row w Y i _ _ h.cell
theorem below (h : MgBox w Y ve vt vg lost next opn) (hb : Below w.heap.size w w') : MgBox w' Y ve vt vg lost next opn := ⟨(hb.block Y h.lt).trans h.cell⟩
theorem grown {row : Option Nat} (h : MgBox w Y ve vt vg lost next opn) (hg : w.grownBy w' row) (hr : row ≠ some Y) : MgBox w' Y ve vt vg lost next opn := ⟨(hg.block Y h.lt (fun e => hr e.symm)).trans h.cell⟩
theorem setOther (h : MgBox w Y ve vt vg lost next opn) {p : Addr} (hp : Y ≠ p.block) (u : Value) : MgBox (w.setCell p u) Y ve vt vg lost next opn := ⟨(Below.heap_setCell _ _ _ _ hp).trans h.cell⟩
theorem set0 (h : MgBox w Y ve vt vg lost next opn) (u : Value) : MgBox (w.setCell ⟨Y, 0, none⟩ u) Y u vt vg lost next opn := ⟨heap_setCell_same w Y 0 _ _ _ h.cell⟩
theorem set1 (h : MgBox w Y ve vt vg lost next opn) (u : Value) : MgBox (w.setCell ⟨Y, 1, none⟩ u) Y ve u vg lost next opn := ⟨heap_setCell_same w Y 1 _ _ _ h.cell⟩
theorem set2 (h : MgBox w Y ve vt vg lost next opn) (u : Value) : MgBox (w.setCell ⟨Y, 2, none⟩ u) Y ve vt u lost next opn := ⟨heap_setCell_same w Y 2 _ _ _ h.cell⟩
theorem set3 (h : MgBox w Y ve vt vg lost next opn) (u : Int) : MgBox (w.setCell ⟨Y, 3, none⟩ (.int .i64 u)) Y ve vt vg u next opn := ⟨heap_setCell_same w Y 3 _ _ _ h.cell⟩
theorem set4 (h : MgBox w Y ve vt vg lost next opn) (u : Int) : MgBox (w.setCell ⟨Y, 4, none⟩ (.int .i64 u)) Y ve vt vg lost u opn := ⟨heap_setCell_same w Y 4 _ _ _ h.cell⟩
theorem set5 (h : MgBox w Y ve vt vg lost next opn) (u : Bool) : MgBox (w.setCell ⟨Y, 5, none⟩ (.bool u)) Y ve vt vg lost next u := ⟨heap_setCell_same w Y 5 _ _ _ h.cell⟩
end MgBox
/-- What Blocks' caller is told. -/
def MgPost (w : World) (bs : List Bck) (r : Ending) (w' : World) : Prop := ∃ ve vt vg m c, r = .returned (.tuple #[mgA ve vt vg m.lost m.next m.opn, .int .i64 c]) ∧ MrgRes bs m c ∧
 OV encE 11 28 w.heap.size w' ve m.evs ∧ OV encI 1 3 w.heap.size w' vt m.tw ∧ OV encP 2 34 w.heap.size w' vg m.gaps ∧ Below w.heap.size w w'
theorem load_mg {w : World} {Y : Nat} {ve vt vg : Value} {lost next : Int} {opn : Bool} (h : MgBox w Y ve vt vg lost next opn) : (loadVar 39 ⟨Y, 0, none⟩).run Tryz.prog w = .ok (mgA ve vt vg lost next opn) w := by
 have h1 : (isAgg 39).run Tryz.prog w = .ok true w := by kernel_rfl
 have h2 : (Go.sizeOf 39).run Tryz.prog w = .ok 6 w := by kernel_rfl
 unfold loadVar
 simp [Sem.run_bind, h1, h2, Result.andThen, loadCells, loadCellsFrom, go_sem, h.c0, h.c1, h.c2, h.c3, h.c4, h.c5]
 rfl
theorem results_cellT {fn : Func} {p u : Tmp} {ty : TypeId} (h : fn.results = #[.cell p ty, .tmp u]) (tmps : Array Value) (P : Program) (w : World) {Y : Nat} {v z : Value} (ht : tmps.getD p undef = .pointer (some ⟨Y, 0, none⟩)) (hz : tmps.getD u undef = z)
  (hl : (loadVar ty ⟨Y, 0, none⟩).run P w = .ok v w) : (results fn tmps).run P w = .ok (.tuple #[v, z]) w := by
 rw [results_cell_tmp h, ht, hz]
 simp [asAddr, hl, Result.andThen]
theorem seqs_ok {R : List Ev} (hs : R.Pairwise (fun a b => a.seq < b.seq)) (h : ∀ e ∈ R, 1 ≤ e.seq ∧ e.seq ≤ 281474976710656) (hl : R.length ≤ 65535) :
  ofE (seqsL R) = 0 ∧ Can 0 (ofL (seqsL R)) ∧ (∀ n, hasR (ofL (seqsL R)) n = decide (n ∈ seqsL R)) ∧ (ofL (seqsL R)).length ≤ 65535 := by
 have hk : ∀ n ∈ srtI (seqsL R), okN n = true := fun n hn => by
  obtain ⟨e, he, rfl⟩ := List.mem_map.1 ((srt_mem _ n).1 hn)
  have := h e he
  unfold okN; simp only [decide_eq_true_eq]; omega
 have hE : ofE (seqsL R) = 0 := by
  unfold ofE
  rw [if_neg (by unfold seqsL; rw [List.length_map]; omega), if_pos]
  rw [← srt_all, List.all_eq_true]; exact hk
 have ho := ofS_ok (srtI (seqsL R)) (srt_pw _) hk
 have hL : ofL (seqsL R) = (ofS (srtI (seqsL R))).set := by unfold ofL; rw [if_pos hE]
 rw [hL]
 refine ⟨hE, ho.can, fun n => ?_, ?_⟩
 ·rw [ho.has n]; exact decide_eq_decide.2 (srt_mem _ n)
 ·have := ho.slen; rw [srtI_len] at this; unfold seqsL at this ⊢; rw [List.length_map] at this; omega
/-- The gaps are the numbers below next that no event has. -/
theorem gaps_ok {R : List Ev} (hs : R.Pairwise (fun a b => a.seq < b.seq)) (h : ∀ e ∈ R, 1 ≤ e.seq ∧ e.seq ≤ 281474976710656) (hl : R.length ≤ 65535) {next : Int} (h1 : 1 ≤ next) (h2 : next ≤ 281474976710657) :
  missE (ofL (seqsL R)) 1 next = 0 ∧ Can 0 (gapsOf R next) ∧ ∀ n, hasR (gapsOf R next) n = decide (1 ≤ n ∧ n < next ∧ n ∉ seqsL R) := by
 obtain ⟨_, hc, hh, hlen⟩ := seqs_ok hs h hl
 have hr : rightB (ofL (seqsL R)) = true := right_iff.2 ⟨by omega, hc⟩
 have hre : rerr [ofL (seqsL R)] = 0 := by rw [rerr_one, hr]; rfl
 have hm : missE (ofL (seqsL R)) 1 next = 0 := by unfold missE; rw [if_neg (by rw [hre]; simp), if_neg (by omega)]
 have hlo : ∀ n, n ∈ seqsL R → 1 ≤ n := fun n hn => by
  obtain ⟨e, he, rfl⟩ := List.mem_map.1 hn
  exact (h e he).1
 refine ⟨hm, ?_⟩
 unfold gapsOf missL
 rw [if_neg (by rw [hm]; simp)]
 by_cases he : (1 : Int) = next
 ·rw [if_pos he]
  refine ⟨can_nil _, fun n => ?_⟩
  rw [hasR_nil]
  symm
  simp only [decide_eq_false_iff_not]
  omega
 ·rw [if_neg he]
  have hc1 : Can 0 [((1 : Int), next - 1)] := (right_iff.1 (right_span (by omega) (by omega) h2)).2
  obtain ⟨b1, b2⟩ := both_spec (take := tkW) rfl hc1 hc
  refine ⟨b1, fun n => ?_⟩
  rw [b2 n, hh n]
  unfold tkW hasR nxt
  simp only [List.any_cons, List.any_nil, Bool.or_false]
  by_cases hn : n ∈ seqsL R
  ·simp [hn]
  ·simp only [hn, decide_false, Bool.not_false, Bool.and_true, not_false_eq_true, and_true]
   refine decide_eq_decide.2 ?_
   omega
end Go.Proofs.YtalophngappkhaaGreatDoor
namespace Go.Proofs.YtalophngappkhaaGreatDoor
open Go.RowKit Go.Shelf
attribute [local go_sem] Oper.semAt_some

/-- What is known when the events are joined. -/
structure MH (w : World) (bs : List Bck) (R : List Ev) (T : List Int) (X Y bb : Nat) (ve vt : Value) (W : World) : Prop where
 xy : X < Y ∧ w.heap.size ≤ X ∧ Y < bb
 rx : MgBox W X (.slice none 0 0) (.slice none 0 0) (.slice none 0 0) 0 0 false
 oe : OV encE 11 28 bb W ve R
 ot : OV encI 1 3 bb W vt T
 bel : Below w.heap.size w W
theorem MH.below {w W W' : World} {bs : List Bck} {R : List Ev} {T : List Int} {X Y bb : Nat} {ve vt : Value} (h : MH w bs R T X Y bb ve vt W) (hb : Below W.heap.size W W') : MH w bs R T X Y bb ve vt W' :=
 ⟨h.xy, h.rx.below hb, h.oe.below hb, h.ot.below hb, bstep h.bel hb⟩
theorem MH.setY {w W : World} {bs : List Bck} {R : List Ev} {T : List Int} {X Y bb : Nat} {ve vt : Value} (h : MH w bs R T X Y bb ve vt W) (i : Nat) (u : Value) : MH w bs R T X Y bb ve vt (W.setCell ⟨Y, i, none⟩ u) := by
 have hm := Mod.setCell (a := W) (p := ⟨Y, i, none⟩) (T := fun k => k = Y) u rfl
 have := h.xy
 exact ⟨h.xy, h.rx.setOther (by simp; omega) _, h.oe.mod hm (fun g q t => by have := (h.oe.block g q).1; omega), h.ot.mod hm (fun g q t => by have := (h.ot.block g q).1; omega), h.bel.trans (hm.below (B := w.heap.size) (fun k hk t => by omega) h.bel.size)⟩
/-- What the pure side knows. -/
structure MF (bs : List Bck) (R : List Ev) (T : List Int) : Prop where
 jr : JoinRes (bs.flatMap Bck.evs) R T 0
 ck : ∀ b ∈ bs, chkB b = 0
 len : bs.length ≤ 4096
 seq : ∀ e ∈ R, 1 ≤ e.seq ∧ e.seq ≤ 281474976710656
 srt : R.Pairwise (fun a b => a.seq < b.seq)
 rl : R.length ≤ 65535
 en : 0 ≤ endB bs ∧ endB bs ≤ 281474976710657
set_option maxRecDepth 100000 in
set_option maxHeartbeats 3200000 in
theorem blocks_t27 (w wc : World) (bs : List Bck) (R : List Ev) (T : List Int) (X Y bb nn cn : Nat) (An : Option Addr) (ve vt : Value) {u0 u1 u3 u4 u7 u8 u9 u10 u12 u13 u14 u15 u16 u17 u18 u19 u20 u21 u22 u23 u24 u25 u26 u27 u28 u29 u30 u31 u32 u33 u34 u35 u36 u37 u38 u39 u40 u41 u42 u43 u44 u45 u46 u47 u48 u49 u50 u51 u52 u53 u54 u55 u56 u57 u58 u59 u60 u61 u62 u63 u64 u65 u66 u67 u68 u69 u70 u71 u72 u73 u74 u75 u76 u77 u78 u79 u80 u81 u82 u83 u84 u85 u86 u87 u88 u89 u90 u91 u92 u93 u94 u95 u96 u97 u98 u99 u100 u101 u102 u103 u104 u105 u106 u107 : Value} (h : MH w bs R T X Y bb ve vt wc) (f : MF bs R T)
  (hm : MgBox wc Y ve vt (.slice none 0 0) (lostB bs) (nxtS R) false) (hn : OV encI 1 3 bb wc (.slice An nn cn) (seqsL R)) :
  Code.wp Tryz.prog (tailR Tryz.f23 27) (bodyPost Tryz.prog Tryz.f23 (MgPost w bs))
   ⟨#[u0, u1, .pointer (some ⟨X, 0, none⟩), u3, u4, .pointer (some ⟨Y, 0, none⟩), .int .i64 (endB bs), u7, u8, u9, u10, .slice An nn cn, u12, u13, u14, u15, u16, u17, u18, u19, u20, u21, u22, u23, u24, u25, u26, u27, u28, u29, u30, u31, u32, u33, u34, u35, u36, u37, u38, u39, u40, u41, u42, u43, u44, u45, u46, u47, u48, u49, u50, u51, u52, u53, u54, u55, u56, u57, u58, u59, u60, u61, u62, u63, u64, u65, u66, u67, u68, u69, u70, u71, u72, u73, u74, u75, u76, u77, u78, u79, u80, u81, u82, u83, u84, u85, u86, u87, u88, u89, u90, u91, u92, u93, u94, u95, u96, u97, u98, u99, u100, u101, u102, u103, u104, u105, u106, u107], []⟩ wc := by
 conv => arg 2; whnf
 conv => arg 4; dsimp only
 obtain ⟨E, hE⟩ : ∃ E, endB bs = E := ⟨_, rfl⟩
 obtain ⟨M, hM⟩ : ∃ M, nxtS R = M := ⟨_, rfl⟩
 obtain ⟨N, hN⟩ : ∃ N, max M E = N := ⟨_, rfl⟩
 have hMl := nxtS_le (R := R) (fun e he => (f.seq e he).2)
 have hNl : 1 ≤ N ∧ N ≤ 281474976710657 := by have := f.en; omega
 obtain ⟨q0, q1, q2, q3⟩ := seqs_ok f.srt f.seq f.rl
 obtain ⟨g0, g1, g2⟩ := gaps_ok f.srt f.seq f.rl hNl.1 hNl.2
 have HQ := Lib.hid (And.intro q0 (And.intro q3 g0))
 have HEM := Lib.hid (And.intro hE (And.intro hM hN))
 have HNL := Lib.hid hNl
 rw [hE]
 rw [hM] at hm
 have HH := Lib.hid h
 have HF := Lib.hid f
 have HM := Lib.hid hm
 have HNN := Lib.hid hn
 have c4 := hm.c4
 have f4 := hm.frz 4
 clear h f hm hn hE hM hMl hNl q0 q1 q2 q3 g0 g1 g2
 go_upto_region 28 with fail
 have h1 := HM.out.set4 N
 have h2 := HH.out.setY 4 (.int .i64 N)
 have h3 := HNN.out.mod (Mod.setCell (a := wc) (p := ⟨Y, 4, none⟩) (T := fun k => k = Y) (.int .i64 N) rfl) (fun g q t => by have := (HNN.out.block g q).1; have := HH.out.xy; omega)
 clear c4 f4 HM HH HNN
 generalize wc.setCell ⟨Y, 4, none⟩ (.int .i64 N) = wd at h1 h2 h3 ⊢
 have HM := Lib.hid h1
 have HH := Lib.hid h2
 have HNN := Lib.hid h3
 have c4 := h1.c4
 have c5 := h1.c5
 have f5 := h1.frz 5
 clear h1 h2 h3
 obtain ⟨O, hO⟩ : ∃ O, decide (E ≠ N) = O := ⟨_, rfl⟩
 have hop : (E != N) = O := by rw [← hO]; by_cases h : E = N <;> simp [h]
 have HOP := Lib.hid hO
 clear hO
 go_upto_region 29 with fail
 have h1 := HM.out.set5 O
 have h2 := HH.out.setY 5 (.bool O)
 have h3 := HNN.out.mod (Mod.setCell (a := wd) (p := ⟨Y, 5, none⟩) (T := fun k => k = Y) (.bool O) rfl) (fun g q t => by have := (HNN.out.block g q).1; have := HH.out.xy; omega)
 clear c4 c5 f5 HM HH HNN
 generalize wd.setCell ⟨Y, 5, none⟩ (.bool O) = we at h1 h2 h3 ⊢
 have HM := Lib.hid h1
 have HH := Lib.hid h2
 have HOF := Lib.hid (of_ok we _ (seqsL R) (h3.ev encI_len) (by unfold seqsL; rw [List.length_map]; have := HF.out.rl; omega))
 rw [HQ.out.1] at HOF
 clear h1 h2 h3 hop
 go_wp2_with fail
 refine HOF.out.mono ?_
 rintro r wf ⟨vs, vt2, rfl, os, ot2, b1⟩
 have HM2 := Lib.hid (HM.out.below b1)
 have HH2 := Lib.hid (HH.out.below b1)
 have HMI := Lib.hid (missing_ok wf vs (ofL (seqsL R)) 1 N (os.ev encP_len) (by have := HQ.out.2.1; omega))
 rw [HQ.out.2.2] at HMI
 clear os ot2 b1 HM HH HOF
 have c4 := HM2.out.c4
 have c2 := HM2.out.c2
 go_wp2_with fail
 refine HMI.out.mono ?_
 rintro r wg ⟨vg, rfl, og, b1⟩
 have HM := Lib.hid (HM2.out.below b1)
 have HH := Lib.hid (HH2.out.below b1)
 have HYL := Lib.hid HM2.out.lt
 have HSZ := Lib.hid HH2.out.bel.size
 have HG := Lib.hid og
 obtain ⟨Ag, cg, hvg⟩ := (og.ev encP_len).shape
 obtain ⟨Lg, hLg⟩ : ∃ L, (missL (ofL (seqsL R)) 1 N).length = L := ⟨_, rfl⟩
 rw [hLg] at hvg
 subst hvg
 clear og b1 HM2 HH2 HMI c4 c2 hLg
 have c2 := HM.out.c2
 have f2 := HM.out.frz 2
 go_upto_region 31 with fail
 have h1 := HM.out.set2 (.slice Ag Lg cg)
 have h2 := HH.out.setY 2 (.slice Ag Lg cg)
 have h3 := HG.out.mod (Mod.setCell (a := wg) (p := ⟨Y, 2, none⟩) (T := fun k => k = Y) (.slice Ag Lg cg) rfl) (fun g q t => by have := (HG.out.block g q).1; have := HYL.out; omega)
 clear c2 f2 HM HH HG
 generalize wg.setCell ⟨Y, 2, none⟩ (.slice Ag Lg cg) = wh at h1 h2 h3 ⊢
 have HM := Lib.hid h1
 have HH := Lib.hid h2
 have HG := Lib.hid h3
 obtain ⟨Ae, ce, hve⟩ := (h2.oe.ev encE_len).shape
 obtain ⟨At, ct, hvt⟩ := (h2.ot.ev encI_len).shape
 obtain ⟨Le, hLe⟩ : ∃ L, R.length = L := ⟨_, rfl⟩
 obtain ⟨Lt, hLt⟩ : ∃ L, T.length = L := ⟨_, rfl⟩
 rw [hLe] at hve
 rw [hLt] at hvt
 subst hve hvt
 have c0 := h1.c0
 have c1 := h1.c1
 have c2 := h1.c2
 have c3 := h1.c3
 have c4 := h1.c4
 have c5 := h1.c5
 have d0 := h2.rx.c0
 have d1 := h2.rx.c1
 have d2 := h2.rx.c2
 have d3 := h2.rx.c3
 have d4 := h2.rx.c4
 have d5 := h2.rx.c5
 have e0 := h2.rx.frz 0
 have e1 := h2.rx.frz 1
 have e2 := h2.rx.frz 2
 have e3 := h2.rx.frz 3
 have e4 := h2.rx.frz 4
 have e5 := h2.rx.frz 5
 clear h1 h2 h3 hLe hLt
 have HMG := Lib.hid (show mgOf bs R T = ⟨R, T, missL (ofL (seqsL R)) 1 N, lostB bs, N, O⟩ by
  unfold mgOf gapsOf
  rw [HEM.out.1, HEM.out.2.1, HEM.out.2.2, HOP.out])
 have hb := ((((((HH.out.rx.set0 (.slice Ae Le ce)).set1 (.slice At Lt ct)).set2 (.slice Ag Lg cg)).set3 (lostB bs)).set4 N).set5 O)
 have hm := (((((Mod.setCell (a := wh) (p := ⟨X, 0, none⟩) (T := fun k => k = X) (.slice Ae Le ce) rfl).trans (Mod.setCell (p := ⟨X, 1, none⟩) (T := fun k => k = X) (.slice At Lt ct) rfl)).trans (Mod.setCell (p := ⟨X, 2, none⟩) (T := fun k => k = X) (.slice Ag Lg cg) rfl)).trans (Mod.setCell (p := ⟨X, 3, none⟩) (T := fun k => k = X) (.int .i64 (lostB bs)) rfl)).trans (Mod.setCell (p := ⟨X, 4, none⟩) (T := fun k => k = X) (.int .i64 N) rfl)).trans (Mod.setCell (p := ⟨X, 5, none⟩) (T := fun k => k = X) (.bool O) rfl)
 have HBX := Lib.hid hb
 have HMO := Lib.hid hm
 clear hb hm
 go_wp2
 refine bodyPost_ret (results_cellT rfl _ _ _ rfl rfl (load_mg HBX.out)) rfl ?_
 have hxy := HH.out.xy
 refine ⟨.slice Ae Le ce, .slice At Lt ct, .slice Ag Lg cg, mgOf bs R T, 0, ?_, .inr (.inr ⟨HF.out.len, HF.out.ck, R, T, HF.out.jr, fun h => absurd rfl h, fun _ => rfl⟩), ?_, ?_, ?_, HH.out.bel.trans (HMO.out.below (B := w.heap.size) (fun k hk t => by omega) HH.out.bel.size)⟩
 ·rw [HMG.out]; rfl
 ·rw [HMG.out]; exact (HH.out.oe.mod HMO.out (fun g q t => by have := (HH.out.oe.block g q).1; omega)).base_le (by omega)
 ·rw [HMG.out]; exact (HH.out.ot.mod HMO.out (fun g q t => by have := (HH.out.ot.block g q).1; omega)).base_le (by omega)
 ·rw [HMG.out]; exact (HG.out.mod HMO.out (fun g q t => by have := (HG.out.block g q).1; have := HYL.out; omega)).base_le (by have := HYL.out; have := HSZ.out; omega)
end Go.Proofs.YtalophngappkhaaGreatDoor
