/- quantumref12.join in plain words: the events by selection of the next number | quantumref12.join: the walk | quantumref12.Blocks: the end, from Open on | quantumref12.Blocks: the numbers that are there, and the next one. -/
import Derived.Test.YtalophngappkhaaGreatDoorV6
import Derived.Test.YtalophngappkhaaGreatDoorV25
import Derived.Test.YtalophngappkhaaGreatDoorV16
import Derived.Test.YtalophngappkhaaGreatDoorV26
import Derived.BigRegion
import Derived.Test.YtalophngappkhaaGreatDoorV31
import Derived.Test.YtalophngappkhaaGreatDoorV27
set_option linter.unusedVariables false
set_option linter.unusedSimpArgs false
set_option linter.unusedSectionVars false
namespace Go.Proofs.YtalophngappkhaaGreatDoor
open Go.RowKit

/-- How many events have a number above a. -/
def leftS (l : List Ev) (a : Int) : Nat := l.countP (fun e => decide (a < e.seq))
/-- What is known when all numbers up to a are done. -/
structure SelP (l R : List Ev) (T : List Int) (a : Int) : Prop where
 nc : ∀ x ∈ l, ∀ y ∈ l, x.seq = y.seq → x.seq ≤ a → x = y
 srt : R.Pairwise (fun a b => a.seq < b.seq)
 mem : ∀ e, e ∈ R ↔ e ∈ l ∧ e.seq ≤ a
 tsrt : T.Pairwise (fun a b => a < b)
 tmem : ∀ n, n ∈ T ↔ n ≤ a ∧ 2 ≤ cntS l n
 len : R.length + leftS l a ≤ l.length ∧ T.length ≤ R.length
theorem cnt_pos_mem {l : List Ev} {n : Int} (h : 0 < cntS l n) : ∃ e ∈ l, e.seq = n := by
 obtain ⟨e, he, h2⟩ := List.countP_pos_iff.1 h
 exact ⟨e, he, by simpa using h2⟩
theorem SelP.nil {l : List Ev} (h : ∀ e ∈ l, 1 ≤ e.seq) : SelP l [] [] 0 where
 nc := fun x hx y _ _ h0 => by have := h x hx; omega
 srt := List.Pairwise.nil
 mem := fun e => ⟨fun h => (by cases h), fun ⟨h1, h2⟩ => (by have := h e h1; omega)⟩
 tsrt := List.Pairwise.nil
 tmem := fun n => ⟨fun h => (by cases h), fun ⟨h1, h2⟩ => (by
  obtain ⟨e, he, hn⟩ := cnt_pos_mem (show 0 < cntS l n by omega)
  have := h e he
  omega)⟩
 len := ⟨by simp [leftS]; exact List.countP_le_length, by simp⟩
theorem left_step {a : Int} {e : Ev} (h : a < e.seq) : ∀ {l : List Ev}, (∀ x ∈ l, a < x.seq → e.seq ≤ x.seq) → leftS l e.seq + cntS l e.seq = leftS l a
 | [], _ => rfl
 | x :: l, hx => by
  have ih := left_step h (l := l) (fun y hy => hx y (List.mem_cons_of_mem _ hy))
  have h0 := hx x (List.mem_cons_self ..)
  unfold leftS cntS at ih ⊢
  simp only [List.countP_cons]
  by_cases h1 : a < x.seq
  ·have h2 := h0 h1
   by_cases h3 : x.seq = e.seq
   ·have h4 : ¬ e.seq < x.seq := by omega
    simp [h1, h3, h]; omega
   ·have h4 : e.seq < x.seq := by omega
    simp [h1, h3, h4]; omega
  ·have h3 : ¬ x.seq = e.seq := by omega
   have h4 : ¬ e.seq < x.seq := by omega
   simp [h1, h3, h4]; omega
theorem SelP.step {l R : List Ev} {T : List Int} {a : Int} {e : Ev} (h : SelP l R T a) (he : e ∈ l) (h1 : a < e.seq) (h2 : ∀ x ∈ l, a < x.seq → e.seq ≤ x.seq) (h3 : ∀ x ∈ l, x.seq = e.seq → x = e) :
  SelP l (R ++ [e]) (if 1 < cntS l e.seq then T ++ [e.seq] else T) e.seq ∧ leftS l e.seq < leftS l a := by
 have hls := left_step h1 h2
 have hc := cnt_pos he
 refine ⟨⟨?_, ?_, ?_, ?_, ?_, ?_⟩, by omega⟩
 ·intro x hx y hy hs hle
  by_cases hxa : x.seq ≤ a
  ·exact h.nc x hx y hy hs hxa
  ·have := h2 x hx (by omega)
   rw [h3 x hx (by omega), h3 y hy (by omega)]
 ·rw [List.pairwise_append]
  refine ⟨h.srt, by simp, fun x hx y hy => ?_⟩
  rw [List.mem_singleton.1 hy]
  have := ((h.mem x).1 hx).2
  omega
 ·intro x
  rw [List.mem_append, h.mem x, List.mem_singleton]
  refine ⟨?_, fun ⟨hx, hle⟩ => ?_⟩
  ·rintro (⟨hx, hle⟩ | rfl)
   ·exact ⟨hx, by omega⟩
   ·exact ⟨he, Int.le_refl _⟩
  ·by_cases hxa : x.seq ≤ a
   ·exact .inl ⟨hx, hxa⟩
   ·have := h2 x hx (by omega)
    exact .inr (h3 x hx (by omega))
 ·split
  ·rw [List.pairwise_append]
   refine ⟨h.tsrt, by simp, fun x hx y hy => ?_⟩
   rw [List.mem_singleton.1 hy]
   have := ((h.tmem x).1 hx).1
   omega
  ·exact h.tsrt
 ·intro n
  have key : 2 ≤ cntS l n → n ≤ e.seq → a < n → n = e.seq := fun hn hle ha => by
   obtain ⟨x, hx, hxn⟩ := cnt_pos_mem (show 0 < cntS l n by omega)
   have := h2 x hx (by omega)
   omega
  split
  next hgt =>
   rw [List.mem_append, h.tmem n, List.mem_singleton]
   refine ⟨?_, fun ⟨hle, hn⟩ => ?_⟩
   ·rintro (⟨hx, hle⟩ | rfl)
    ·exact ⟨by omega, hle⟩
    ·exact ⟨Int.le_refl _, by omega⟩
   ·by_cases ha : n ≤ a
    ·exact .inl ⟨ha, hn⟩
    ·exact .inr (key hn hle (by omega))
  next hgt =>
   rw [h.tmem n]
   refine ⟨fun ⟨hx, hle⟩ => ⟨by omega, hle⟩, fun ⟨hle, hn⟩ => ⟨?_, hn⟩⟩
   refine Classical.byContradiction fun ha => ?_
   have := key hn hle (by omega)
   rw [this] at hn
   omega
 ·have := h.len
  refine ⟨by simp; omega, ?_⟩
  split <;> simp <;> omega
theorem SelP.done {l R : List Ev} {T : List Int} {a : Int} (h : SelP l R T a) (hl : l.length ≤ 65535) (ha : ∀ x ∈ l, x.seq ≤ a) : JoinRes l R T 0 :=
 .inr (.inr ⟨hl, fun ⟨x, hx, y, hy, hs, hne⟩ => hne (h.nc x hx y hy hs (ha x hx)), rfl, h.srt, fun e => (h.mem e).trans ⟨fun q => q.1, fun q => ⟨q, ha e q⟩⟩, h.tsrt,
  fun n => (h.tmem n).trans ⟨fun q => q.2, fun q => ⟨by obtain ⟨x, hx, hn⟩ := cnt_pos_mem (show 0 < cntS l n by omega); have := ha x hx; omega, q⟩⟩, by have := h.len; omega, by have := h.len; omega⟩)
theorem sel_conf {l : List Ev} {e x : Ev} (hl : l.length ≤ 65535) (he : e ∈ l) (hx : x ∈ l) (hs : x.seq = e.seq) (hne : x ≠ e) : JoinRes l [] [] 120 :=
 .inr (.inl ⟨hl, ⟨x, hx, e, he, hs, hne⟩, rfl, rfl, rfl⟩)

/-- The search for the next number: the place of its first event (from 1; 0 where there is none) and how often it is there, among the events p. -/
inductive SelI (p : List Ev) (a : Int) : Nat → Nat → Prop where
 | zip (h : ∀ e ∈ p, e.seq ≤ a) : SelI p a 0 0
 | one (q : Nat) (e : Ev) (n : Nat) (hq : p[q]? = some e) (ha : a < e.seq) (hm : ∀ x ∈ p, a < x.seq → e.seq ≤ x.seq) (hn : n = cntS p e.seq) : SelI p a (q + 1) n
theorem SelI.nil (a : Int) : SelI [] a 0 0 := .zip fun e h => by cases h
theorem get_app {p : List Ev} {q : Nat} {e x : Ev} (h : p[q]? = some e) : (p ++ [x])[q]? = some e := by
 rw [List.getElem?_append_left (List.getElem?_eq_some_iff.1 h).1]; exact h
theorem SelI.low {p : List Ev} {a : Int} {n o : Nat} {x : Ev} (h : SelI p a n o) (hx : x.seq ≤ a) : SelI (p ++ [x]) a n o := by
 cases h with
 | zip h =>
  refine .zip fun e he => ?_
  rcases List.mem_append.1 he with he | he
  ·exact h e he
  ·rw [List.mem_singleton.1 he]; exact hx
 | one q e n hq ha hm hn => 
  refine .one q e o (get_app hq) ha (fun y hy hay => ?_) ?_
  ·rcases List.mem_append.1 hy with hy | hy
   ·exact hm y hy hay
   ·rw [List.mem_singleton.1 hy] at hay; omega
  ·rw [cnt_app, if_neg (by omega)]; simpa using hn
theorem SelI.first {p : List Ev} {a : Int} {o : Nat} {x : Ev} (h : SelI p a 0 o) (hx : a < x.seq) : SelI (p ++ [x]) a (p.length + 1) 1 := by
 cases h with
 | zip h =>
  refine .one p.length x 1 (by simp) hx (fun y hy hay => ?_) ?_
  ·rcases List.mem_append.1 hy with hy | hy
   ·have := h y hy; omega
   ·rw [List.mem_singleton.1 hy]; exact Int.le_refl _
  ·rw [cnt_app, if_pos rfl, cnt_zero (fun y hy => by have := h y hy; omega)]
theorem SelI.less {p : List Ev} {a : Int} {q o : Nat} {e x : Ev} (h : SelI p a (q + 1) o) (hq : p[q]? = some e) (hx : a < x.seq) (hlt : x.seq < e.seq) : SelI (p ++ [x]) a (p.length + 1) 1 := by
 cases h with
 | one _ e' _ hq' ha hm hn =>
  rw [hq] at hq'
  cases hq'
  refine .one p.length x 1 (by simp) hx (fun y hy hay => ?_) ?_
  ·rcases List.mem_append.1 hy with hy | hy
   ·have := hm y hy hay; omega
   ·rw [List.mem_singleton.1 hy]; exact Int.le_refl _
  ·rw [cnt_app, if_pos rfl, cnt_zero (fun y hy he => by have := hm y hy (by omega); omega)]
theorem SelI.same {p : List Ev} {a : Int} {q o : Nat} {e x : Ev} (h : SelI p a (q + 1) o) (hq : p[q]? = some e) (hs : x.seq = e.seq) : SelI (p ++ [x]) a (q + 1) (o + 1) := by
 cases h with
 | one _ e' _ hq' ha hm hn =>
  rw [hq] at hq'
  cases hq'
  refine .one q e _ (get_app hq) ha (fun y hy hay => ?_) ?_
  ·rcases List.mem_append.1 hy with hy | hy
   ·exact hm y hy hay
   ·rw [List.mem_singleton.1 hy]; omega
  ·rw [cnt_app, if_pos hs, hn]
theorem SelI.more {p : List Ev} {a : Int} {q o : Nat} {e x : Ev} (h : SelI p a (q + 1) o) (hq : p[q]? = some e) (hlt : e.seq < x.seq) : SelI (p ++ [x]) a (q + 1) o := by
 cases h with
 | one _ e' _ hq' ha hm hn =>
  rw [hq] at hq'
  cases hq'
  refine .one q e _ (get_app hq) ha (fun y hy hay => ?_) ?_
  ·rcases List.mem_append.1 hy with hy | hy
   ·exact hm y hy hay
   ·rw [List.mem_singleton.1 hy]; omega
  ·rw [cnt_app, if_neg (by omega)]; simpa using hn
theorem SelI.cur {p : List Ev} {a : Int} {q o : Nat} (h : SelI p a (q + 1) o) : ∃ e, p[q]? = some e ∧ a < e.seq ∧ (∀ x ∈ p, a < x.seq → e.seq ≤ x.seq) ∧ o = cntS p e.seq ∧ q < p.length := by
 cases h with
 | one _ e _ hq ha hm hn => exact ⟨e, hq, ha, hm, hn, (List.getElem?_eq_some_iff.1 hq).1⟩
theorem SelI.zero {p : List Ev} {a : Int} {o : Nat} (h : SelI p a 0 o) : ∀ e ∈ p, e.seq ≤ a := by
 cases h with
 | zip h => exact h
end Go.Proofs.YtalophngappkhaaGreatDoor
namespace Go.Proofs.YtalophngappkhaaGreatDoor
open Go Go.RowKit Go.Shelf
attribute [local go_sem] Oper.semAt_some
set_option maxRecDepth 100000 in
theorem rev_neq (x e : Ev) (w : World) : (binOp .neq 96 (evA x) (evA e)).run Tryz.prog w = .ok (.bool (!decide (x = e))) w := by
 unfold evA
 go_simp
 by_cases h : x = e
 ·subst h
  simp
 ·have hd : decide (x = e) = false := by simpa using h
  simp only [hd, Bool.not_false]
  repeat' split
  all_goals first | rfl | (exfalso; apply h; cases x; cases e; simp only at *; subst_vars; rfl)
set_option maxRecDepth 100000 in
set_option maxHeartbeats 6400000 in
theorem r12join_ok (w : World) (v : Value) (l : List Ev) (hv : EV encE 11 w v l) (h1 : ∀ e ∈ l, 1 ≤ e.seq) (hl : l.length ≤ 1000000) :
  Calls Tryz.prog 74 #[v] w fun r w' => ∃ v1 v2 R T c, r = .returned (.tuple #[v1, v2, .int .i64 c]) ∧ OV encE 11 96 w.heap.size w' v1 R ∧ OV encI 1 3 w.heap.size w' v2 T ∧ JoinRes l R T c ∧ Below w.heap.size w w' := by
 obtain ⟨A, c, hA⟩ := hv.shape
 subst hA
 obtain ⟨n, hn⟩ : ∃ n, l.length = n := ⟨_, rfl⟩
 have HN := Lib.hid hn
 have HH := Lib.hid h1
 rw [hn] at hv hl ⊢
 have HV := Lib.hid hv
 have HL := Lib.hid hl
 clear hv hn h1
 by_cases hb : 65535 < n
 ·have d1 : decide ((65535 : Int) < (n : Int)) = true := by simp; omega
  have HBB := Lib.hid hb
  clear hb
  go_enter Tryz.func74, Tryz.ntmps74
  go_wp2
  go_ret3
  exact ⟨_, _, [], [], 5, rfl, OV.nil _ _, OV.nil _ _, .inl ⟨by rw [HN.out]; exact HBB.out, rfl, rfl, rfl⟩, Below.refl _ _⟩
 ·have d1 : decide ((65535 : Int) < (n : Int)) = false := by simp; omega
  have HNB := Lib.hid (show l.length ≤ 65535 by rw [HN.out]; omega)
  clear hb hl
  go_enter Tryz.func74, Tryz.ntmps74
  go_wp2
  go_loopg [5, 6, 7] (n + 1) (fun k o5 o6 o7 wr => ∃ (R : List Ev) (T : List Int) (a : Int), leftS l a < k ∧ o7 = .int .i64 a ∧ SelP l R T a ∧ OV encE 11 96 w.heap.size wr o5 R ∧ OV encI 1 3 w.heap.size wr o6 T ∧ Below w.heap.size w wr)
  case atStart => exact ⟨[], [], 0, by have := HN.out; have : leftS l 0 ≤ l.length := List.countP_le_length; omega, rfl, SelP.nil HH.out, OV.nil _ _, OV.nil _ _, Below.refl _ _⟩
  case round =>
   obtain ⟨R, T, a, hk, rfl, hs, ho, ht, hbr⟩ := hrel
   have HK := Lib.hid hk
   have HS := Lib.hid hs
   have HO := Lib.hid ho
   have HT := Lib.hid ht
   have HB := Lib.hid hbr
   clear hk hs ho ht hbr
   obtain ⟨ws, hws⟩ : ∃ ws, ws = wr := ⟨_, rfl⟩
   subst hws
   go_upto_block 2 with fail
   go_cut [8, 9] (fun o8 o9 wz => ∃ (wq : World) (nx of q : Nat), wq = wz ∧ o8 = .int .i64 (nx : Nat) ∧ o9 = .int .i64 (of : Nat) ∧ SelI l a nx of ∧ ws.drewN q = wq)
   case first =>
    go_wp2
    go_loopg [8, 9, 10] n (fun k o8 o9 o10 wz => ∃ (j nx of q : Nat), j + k = n ∧ o10 = .int .i64 j ∧ o8 = .int .i64 (nx : Nat) ∧ o9 = .int .i64 (of : Nat) ∧ SelI (l.take j) a nx of ∧ ws.drewN q = wz)
    case atStart => exact ⟨0, 0, 0, 0, by omega, rfl, rfl, rfl, SelI.nil a, rfl⟩
    case round =>
     obtain ⟨j, nx, of, q, hj, rfl, rfl, rfl, hsi, rfl⟩ := hrel
     have HJ := Lib.hid hj
     have HI := Lib.hid hsi
     clear hj hsi
     by_cases hlt : j < n
     ·obtain ⟨b, off, c', hsl, hcc, hr⟩ := (HV.out.below HB.out).row (by rw [HN.out]; omega)
      rw [HN.out] at hsl
      cases hsl
      obtain ⟨x, hx⟩ : ∃ x, l[j]? = some x := ⟨_, List.getElem?_eq_getElem (by rw [HN.out]; exact hlt)⟩
      have HTK := Lib.hid (show l.take (j + 1) = l.take j ++ [x] from by rw [List.take_add_one, hx]; rfl)
      have HTL := Lib.hid (show (l.take j).length = j from by rw [List.length_take]; have := HN.out; omega)
      have HR := Lib.hid hr
      obtain ⟨g0, -⟩ := hr.ev hx
      have hl6 := HL.out
      clear hr hx
      by_cases hle : x.seq ≤ a
      ·have d1 : decide (x.seq ≤ a) = true := by simpa using hle
       have HS2 := Lib.hid (HI.out.low hle)
       clear hle
       go_wp2
       go_roundg (gk - 1)
       case measure => have := HJ.out; omega
       case rel => exact ⟨j + 1, nx, of, q, by have := HJ.out; omega, by go_num, rfl, rfl, by rw [HTK.out]; exact HS2.out, rfl⟩
      ·have d1 : decide (x.seq ≤ a) = false := by simpa using hle
       have ha : a < x.seq := by omega
       have HA := Lib.hid ha
       obtain ⟨S, hS⟩ : ∃ S, x.seq = S := ⟨_, rfl⟩
       rw [hS] at g0 d1 HA
       have HSS := Lib.hid hS
       clear hle ha hS
       have i0 : (0 : Int) ≤ (j : Int) := by omega
       have i1 : (j : Int) < (n : Int) := by omega
       have i2 : wrap64 ((j : Int) + 1) = (j : Int) + 1 := IntWalk.wrap64_in _ (by omega)
       have i4 : wrap64 (j : Int) = (j : Int) := IntWalk.wrap64_in _ (by omega)
       rcases Nat.eq_zero_or_pos nx with hz | hz
       ·subst hz
        have HS2 := Lib.hid (HI.out.first (x := x) (by rw [HSS.out]; exact HA.out))
        rw [HTL.out] at HS2
        go_wp2_with fail
        go_big_region
        go_wp2_with fail
        go_big_region
        go_wp2
        go_roundg (gk - 1)
        case measure => have := HJ.out; omega
        case rel => exact ⟨j + 1, j + 1, 1, _, by have := HJ.out; omega, by go_num, rfl, rfl, by rw [HTK.out]; exact HS2.out, rfl⟩
       ·obtain ⟨p, rfl⟩ : ∃ p, nx = p + 1 := ⟨nx - 1, by omega⟩
        obtain ⟨e, he, ha, hm, hof, hp⟩ := HI.out.cur
        rw [HTL.out] at hp
        have HE := Lib.hid (And.intro he (And.intro ha (And.intro hm hof)))
        have hle : l[p]? = some e := by rw [List.getElem?_take_of_lt hp] at he; exact he
        obtain ⟨k0, -⟩ := HR.out.ev hle
        obtain ⟨E, hEE⟩ : ∃ E, e.seq = E := ⟨_, rfl⟩
        rw [hEE] at k0
        have HES := Lib.hid hEE
        have hofl := List.countP_le_length (p := fun x => decide (x.seq = e.seq)) (l := l.take j)
        have HOF := Lib.hid (show of ≤ 1000000 by rw [hof]; unfold cntS; rw [HTL.out] at hofl; omega)
        have hof6 := HOF.out
        clear he ha hm hof hle hEE hz hofl
        have p0 : (0 : Int) ≤ (p : Int) := by omega
        have p1 : (p : Int) < (n : Int) := by omega
        have p4 : wrap64 (p : Int) = (p : Int) := IntWalk.wrap64_in _ (by omega)
        have p6 : ((p : Int) + 1 == 0) = false := by simp; omega
        have q4 : wrap64 ((of : Int) + 1) = (of : Int) + 1 := IntWalk.wrap64_in _ (by omega)
        rcases Int.lt_trichotomy S E with h | h | h
        ·have d2 : decide (S < E) = true := by simpa using h
         have HS2 := Lib.hid (HI.out.less (x := x) HE.out.1 (by rw [HSS.out]; exact HA.out) (by rw [HSS.out, HES.out]; exact h))
         rw [HTL.out] at HS2
         clear h
         go_wp2_with fail
         go_big_region
         go_wp2_with fail
         go_big_region
         go_wp2
         go_roundg (gk - 1)
         case measure => have := HJ.out; omega
         case rel => exact ⟨j + 1, j + 1, 1, _, by have := HJ.out; omega, by go_num, rfl, rfl, by rw [HTK.out]; exact HS2.out, rfl⟩
        ·subst h
         have d2 : decide (S < S) = false := by simp
         have HS2 := Lib.hid (HI.out.same (x := x) HE.out.1 (by rw [HSS.out, HES.out]))
         go_wp2_with fail
         go_big_region
         go_wp2_with fail
         go_big_region
         go_wp2
         go_roundg (gk - 1)
         case measure => have := HJ.out; omega
         case rel => exact ⟨j + 1, p + 1, of + 1, _, by have := HJ.out; omega, by go_num, rfl, by go_num, by rw [HTK.out]; exact HS2.out, rfl⟩
        ·have d2 : decide (S < E) = false := by simp; omega
         have d3 : (S == E) = false := by simp; omega
         have HS2 := Lib.hid (HI.out.more (x := x) HE.out.1 (by rw [HSS.out, HES.out]; exact h))
         clear h
         go_wp2_with fail
         go_big_region
         go_wp2_with fail
         go_big_region
         go_wp2
         go_roundg (gk - 1)
         case measure => have := HJ.out; omega
         case rel => exact ⟨j + 1, p + 1, of, _, by have := HJ.out; omega, by go_num, rfl, rfl, by rw [HTK.out]; exact HS2.out, rfl⟩
     ·obtain rfl : n = j := by have := HJ.out; omega
      have HS2 := HI
      rw [List.take_of_length_le (Nat.le_of_eq HN.out)] at HS2
      go_wp2
      go_meet
      exact ⟨_, nx, of, q, rfl, rfl, rfl, HS2.out, rfl⟩
   case rest =>
    obtain ⟨wz, nx, of, q, rfl, rfl, rfl, hsi, hq⟩ := hcut
    have HI := Lib.hid hsi
    have bq : Below ws.heap.size ws (ws.drewN q) := below_drewN (Below.refl _ _) q
    rw [hq] at bq
    have HB2 := Lib.hid (bstep HB.out bq)
    have HO2 := Lib.hid (HO.out.below bq)
    have HT2 := Lib.hid (HT.out.below bq)
    clear hsi bq HB HO HT hq
    rcases Nat.eq_zero_or_pos nx with hz | hz
    ·subst hz
     have HJR := Lib.hid (HS.out.done HNB.out HI.out.zero)
     go_wp2
     go_ret3
     exact ⟨_, _, R, T, 0, rfl, HO2.out, HT2.out, HJR.out, HB2.out⟩
    ·obtain ⟨p, rfl⟩ : ∃ p, nx = p + 1 := ⟨nx - 1, by omega⟩
     obtain ⟨e, he, ha, hm, hof, hp⟩ := HI.out.cur
     have HST := Lib.hid (fun (h3 : ∀ x ∈ l, x.seq = e.seq → x = e) => HS.out.step (List.mem_of_getElem? he) ha hm h3)
     have HCF := Lib.hid (fun (x : Ev) (hx : x ∈ l) (hs : x.seq = e.seq) (hne : x ≠ e) => sel_conf HNB.out (List.mem_of_getElem? he) hx hs hne)
     have HOF := Lib.hid hof
     rw [HN.out] at hp
     obtain ⟨b, off, c', hsl, hcc, hr⟩ := (HV.out.below HB2.out).row (by rw [HN.out]; omega)
     rw [HN.out] at hsl
     cases hsl
     obtain ⟨g0, g1, g2, g3, g4, g5, g6, g7, g8, g9, g10⟩ := hr.ev he
     have hl6 := HL.out
     have p0 : (0 : Int) ≤ (p : Int) := by omega
     have p1 : (p : Int) < (n : Int) := by omega
     have p6 : ((p : Int) + 1 == 0) = false := by simp; omega
     have HEV := Lib.hid (evp_newT wz e 96)
     have HNE := Lib.hid (And.intro (fun g (h : u5.ownBlock = some g) => (HO2.out.block g h).2) (fun g (h : u6.ownBlock = some g) => (HT2.out.block g h).2))
     have HA := Lib.hid (bel_alloc wz (.cells #[.int .i64 e.seq, .int .i64 e.time, .int .u8 e.cpu, .int .u8 e.kind, .int .i64 e.task, .int .i64 e.grp, .int .i64 e.to, .int .i64 e.wt, .int .i64 e.ticks, .int .u64 e.mask, .int .i64 e.got] 96))
     clear hr he ha hm hof hz
     have p4 : wrap64 (p : Int) = (p : Int) := IntWalk.wrap64_in _ (by omega)
     go_upto_region 17 with fail
     have h1 := HEV.out
     have HB3 := Lib.hid (bstep HB2.out HA.out)
     have HO3 := Lib.hid (HO2.out.below HA.out)
     have HT3 := Lib.hid (HT2.out.below HA.out)
     clear HEV g0 g1 g2 g3 g4 g5 g6 g7 g8 g9 g10 p0 p1 p4 p6 HB2 HO2 HT2 HA
     generalize wz.alloc (.cells #[.int .i64 e.seq, .int .i64 e.time, .int .u8 e.cpu, .int .u8 e.kind, .int .i64 e.task, .int .i64 e.grp, .int .i64 e.to, .int .i64 e.wt, .int .i64 e.ticks, .int .u64 e.mask, .int .i64 e.got] 96) = wb at h1 HB3 HO3 HT3 ⊢
     generalize wz.heap.size = B at h1 HNE ⊢
     have HE := Lib.hid h1
     clear h1
     go_upto_block 4 with fail
     go_cut [] (fun wz => ∃ (wq : World) (q : Nat), wq = wz ∧ (∀ x ∈ l, x.seq = e.seq → x = e) ∧ wb.drewN q = wq)
     case first =>
      go_wp2
      go_loopg [12] n (fun k i wz => ∃ (j q : Nat), j + k = n ∧ i = .int .i64 j ∧ (∀ x ∈ l.take j, x.seq = e.seq → x = e) ∧ wb.drewN q = wz)
      case atStart => exact ⟨0, 0, by omega, rfl, fun x hx => by simp at hx, rfl⟩
      case round =>
       obtain ⟨j, q, hj, rfl, hse, rfl⟩ := hrel
       have HJ := Lib.hid hj
       have HSE := Lib.hid hse
       clear hj hse
       by_cases hlt : j < n
       ·obtain ⟨x, hx⟩ : ∃ x, l[j]? = some x := ⟨_, List.getElem?_eq_getElem (by rw [HN.out]; exact hlt)⟩
        have hr : ER encE 11 wb b off l := ((HV.out.below HB3.out).row3 (by rw [HN.out]; omega))
        obtain ⟨g0, g1, g2, g3, g4, g5, g6, g7, g8, g9, g10⟩ := hr.ev hx
        have HMX := Lib.hid (List.mem_of_getElem? hx)
        have HTK := Lib.hid (show l.take (j + 1) = l.take j ++ [x] from by rw [List.take_add_one, hx]; rfl)
        have i0 : (0 : Int) ≤ (j : Int) := by omega
        have i1 : (j : Int) < (n : Int) := by omega
        have i2 : wrap64 ((j : Int) + 1) = (j : Int) + 1 := IntWalk.wrap64_in _ (by have := HL.out; omega)
        have i4 : wrap64 (j : Int) = (j : Int) := IntWalk.wrap64_in _ (by have := HL.out; omega)
        clear hr hx
        have e0 := HE.out.c0
        have e1 := HE.out.c1
        have e2 := HE.out.c2
        have e3 := HE.out.c3
        have e4 := HE.out.c4
        have e5 := HE.out.c5
        have e6 := HE.out.c6
        have e7 := HE.out.c7
        have e8 := HE.out.c8
        have e9 := HE.out.c9
        have e10 := HE.out.c10
        by_cases hs : x.seq = e.seq
        ·have d1 : (x.seq == e.seq) = true := by simp [hs]
         have hnq := rev_neq x e
         by_cases hxe : x = e
         ·rw [show (!decide (x = e)) = false by simp [hxe]] at hnq
          unfold evA at hnq
          have HS2 := Lib.hid (show ∀ y ∈ l.take (j + 1), y.seq = e.seq → y = e from fun y hy hys => by
           rw [HTK.out] at hy
           rcases List.mem_append.1 hy with hy | hy
           ·exact HSE.out y hy hys
           ·rw [List.mem_singleton.1 hy]; exact hxe)
          clear hs hxe
          go_wp2_with fail
          go_big_region
          go_wp2
          go_roundg (gk - 1)
          case measure => have := HJ.out; omega
          case rel => exact ⟨j + 1, _, by have := HJ.out; omega, by go_num, HS2.out, rfl⟩
         ·rw [show (!decide (x = e)) = true by simp [hxe]] at hnq
          unfold evA at hnq
          have HJR := Lib.hid (HCF.out x HMX.out hs hxe)
          clear hs hxe
          go_wp2_with fail
          go_big_region
          go_wp2
          go_ret3
          exact ⟨_, _, [], [], 120, rfl, OV.nil _ _, OV.nil _ _, HJR.out, by first | exact below_drewN HB3.out _ | exact below_drew (below_drewN HB3.out _)⟩
        ·have d1 : (x.seq == e.seq) = false := by simp [hs]
         have HS2 := Lib.hid (show ∀ y ∈ l.take (j + 1), y.seq = e.seq → y = e from fun y hy hys => by
          rw [HTK.out] at hy
          rcases List.mem_append.1 hy with hy | hy
          ·exact HSE.out y hy hys
          ·rw [List.mem_singleton.1 hy] at hys; exact absurd hys hs)
         clear hs
         go_wp2_with fail
         go_big_region
         go_wp2
         go_roundg (gk - 1)
         case measure => have := HJ.out; omega
         case rel => exact ⟨j + 1, _, by have := HJ.out; omega, by go_num, HS2.out, rfl⟩
       ·obtain rfl : n = j := by have := HJ.out; omega
        have HS2 := HSE
        rw [List.take_of_length_le (Nat.le_of_eq HN.out)] at HS2
        go_wp2
        go_meet
        exact ⟨_, q, rfl, HS2.out, rfl⟩
     case rest =>
      obtain ⟨wy, q, rfl, hse, hq⟩ := hcut
      have HST2 := Lib.hid (HST.out hse)
      have bq : Below wb.heap.size wb (wb.drewN q) := below_drewN (Below.refl _ _) q
      rw [hq] at bq
      have HBL := HE.out.lt
      have HE4 := Lib.hid (HE.out.below bq HBL)
      have HB4 := Lib.hid (bstep HB3.out bq)
      have HO4 := Lib.hid (HO3.out.below bq)
      have HT4 := Lib.hid (HT3.out.below bq)
      have HBL4 := Lib.hid (Nat.lt_of_lt_of_le HBL bq.size)
      clear hse bq HB3 HO3 HT3 hq HE HBL HST
      have e0 := HE4.out.c0
      have e1 := HE4.out.c1
      have e2 := HE4.out.c2
      have e3 := HE4.out.c3
      have e4 := HE4.out.c4
      have e5 := HE4.out.c5
      have e6 := HE4.out.c6
      have e7 := HE4.out.c7
      have e8 := HE4.out.c8
      have e9 := HE4.out.c9
      have e10 := HE4.out.c10
      go_wp2_with (at_builtin; refine wpList_app elemREv encE_len encE_one rfl _ _ rfl _ _ rfl rfl (HO4.out.alloc _) (EV.newL (xs := [e]) (n := 1) (c := 1) encE_len rfl rfl (Nat.le_refl _)) ?q1 ?q2 ?_)
      case q1 => have h1 := HS.out.len; have h2 := HN.out; have h3 := HL.out; simp; omega
      case q2 => have := HB4.out.size; simp; omega
      intro v' w8 o8 g8
      have hal := bel_alloc wy (.cells #[.int .i64 e.seq, .int .i64 e.time, .int .u8 e.cpu, .int .u8 e.kind, .int .i64 e.task, .int .i64 e.grp, .int .i64 e.to, .int .i64 e.wt, .int .i64 e.ticks, .int .u64 e.mask, .int .i64 e.got] 96)
      have HO5 := Lib.hid o8
      have HB5 := Lib.hid ((bstep HB4.out hal).grown g8 (bstep HB4.out hal).size (fun g q => (HO4.out.block g q).1))
      have HT5 := Lib.hid ((HT4.out.below hal).keep g8 ((HT4.out.below hal).ne (HO4.out.below hal) (by decide)))
      have hlt2 := Nat.lt_of_lt_of_le HBL4.out hal.size
      have HE5 := Lib.hid (show EvP w8 B e from fun j u hu => (World.cell?_of_block (a := ⟨B, j, none⟩) (g8.block B hlt2 (fun h => by have := HNE.out.1 B h.symm; omega))).trans ((HE4.out.below hal HBL4.out) j u hu))
      clear o8 g8 hal hlt2 e0 e1 e2 e3 e4 e5 e6 e7 e8 e9 e10 HO4 HB4 HT4 HE4 HBL4
      have f0 := HE5.out.c0
      by_cases hgt : 1 < of
      ·have d5 : decide ((1 : Int) < (of : Int)) = true := by simp; omega
       have HS3 := Lib.hid (show SelP l (R ++ [e]) (T ++ [e.seq]) e.seq by have := HST2.out.1; rwa [← HOF.out, if_pos hgt] at this)
       clear hgt
       go_wp2_with (at_builtin; refine wpList_app elemI encI_len encI_one rfl _ _ rfl _ _ rfl rfl (HT5.out.alloc _) (EV.newL (xs := [e.seq]) (n := 1) (c := 1) encI_len rfl rfl (Nat.le_refl _)) ?q1 ?q2 ?_)
       case q1 => have h1 := HS.out.len; have h2 := HN.out; have h3 := HL.out; simp; omega
       case q2 => have := HB5.out.size; simp; omega
       intro v2 w9 o9 g9
       have hal := bel_alloc w8 (.cells #[.int .i64 e.seq] 3)
       have HT6 := Lib.hid o9
       have HB6 := Lib.hid ((bstep HB5.out hal).grown g9 (bstep HB5.out hal).size (fun g q => (HT5.out.block g q).1))
       have HO6 := Lib.hid ((HO5.out.below hal).keep g9 ((HO5.out.below hal).ne (HT5.out.below hal) (by decide)))
       have k0 : w9.cell? ⟨B, 0, none⟩ = some (.int .i64 e.seq) := (World.cell?_of_block (a := ⟨B, 0, none⟩) (g9.block B (Nat.lt_of_lt_of_le HE5.out.lt hal.size) (fun h => by have := HNE.out.2 B h.symm; omega))).trans (HE5.out.below hal HE5.out.lt).c0
       clear o9 g9 hal f0
       go_wp2
       go_roundg (gk - 1)
       case measure => have := HK.out; omega
       case rel => exact ⟨R ++ [e], T ++ [e.seq], e.seq, by have := HK.out; have := HST2.out.2; omega, rfl, HS3.out, HO6.out, HT6.out, HB6.out⟩
      ·have d5 : decide ((1 : Int) < (of : Int)) = false := by simp; omega
       have HS3 := Lib.hid (show SelP l (R ++ [e]) T e.seq by have := HST2.out.1; rwa [← HOF.out, if_neg hgt] at this)
       clear hgt
       go_wp2
       go_roundg (gk - 1)
       case measure => have := HK.out; omega
       case rel => exact ⟨R ++ [e], T, e.seq, by have := HK.out; have := HST2.out.2; omega, rfl, HS3.out, HO5.out, HT5.out, HB5.out⟩
end Go.Proofs.YtalophngappkhaaGreatDoor
namespace Go.Proofs.YtalophngappkhaaGreatDoor
open Go Go.RowKit Go.Shelf
attribute [local go_sem] Oper.semAt_some

theorem ER.sb5 {w : World} {b off : Nat} {l : List (Sl3 × Bck)} (h : ER encSb 5 w b off l) {i : Nat} {x : Sl3 × Bck} (hi : l[i]? = some x) :
  w.cell? ⟨b, off + i * 5, none⟩ = some (.int .u8 x.2.kind) ∧ w.cell? ⟨b, off + i * 5 + 1, none⟩ = some (.int .u8 x.2.cpu) ∧ w.cell? ⟨b, off + i * 5 + 2, none⟩ = some (.int .i64 x.2.lost) ∧ w.cell? ⟨b, off + i * 5 + 3, none⟩ = some (.int .i64 x.2.next) ∧ w.cell? ⟨b, off + i * 5 + 4, none⟩ = some (slV x.1) :=
 ⟨h i x hi 0 _ rfl, h i x hi 1 _ rfl, h i x hi 2 _ rfl, h i x hi 3 _ rfl, h i x hi 4 _ rfl⟩
/-- What the reference's Blocks returns. -/
def RPost (w : World) (bs : List Bck) (r : Ending) (w' : World) : Prop := ∃ A1 n1 c1 A2 n2 c2 A3 n3 c3 m c, r = .returned (.tuple #[mgA (.slice A1 n1 c1) (.slice A2 n2 c2) (.slice A3 n3 c3) m.lost m.next m.opn, .int .i64 c]) ∧ MrgRes bs m c ∧
 OV encE 11 96 w.heap.size w' (.slice A1 n1 c1) m.evs ∧ OV encI 1 3 w.heap.size w' (.slice A2 n2 c2) m.tw ∧ OV encP 2 137 w.heap.size w' (.slice A3 n3 c3) m.gaps ∧ Below w.heap.size w w'
/-- The two boxes. -/
structure RB2 (w W : World) (X Y : Nat) (v1 v2 v3 : Value) (lost next : Int) (opn : Bool) : Prop where
 xy : w.heap.size ≤ X ∧ X < Y
 rx : RmBox W X (.slice none 0 0) (.slice none 0 0) (.slice none 0 0) 0 0 false
 ry : RmBox W Y v1 v2 v3 lost next opn
 bel : Below w.heap.size w W
theorem RB2.below {w W W' : World} {X Y : Nat} {v1 v2 v3 : Value} {lost next : Int} {opn : Bool} (h : RB2 w W X Y v1 v2 v3 lost next opn) (hb : Below W.heap.size W W') : RB2 w W' X Y v1 v2 v3 lost next opn :=
 ⟨h.xy, h.rx.below hb, h.ry.below hb, bstep h.bel hb⟩
theorem RB2.setY {w W : World} {X Y : Nat} {v1 v2 v3 v1' v2' v3' : Value} {lost next lost' next' : Int} {opn opn' : Bool} (h : RB2 w W X Y v1 v2 v3 lost next opn) (i : Nat) (u : Value) (hy : RmBox (W.setCell ⟨Y, i, none⟩ u) Y v1' v2' v3' lost' next' opn') : RB2 w (W.setCell ⟨Y, i, none⟩ u) X Y v1' v2' v3' lost' next' opn' :=
 ⟨h.xy, h.rx.setOther (by have := h.xy; simp; omega) u, hy, h.bel.trans ((Mod.setCell (a := W) (p := ⟨Y, i, none⟩) (T := fun k => k = Y) u rfl).below (B := w.heap.size) (fun k hk e => by have := h.xy; omega) h.bel.size)⟩
theorem RB2.ov {α : Type} {enc : α → List Value} {k base : Nat} {e : TypeId} {xs : List α} {v : Value} {w W : World} {X Y : Nat} {v1 v2 v3 : Value} {lost next : Int} {opn : Bool} (h : RB2 w W X Y v1 v2 v3 lost next opn) (ho : OV enc k e base W v xs) (he : e ≠ 91) (i : Nat) (u : Value) : OV enc k e base (W.setCell ⟨Y, i, none⟩ u) v xs :=
 ho.sixM h.ry.cell he (Mod.setCell _ rfl)
theorem endB_open {bs : List Bck} {N : Int} (h1 : 1 ≤ N) (h2 : endB bs ≤ N) : (∀ b ∈ bs, b.next ≠ N) ↔ endB bs ≠ N := by
 have key : ∀ (l : List Bck) (a : Int), a ≤ l.foldl (fun a b => max a b.next) a ∧ (∀ b ∈ l, b.next ≤ l.foldl (fun a b => max a b.next) a) ∧ (l.foldl (fun a b => max a b.next) a = a ∨ ∃ b ∈ l, b.next = l.foldl (fun a b => max a b.next) a) := by
  intro l
  induction l with
  | nil => intro a; exact ⟨Int.le_refl _, fun b hb => (by cases hb), .inl rfl⟩
  | cons x l ih =>
   intro a
   obtain ⟨i1, i2, i3⟩ := ih (max a x.next)
   simp only [List.foldl_cons]
   refine ⟨by omega, fun b hb => ?_, ?_⟩
   ·rcases List.mem_cons.1 hb with rfl | hb
    ·omega
    ·exact i2 b hb
   ·rcases i3 with h | ⟨b, hb, h⟩
    ·rcases Int.le_total x.next a with hx | hx
     ·left; rw [h]; omega
     ·right; exact ⟨x, by simp, by rw [h]; omega⟩
    ·right; exact ⟨b, by simp [hb], h⟩
 obtain ⟨k1, k2, k3⟩ := key bs 0
 change 0 ≤ endB bs at k1
 change ∀ b ∈ bs, b.next ≤ endB bs at k2
 change endB bs = 0 ∨ ∃ b ∈ bs, b.next = endB bs at k3
 constructor
 ·intro h e
  rcases k3 with h0 | ⟨b, hb, h0⟩
  ·omega
  ·exact h b hb (h0.trans e)
 ·intro h b hb e
  have := k2 b hb
  omega
set_option maxRecDepth 100000 in
set_option maxHeartbeats 6400000 in
theorem rblocks_t26 (w wc : World) (X Y n c no co n1 c1 n2 c2 : Nat) (A Ao A1 A2 : Option Addr) (bs : List (Sl3 × Bck)) (R : List Ev) (T : List Int) (lost N : Int) {u1 u3 u4 u6 u7 u8 u9 u10 u12 u13 u14 u15 u16 u17 u18 u19 u20 u21 u22 u23 u24 u25 u26 u27 u28 u29 u30 u31 u32 u33 u34 u35 u36 u37 u38 u39 u40 u41 u42 u43 u44 u45 u46 u47 u48 u49 u50 u51 u52 u53 u54 u55 u56 u57 u58 u59 u60 u61 u62 u63 u64 u65 u66 u67 u68 u69 u70 u71 u72 u73 u74 u75 u76 u77 u78 u79 u80 u81 u82 u83 u84 u85 u86 u87 u88 u89 u90 u91 u92 u93 u94 u95 u96 u97 u98 u99 u100 u101 u102 u103 u104 u105 u106 u107 u108 u109 u110 u111 u112 u113 u114 u115 u116 u117 u118 u119 u120 u121 u122 u123 u124 u125 u126 u127 u128 u129 u130 u131 u132 u133 u134 u135 : Value} (hl : EV encSb 5 w (.slice A n c) bs) (hn : bs.length = n) (hn2 : n ≤ 4096) (hbx : RB2 w wc X Y (.slice A1 n1 c1) (.slice A2 n2 c2) (.slice none 0 0) lost N false)
  (hR : OV encE 11 96 w.heap.size wc (.slice A1 n1 c1) R) (hT : OV encI 1 3 w.heap.size wc (.slice A2 n2 c2) T) (ho : OV encP 2 137 w.heap.size wc (.slice Ao no co) (ofL (seqsL R)))
  (hjr : JoinRes ((bs.map Prod.snd).flatMap Bck.evs) R T 0) (hck : ∀ b ∈ bs.map Prod.snd, chkB b = 0) (hlo : lost = lostB (bs.map Prod.snd)) (hN : N = max (nxtS R) (endB (bs.map Prod.snd))) (hrs : R.Pairwise (fun a b => a.seq < b.seq)) (hrb : ∀ e ∈ R, 1 ≤ e.seq ∧ e.seq ≤ 281474976710656) (hrl : R.length ≤ 65535) (hNl : 1 ≤ N ∧ N ≤ 281474976710657) :
  Code.wp Tryz.prog (tailR Tryz.f44 26) (bodyPost Tryz.prog Tryz.f44 (RPost w (bs.map Prod.snd)))
   ⟨#[.slice A n c, u1, .pointer (some ⟨X, 0, none⟩), u3, u4, .pointer (some ⟨Y, 0, none⟩), u6, u7, u8, u9, u10, .slice Ao no co, u12, u13, u14, u15, u16, u17, u18, u19, u20, u21, u22, u23, u24, u25, u26, u27, u28, u29, u30, u31, u32, u33, u34, u35, u36, u37, u38, u39, u40, u41, u42, u43, u44, u45, u46, u47, u48, u49, u50, u51, u52, u53, u54, u55, u56, u57, u58, u59, u60, u61, u62, u63, u64, u65, u66, u67, u68, u69, u70, u71, u72, u73, u74, u75, u76, u77, u78, u79, u80, u81, u82, u83, u84, u85, u86, u87, u88, u89, u90, u91, u92, u93, u94, u95, u96, u97, u98, u99, u100, u101, u102, u103, u104, u105, u106, u107, u108, u109, u110, u111, u112, u113, u114, u115, u116, u117, u118, u119, u120, u121, u122, u123, u124, u125, u126, u127, u128, u129, u130, u131, u132, u133, u134, u135], []⟩ wc := by
 conv => arg 2; whnf
 conv => arg 4; dsimp only
 have HL := Lib.hid hl
 have HN := Lib.hid (And.intro hn hn2)
 have HBX := Lib.hid hbx
 have HR := Lib.hid hR
 have HT := Lib.hid hT
 have HO := Lib.hid ho
 have HMR := Lib.hid (show ∀ opn, (opn = true ↔ ∀ b ∈ bs.map Prod.snd, b.next ≠ N) → MrgRes (bs.map Prod.snd) ⟨R, T, gapsOf R N, lost, N, opn⟩ 0 from fun opn ho => by
  refine .inr (.inr ⟨by rw [List.length_map]; omega, hck, R, T, hjr, fun h => absurd rfl h, fun _ => ?_⟩)
  unfold mgOf
  rw [← hN, ← hlo]
  congr 1
  have h2 := endB_open (bs := bs.map Prod.snd) hNl.1 (by rw [hN]; omega)
  rw [h2] at ho
  cases opn
  ·exact (decide_eq_false (fun h => by have := ho.2 h; cases this)).symm
  ·exact (decide_eq_true (ho.1 rfl)).symm)
 obtain ⟨q0, q1, q2, q3⟩ := seqs_ok hrs hrb hrl
 obtain ⟨g0, g1, g2⟩ := gaps_ok hrs hrb hrl hNl.1 hNl.2
 have HQ := Lib.hid (And.intro q3 g0)
 have f5 := hbx.ry.frz 5
 have y5 := hbx.ry.c5
 clear hl hn hbx hR hT ho hjr hck hlo hN hrs hrb hrl hNl q0 q1 q2 q3 g0 g1 g2
 go_upto_region 27 with fail
 have HBX2 := Lib.hid (HBX.out.setY 5 (.bool true) (HBX.out.ry.set5 true))
 have HR2 := Lib.hid (HBX.out.ov HR.out (by decide) 5 (.bool true))
 have HT2 := Lib.hid (HBX.out.ov HT.out (by decide) 5 (.bool true))
 have HO2 := Lib.hid (HBX.out.ov HO.out (by decide) 5 (.bool true))
 clear f5 y5 HBX HR HT HO
 generalize wc.setCell ⟨Y, 5, none⟩ (.bool true) = wd at HBX2 HR2 HT2 HO2 ⊢
 go_wp2
 go_loopg [13] n (fun k i wr => ∃ (j : Nat) (op : Bool), j + k = n ∧ i = .int .i64 j ∧ (op = true ↔ ∀ b ∈ (bs.map Prod.snd).take j, b.next ≠ N) ∧ RB2 w wr X Y (.slice A1 n1 c1) (.slice A2 n2 c2) (.slice none 0 0) lost N op ∧ OV encE 11 96 w.heap.size wr (.slice A1 n1 c1) R ∧ OV encI 1 3 w.heap.size wr (.slice A2 n2 c2) T ∧ OV encP 2 137 w.heap.size wr (.slice Ao no co) (ofL (seqsL R)))
 case atStart => exact ⟨0, true, by omega, rfl, ⟨fun _ b hb => by simp at hb, fun _ => rfl⟩, HBX2.out, HR2.out, HT2.out, HO2.out⟩
 clear HBX2 HR2 HT2 HO2
 case round =>
  obtain ⟨j, op, hj, rfl, hop, hbx, hR, hT, ho⟩ := hrel
  have HJ := Lib.hid hj
  have HOP := Lib.hid hop
  have HBX := Lib.hid hbx
  have HR := Lib.hid hR
  have HT := Lib.hid hT
  have HO := Lib.hid ho
  have hn6 := HN.out.2
  have y4 := hbx.ry.c4
  have y5 := hbx.ry.c5
  have f5 := hbx.ry.frz 5
  clear hj hop hbx hR hT ho
  by_cases hlt : j < n
  ·obtain ⟨bb, off, c', hsl, hcc, hr⟩ := (HL.out.below HBX.out.bel).row (by rw [HN.out.1]; omega)
   rw [HN.out.1] at hsl
   cases hsl
   obtain ⟨x, hx⟩ : ∃ x, bs[j]? = some x := ⟨_, List.getElem?_eq_getElem (by rw [HN.out.1]; exact hlt)⟩
   have g3 := (hr.sb5 hx).2.2.2.1
   have HTK := Lib.hid (show (bs.map Prod.snd).take (j + 1) = (bs.map Prod.snd).take j ++ [x.2] from by rw [List.take_add_one, List.getElem?_map, hx]; rfl)
   have i0 : (0 : Int) ≤ (j : Int) := by omega
   have i1 : (j : Int) < (n : Int) := by omega
   clear hr hx
   by_cases he : x.2.next = N
   ·have d1 : (x.2.next == N) = true := by simp [he]
    have HOP2 := Lib.hid (show (false = true ↔ ∀ b ∈ (bs.map Prod.snd).take (j + 1), b.next ≠ N) from ⟨fun h => (by cases h), fun h => absurd he (h x.2 (by rw [HTK.out]; simp))⟩)
    clear he
    go_wp2_with fail
    go_big_region
    have HBD := Lib.hid (HBX.out.below (below_drew (Below.refl _ _)))
    have HRD := Lib.hid (show OV encE 11 96 w.heap.size wr.drew (.slice A1 n1 c1) R from HR.out)
    have HTD := Lib.hid (show OV encI 1 3 w.heap.size wr.drew (.slice A2 n2 c2) T from HT.out)
    have HOD := Lib.hid (show OV encP 2 137 w.heap.size wr.drew (.slice Ao no co) (ofL (seqsL R)) from HO.out)
    have y5d := HBD.out.ry.c5
    have f5d := HBD.out.ry.frz 5
    clear HBX HR HT HO y4 y5 f5 g3
    generalize wr.drew = wf at HBD HRD HTD HOD y5d f5d ⊢
    have HBS := Lib.hid (HBD.out.setY 5 (.bool false) (HBD.out.ry.set5 false))
    have HRS := Lib.hid (HBD.out.ov HRD.out (by decide) 5 (.bool false))
    have HTS := Lib.hid (HBD.out.ov HTD.out (by decide) 5 (.bool false))
    have HOS := Lib.hid (HBD.out.ov HOD.out (by decide) 5 (.bool false))
    go_wp2
    go_roundg (gk - 1)
    case measure => have := HJ.out; omega
    case rel => exact ⟨j + 1, false, by have := HJ.out; omega, by go_num, HOP2.out, HBS.out, HRS.out, HTS.out, HOS.out⟩
   ·have d1 : (x.2.next == N) = false := by simp [he]
    have HOP2 := Lib.hid (show (op = true ↔ ∀ b ∈ (bs.map Prod.snd).take (j + 1), b.next ≠ N) from by
     rw [HTK.out]
     refine ⟨fun h b hb => ?_, fun h => HOP.out.2 (fun b hb => h b (List.mem_append_left _ hb))⟩
     rcases List.mem_append.1 hb with hb | hb
     ·exact HOP.out.1 h b hb
     ·rw [List.mem_singleton.1 hb]; exact he)
    clear he
    go_wp2_with fail
    go_big_region
    go_wp2
    go_roundg (gk - 1)
    case measure => have := HJ.out; omega
    case rel => exact ⟨j + 1, op, by have := HJ.out; omega, by go_num, HOP2.out, HBX.out.below (by first | exact below_drewN (Below.refl _ _) _ | exact below_drew (Below.refl _ _)), HR.out, HT.out, HO.out⟩
  ·obtain rfl : n = j := by have := HJ.out; omega
   have hop := HOP.out
   rw [List.take_of_length_le (by rw [List.length_map]; exact Nat.le_of_eq HN.out.1)] at hop
   have HMM := Lib.hid (HMR.out op hop)
   have HMI := Lib.hid (rmissing_ok wr (.slice Ao no co) (ofL (seqsL R)) 1 N (HO.out.ev encP_len) (by have := HQ.out.1; omega))
   rw [HQ.out.2] at HMI
   clear hop
   go_wp2_with fail
   refine HMI.out.mono ?_
   rintro r we ⟨vg, rfl, og, b1⟩
   obtain ⟨Ag, cg, hvg⟩ := (og.ev encP_len).shape
   obtain ⟨ng, hng⟩ : ∃ m, (missL (ofL (seqsL R)) 1 N).length = m := ⟨_, rfl⟩
   rw [hng] at hvg
   subst hvg
   have HB2 := Lib.hid (HBX.out.below b1)
   have HR2 := Lib.hid (HR.out.below b1)
   have HT2 := Lib.hid (HT.out.below b1)
   have HG2 := Lib.hid (show OV encP 2 137 w.heap.size we (.slice Ag ng cg) (gapsOf R N) from og.base_le HBX.out.bel.size)
   have y2 := HB2.out.ry.c2
   have f2 := HB2.out.ry.frz 2
   clear og b1 hng HBX HR HT HO HMI y4 y5 f5
   go_upto_region 33 with fail
   have HB3 := Lib.hid (HB2.out.setY 2 (.slice Ag ng cg) (HB2.out.ry.set2 (.slice Ag ng cg)))
   have HR3 := Lib.hid (HB2.out.ov HR2.out (by decide) 2 (.slice Ag ng cg))
   have HT3 := Lib.hid (HB2.out.ov HT2.out (by decide) 2 (.slice Ag ng cg))
   have HG3 := Lib.hid (HB2.out.ov HG2.out (by decide) 2 (.slice Ag ng cg))
   clear y2 f2 HB2 HR2 HT2 HG2
   generalize we.setCell ⟨Y, 2, none⟩ (.slice Ag ng cg) = wf at HB3 HR3 HT3 HG3 ⊢
   have y0 := HB3.out.ry.c0
   have y1 := HB3.out.ry.c1
   have y2 := HB3.out.ry.c2
   have y3 := HB3.out.ry.c3
   have y4 := HB3.out.ry.c4
   have y5 := HB3.out.ry.c5
   have z0 := HB3.out.rx.c0
   have z1 := HB3.out.rx.c1
   have z2 := HB3.out.rx.c2
   have z3 := HB3.out.rx.c3
   have z4 := HB3.out.rx.c4
   have z5 := HB3.out.rx.c5
   have f0 := HB3.out.rx.frz 0
   have f1 := HB3.out.rx.frz 1
   have f2 := HB3.out.rx.frz 2
   have f3 := HB3.out.rx.frz 3
   have f4 := HB3.out.rx.frz 4
   have f5 := HB3.out.rx.frz 5
   have HM := Lib.hid ((((((Mod.setCell (a := wf) (p := ⟨X, 0, none⟩) (T := fun k => k = X) (.slice A1 n1 c1) rfl).trans (Mod.setCell (p := ⟨X, 1, none⟩) (T := fun k => k = X) (.slice A2 n2 c2) rfl)).trans (Mod.setCell (p := ⟨X, 2, none⟩) (T := fun k => k = X) (.slice Ag ng cg) rfl)).trans (Mod.setCell (p := ⟨X, 3, none⟩) (T := fun k => k = X) (.int .i64 lost) rfl)).trans (Mod.setCell (p := ⟨X, 4, none⟩) (T := fun k => k = X) (.int .i64 N) rfl)).trans (Mod.setCell (p := ⟨X, 5, none⟩) (T := fun k => k = X) (.bool op) rfl))
   have HZ6 := Lib.hid ((((((HB3.out.rx.set0 (.slice A1 n1 c1)).set1 (.slice A2 n2 c2)).set2 (.slice Ag ng cg)).set3 lost).set4 N).set5 op)
   go_wp2
   refine bodyPost_ret (results_cellT rfl _ _ _ rfl rfl (load_rm HZ6.out)) rfl ?_
   have hxy := HB3.out.xy
   exact ⟨A1, n1, c1, A2, n2, c2, Ag, ng, cg, ⟨R, T, gapsOf R N, lost, N, op⟩, 0, rfl, HMM.out, HR3.out.sixM HB3.out.rx.cell (by decide) HM.out, HT3.out.sixM HB3.out.rx.cell (by decide) HM.out, HG3.out.sixM HB3.out.rx.cell (by decide) HM.out, HB3.out.bel.trans (HM.out.below (B := w.heap.size) (fun k hk e => by omega) HB3.out.bel.size)⟩
end Go.Proofs.YtalophngappkhaaGreatDoor
namespace Go.Proofs.YtalophngappkhaaGreatDoor
open Go Go.RowKit Go.Shelf
attribute [local go_sem] Oper.semAt_some

theorem seqs_ok_take {R : List Ev} (hs : R.Pairwise (fun a b => a.seq < b.seq)) (h : ∀ e ∈ R, 1 ≤ e.seq ∧ e.seq ≤ 281474976710656) (hl : R.length ≤ 65535) (j : Nat) :
  Can 0 (ofL (seqsL (R.take j))) ∧ (∀ n, hasR (ofL (seqsL (R.take j))) n = decide (n ∈ seqsL (R.take j))) ∧ (ofL (seqsL (R.take j))).length ≤ 65535 := by
 obtain ⟨_, h1, h2, h3⟩ := seqs_ok (R := R.take j) (hs.sublist (List.take_sublist j R)) (fun e he => h e (List.mem_of_mem_take he)) (by rw [List.length_take]; omega)
 exact ⟨h1, h2, h3⟩
theorem of_none {R : List Ev} (hs : R.Pairwise (fun a b => a.seq < b.seq)) (h : ∀ e ∈ R, 1 ≤ e.seq ∧ e.seq ≤ 281474976710656) (hl : R.length ≤ 65535) : ofL (seqsL (R.take 0)) = [] := by
 obtain ⟨h1, h2, _⟩ := seqs_ok_take hs h hl 0
 exact can_unique h1 (can_nil 0) fun n => by rw [h2]; simp [seqsL, hasR]
theorem there_step {R : List Ev} (hs : R.Pairwise (fun a b => a.seq < b.seq)) (h : ∀ e ∈ R, 1 ≤ e.seq ∧ e.seq ≤ 281474976710656) (hl : R.length ≤ 65535) {j : Nat} {e : Ev} (he : R[j]? = some e) :
  rerr [ofL (seqsL (R.take j)), [(e.seq, 1)]] = 0 ∧ bothL (tkT 7) (ofL (seqsL (R.take j))) [(e.seq, 1)] = ofL (seqsL (R.take (j + 1))) := by
 obtain ⟨a1, a2, a3⟩ := seqs_ok_take hs h hl j
 obtain ⟨b1, b2, _⟩ := seqs_ok_take hs h hl (j + 1)
 have hb := h e (List.mem_of_getElem? he)
 have hc : Can 0 [(e.seq, (1 : Int))] := by
  have := can_one (f := e.seq) (n := e.seq + 1) hb.1 (by omega) (by omega)
  rwa [show e.seq + 1 - e.seq = 1 by omega] at this
 have hh : ∀ n, hasR [(e.seq, (1 : Int))] n = decide (n = e.seq) := fun n => by
  have := has_one (f := e.seq) (n := e.seq + 1) (k := n)
  rw [show e.seq + 1 - e.seq = 1 by omega] at this
  rw [this, decide_eq_decide]
  omega
 obtain ⟨c1, c2⟩ := both_spec (take := tkT 7) (tkT_ff 7) a1 hc
 refine ⟨rerr_two.2 ⟨right_iff.2 ⟨by omega, a1⟩, right_iff.2 ⟨by simp, hc⟩⟩, can_unique c1 b1 fun n => ?_⟩
 rw [c2, b2, a2, hh, tkT7]
 unfold tkU
 have e1 : seqsL (R.take (j + 1)) = seqsL (R.take j) ++ [e.seq] := by
  unfold seqsL
  rw [List.take_add_one, he, List.map_append]
  rfl
 rw [e1, Bool.eq_iff_iff]
 simp
theorem nxt_take {R : List Ev} {j : Nat} {e : Ev} (he : R[j]? = some e) : nxtS (R.take (j + 1)) = max (nxtS (R.take j)) (e.seq + 1) := by
 rw [List.take_add_one, he]
 exact nxtS_snoc _ _
set_option maxRecDepth 100000 in
set_option maxHeartbeats 6400000 in
theorem rblocks_t19 (w wc : World) (X Y n c n1 c1 n2 c2 : Nat) (A A1 A2 : Option Addr) (bs : List (Sl3 × Bck)) (R : List Ev) (T : List Int) (lost N0 : Int) {u1 u3 u4 u6 u7 u9 u10 u11 u12 u13 u14 u15 u16 u17 u18 u19 u20 u21 u22 u23 u24 u25 u26 u27 u28 u29 u30 u31 u32 u33 u34 u35 u36 u37 u38 u39 u40 u41 u42 u43 u44 u45 u46 u47 u48 u49 u50 u51 u52 u53 u54 u55 u56 u57 u58 u59 u60 u61 u62 u63 u64 u65 u66 u67 u68 u69 u70 u71 u72 u73 u74 u75 u76 u77 u78 u79 u80 u81 u82 u83 u84 u85 u86 u87 u88 u89 u90 u91 u92 u93 u94 u95 u96 u97 u98 u99 u100 u101 u102 u103 u104 u105 u106 u107 u108 u109 u110 u111 u112 u113 u114 u115 u116 u117 u118 u119 u120 u121 u122 u123 u124 u125 u126 u127 u128 u129 u130 u131 u132 u133 u134 u135 : Value} (hl : EV encSb 5 w (.slice A n c) bs) (hn : bs.length = n) (hn2 : n ≤ 4096) (hbx : RB2 w wc X Y (.slice A1 n1 c1) (.slice A2 n2 c2) (.slice none 0 0) lost N0 false)
  (hR : OV encE 11 96 w.heap.size wc (.slice A1 n1 c1) R) (hT : OV encI 1 3 w.heap.size wc (.slice A2 n2 c2) T)
  (hjr : JoinRes ((bs.map Prod.snd).flatMap Bck.evs) R T 0) (hck : ∀ b ∈ bs.map Prod.snd, chkB b = 0) (hlo : lost = lostB (bs.map Prod.snd)) (hN : N0 = max 1 (endB (bs.map Prod.snd))) (hen : 0 ≤ endB (bs.map Prod.snd) ∧ endB (bs.map Prod.snd) ≤ 281474976710657) (hrs : R.Pairwise (fun a b => a.seq < b.seq)) (hrb : ∀ e ∈ R, 1 ≤ e.seq ∧ e.seq ≤ 281474976710656) (hrl : R.length ≤ 65535) :
  Code.wp Tryz.prog (tailR Tryz.f44 19) (bodyPost Tryz.prog Tryz.f44 (RPost w (bs.map Prod.snd)))
   ⟨#[.slice A n c, u1, .pointer (some ⟨X, 0, none⟩), u3, u4, .pointer (some ⟨Y, 0, none⟩), u6, u7, .slice A1 n1 c1, u9, u10, u11, u12, u13, u14, u15, u16, u17, u18, u19, u20, u21, u22, u23, u24, u25, u26, u27, u28, u29, u30, u31, u32, u33, u34, u35, u36, u37, u38, u39, u40, u41, u42, u43, u44, u45, u46, u47, u48, u49, u50, u51, u52, u53, u54, u55, u56, u57, u58, u59, u60, u61, u62, u63, u64, u65, u66, u67, u68, u69, u70, u71, u72, u73, u74, u75, u76, u77, u78, u79, u80, u81, u82, u83, u84, u85, u86, u87, u88, u89, u90, u91, u92, u93, u94, u95, u96, u97, u98, u99, u100, u101, u102, u103, u104, u105, u106, u107, u108, u109, u110, u111, u112, u113, u114, u115, u116, u117, u118, u119, u120, u121, u122, u123, u124, u125, u126, u127, u128, u129, u130, u131, u132, u133, u134, u135], []⟩ wc := by
 conv => arg 2; whnf
 conv => arg 4; dsimp only
 have HL := Lib.hid hl
 have HBX := Lib.hid hbx
 have HR := Lib.hid hR
 have HT := Lib.hid hT
 obtain ⟨E, hE⟩ : ∃ E, endB (bs.map Prod.snd) = E := ⟨_, rfl⟩
 rw [hE] at hen hN
 have HE := Lib.hid hE
 have HP := Lib.hid (And.intro hrs (And.intro hrb hrl))
 have HEN := Lib.hid hen
 have HN1 := Lib.hid (show R.length = n1 from by obtain ⟨A', c', e⟩ := (hR.ev encE_len).shape; simp only [Value.slice.injEq] at e; exact e.2.1.symm)
 have HFIN := Lib.hid (fun (W : World) (N : Int) (Ao : Option Addr) (no co : Nat) (hb : RB2 w W X Y (.slice A1 n1 c1) (.slice A2 n2 c2) (.slice none 0 0) lost N false) (hR : OV encE 11 96 w.heap.size W (.slice A1 n1 c1) R) (hT : OV encI 1 3 w.heap.size W (.slice A2 n2 c2) T) (ho : OV encP 2 137 w.heap.size W (.slice Ao no co) (ofL (seqsL R))) (hN : N = max (nxtS R) (endB (bs.map Prod.snd))) (hNl : 1 ≤ N ∧ N ≤ 281474976710657) =>
  And.intro hl (And.intro hn (And.intro hn2 (And.intro hb (And.intro hR (And.intro hT (And.intro ho (And.intro hjr (And.intro hck (And.intro hlo (And.intro hN (And.intro hrs (And.intro hrb (And.intro hrl hNl))))))))))))))
 have hl6 := hrl
 rw [HN1.out] at hl6
 clear hl hn hn2 hbx hR hT hjr hck hlo hrs hrb hrl hE hen
 go_upto_block 2 with fail
 go_cut [11] (fun a wz => ∃ wq N Ao no co, wq = wz ∧ a = .slice Ao no co ∧ RB2 w wq X Y (.slice A1 n1 c1) (.slice A2 n2 c2) (.slice none 0 0) lost N false ∧ OV encE 11 96 w.heap.size wq (.slice A1 n1 c1) R ∧ OV encI 1 3 w.heap.size wq (.slice A2 n2 c2) T ∧ OV encP 2 137 w.heap.size wq (.slice Ao no co) (ofL (seqsL R)) ∧ N = max (nxtS R) E)
 case first =>
  go_wp2
  go_loopg [11, 12] n1 (fun k o i wr => ∃ (j : Nat) (N : Int), j + k = n1 ∧ i = .int .i64 j ∧ N = max (nxtS (R.take j)) E ∧ OV encP 2 137 w.heap.size wr o (ofL (seqsL (R.take j))) ∧ RB2 w wr X Y (.slice A1 n1 c1) (.slice A2 n2 c2) (.slice none 0 0) lost N false ∧ OV encE 11 96 w.heap.size wr (.slice A1 n1 c1) R ∧ OV encI 1 3 w.heap.size wr (.slice A2 n2 c2) T)
  case atStart => exact ⟨0, N0, by omega, rfl, by rw [hN]; rfl, by rw [show ofL (seqsL (R.take 0)) = [] from of_none HP.out.1 HP.out.2.1 HP.out.2.2]; exact OV.nil _ _, HBX.out, HR.out, HT.out⟩
  clear HBX HR HT hN
  case round =>
   obtain ⟨j, N, hj, rfl, hN, ho, hbx, hR, hT⟩ := hrel
   have HJ := Lib.hid hj
   have HN := Lib.hid hN
   have HO := Lib.hid ho
   have HBX := Lib.hid hbx
   have HR := Lib.hid hR
   have HT := Lib.hid hT
   clear hj hN ho hbx hR hT
   by_cases hlt : j < n1
   ·obtain ⟨bb, off, c', hsl, hcc, hr⟩ := (HR.out.ev encE_len).row (by rw [HN1.out]; omega)
    rw [HN1.out] at hsl
    cases hsl
    obtain ⟨e, he⟩ : ∃ e, R[j]? = some e := ⟨_, List.getElem?_eq_getElem (by rw [HN1.out]; exact hlt)⟩
    have g0 := (hr.ev he).1
    have hb := HP.out.2.1 e (List.mem_of_getElem? he)
    have HEB := Lib.hid hb
    have HST := Lib.hid (there_step HP.out.1 HP.out.2.1 HP.out.2.2 he)
    have HTL := Lib.hid (seqs_ok_take HP.out.1 HP.out.2.1 HP.out.2.2 j).2.2
    have HNX := Lib.hid (nxt_take he)
    obtain ⟨S, hS⟩ : ∃ S, e.seq = S := ⟨_, rfl⟩
    rw [hS] at g0 HEB HST HNX
    have HBO := Lib.hid (rboth_ok (wr.alloc (.cells #[.int .i64 S, .int .i64 1] 137)) u11 (.slice (some ⟨wr.heap.size, 0, none⟩) 1 1) (ofL (seqsL (R.take j))) [(S, 1)] 7 ((HO.out.ev encP_len).below (bel_alloc _ _)) (EV.newL encP_len rfl rfl (Nat.le_refl _)) (by have := HTL.out; omega) (by simp) (by omega) (by omega))
    rw [HST.out.1, HST.out.2] at HBO
    have i0 : (0 : Int) ≤ (j : Int) := by omega
    have i1 : (j : Int) < (n1 : Int) := by omega
    clear hr he hb hS
    go_wp2_with fail
    refine HBO.out.mono ?_
    rintro r we ⟨vr, rfl, orr, b1⟩
    replace orr : OV encP 2 137 (wr.alloc (.cells #[.int .i64 S, .int .i64 1] 137)).heap.size we vr (ofL (seqsL (R.take (j + 1)))) := by simpa using orr
    have hal := bel_alloc wr (.cells #[.int .i64 S, .int .i64 1] 137)
    have hbb := hal.trans (b1.mono hal.size)
    have HO2 := Lib.hid (orr.base_le (Nat.le_trans HBX.out.bel.size hal.size))
    have HB2 := Lib.hid (HBX.out.below hbb)
    have HR2 := Lib.hid (HR.out.below hbb)
    have HT2 := Lib.hid (HT.out.below hbb)
    have G0 := Lib.hid (below_cell hbb g0)
    have h0 := G0.out
    have y4 := HB2.out.ry.c4
    clear orr hal hbb b1 g0 HBX HR HT HO HBO
    by_cases hge : N ≤ S
    ·have d1 : decide (N ≤ S) = true := by simpa using hge
     have HN2 := Lib.hid (show S + 1 = max (nxtS (R.take (j + 1))) E by rw [HNX.out]; have := HN.out; omega)
     have hw : wrap64 (S + 1) = S + 1 := IntWalk.wrap64_in _ (by have := HEB.out; omega)
     clear hge
     go_upto_region 24 with fail
     go_wp2_with fail
     go_big_region
     have HBD := Lib.hid (HB2.out.below (below_drew (Below.refl _ _)))
     have HRD := Lib.hid (show OV encE 11 96 w.heap.size we.drew (.slice (some ⟨bb, off, none⟩) n1 c1) R from HR2.out)
     have HTD := Lib.hid (show OV encI 1 3 w.heap.size we.drew (.slice A2 n2 c2) T from HT2.out)
     have HOD := Lib.hid (show OV encP 2 137 w.heap.size we.drew vr (ofL (seqsL (R.take (j + 1)))) from HO2.out)
     have g0d : we.drew.cell? ⟨bb, off + j * 11, none⟩ = some (.int .i64 S) := G0.out
     have y4d := HBD.out.ry.c4
     have f4d := HBD.out.ry.frz 4
     clear HB2 HR2 HT2 HO2 y4 h0 G0
     generalize we.drew = wf at HBD HRD HTD HOD g0d y4d f4d ⊢
     have HBS := Lib.hid (HBD.out.setY 4 (.int .i64 (S + 1)) (HBD.out.ry.set4 (S + 1)))
     have HRS := Lib.hid (HBD.out.ov HRD.out (by decide) 4 (.int .i64 (S + 1)))
     have HTS := Lib.hid (HBD.out.ov HTD.out (by decide) 4 (.int .i64 (S + 1)))
     have HOS := Lib.hid (HBD.out.ov HOD.out (by decide) 4 (.int .i64 (S + 1)))
     go_wp2
     go_roundg (gk - 1)
     case measure => have := HJ.out; clear hw; omega
     case rel => exact ⟨j + 1, S + 1, by have := HJ.out; clear hw; omega, by go_num, HN2.out, HOS.out, HBS.out, HRS.out, HTS.out⟩
    ·have d1 : decide (N ≤ S) = false := by simpa using hge
     have HN2 := Lib.hid (show N = max (nxtS (R.take (j + 1))) E by rw [HNX.out]; have := HN.out; omega)
     clear hge
     go_upto_region 24 with fail
     go_wp2_with fail
     go_big_region
     go_wp2
     go_roundg (gk - 1)
     case measure => have := HJ.out; omega
     case rel => exact ⟨j + 1, N, by have := HJ.out; omega, by go_num, HN2.out, HO2.out, HB2.out.below (by first | exact below_drewN (Below.refl _ _) _ | exact below_drew (Below.refl _ _)), HR2.out, HT2.out⟩
   ·obtain rfl : n1 = j := by have := HJ.out; omega
    have ho := HO.out
    have hN := HN.out
    rw [List.take_of_length_le (Nat.le_of_eq HN1.out)] at ho hN
    obtain ⟨Ao, co, h3⟩ := (ho.ev encP_len).shape
    subst h3
    have HO3 := Lib.hid ho
    have HN3 := Lib.hid hN
    clear ho hN
    go_wp2
    go_meet
    exact ⟨_, N, Ao, _, co, rfl, rfl, HBX.out, HR.out, HT.out, HO3.out, HN3.out⟩
 case rest =>
  obtain ⟨wq, N, Ao, no, co, rfl, rfl, h1, h2, h3, h4, h5⟩ := hcut
  have hnx := nxtS_le (R := R) (fun e he => (HP.out.2.1 e he).2)
  obtain ⟨k1, k2, k3, k4, k5, k6, k7, k8, k9, k10, k11, k12, k13, k14, k15⟩ := HFIN.out wq N Ao no co h1 h2 h3 h4 (by rw [HE.out]; exact h5) (by have := HEN.out; omega)
  refine (‹∀ (a : Act) (w : World), Code.wp _ _ _ a w → _› : ∀ (a : Act) (w : World), _ → _) _ _ (rblocks_t26 w wq X Y n c no co n1 c1 n2 c2 A Ao A1 A2 bs R T lost N k1 k2 k3 k4 k5 k6 k7 k8 k9 k10 k11 k12 k13 k14 k15)
end Go.Proofs.YtalophngappkhaaGreatDoor
