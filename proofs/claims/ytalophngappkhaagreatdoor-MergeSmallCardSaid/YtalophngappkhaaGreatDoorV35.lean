/- quantumref12.Rows | quantumref12.Split | quantumlaw12.rows: the loop over the lists | quantumlaw12.rows, and MergeRows. -/
import Derived.Test.YtalophngappkhaaGreatDoorV34
import Derived.Test.YtalophngappkhaaGreatDoorV21
import Derived.Test.YtalophngappkhaaGreatDoorV25
import Derived.Test.YtalophngappkhaaGreatDoorV22
import Derived.Test.YtalophngappkhaaGreatDoorV8
import Derived.Test.YtalophngappkhaaGreatDoorV19
set_option linter.unusedVariables false
set_option linter.unusedSimpArgs false
set_option linter.unusedSectionVars false
namespace Go.Proofs.YtalophngappkhaaGreatDoor
open Go Go.RowKit Go.Shelf
attribute [local go_sem] Oper.semAt_some

theorem flatR_take {rows : List (Value × List Ev)} {j : Nat} {x : Value × List Ev} (h : rows[j]? = some x) : flatR (rows.take (j + 1)) = flatR (rows.take j) ++ x.2 := by
 unfold flatR
 rw [List.take_add_one, h, List.flatMap_append]
 simp
theorem flatR_take_le (rows : List (Value × List Ev)) (j : Nat) : (flatR (rows.take j)).length ≤ (flatR rows).length := by
 conv => rhs; rw [← List.take_append_drop j rows]
 unfold flatR
 rw [List.flatMap_append, List.length_append]
 omega
theorem flatR_mem_le {rows : List (Value × List Ev)} {x : Value × List Ev} (h : x ∈ rows) : x.2.length ≤ (flatR rows).length := by
 obtain ⟨s, t, hst⟩ := List.append_of_mem h
 rw [hst]; unfold flatR; simp; omega
set_option maxRecDepth 100000 in
set_option maxHeartbeats 6400000 in
theorem r12rows_ok (w : World) (v : Value) (rows : List (Value × List Ev)) (hv : EV encVs 1 w v rows) (hx : ∀ x ∈ rows, EV encE 11 w x.1 x.2) (ho : ∀ e ∈ flatR rows, EvOk e) (hlen : rows.length ≤ 1000000) (hT : (flatR rows).length ≤ 1000000) :
  Calls Tryz.prog 51 #[v] w fun r w' => ∃ v1 v2 R T c, r = .returned (.tuple #[v1, v2, .int .i64 c]) ∧ OV encE 11 96 w.heap.size w' v1 R ∧ OV encI 1 3 w.heap.size w' v2 T ∧ RowsRes rows R T c ∧ Below w.heap.size w w' := by
 obtain ⟨A, c, hA⟩ := hv.shape
 subst hA
 obtain ⟨n, hn⟩ : ∃ n, rows.length = n := ⟨_, rfl⟩
 have HN := Lib.hid hn
 have HX := Lib.hid hx
 have HO := Lib.hid ho
 have HT := Lib.hid hT
 rw [hn] at hv hlen ⊢
 have HV := Lib.hid hv
 have HL := Lib.hid hlen
 clear hv hn ho hlen hx hT
 go_enter Tryz.func51, Tryz.ntmps51
 go_wp2
 go_loopg [5, 6] n (fun k o i wr => ∃ j : Nat, j + k = n ∧ i = .int .i64 j ∧ OV encE 11 96 w.heap.size wr o (flatR (rows.take j)) ∧ (∀ x ∈ rows.take j, RowM x.2) ∧ Below w.heap.size w wr)
 case atStart => exact ⟨0, by omega, rfl, OV.nil _ _, fun x h => by simp at h, Below.refl _ _⟩
 case round =>
  obtain ⟨j, hj, rfl, ho, hr, hb⟩ := hrel
  have HJ := Lib.hid hj
  have HOV := Lib.hid ho
  have HRM := Lib.hid hr
  have HB := Lib.hid hb
  clear hj ho hr hb
  by_cases hlt : j < n
  ·obtain ⟨b, off, c', hsl, hcc, hr⟩ := (HV.out.below HB.out).row (by rw [HN.out]; omega)
   rw [HN.out] at hsl
   cases hsl
   obtain ⟨x, hxj⟩ : ∃ x, rows[j]? = some x := ⟨_, List.getElem?_eq_getElem (by rw [HN.out]; exact hlt)⟩
   have hm := List.mem_of_getElem? hxj
   have HM := Lib.hid hm
   have g0 := hr.vs hxj
   obtain ⟨x1, xs⟩ := x
   obtain ⟨A', c2, hA⟩ := (HX.out _ hm).shape
   dsimp only at hA g0
   subst hA
   have hxl := Nat.le_trans (flatR_mem_le hm) HT.out
   dsimp only at hxl
   have HXL := Lib.hid hxl
   have HXE := Lib.hid ((HX.out _ hm).below HB.out)
   have HFT := Lib.hid (flatR_take hxj)
   have HTK := Lib.hid (show rows.take (j + 1) = rows.take j ++ [(.slice A' xs.length c2, xs)] from by rw [List.take_add_one, hxj]; rfl)
   have HRO := Lib.hid (r12row_ok wr (.slice A' xs.length c2) xs ((HX.out _ hm).below HB.out) (fun e he => HO.out e (List.mem_flatMap.2 ⟨_, hm, he⟩)) hxl)
   have G0 := Lib.hid g0
   have hl6 := HL.out
   clear hr hxj hm hxl
   go_wp2_with fail
   refine HRO.out.mono ?_
   rintro r w1 ⟨bb, rfl, hbb, b1⟩
   have HBB := Lib.hid hbb
   have HB1 := Lib.hid (bstep HB.out b1)
   have HOV1 := Lib.hid (HOV.out.below b1)
   have HXE1 := Lib.hid (HXE.out.below b1)
   have h1 := below_cell b1 G0.out
   clear hbb b1 g0 G0 HB HOV HXE HRO
   cases bb with
   | false =>
    have HNA := Lib.hid (show ¬ AllRow rows from fun h => absurd (HBB.out.2 (h _ HM.out)) (by simp))
    go_wp2
    go_ret3
    exact ⟨_, _, [], [], 121, rfl, OV.nil _ _, OV.nil _ _, .inl ⟨HNA.out, rfl, rfl, rfl⟩, HB1.out⟩
   | true =>
    have HRM2 := Lib.hid (show ∀ y ∈ rows.take (j + 1), RowM y.2 from fun y hy => by
     rw [HTK.out] at hy
     rcases List.mem_append.1 hy with hy | hy
     ·exact HRM.out y hy
     ·rw [List.mem_singleton.1 hy]; exact HBB.out.1 rfl)
    have HLE := Lib.hid (Nat.le_trans (flatR_take_le rows j) HT.out)
    go_wp2_with (at_builtin; refine wpList_app elemREv encE_len encE_one rfl _ _ rfl _ _ rfl rfl HOV1.out HXE1.out ?q1 ?q2 ?_)
    case q1 => have := HLE.out; have := HXL.out; omega
    case q2 => exact HB1.out.size
    intro v' w3 o3 g3
    rw [← HFT.out] at o3
    have HOV3 := Lib.hid o3
    have HB3 := Lib.hid (HB1.out.grown g3 HB1.out.size (fun g q => (HOV1.out.block g q).1))
    clear o3 g3 h1
    go_wp2
    go_roundg (gk - 1)
    case measure => have := HJ.out; omega
    case rel => exact ⟨j + 1, by have := HJ.out; omega, by go_num, HOV3.out, HRM2.out, HB3.out⟩
  ·obtain rfl : n = j := by have := HJ.out; omega
   have hta : rows.take n = rows := List.take_of_length_le (Nat.le_of_eq HN.out)
   have HAR := Lib.hid (show AllRow rows from fun x hx => HRM.out x (by rw [hta]; exact hx))
   have hov := HOV.out
   rw [hta] at hov
   have HJO := Lib.hid (r12join_ok wr u5 (flatR rows) (hov.ev encE_len) (fun e he => by
    obtain ⟨x, hx, hex⟩ := List.mem_flatMap.1 he
    exact (chk_lim (HO.out e he) ((HAR.out x hx).chk e hex)).2.1.1) HT.out)
   clear hov hta
   go_wp2_with fail
   refine HJO.out.mono ?_
   rintro r w2 ⟨v1, v2, R, T, cj, rfl, o1, o2, jr, b2⟩
   have HO1 := Lib.hid (And.intro (o1.base_le HB.out.size) (o2.base_le HB.out.size))
   have HJR := Lib.hid jr
   have HB2 := Lib.hid (bstep HB.out b2)
   clear o1 o2 jr b2
   go_wp2
   go_ret3
   exact ⟨_, _, R, T, _, rfl, HO1.out.1, HO1.out.2, .inr ⟨HAR.out, HJR.out⟩, HB2.out⟩
end Go.Proofs.YtalophngappkhaaGreatDoor
namespace Go.Proofs.YtalophngappkhaaGreatDoor
open Go Go.RowKit Go.Shelf
attribute [local go_sem] Oper.semAt_some

/-- A slice whose elements are slices, with what they read as. -/
def encSe (x : Sl3 × List Ev) : List Value := [.slice x.1.1 x.1.2.1 x.1.2.2]
theorem encSe_len (x : Sl3 × List Ev) : (encSe x).length = 1 := rfl
theorem encSe_one : ∀ x, ∀ u ∈ encSe x, u.oneCell' = true := by intro x u hu; simp [encSe] at hu; subst hu; rfl
theorem ER.se {w : World} {b off i : Nat} {l : List (Sl3 × List Ev)} (h : ER encSe 1 w b off l) {x : Sl3 × List Ev} (hx : l[i]? = some x) : w.cell? ⟨b, off + i, none⟩ = some (.slice x.1.1 x.1.2.1 x.1.2.2) := by
 have := h i x hx 0 (.slice x.1.1 x.1.2.1 x.1.2.2) rfl
 simpa using this
theorem elemSRE : ElemT Tryz.prog 103 85 1 24 := ⟨Tryz.underlying103, by
 have h : (Tryz.prog.info? 85).map (fun i => (i.zero, i.size, i.bytes)) = some (some (.slice none 0 0), 1, 24) := by kernel_rfl
 obtain ⟨i, h1, h2, h3, h4⟩ := info_parts h
 exact ⟨i, _, h1, h2, h3, h4, rfl⟩, by omega, by omega⟩
/-- The first n rows of a split, in memory from B on. -/
def SplR (B : Nat) (W : World) (rows : List (Sl3 × List Ev)) (n : Nat) (l : List Ev) : Prop := rows.length = n ∧ ∀ q x, rows[q]? = some x → x.2 = cpuL l q ∧ OV encE 11 96 B W (slV x.1) x.2
theorem SplR.below {B : Nat} {W W' : World} {rows : List (Sl3 × List Ev)} {n : Nat} {l : List Ev} (h : SplR B W rows n l) (hb : Below W.heap.size W W') : SplR B W' rows n l := ⟨h.1, fun q x hx => ⟨(h.2 q x hx).1, (h.2 q x hx).2.below hb⟩⟩
theorem SplR.nil (B : Nat) (W : World) (l : List Ev) : SplR B W [] 0 l := ⟨rfl, fun q x hx => by simp at hx⟩
theorem SplR.push {B B2 : Nat} {W W' : World} {rows : List (Sl3 × List Ev)} {n : Nat} {l : List Ev} {x : Sl3 × List Ev} {o : Value} {xs : List (Sl3 × List Ev)} (h : SplR B W rows n l) (hx : OV encE 11 96 B W (slV x.1) x.2) (hq : x.2 = cpuL l n)
  (ho : OV encSe 1 85 B2 W o xs) (hg : W.grownBy W' o.ownBlock) : SplR B W' (rows ++ [x]) (n + 1) l := by
 refine ⟨by simp [h.1], fun q y hy => ?_⟩
 rcases Nat.lt_or_ge q rows.length with hql | hql
 ·rw [List.getElem?_append_left hql] at hy
  obtain ⟨h1, h2⟩ := h.2 q y hy
  exact ⟨h1, h2.keep hg (h2.ne ho (by decide))⟩
 ·rw [List.getElem?_append_right hql] at hy
  have h0 := (List.getElem?_eq_some_iff.1 hy).1
  simp at h0
  obtain rfl : q = n := by have := h.1; omega
  rw [show q - rows.length = 0 by have := h.1; omega] at hy
  simp at hy
  subst hy
  exact ⟨hq, hx.keep hg (hx.ne ho (by decide))⟩
theorem cpuL_take {l : List Ev} {t q : Nat} {e : Ev} (h : l[t]? = some e) : cpuL (l.take (t + 1)) q = cpuL (l.take t) q ++ (if e.cpu = (q : Int) then [e] else []) := by
 unfold cpuL
 rw [List.take_add_one, h, List.filter_append]
 by_cases hc : e.cpu = (q : Int) <;> simp [hc]
theorem cpuL_len (l : List Ev) (q : Nat) : (cpuL l q).length ≤ l.length := List.length_filter_le _ _
set_option maxRecDepth 100000 in
set_option maxHeartbeats 6400000 in
theorem r12split_ok (w : World) (v : Value) (l : List Ev) (hv : EV encE 11 w v l) (ho : ∀ e ∈ l, EvOk e) (hl : l.length ≤ 1000000) :
  Calls Tryz.prog 52 #[v] w fun r w' => Below w.heap.size w w' ∧ ((¬ RowM l ∧ r = .returned (.tuple #[.slice none 0 0, .int .i64 121])) ∨
   (RowM l ∧ ∃ v' rows, r = .returned (.tuple #[v', .int .i64 0]) ∧ OV encSe 1 85 w.heap.size w' v' rows ∧ SplR w.heap.size w' rows 64 l)) := by
 obtain ⟨A, c, hA⟩ := hv.shape
 subst hA
 obtain ⟨n, hn⟩ : ∃ n, l.length = n := ⟨_, rfl⟩
 have HN := Lib.hid hn
 have HO := Lib.hid ho
 have HRO := Lib.hid (r12row_ok w _ l hv ho hl)
 rw [hn] at hv hl HRO ⊢
 have HV := Lib.hid hv
 have HL := Lib.hid hl
 clear hv hn ho hl
 go_enter Tryz.func52, Tryz.ntmps52
 go_wp2_with fail
 refine HRO.out.mono ?_
 rintro r w1 ⟨bb, rfl, hbb, b1⟩
 have HBB := Lib.hid hbb
 have HB1 := Lib.hid b1
 have HV1 := Lib.hid (HV.out.below b1)
 clear hbb b1 HRO HV
 cases bb with
 | false =>
  have HNR := Lib.hid (show ¬ RowM l from fun h => absurd (HBB.out.2 h) (by simp))
  go_wp2
  go_ret2
  exact ⟨HB1.out, .inl ⟨HNR.out, rfl⟩⟩
 | true =>
  have HRM := Lib.hid (HBB.out.1 rfl)
  go_wp2
  go_loopg [4, 5] 64 (fun k o i wr => ∃ (j : Nat) (rows : List (Sl3 × List Ev)), j + k = 64 ∧ i = .int .i64 j ∧ OV encSe 1 85 w1.heap.size wr o rows ∧ SplR w.heap.size wr rows j l ∧ Below w1.heap.size w1 wr)
  case atStart => exact ⟨0, [], by omega, rfl, OV.nil _ _, SplR.nil _ _ _, Below.refl _ _⟩
  case round =>
   obtain ⟨j, rows, hj, rfl, ho, hs, hb⟩ := hrel
   have HJ := Lib.hid hj
   have HOV := Lib.hid ho
   have HS := Lib.hid hs
   have HB := Lib.hid hb
   clear hj ho hs hb
   by_cases hlt : j < 64
   ·obtain ⟨ws, hws⟩ : ∃ ws, ws = wr := ⟨_, rfl⟩
    subst hws
    have d1 : decide ((j : Int) < 64) = true := by simp; omega
    have d2 : decide (j < 64) = true := by simp; omega
    go_wp2
    go_loopg [6, 7] n (fun k o i wq => ∃ t : Nat, t + k = n ∧ i = .int .i64 t ∧ OV encE 11 96 ws.heap.size wq o (cpuL (l.take t) j) ∧ Below ws.heap.size ws wq)
    case atStart => exact ⟨0, by omega, rfl, OV.nil _ _, Below.refl _ _⟩
    case round =>
     obtain ⟨t, ht, rfl, ho, hb⟩ := hrel
     have HTT := Lib.hid ht
     have HOW := Lib.hid ho
     have HBQ := Lib.hid hb
     clear ht ho hb
     have hl6 := HL.out
     by_cases hlt2 : t < n
     ·obtain ⟨b, off, c', hsl, hcc, hr⟩ := ((HV1.out.below HB.out).below HBQ.out).row (by rw [HN.out]; omega)
      rw [HN.out] at hsl
      cases hsl
      obtain ⟨e, he⟩ : ∃ e, l[t]? = some e := ⟨_, List.getElem?_eq_getElem (by rw [HN.out]; exact hlt2)⟩
      have hoe := HO.out e (List.mem_of_getElem? he)
      have hc0 := hoe.cpu.1
      have hc1 := hoe.cpu.2
      obtain ⟨g0, g1, g2, g3, g4, g5, g6, g7, g8, g9, g10⟩ := hr.ev he
      have HT := Lib.hid (cpuL_take (q := j) he)
      have HLN := Lib.hid (Nat.le_trans (cpuL_len (l.take t) j) (by rw [List.length_take]; exact Nat.min_le_left t _))
      have hw : wrap64 e.cpu = e.cpu := IntWalk.wrap64_in _ (by omega)
      clear hr he hoe
      by_cases hce : e.cpu = (j : Int)
      ·have d3 : (e.cpu == (j : Int)) = true := by simp [hce]
       have HT2 := Lib.hid (show cpuL (l.take (t + 1)) j = cpuL (l.take t) j ++ [e] by rw [HT.out, if_pos hce])
       clear hce
       go_wp2_with (at_builtin; refine wpList_app elemREv encE_len encE_one rfl _ _ rfl _ _ rfl rfl (HOW.out.alloc _) (EV.newL (xs := [e]) (n := 1) (c := 1) encE_len rfl rfl (Nat.le_refl _)) ?q1 ?q2 ?_)
       case q1 => have := HLN.out; simp; omega
       case q2 => have := HBQ.out.size; simp; omega
       intro v' w3 o3 g3'
       rw [← HT2.out] at o3
       have hal := bel_alloc wr (.cells #[.int .i64 e.seq, .int .i64 e.time, .int .u8 e.cpu, .int .u8 e.kind, .int .i64 e.task, .int .i64 e.grp, .int .i64 e.to, .int .i64 e.wt, .int .i64 e.ticks, .int .u64 e.mask, .int .i64 e.got] 96)
       have HO3 := Lib.hid o3
       have HB3 := Lib.hid ((bstep HBQ.out hal).grown g3' (bstep HBQ.out hal).size (fun g q => (HOW.out.block g q).1))
       clear o3 g3' hal g0 g1 g2 g3 g4 g5 g6 g7 g8 g9 g10
       go_wp2
       go_roundg (n - (t + 1))
       case measure => have := HTT.out; omega
       case rel => exact ⟨t + 1, by have := HTT.out; omega, by go_num, HO3.out, HB3.out⟩
      ·have d3 : (e.cpu == (j : Int)) = false := by simp [hce]
       have HT2 := Lib.hid (show cpuL (l.take (t + 1)) j = cpuL (l.take t) j by rw [HT.out, if_neg hce, List.append_nil])
       clear hce
       go_wp2
       go_roundg (n - (t + 1))
       case measure => have := HTT.out; omega
       case rel => exact ⟨t + 1, by have := HTT.out; omega, by go_num, by rw [HT2.out]; exact HOW.out, HBQ.out⟩
     ·obtain rfl : n = t := by have := HTT.out; omega
      have how := HOW.out
      rw [List.take_of_length_le (Nat.le_of_eq HN.out)] at how
      obtain ⟨A6, c6, h6⟩ := (how.ev encE_len).shape
      obtain ⟨m, hm⟩ : ∃ m, (cpuL l j).length = m := ⟨_, rfl⟩
      rw [hm] at h6
      subst h6
      clear hm
      have HX := Lib.hid (show OV encE 11 96 w.heap.size wr (slV ((A6, m, c6), cpuL l j).1) ((A6, m, c6), cpuL l j).2 from how.base_le (Nat.le_trans HB1.out.size HB.out.size))
      have HOV2 := Lib.hid (HOV.out.below HBQ.out)
      have HSQ := Lib.hid (HS.out.below HBQ.out)
      clear how
      go_wp2_with (at_builtin; refine wpList_app elemSRE encSe_len encSe_one rfl _ _ rfl _ _ rfl rfl (HOV2.out.alloc _) (EV.newL (xs := [((A6, m, c6), cpuL l j)]) (n := 1) (c := 1) encSe_len rfl rfl (Nat.le_refl _)) ?q1 ?q2 ?_)
      case q1 => have := HS.out.1; simp; omega
      case q2 => have h1 := HBQ.out.size; have h2 := HB.out.size; have h3 := HB1.out.size; simp; omega
      intro v' w3 o3 g3
      have hal := bel_alloc wr (.cells #[.slice A6 m c6] 85)
      have HO3 := Lib.hid o3
      have HS3 := Lib.hid ((HSQ.out.below hal).push (x := ((A6, m, c6), cpuL l j)) (HX.out.below hal) rfl (HOV2.out.below hal) g3)
      have HB3 := Lib.hid ((bstep (bstep HB.out HBQ.out) hal).grown g3 (bstep (bstep HB.out HBQ.out) hal).size (fun g q => ((HOV2.out.below hal).block g q).1))
      clear o3 g3 hal
      go_wp2
      go_roundg (64 - (j + 1))
      case measure => have := HJ.out; omega
      case rel => exact ⟨j + 1, _, by have := HJ.out; omega, by go_num, HO3.out, HS3.out, HB3.out⟩
   ·obtain rfl : j = 64 := by have := HJ.out; omega
    have HB2 := Lib.hid (bstep HB1.out HB.out)
    go_wp2
    go_ret2
    exact ⟨HB2.out, .inr ⟨HRM.out, _, rows, rfl, HOV.out.base_le HB1.out.size, HS.out⟩⟩
end Go.Proofs.YtalophngappkhaaGreatDoor
namespace Go.Proofs.YtalophngappkhaaGreatDoor
open Go Go.RowKit Go.Shelf
attribute [local go_sem] Oper.semAt_some

/-- Lists of events in a slice. -/
structure LsE (W : World) (v : Value) (L : List (Sl3 × List Ev)) : Prop where
 ev : EV encSe 1 W v L
 rows : ∀ x ∈ L, EV encE 11 W (slV x.1) x.2
theorem LsE.below {W W' : World} {v : Value} {L : List (Sl3 × List Ev)} (h : LsE W v L) (hb : Below W.heap.size W W') : LsE W' v L := ⟨h.ev.below hb, fun x hx => (h.rows x hx).below hb⟩
/-- What the loop over the lists knows. -/
structure RwF (w1 : World) (v o3 o4 : Value) (L own refs : List (Sl3 × List Ev)) : Prop where
 li : LsE w1 v L
 ow : LsE w1 o3 own
 rf : LsE w1 o4 refs
 e1 : own.map Prod.snd = L.map Prod.snd
 e2 : refs.map Prod.snd = L.map Prod.snd
 ok : ∀ x ∈ L, (∀ e ∈ x.2, EvOk e) ∧ x.2.length ≤ 30
 len : L.length ≤ 8
 laid : LaidAt w1
theorem RwF.get {w1 : World} {v o3 o4 : Value} {L own refs : List (Sl3 × List Ev)} (h : RwF w1 v o3 o4 L own refs) {j : Nat} (hj : j < L.length) : ∃ a b c xs, L[j]? = some (a, xs) ∧ own[j]? = some (b, xs) ∧ refs[j]? = some (c, xs) := by
 obtain ⟨⟨a, xs⟩, ha⟩ : ∃ x, L[j]? = some x := ⟨_, List.getElem?_eq_getElem hj⟩
 have h1 : (own.map Prod.snd)[j]? = some xs := by rw [h.e1, List.getElem?_map, ha]; rfl
 have h2 : (refs.map Prod.snd)[j]? = some xs := by rw [h.e2, List.getElem?_map, ha]; rfl
 rw [List.getElem?_map] at h1 h2
 obtain ⟨⟨b, ys⟩, hb, e1⟩ := Option.map_eq_some_iff.1 h1
 obtain ⟨⟨c, zs⟩, hc, e2⟩ := Option.map_eq_some_iff.1 h2
 dsimp only at e1 e2
 subst e1 e2
 exact ⟨a, b, c, _, ha, hb, hc⟩
set_option maxRecDepth 100000 in
set_option maxHeartbeats 6400000 in
theorem rows_t12 (w w1 wc : World) (Al A3 A4 Aa : Option Addr) (cl c3 c4 na ca n : Nat) (L own refs : List (Sl3 × List Ev)) {u1 u2 u5 u6 u8 u9 u10 u11 u12 u13 u14 u15 u16 u17 u18 u19 u20 u21 u22 u23 u24 u25 u26 u27 u28 u29 u30 u31 u32 u33 u34 u35 u36 u37 u38 u39 u40 u41 u42 u43 u44 u45 u46 u47 u48 u49 u50 u51 u52 u53 u54 u55 u56 u57 u58 u59 u60 u61 u62 u63 u64 u65 u66 u67 u68 u69 u70 u71 u72 u73 u74 u75 u76 u77 u78 u79 u80 u81 u82 u83 u84 u85 u86 u87 u88 u89 u90 u91 u92 u93 u94 u95 u96 u97 u98 u99 u100 u101 u102 u103 u104 u105 u106 u107 u108 u109 u110 u111 u112 u113 u114 u115 u116 u117 u118 u119 u120 u121 u122 u123 u124 u125 u126 u127 u128 u129 u130 u131 u132 u133 u134 u135 u136 u137 u138 u139 u140 u141 u142 u143 u144 u145 u146 u147 u148 u149 u150 : Value} (hn : L.length = n) (h : RwF w1 (.slice Al n cl) (.slice A3 n c3) (.slice A4 n c4) L own refs) (hb : Below w.heap.size w w1) (hc : Below w1.heap.size w1 wc)
  (hw : Wrt 11 wc (.slice Aa na ca) na) (hwb : ∀ g, (Value.slice Aa na ca).ownBlock = some g → w1.heap.size ≤ g) (hna : na ≤ 100000) :
  Code.wp Tryz.prog (tailR Tryz.f17 12) (bodyPost Tryz.prog Tryz.f17 fun r w' => r = .returned (.bool true) ∧ Below w.heap.size w w')
   ⟨#[.slice Al n cl, u1, u2, .slice A3 n c3, .slice A4 n c4, u5, u6, .slice Aa na ca, u8, u9, u10, u11, u12, u13, u14, u15, u16, u17, u18, u19, u20, u21, u22, u23, u24, u25, u26, u27, u28, u29, u30, u31, u32, u33, u34, u35, u36, u37, u38, u39, u40, u41, u42, u43, u44, u45, u46, u47, u48, u49, u50, u51, u52, u53, u54, u55, u56, u57, u58, u59, u60, u61, u62, u63, u64, u65, u66, u67, u68, u69, u70, u71, u72, u73, u74, u75, u76, u77, u78, u79, u80, u81, u82, u83, u84, u85, u86, u87, u88, u89, u90, u91, u92, u93, u94, u95, u96, u97, u98, u99, u100, u101, u102, u103, u104, u105, u106, u107, u108, u109, u110, u111, u112, u113, u114, u115, u116, u117, u118, u119, u120, u121, u122, u123, u124, u125, u126, u127, u128, u129, u130, u131, u132, u133, u134, u135, u136, u137, u138, u139, u140, u141, u142, u143, u144, u145, u146, u147, u148, u149, u150], []⟩ wc := by
 conv => arg 2; whnf
 conv => arg 4; dsimp only
 have HH := Lib.hid h
 have HN := Lib.hid hn
 have HB := Lib.hid hb
 have HC := Lib.hid hc
 have HW := Lib.hid hw
 have HWB := Lib.hid hwb
 have HNA := Lib.hid hna
 have hn8 : n ≤ 8 := by have := h.len; omega
 clear h hn hb hc hw hwb hna
 go_wp2
 go_loopg [69] n (fun k i wr => ∃ j : Nat, j + k = n ∧ i = .int .i64 j ∧ Wrt 11 wr (.slice Aa na ca) na ∧ Below w1.heap.size w1 wr)
 case atStart => exact ⟨0, by omega, rfl, HW.out, HC.out⟩
 clear HW HC
 case round =>
  obtain ⟨j, hj, rfl, hw, hb⟩ := hrel
  have HJ := Lib.hid hj
  have HW := Lib.hid hw
  have HC := Lib.hid hb
  clear hj hw hb
  obtain ⟨ws, hws⟩ : ∃ ws, ws = wr := ⟨_, rfl⟩
  subst hws
  by_cases hlt : j < n
  ·obtain ⟨a, b, c, xs, ha, hbo, hcr⟩ := HH.out.get (j := j) (by rw [HN.out]; exact hlt)
   obtain ⟨bl, ol, c', hsl, _, hr⟩ := (HH.out.li.ev.below HC.out).row (by rw [HN.out]; omega)
   rw [HN.out] at hsl
   cases hsl
   have lo : own.length = n := by have := congrArg List.length HH.out.e1; simpa [HN.out] using this
   have lr : refs.length = n := by have := congrArg List.length HH.out.e2; simpa [HN.out] using this
   obtain ⟨b3, o3, c3', hs3, _, hr3⟩ := (HH.out.ow.ev.below HC.out).row (by rw [lo]; omega)
   rw [lo] at hs3
   cases hs3
   obtain ⟨b4, o4, c4', hs4, _, hr4⟩ := (HH.out.rf.ev.below HC.out).row (by rw [lr]; omega)
   rw [lr] at hs4
   cases hs4
   have g0 := hr.se ha
   have g3 := hr3.se hbo
   have G31 := Lib.hid (((HH.out.ow.ev.row3 (by rw [lo]; omega)).se hbo))
   have EV1 := Lib.hid (And.intro (HH.out.li.rows _ (List.mem_of_getElem? ha)) (HH.out.ow.rows _ (List.mem_of_getElem? hbo)))
   have g4 := hr4.se hcr
   have EVS := Lib.hid (And.intro ((HH.out.li.rows _ (List.mem_of_getElem? ha)).below HC.out) (And.intro ((HH.out.ow.rows _ (List.mem_of_getElem? hbo)).below HC.out) ((HH.out.rf.rows _ (List.mem_of_getElem? hcr)).below HC.out)))
   have HOK := Lib.hid (HH.out.ok _ (List.mem_of_getElem? ha))
   have G4 := Lib.hid g4
   have G3 := Lib.hid g3
   obtain ⟨Ab, nb, cb⟩ := b
   obtain ⟨Aw, nw, cw⟩ := a
   obtain ⟨Ac, nc, cc⟩ := c
   dsimp only at g0 g3 g4 EVS HOK G3 G4 G31 EV1
   unfold slV at EVS EV1
   dsimp only at EVS EV1
   clear hr hr3 hr4 ha hbo hcr lo lr
   go_upto_region 15 with fail
   have HSP := Lib.hid (split_ok ws (.slice Ab nb cb) xs EVS.out.2.1 HOK.out.1 (by have := HOK.out.2; omega) (HH.out.laid.below HC.out).uses)
   go_wp2_with fail
   refine HSP.out.mono ?_
   rintro r wA ⟨bA, hres⟩
   have HBA := Lib.hid bA
   have HRES := Lib.hid hres
   have q4 := below_cell bA G4.out
   have HSR := Lib.hid (r12split_ok wA (.slice Ac nc cc) xs (EVS.out.2.2.below bA) HOK.out.1 (by have := HOK.out.2; omega))
   clear hres g0 g3 g4 bA HSP
   by_cases hrm : RowM xs
   ·obtain ⟨Z, A, rfl, hZ, hF⟩ : ∃ Z A, r = .returned (.tuple #[.slice (some ⟨Z, 0, none⟩) 64 64, .int .i64 0]) ∧ ws.heap.size ≤ Z ∧ Fam wA Z (Z + 1) A (cpuL xs) := by
     rcases HRES.out with ⟨h, _⟩ | ⟨_, Z, A, h1, h2, h3⟩
     ·exact absurd hrm h
     ·exact ⟨Z, A, h1, h2, h3⟩
    have HZ := Lib.hid (And.intro hZ hF.zb)
    have HFB := Lib.hid (fun p (hp : p < 64) g (hg : (A.getD p undef).ownBlock = some g) => ((hF.rows p hp).block g hg))
    have HFA := Lib.hid hF
    have HRM := Lib.hid hrm
    clear hZ hF hrm HRES
    go_upto_region 16 with fail
    go_wp2_with fail
    refine HSR.out.mono ?_
    rintro r wB ⟨bB, hres⟩
    obtain ⟨vv, rows, rfl, hov, hsr⟩ : ∃ v' rows, r = .returned (.tuple #[v', .int .i64 0]) ∧ OV encSe 1 85 wA.heap.size wB v' rows ∧ SplR wA.heap.size wB rows 64 xs := by
     rcases hres with ⟨h, _⟩ | ⟨_, v', rows, h1, h2, h3⟩
     ·exact absurd HRM.out h
     ·exact ⟨v', rows, h1, h2, h3⟩
    obtain ⟨vb, vc, hvv, _, _⟩ := hov.form (by rw [hsr.1]; omega)
    rw [hsr.1] at hvv
    subst hvv
    have HOV := Lib.hid hov
    have HSP := Lib.hid hsr
    have HF := Lib.hid (HFA.out.below bB)
    have HBB := Lib.hid (bstep HBA.out bB)
    have HABS := Lib.hid bB.size
    clear hres bB HSR HFA hov hsr q4
    go_upto_block 4 with fail
    go_cut [] (fun wz => ∃ wq, wq = wz ∧ Wrt 11 wq (.slice Aa na ca) na ∧ Below ws.heap.size ws wq)
    case first =>
     obtain ⟨T, hT⟩ : ∃ T : Nat → Prop, T = fun k => ∃ p, p < 64 ∧ (A.getD p undef).ownBlock = some k := ⟨_, rfl⟩
     have HTD := Lib.hid hT
     have HTB := Lib.hid (show ∀ k, T k → Z + 1 ≤ k ∧ k < wA.heap.size from fun k hk => by rw [hT] at hk; obtain ⟨p, hp, hg⟩ := hk; exact HFB.out p hp k hg)
     clear hT
     go_wp2
     go_loopg [102] 64 (fun k i wz => ∃ q : Nat, q + k = 64 ∧ i = .int .i64 q ∧ (∀ p, q ≤ p → p < 64 → OV encE 11 28 (Z + 1) wz (A.getD p undef) (cpuL xs p)) ∧ Mod T wB wz)
     case atStart => exact ⟨0, by omega, rfl, fun p _ hp => HF.out.rows p hp, Mod.refl _ _⟩
     case round =>
      obtain ⟨q, hq, rfl, hrw, hm⟩ := hrel
      obtain ⟨wz, hwz⟩ : ∃ wz, wz = wr := ⟨_, rfl⟩
      subst hwz
      have HQ := Lib.hid hq
      have HRW := Lib.hid hrw
      have HM := Lib.hid hm
      clear hq hrw hm
      by_cases hlt2 : q < 64
      ·have d1 : decide ((q : Int) < 64) = true := by simp; omega
       have d2 : decide (q < 64) = true := by simp; omega
       have hzc := HM.out.cell (HF.out.at hlt2) (fun h => by have := HTB.out Z h; omega)
       obtain ⟨Aq, cq, hAq⟩ := ((HRW.out q (Nat.le_refl _) hlt2).ev encE_len).shape
       obtain ⟨mq, hmq⟩ : ∃ m, (cpuL xs q).length = m := ⟨_, rfl⟩
       rw [hmq] at hAq
       rw [hAq] at hzc
       obtain ⟨⟨⟨Ar, mr, cr⟩, ys⟩, hy⟩ : ∃ y, rows[q]? = some y := ⟨_, List.getElem?_eq_getElem (by rw [HSP.out.1]; exact hlt2)⟩
       obtain ⟨hys, hyo⟩ := HSP.out.2 q _ hy
       dsimp only at hys hyo
       subst hys
       unfold slV at hyo
       dsimp only at hyo
       have hvc := (((HOV.out.mod HM.out (fun g hg t => by have h1 := (HOV.out.block g hg).1; have h2 := HTB.out g t; omega)).ev encSe_len).row3 (by rw [HSP.out.1]; omega)).se hy
       dsimp only at hvc
       simp only [Nat.zero_add] at hvc
       have HYE := Lib.hid ((hyo.mod HM.out (fun g hg t => by have h1 := (hyo.block g hg).1; have h2 := HTB.out g t; omega)).ev encE_len)
       have HAQ := Lib.hid hAq
       have HMQ := Lib.hid hmq
       have HPO := Lib.hid (HRW.out q (Nat.le_refl _) hlt2)
       rw [hAq] at HPO
       have HAE := Lib.hid (HPO.out.ev encE_len)
       have HCL := Lib.hid (show (cpuL xs q).length ≤ 1000000 from Nat.le_trans (cpuL_len _ _) (by have := HOK.out.2; omega))
       have HZC := Lib.hid hzc
       have HVC := Lib.hid hvc
       have q0 : (0 : Int) ≤ (q : Int) := by omega
       have q1 : (q : Int) < 64 := by omega
       clear hAq hmq hy hyo hzc hvc
       go_upto_region 22 with fail
       refine wp_region_dagG (by kernel_rfl) 11 rfl (fun i => i == 4 || i == 9) (fun i => !(false)) ?hMw (fun x => ⟨#[Value.slice (some { block := bl, off := ol }) n cl, u1, u2, Value.slice (some { block := b3, off := o3 }) n c3, Value.slice (some { block := b4, off := o4 }) n c4, u5, u6, Value.slice Aa na ca, u8, u9, u10, u11, u12, Value.int IntKind.i64 ↑j, Value.slice Aw nw cw, Value.slice (some { block := Z, off := 0 }) 64 64, Value.int IntKind.i64 0, Value.slice (some { block := vb, off := 0 }) 64 vc, Value.int IntKind.i64 0, Value.int IntKind.i64 ↑q, u20, u21, u22, u23, u24, u25, u26, u27, u28, u29, u30, u31, u32, u33, u34, u35, u36, u37, u38, u39, u40, u41, u42, u43, u44, u45, u46, u47, u48, u49, u50, u51, u52, u53, u54, u55, u56, u57, u58, u59, u60, u61, u62, u63, u64, u65, u66, Value.slice (some { block := bl, off := ol }) n cl, Value.int IntKind.i64 ↑n, Value.int IntKind.i64 ↑j, Value.bool true, Value.int IntKind.i64 ↑j, Value.pointer (some { block := bl, off := ol + j }), Value.slice Aw nw cw, Value.tuple #[Value.slice (some { block := Z, off := 0 }) 64 64, Value.int IntKind.i64 0], Value.slice (some { block := b3, off := o3 }) n c3, Value.int IntKind.i64 ↑j, Value.pointer (some { block := b3, off := o3 + j }), Value.slice Ab nb cb, Value.tuple #[Value.slice (some { block := Z, off := 0 }) 64 64, Value.int IntKind.i64 0], Value.slice (some { block := Z, off := 0 }) 64 64, Value.int IntKind.i64 0, Value.tuple #[Value.slice (some { block := vb, off := 0 }) 64 vc, Value.int IntKind.i64 0], Value.slice (some { block := b4, off := o4 }) n c4, Value.int IntKind.i64 ↑j, Value.pointer (some { block := b4, off := o4 + j }), Value.slice Ac nc cc, Value.tuple #[Value.slice (some { block := vb, off := 0 }) 64 vc, Value.int IntKind.i64 0], Value.slice (some { block := vb, off := 0 }) 64 vc, Value.int IntKind.i64 0, Value.slice (some { block := Z, off := 0 }) 64 64, Value.int IntKind.i64 64, Value.slice (some { block := vb, off := 0 }) 64 vc, Value.int IntKind.i64 64, Value.bool false, Value.bool false, Value.int IntKind.i64 0, Value.int IntKind.i64 0, Value.bool false, Value.bool false, Value.slice (some { block := Z, off := 0 }) 64 64, Value.int IntKind.i64 64, Value.int IntKind.i64 ↑q, Value.bool true, Value.int IntKind.i64 ↑q, x 0, x 1, x 2, x 3, x 4, x 5, x 6, x 7, x 8, x 9, x 10, u116, u117, u118, u119, u120, u121, u122, u123, u124, u125, u126, u127, u128, u129, u130, u131, u132, u133, u134, u135, u136, u137, u138, u139, u140, u141, u142, u143, u144, u145, u146, u147, u148, u149, u150], []⟩) (fun iF vF => match iF with | 0 => vF = Value.slice (some { block := Z, off := 0 }) 64 64 | 1 => vF = Value.int IntKind.i64 ↑q | 2 => vF = .pointer (some ⟨Z, q, none⟩) | 3 => vF = .slice Aq mq cq | 5 => vF = Value.slice (some { block := vb, off := 0 }) 64 vc | 6 => vF = Value.int IntKind.i64 ↑q | 7 => vF = .pointer (some ⟨vb, q, none⟩) | 8 => vF = .slice Ar mr cr | 10 => vF = .bool false | _ => True)
        (fun d x W => Below wz.heap.size wz W ∧ (d 4 = true → OV encE 11 96 wz.heap.size W (x 4) (cpuL xs q)) ∧ (d 9 = true → (x 9) = .bool true)) ?hB ?hwant ?hoff (by kernel_rfl) ?hpure ?hmem ?hend (fun i => (#[u105, u106, u107, u108, u109, u110, u111, u112, u113, u114, u115] : Array Value).getD i undef) rfl ?hstart
       case hstart =>
        try dsimp only
        exact ⟨below_drew (Below.refl _ _), fun h => (by cases h), fun h => (by cases h)⟩
       case hB =>
        intro d d' x i v W hi hm h
        have g4 : ¬ 4 = i := by rintro rfl; exact absurd (show true = false from hi) (by simp)
        have e4 : d' 4 = d 4 := hm 4 rfl
        have g9 : ¬ 9 = i := by rintro rfl; exact absurd (show true = false from hi) (by simp)
        have e9 : d' 9 = d 9 := hm 9 rfl
        try dsimp only at h ⊢
        first | rw [upd_ne g4, upd_ne g9, e4, e9] | simp only [upd_ne g4, upd_ne g9, e4, e9]
        exact h
       case hMw =>
        intro i hi
        simp only [Bool.or_eq_true, beq_iff_eq] at hi
        rcases hi with rfl | rfl
        all_goals rfl
       case hwant =>
        intro iF o hi ho x hf
        rcases (show iF = 0 ∨ iF = 1 ∨ iF = 2 ∨ iF = 3 ∨ iF = 4 ∨ iF = 5 ∨ iF = 6 ∨ iF = 7 ∨ iF = 8 ∨ iF = 9 ∨ iF = 10 by omega) with rfl | rfl | rfl | rfl | rfl | rfl | rfl | rfl | rfl | rfl | rfl <;> obtain rfl := Option.some.inj ho
        all_goals rfl
       case hoff =>
        intro iF o hi hw ho x
        rcases (show iF = 0 ∨ iF = 1 ∨ iF = 2 ∨ iF = 3 ∨ iF = 4 ∨ iF = 5 ∨ iF = 6 ∨ iF = 7 ∨ iF = 8 ∨ iF = 9 ∨ iF = 10 by omega) with rfl | rfl | rfl | rfl | rfl | rfl | rfl | rfl | rfl | rfl | rfl
        all_goals first | exact absurd (show true = false from hw) (by simp) | skip
       case hpure =>
        intro iF o hi hnm hww ho d x W hB hd hdn hnd hcl Kq hK
        rcases (show iF = 0 ∨ iF = 1 ∨ iF = 2 ∨ iF = 3 ∨ iF = 4 ∨ iF = 5 ∨ iF = 6 ∨ iF = 7 ∨ iF = 8 ∨ iF = 9 ∨ iF = 10 by omega) with rfl | rfl | rfl | rfl | rfl | rfl | rfl | rfl | rfl | rfl | rfl <;> obtain rfl := Option.some.inj ho
        all_goals first | exact absurd (show true = false from hnm) (by simp) | skip
        ·clear ho hd hdn hnd hcl hB hnm hi
         simp only [upd, reduceIte, Nat.reduceEqDiff] at hK
         try dsimp only
         go_simp
         exact hK _ rfl
        ·clear ho hd hdn hnd hcl hB hnm hi
         simp only [upd, reduceIte, Nat.reduceEqDiff] at hK
         try dsimp only
         go_simp
         exact hK _ rfl
        ·have e0 : x 0 = Value.slice (some { block := Z, off := 0 }) 64 64 := hd 0 (by kernel_rfl) (by kernel_rfl)
         have e1 : x 1 = Value.int IntKind.i64 ↑q := hd 1 (by kernel_rfl) (by kernel_rfl)
         clear ho hd hdn hnd hcl hB hnm hi
         simp only [upd, reduceIte, Nat.reduceEqDiff, e0, e1] at hK
         try dsimp only
         go_simp
         exact hK _ rfl
        ·have e2 : x 2 = .pointer (some ⟨Z, q, none⟩) := hd 2 (by kernel_rfl) (by kernel_rfl)
         have hb := hB.1
         have cz := below_cell hb HZC.out
         clear ho hd hdn hnd hcl hB hnm hi
         simp only [upd, reduceIte, Nat.reduceEqDiff, e2] at hK
         try dsimp only
         go_simp
         exact hK _ rfl
        ·clear ho hd hdn hnd hcl hB hnm hi
         simp only [upd, reduceIte, Nat.reduceEqDiff] at hK
         try dsimp only
         go_simp
         exact hK _ rfl
        ·clear ho hd hdn hnd hcl hB hnm hi
         simp only [upd, reduceIte, Nat.reduceEqDiff] at hK
         try dsimp only
         go_simp
         exact hK _ rfl
        ·have e5 : x 5 = Value.slice (some { block := vb, off := 0 }) 64 vc := hd 5 (by kernel_rfl) (by kernel_rfl)
         have e6 : x 6 = Value.int IntKind.i64 ↑q := hd 6 (by kernel_rfl) (by kernel_rfl)
         clear ho hd hdn hnd hcl hB hnm hi
         simp only [upd, reduceIte, Nat.reduceEqDiff, e5, e6] at hK
         try dsimp only
         go_simp
         exact hK _ rfl
        ·have e7 : x 7 = .pointer (some ⟨vb, q, none⟩) := hd 7 (by kernel_rfl) (by kernel_rfl)
         have hb := hB.1
         have cz := below_cell hb HVC.out
         clear ho hd hdn hnd hcl hB hnm hi
         simp only [upd, reduceIte, Nat.reduceEqDiff, e7] at hK
         try dsimp only
         go_simp
         exact hK _ rfl
        ·have e9 : x 9 = .bool true := hB.2.2 (hdn 9 (by kernel_rfl))
         clear ho hd hdn hnd hcl hB hnm hi
         simp only [upd, reduceIte, Nat.reduceEqDiff, e9] at hK
         try dsimp only
         try rw [e9]
         go_simp
         exact hK _ rfl
       case hmem =>
        intro iF o hi hmm ho d d' x W hB hd hdn hnd hdi hdi' hdm hcl Kq hK
        rcases (show iF = 0 ∨ iF = 1 ∨ iF = 2 ∨ iF = 3 ∨ iF = 4 ∨ iF = 5 ∨ iF = 6 ∨ iF = 7 ∨ iF = 8 ∨ iF = 9 ∨ iF = 10 by omega) with rfl | rfl | rfl | rfl | rfl | rfl | rfl | rfl | rfl | rfl | rfl <;> obtain rfl := Option.some.inj ho
        all_goals first | exact absurd (show false = true from hmm) (by simp) | skip
        ·have e3 : x 3 = .slice Aq mq cq := hd 3 (by kernel_rfl) (by kernel_rfl)
         have dm9 : d' 9 = d 9 := hdm 9 (by omega)
         obtain ⟨hb, h4, h9⟩ := hB
         clear ho hd hdn hnd hcl hmm
         simp only [upd, reduceIte, Nat.reduceEqDiff, e3] at hK
         try dsimp only
         go_simp
         go_at_call 47
         refine (theirs_ok W (.slice Aq mq cq) (cpuL xs q) (HAE.out.below hb) HCL.out).mono ?_
         rintro r W2 ⟨v2, rfl, o2, bb⟩
         go_simp
         refine hK _ _ ?_
         try dsimp only
         rw [dm9, hdi']
         exact ⟨(bstep hb bb), fun _ => o2.base_le hb.size, h9⟩
        ·have e8 : x 8 = .slice Ar mr cr := hd 8 (by kernel_rfl) (by kernel_rfl)
         have dm4 : d' 4 = d 4 := hdm 4 (by omega)
         have dn4 : d 4 = true := hdn 4 (by kernel_rfl)
         obtain ⟨hb, h4, h9⟩ := hB
         have q4 := h4 dn4
         clear ho hd hdn hnd hcl hmm
         simp only [upd, reduceIte, Nat.reduceEqDiff, e8] at hK
         try dsimp only
         go_simp
         go_at_call 46
         refine (eq_rev W (x 4) (.slice Ar mr cr) (cpuL xs q) (q4.ev encE_len) (HYE.out.below hb) (by have := HCL.out; omega)).mono ?_
         rintro r W2 ⟨rfl, bb⟩
         go_simp
         refine hK _ _ ?_
         try dsimp only
         rw [dm4, hdi']
         exact ⟨(bstep hb bb), fun a => (h4 a).below bb, fun _ => rfl⟩
       case hend =>
        intro d x W hall hB hd
        obtain ⟨hb, h4, h9⟩ := hB
        have ek := hd 10 (by omega) rfl
        clear hd hall h4 h9
        try dsimp only
        rw [ek]
        clear ek
        generalize x 0 = y0
        generalize x 1 = y1
        generalize x 2 = y2
        generalize x 3 = y3
        generalize x 4 = y4
        generalize x 5 = y5
        generalize x 6 = y6
        generalize x 7 = y7
        generalize x 8 = y8
        generalize x 9 = y9
        have hzc := below_cell hb HZC.out
        have HMW := Lib.hid (HM.out.trans (Mod.of_below hb))
        have HRW2 := Lib.hid (fun p (h1 : q < p) (h2 : p < 64) => (HRW.out p (by omega) h2).below hb)
        have HWR := Lib.hid (show Wrt 11 W (.slice Aq mq cq) mq by have := (HPO.out.below hb).wrt encE_len; rwa [HMQ.out] at this)
        have hmq6 : mq ≤ 1000000 := by have := HCL.out; rw [HMQ.out] at this; exact this
        clear hb
        go_wp2
        go_loopg [121] mq (fun k i wy => ∃ t : Nat, t + k = mq ∧ i = .int .i64 t ∧ Wrt 11 wy (.slice Aq mq cq) mq ∧ (∀ p, q < p → p < 64 → OV encE 11 28 (Z + 1) wy (A.getD p undef) (cpuL xs p)) ∧ Mod T wB wy)
        case atStart => exact ⟨0, by omega, rfl, HWR.out, HRW2.out, HMW.out⟩
        clear hzc HWR HRW2 HMW
        case round =>
         obtain ⟨t, ht, rfl, hw, hrw, hm⟩ := hrel
         have HTT := Lib.hid ht
         have HWT := Lib.hid hw
         have HRT := Lib.hid hrw
         have HMT := Lib.hid hm
         clear ht hw hrw hm
         by_cases hlt3 : t < mq
         ·rcases HWT.out with ⟨h0, _⟩ | ⟨_, g, cg, hv, hwc⟩
          ·omega
          ·cases hv
           obtain ⟨⟨u1, hu1⟩, f1⟩ := hwc (t * 11 + 1) (by omega)
           have hog : (A.getD q undef).ownBlock = some g := by rw [HAQ.out]; rfl
           have HTG := Lib.hid (show T g by rw [HTD.out]; exact ⟨q, hlt2, hog⟩)
           have hzc := HMT.out.cell (HF.out.at hlt2) (fun h => by have := HTB.out Z h; omega)
           rw [HAQ.out] at hzc
           have HOG := Lib.hid hog
           clear hwc hog
           go_wp2
           go_roundg (mq - (t + 1))
           case measure => have := HTT.out; omega
           case rel =>
            refine ⟨t + 1, by have := HTT.out; omega, by go_num, HWT.out.setCell _ _, fun p h1 h2 => (HRT.out p h1 h2).mod (Mod.setCell (T := fun k => k = g) _ rfl) (fun g' hg' e => ?_), HMT.out.trans (Mod.setCell _ HTG.out)⟩
            rcases HF.out.dist p q h2 hlt2 (by omega) with h | h
            ·rw [h] at hg'; cases hg'
            ·rw [HOG.out, hg', e] at h; exact h rfl
         ·obtain rfl : mq = t := by have := HTT.out; omega
          go_wp2
          go_roundg (64 - (q + 1))
          case measure => have := HQ.out; omega
          case rel => exact ⟨q + 1, by have := HQ.out; omega, by go_num, fun p h1 h2 => HRT.out p (by omega) h2, HMT.out⟩
      ·obtain rfl : q = 64 := by have := HQ.out; omega
       have hbz := HBB.out.trans (HM.out.below (B := ws.heap.size) (fun k hk t => by have h1 := HTB.out k t; have h2 := HZ.out.1; omega) HBB.out.size)
       have HBZ := Lib.hid hbz
       clear hbz
       go_wp2
       go_meet
       exact ⟨_, rfl, HW.out.below HBZ.out, HBZ.out⟩
    case rest =>
    obtain ⟨wq, rfl, hwq, hcq⟩ := hcut
    have HWQ := Lib.hid hwq
    have HCQ := Lib.hid (bstep HC.out hcq)
    clear hwq hcq
    go_wp2
    go_loopg [135] na (fun k i wz => ∃ t : Nat, t + k = na ∧ i = .int .i64 t ∧ Wrt 11 wz (.slice Aa na ca) na ∧ Below w1.heap.size w1 wz)
    case atStart => exact ⟨0, by omega, rfl, HWQ.out, HCQ.out⟩
    case round =>
     obtain ⟨t, ht, rfl, hw, hb⟩ := hrel
     have HTT := Lib.hid ht
     have HWT := Lib.hid hw
     have HCT := Lib.hid hb
     have hna := HNA.out
     clear ht hw hb
     by_cases hlt3 : t < na
     ·rcases HWT.out with ⟨h0, _⟩ | ⟨_, g, cg, hv, hwc⟩
      ·omega
      ·cases hv
       obtain ⟨⟨u1, hu1⟩, f1⟩ := hwc (t * 11 + 1) (by omega)
       have HTG := Lib.hid (HWB.out g rfl)
       clear hwc
       go_wp2
       go_roundg (na - (t + 1))
       case measure => have := HTT.out; omega
       case rel => exact ⟨t + 1, by have := HTT.out; omega, by go_num, HWT.out.setCell _ _, HCT.out.setCell HTG.out _⟩
     ·obtain rfl : na = t := by have := HTT.out; omega
      have G3T := Lib.hid (below_cell HCT.out G31.out)
      have k3 := G3T.out
      go_wp2_with fail
      refine (eq_ev wr (.slice Ab nb cb) (.slice Aw nw cw) xs (EV1.out.2.below HCT.out) (EV1.out.1.below HCT.out) (by have := HOK.out.2; omega)).mono ?_
      rintro r wy ⟨rfl, by'⟩
      have HCY := Lib.hid (bstep HCT.out by')
      have HWY := Lib.hid (HWT.out.below by')
      clear by' k3
      go_wp2
      go_roundg (n - (j + 1))
      case measure => have := HJ.out; omega
      case rel => exact ⟨j + 1, by have := HJ.out; omega, by go_num, HWY.out, HCY.out⟩
   ·obtain rfl : r = .returned (.tuple #[.slice none 0 0, .int .i64 121]) := by
     rcases HRES.out with ⟨_, h⟩ | ⟨h, _⟩
     ·exact h
     ·exact absurd h hrm
    have HNR := Lib.hid hrm
    clear hrm HRES
    go_upto_region 16 with fail
    go_wp2_with fail
    refine HSR.out.mono ?_
    rintro r wB ⟨bB, hres⟩
    obtain rfl : r = .returned (.tuple #[.slice none 0 0, .int .i64 121]) := by
     rcases hres with ⟨_, h⟩ | ⟨h, _⟩
     ·exact h
     ·exact absurd h HNR.out
    have HBB := Lib.hid (bstep HBA.out bB)
    clear hres bB HSR q4
    go_upto_block 4 with fail
    go_cut [] (fun wz => ∃ wq, wq = wz ∧ Wrt 11 wq (.slice Aa na ca) na ∧ Below ws.heap.size ws wq)
    case first =>
     go_wp2
     refine wp_loop_rounds 1 ?_
     rw [rounds_succ]
     go_wp2
     go_meet
     exact ⟨_, rfl, HW.out.below HBB.out, HBB.out⟩
    case rest =>
    obtain ⟨wq, rfl, hwq, hcq⟩ := hcut
    have HWQ := Lib.hid hwq
    have HCQ := Lib.hid (bstep HC.out hcq)
    clear hwq hcq
    go_wp2
    go_loopg [135] na (fun k i wz => ∃ t : Nat, t + k = na ∧ i = .int .i64 t ∧ Wrt 11 wz (.slice Aa na ca) na ∧ Below w1.heap.size w1 wz)
    case atStart => exact ⟨0, by omega, rfl, HWQ.out, HCQ.out⟩
    case round =>
     obtain ⟨t, ht, rfl, hw, hb⟩ := hrel
     have HTT := Lib.hid ht
     have HWT := Lib.hid hw
     have HCT := Lib.hid hb
     have hna := HNA.out
     clear ht hw hb
     by_cases hlt3 : t < na
     ·rcases HWT.out with ⟨h0, _⟩ | ⟨_, g, cg, hv, hwc⟩
      ·omega
      ·cases hv
       obtain ⟨⟨u1, hu1⟩, f1⟩ := hwc (t * 11 + 1) (by omega)
       have HTG := Lib.hid (HWB.out g rfl)
       clear hwc
       go_wp2
       go_roundg (na - (t + 1))
       case measure => have := HTT.out; omega
       case rel => exact ⟨t + 1, by have := HTT.out; omega, by go_num, HWT.out.setCell _ _, HCT.out.setCell HTG.out _⟩
     ·obtain rfl : na = t := by have := HTT.out; omega
      have G3T := Lib.hid (below_cell HCT.out G31.out)
      have k3 := G3T.out
      go_wp2_with fail
      refine (eq_ev wr (.slice Ab nb cb) (.slice Aw nw cw) xs (EV1.out.2.below HCT.out) (EV1.out.1.below HCT.out) (by have := HOK.out.2; omega)).mono ?_
      rintro r wy ⟨rfl, by'⟩
      have HCY := Lib.hid (bstep HCT.out by')
      have HWY := Lib.hid (HWT.out.below by')
      clear by' k3
      go_wp2
      go_roundg (n - (j + 1))
      case measure => have := HJ.out; omega
      case rel => exact ⟨j + 1, by have := HJ.out; omega, by go_num, HWY.out, HCY.out⟩
  ·obtain rfl : n = j := by have := HJ.out; omega
   go_wp2
   go_ret
   exact ⟨rfl, bstep HB.out HC.out⟩
end Go.Proofs.YtalophngappkhaaGreatDoor
namespace Go.Proofs.YtalophngappkhaaGreatDoor
open Go Go.RowKit Go.Shelf
attribute [local go_sem] Oper.semAt_some

theorem flatR_snd (rows : List (Value × List Ev)) : flatR rows = (rows.map Prod.snd).flatten := by
 unfold flatR
 rw [List.flatMap_def]
theorem RowsRes.unique {r1 r2 : List (Value × List Ev)} {R R' : List Ev} {T T' : List Int} {c c' : Int} (h : RowsRes r1 R T c) (h' : RowsRes r2 R' T' c') (e : r1.map Prod.snd = r2.map Prod.snd) : R = R' ∧ T = T' ∧ c = c' := by
 have hA : AllRow r1 ↔ AllRow r2 := by
  have key : ∀ r : List (Value × List Ev), AllRow r ↔ ∀ x ∈ r.map Prod.snd, RowM x := fun r => by
   unfold AllRow
   simp only [List.mem_map]
   exact ⟨fun h x ⟨y, hy, e⟩ => e ▸ h y hy, fun h x hx => h _ ⟨x, hx, rfl⟩⟩
  rw [key, key, e]
 have hf : flatR r1 = flatR r2 := by rw [flatR_snd, flatR_snd, e]
 rcases h with ⟨h1, rfl, rfl, rfl⟩ | ⟨h1, h2⟩ <;> rcases h' with ⟨k1, rfl, rfl, rfl⟩ | ⟨k1, k2⟩
 ·exact ⟨rfl, rfl, rfl⟩
 ·exact absurd (hA.2 k1) h1
 ·exact absurd (hA.1 h1) k1
 ·rw [hf] at h2; exact h2.unique k2
theorem RowsRes.len {r1 : List (Value × List Ev)} {R : List Ev} {T : List Int} {c : Int} (h : RowsRes r1 R T c) : R.length ≤ 65535 ∧ T.length ≤ 65535 := by
 rcases h with ⟨_, _, rfl, rfl⟩ | ⟨_, ⟨_, _, rfl, rfl⟩ | ⟨_, _, _, rfl, rfl⟩ | ⟨h1, _, _, h2⟩⟩
 ·simp
 ·simp
 ·simp
 ·have := h2.len; omega
/-- The lists' copies, in memory of the call's own. -/
structure RwL (B : Nat) (W : World) (o3 o4 : Value) (own refs : List (Sl3 × List Ev)) : Prop where
 a : OV encSe 1 22 B W o3 own
 b : OV encSe 1 85 B W o4 refs
 ra : ∀ x ∈ own, OV encE 11 28 B W (slV x.1) x.2
 rb : ∀ x ∈ refs, OV encE 11 96 B W (slV x.1) x.2
theorem RwL.below {B : Nat} {W W' : World} {o3 o4 : Value} {own refs : List (Sl3 × List Ev)} (h : RwL B W o3 o4 own refs) (hb : Below W.heap.size W W') : RwL B W' o3 o4 own refs :=
 ⟨h.a.below hb, h.b.below hb, fun x hx => (h.ra x hx).below hb, fun x hx => (h.rb x hx).below hb⟩
theorem RwL.pushO {B : Nat} {W W' : World} {o3 o4 o3' : Value} {own refs : List (Sl3 × List Ev)} {x : Sl3 × List Ev} (h : RwL B W o3 o4 own refs) (hx : OV encE 11 28 B W (slV x.1) x.2) (hg : W.grownBy W' o3.ownBlock) (ho : OV encSe 1 22 B W' o3' (own ++ [x])) : RwL B W' o3' o4 (own ++ [x]) refs :=
 ⟨ho, h.b.keep hg (h.b.ne h.a (by decide)), fun y hy => by
  rcases List.mem_append.1 hy with hy | hy
  ·exact (h.ra y hy).keep hg ((h.ra y hy).ne h.a (by decide))
  ·rw [List.mem_singleton.1 hy]; exact hx.keep hg (hx.ne h.a (by decide)), fun y hy => (h.rb y hy).keep hg ((h.rb y hy).ne h.a (by decide))⟩
theorem RwL.pushR {B : Nat} {W W' : World} {o3 o4 o4' : Value} {own refs : List (Sl3 × List Ev)} {x : Sl3 × List Ev} (h : RwL B W o3 o4 own refs) (hx : OV encE 11 96 B W (slV x.1) x.2) (hg : W.grownBy W' o4.ownBlock) (ho : OV encSe 1 85 B W' o4' (refs ++ [x])) : RwL B W' o3 o4' own (refs ++ [x]) :=
 ⟨h.a.keep hg (h.a.ne h.b (by decide)), ho, fun y hy => (h.ra y hy).keep hg ((h.ra y hy).ne h.b (by decide)), fun y hy => by
  rcases List.mem_append.1 hy with hy | hy
  ·exact (h.rb y hy).keep hg ((h.rb y hy).ne h.b (by decide))
  ·rw [List.mem_singleton.1 hy]; exact hx.keep hg (hx.ne h.b (by decide))⟩
def unS (L : List (Sl3 × List Ev)) : List (Value × List Ev) := L.map fun x => (slV x.1, x.2)
theorem unS_snd (L : List (Sl3 × List Ev)) : (unS L).map Prod.snd = L.map Prod.snd := by unfold unS; simp
theorem LsE.un {W : World} {v : Value} {L : List (Sl3 × List Ev)} (h : LsE W v L) : EV encVs 1 W v (unS L) ∧ ∀ x ∈ unS L, EV encE 11 W x.1 x.2 := by
 refine ⟨h.ev.recode (by unfold unS; rw [List.map_map]; rfl), fun x hx => ?_⟩
 obtain ⟨y, hy, rfl⟩ := List.mem_map.1 hx
 exact h.rows y hy
theorem un_flat {L M : List (Sl3 × List Ev)} (e : M.map Prod.snd = L.map Prod.snd) (hok : ∀ x ∈ L, (∀ e ∈ x.2, EvOk e) ∧ x.2.length ≤ 30) (hl : L.length ≤ 8) : (∀ e ∈ flatR (unS M), EvOk e) ∧ (flatR (unS M)).length ≤ 240 ∧ (unS M).length ≤ 8 := by
 have hf : flatR (unS M) = (L.map Prod.snd).flatten := by rw [flatR_snd, unS_snd, e]
 refine ⟨fun x hx => ?_, ?_, ?_⟩
 ·rw [hf] at hx
  obtain ⟨l, hl, hxl⟩ := List.mem_flatten.1 hx
  obtain ⟨y, hy, rfl⟩ := List.mem_map.1 hl
  exact (hok y hy).1 x hxl
 ·rw [hf]
  have key : ∀ l : List (Sl3 × List Ev), (∀ x ∈ l, x.2.length ≤ 30) → (l.map Prod.snd).flatten.length ≤ 30 * l.length := by
   intro l
   induction l with
   | nil => simp
   | cons a l ih =>
    intro h
    have h1 := h a (by simp)
    have h2 := ih (fun x hx => h x (by simp [hx]))
    simp only [List.map_cons, List.flatten_cons, List.length_append, List.length_cons]
    omega
  have := key L (fun x hx => (hok x hx).2)
  omega
 ·have := congrArg List.length e
  unfold unS
  simp at this ⊢
  omega
set_option maxRecDepth 100000 in
set_option maxHeartbeats 6400000 in
theorem rows_ok (w : World) (v : Value) (L : List (Sl3 × List Ev)) (hL : LsE w v L) (hok : ∀ x ∈ L, (∀ e ∈ x.2, EvOk e) ∧ x.2.length ≤ 30) (hlen : L.length ≤ 8) (hU : LaidAt w) :
  Calls Tryz.prog 17 #[v] w fun r w' => r = .returned (.bool true) ∧ Below w.heap.size w w' := by
 obtain ⟨A, c, hA⟩ := hL.ev.shape
 subst hA
 obtain ⟨n, hn⟩ : ∃ n, L.length = n := ⟨_, rfl⟩
 have HN := Lib.hid hn
 have HOK := Lib.hid hok
 have HLE := Lib.hid hlen
 have HU := Lib.hid hU
 rw [hn] at hL hlen ⊢
 have HL := Lib.hid hL
 clear hL hok hn hU
 go_enter Tryz.func17, Tryz.ntmps17
 go_wp2
 go_loopg [3, 4, 24] n (fun k o3 o4 i wr => ∃ (j : Nat) (own refs : List (Sl3 × List Ev)), j + k = n ∧ i = .int .i64 j ∧ RwL w.heap.size wr o3 o4 own refs ∧ own.map Prod.snd = (L.take j).map Prod.snd ∧ refs.map Prod.snd = (L.take j).map Prod.snd ∧ Below w.heap.size w wr)
 case atStart => exact ⟨0, [], [], by omega, rfl, ⟨OV.nil _ _, OV.nil _ _, fun x h => (by cases h), fun x h => (by cases h)⟩, rfl, rfl, Below.refl _ _⟩
 case round =>
  obtain ⟨j, own, refs, hj, rfl, hr, he1, he2, hb⟩ := hrel
  have HJ := Lib.hid hj
  have HR := Lib.hid hr
  have HE := Lib.hid (And.intro he1 he2)
  have HB := Lib.hid hb
  clear hj hr he1 he2 hb
  have hlo : own.length ≤ 8 := by have := congrArg List.length HE.out.1; simp at this; have := HN.out; omega
  have hlr : refs.length ≤ 8 := by have := congrArg List.length HE.out.2; simp at this; have := HN.out; omega
  have HLO := Lib.hid (And.intro hlo hlr)
  by_cases hlt : j < n
  ·obtain ⟨b, off, c', hsl, hcc, hr⟩ := (HL.out.ev.below HB.out).row (by rw [HN.out]; omega)
   rw [HN.out] at hsl
   cases hsl
   obtain ⟨⟨⟨Ax, nx, cx⟩, xs⟩, hx⟩ : ∃ x, L[j]? = some x := ⟨_, List.getElem?_eq_getElem (by rw [HN.out]; exact hlt)⟩
   have hm := List.mem_of_getElem? hx
   have g0 := hr.se hx
   have HX := Lib.hid (HL.out.rows _ hm)
   have HXO := Lib.hid (HOK.out _ hm)
   have HTK := Lib.hid (show (L.take (j + 1)).map Prod.snd = (L.take j).map Prod.snd ++ [xs] from by rw [List.take_add_one, hx]; simp)
   dsimp only at g0 HX HXO
   unfold slV at HX
   dsimp only at HX
   clear hr hm hx hlo hlr
   go_upto_region 6 with fail
   go_wp2_with fail
   refine (clone_ev wr (.slice Ax nx cx) xs (HX.out.below HB.out) (by have := HXO.out.2; omega)).mono ?_
   rintro r w1 ⟨vo, rfl, oo, b1⟩
   obtain ⟨Ao, co, hvo⟩ := (oo.ev encE_len).shape
   obtain ⟨no, hno⟩ : ∃ m, xs.length = m := ⟨_, rfl⟩
   rw [hno] at hvo
   subst hvo
   have HOO := Lib.hid (oo.base_le HB.out.size)
   have HR1 := Lib.hid (HR.out.below b1)
   have HB1 := Lib.hid (bstep HB.out b1)
   have HNO := Lib.hid hno
   clear oo b1 hno g0
   go_wp2_with (at_builtin; refine wpList_app elemLE encSe_len encSe_one rfl _ _ rfl _ _ rfl rfl (HR1.out.a.alloc _) (EV.newL (xs := [((Ao, no, co), xs)]) (n := 1) (c := 1) encSe_len rfl rfl (Nat.le_refl _)) ?q1 ?q2 ?_)
   case q1 => have := HLO.out; simp; omega
   case q2 => have := HB1.out.size; simp; omega
   intro v3 w2 o2 g2
   have hal := bel_alloc w1 (.cells #[.slice Ao no co] 22)
   have HR2 := Lib.hid ((HR1.out.below hal).pushO (x := ((Ao, no, co), xs)) (HOO.out.below hal) g2 o2)
   have HB2 := Lib.hid ((bstep HB1.out hal).grown g2 (bstep HB1.out hal).size (fun g q => ((HR1.out.a.below hal).block g q).1))
   clear o2 g2 hal
   go_wp2_with fail
   refine (theirs_ok w2 (.slice Ax nx cx) xs (HX.out.below HB2.out) (by have := HXO.out.2; omega)).mono ?_
   rintro r w3 ⟨vt, rfl, ot, b3⟩
   obtain ⟨At, ct, hvt⟩ := (ot.ev encE_len).shape
   rw [HNO.out] at hvt
   subst hvt
   have HOT := Lib.hid (ot.base_le HB2.out.size)
   have HR3 := Lib.hid (HR2.out.below b3)
   have HB3 := Lib.hid (bstep HB2.out b3)
   clear ot b3
   go_wp2_with (at_builtin; refine wpList_app elemSRE encSe_len encSe_one rfl _ _ rfl _ _ rfl rfl (HR3.out.b.alloc _) (EV.newL (xs := [((At, no, ct), xs)]) (n := 1) (c := 1) encSe_len rfl rfl (Nat.le_refl _)) ?q1 ?q2 ?_)
   case q1 => have := HLO.out; simp; omega
   case q2 => have := HB3.out.size; simp; omega
   intro v4 w4 o4 g4
   have hal := bel_alloc w3 (.cells #[.slice At no ct] 85)
   have HR4 := Lib.hid ((HR3.out.below hal).pushR (x := ((At, no, ct), xs)) (HOT.out.below hal) g4 o4)
   have HB4 := Lib.hid ((bstep HB3.out hal).grown g4 (bstep HB3.out hal).size (fun g q => ((HR3.out.b.below hal).block g q).1))
   clear o4 g4 hal
   go_wp2
   go_roundg (gk - 1)
   case measure => have := HJ.out; omega
   case rel => exact ⟨j + 1, _, _, by have := HJ.out; omega, by go_num, HR4.out, by rw [List.map_append, HE.out.1, HTK.out]; rfl, by rw [List.map_append, HE.out.2, HTK.out]; rfl, HB4.out⟩
  ·obtain rfl : n = j := by have := HJ.out; omega
   have he := HE.out
   rw [List.take_of_length_le (Nat.le_of_eq HN.out)] at he
   have ha : LsE wr u3 own := ⟨HR.out.a.ev encSe_len, fun x hx => (HR.out.ra x hx).ev encE_len⟩
   have hbb : LsE wr u4 refs := ⟨HR.out.b.ev encSe_len, fun x hx => (HR.out.rb x hx).ev encE_len⟩
   have hlo2 : own.length = n := by have := congrArg List.length he.1; simpa [HN.out] using this
   have hlr2 : refs.length = n := by have := congrArg List.length he.2; simpa [HN.out] using this
   obtain ⟨A3, c3, h3⟩ := ha.ev.shape
   obtain ⟨A4, c4, h4⟩ := hbb.ev.shape
   rw [hlo2] at h3
   rw [hlr2] at h4
   subst h3 h4
   have HF := Lib.hid (show RwF wr (.slice A n c) (.slice A3 n c3) (.slice A4 n c4) L own refs from ⟨HL.out.below HB.out, ha, hbb, he.1, he.2, HOK.out, HLE.out, HU.out.below HB.out⟩)
   obtain ⟨k1, k2, k3⟩ := un_flat he.1 HOK.out HLE.out
   obtain ⟨m1, m2, m3⟩ := un_flat he.2 HOK.out HLE.out
   have HRO := Lib.hid (mrows_ok wr (.slice A3 n c3) (unS own) ha.un.1 ha.un.2 k1 (by omega) (by omega) (HU.out.below HB.out).uses)
   have HRR := Lib.hid (fun (W : World) (b : Below wr.heap.size wr W) => r12rows_ok W (.slice A4 n c4) (unS refs) (hbb.un.1.below b) (fun x hx => (hbb.un.2 x hx).below b) m1 (by omega) (by omega))
   have HSE := Lib.hid (show (unS own).map Prod.snd = (unS refs).map Prod.snd by rw [unS_snd, unS_snd, he.1, he.2])
   clear he ha hbb hlo2 hlr2 k1 k2 k3 m1 m2 m3 hlo hlr HR HE
   go_upto_region 8 with fail
   go_wp2_with fail
   refine HRO.out.mono ?_
   rintro r w2 ⟨v1, v2, cc, R, T, rfl, o1, o2, hres, b2⟩
   obtain ⟨Aa, ca, hva⟩ := (o1.ev encE_len).shape
   obtain ⟨na, hna⟩ : ∃ m, R.length = m := ⟨_, rfl⟩
   rw [hna] at hva
   subst hva
   have HNA := Lib.hid (show R.length = na ∧ R.length ≤ 65535 ∧ T.length ≤ 65535 from ⟨hna, hres.len⟩)
   have HO1 := Lib.hid o1
   have HO2 := Lib.hid (o2.ev encI_len)
   have HRS := Lib.hid hres
   have HB2 := Lib.hid b2
   clear o1 o2 hres b2 hna HRO
   go_upto_region 9 with fail
   go_wp2_with fail
   refine (HRR.out w2 HB2.out).mono ?_
   rintro r w3 ⟨v5, v6, R', T', c', rfl, o5, o6, hres, b3⟩
   obtain ⟨rfl, rfl, rfl⟩ := HRS.out.unique hres HSE.out
   have HO5 := Lib.hid (o5.ev encE_len)
   have HO6 := Lib.hid (o6.ev encI_len)
   have HO1' := Lib.hid (HO1.out.below b3)
   have HO2' := Lib.hid (HO2.out.below b3)
   have HB3 := Lib.hid (bstep HB2.out b3)
   clear o5 o6 hres b3 HB2 HO1 HO2
   go_upto_region 10 with fail
   go_wp2_with fail
   refine (theirs_ok w3 (.slice Aa na ca) R (HO1'.out.ev encE_len) (by have := HNA.out; omega)).mono ?_
   rintro r w4 ⟨v7, rfl, o7, b4⟩
   have HO7 := Lib.hid (o7.ev encE_len)
   have HO5' := Lib.hid (HO5.out.below b4)
   have HO6' := Lib.hid (HO6.out.below b4)
   have HO1 := Lib.hid (HO1'.out.below b4)
   have HO2 := Lib.hid (HO2'.out.below b4)
   have HB4 := Lib.hid (bstep HB3.out b4)
   clear o7 b4 HB3 HO1' HO2' HO5 HO6
   go_wp2_with fail
   refine (eq_rev w4 v7 v5 R HO7.out HO5'.out (by have := HNA.out; omega)).mono ?_
   rintro r w5 ⟨rfl, b5⟩
   have HO6 := Lib.hid (HO6'.out.below b5)
   have HO1' := Lib.hid (HO1.out.below b5)
   have HO2' := Lib.hid (HO2.out.below b5)
   have HB5 := Lib.hid (bstep HB4.out b5)
   clear b5 HB4 HO1 HO2 HO6' HO7 HO5'
   go_wp2_with fail
   refine (eq_int w5 v2 v6 T HO2'.out HO6.out (by have := HNA.out; omega)).mono ?_
   rintro r w6 ⟨rfl, b6⟩
   have HO1 := Lib.hid (HO1'.out.below b6)
   have HB6 := Lib.hid (bstep HB5.out b6)
   clear b6 HB5 HO1' HO2' HO6
   go_upto_if 66 with fail
   go_cut [] (fun wz => ∃ wq, wq = wz ∧ wq = w6)
   case first =>
    go_wp2
    go_meet
    exact ⟨_, rfl, rfl⟩
   case rest =>
    obtain ⟨wq, rfl, rfl⟩ := hcut
    refine (‹∀ (a : Act) (w : World), Code.wp _ _ _ a w → _› : ∀ (a : Act) (w : World), _ → _) _ _ (rows_t12 w wr wq A A3 A4 Aa c c3 c4 na ca n L own refs HN.out HF.out HB.out HB6.out ?_ ?_ ?_)
    ·have := HO1.out.wrt encE_len
     rwa [HNA.out.1] at this
    ·exact fun g hg => (HO1.out.block g hg).1
    ·have := HNA.out; omega
end Go.Proofs.YtalophngappkhaaGreatDoor
