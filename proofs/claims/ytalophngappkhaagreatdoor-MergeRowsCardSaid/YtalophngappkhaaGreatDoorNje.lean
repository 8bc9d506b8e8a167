/- quantumref12.Split. -/
import Derived.Test.YtalophngappkhaaGreatDoorNjd
import Derived.Test.YtalophngappkhaaGreatDoorZ21
import Derived.Test.YtalophngappkhaaGreatDoorZ28
set_option linter.unusedVariables false
set_option linter.unusedSimpArgs false
set_option linter.unusedSectionVars false
namespace Go.Proofs.YtalophngappkhaaGreatDoor
open Go Go.RowKit Go.Shelf
attribute [local go_sem] Oper.semAt_some

/-- A slice whose elements are slices, with what they read as. -/
def encSe (x : Sl3 × List Ev) : List Value := [.slice x.1.1 x.1.2.1 x.1.2.2]
theorem encSe_len (x : Sl3 × List Ev) : (encSe x).length = 1 := rfl
theorem encSe_one : ∀ x, ∀ u ∈ encSe x, u.oneCell' = true := by intro x u hu; simp [encSe] at hu; subst hu; rfl
theorem ER.se {w : World} {b off i : Nat} {l : List (Sl3 × List Ev)} (h : ER encSe 1 w b off l) {x : Sl3 × List Ev} (hx : l[i]? = some x) : w.cell? ⟨b, off + i, none⟩ = some (.slice x.1.1 x.1.2.1 x.1.2.2) := by
  have := h i x hx 0 (.slice x.1.1 x.1.2.1 x.1.2.2) rfl
  simpa using this
theorem elemSRE : ElemT Tryz.prog 103 85 1 24 := ⟨Tryz.underlying103, by
  have h : (Tryz.prog.info? 85).map (fun i => (i.zero, i.size, i.bytes)) = some (some (.slice none 0 0), 1, 24) := by kernel_rfl
  obtain ⟨i, h1, h2, h3, h4⟩ := info_parts h
  exact ⟨i, _, h1, h2, h3, h4, rfl⟩, by omega, by omega⟩
/-- The first n rows of a split, in memory from B on. -/
def SplR (B : Nat) (W : World) (rows : List (Sl3 × List Ev)) (n : Nat) (l : List Ev) : Prop := rows.length = n ∧ ∀ q x, rows[q]? = some x → x.2 = cpuL l q ∧ OV encE 11 96 B W (slV x.1) x.2
theorem SplR.below {B : Nat} {W W' : World} {rows : List (Sl3 × List Ev)} {n : Nat} {l : List Ev} (h : SplR B W rows n l) (hb : Below W.heap.size W W') : SplR B W' rows n l := ⟨h.1, fun q x hx => ⟨(h.2 q x hx).1, (h.2 q x hx).2.below hb⟩⟩
theorem SplR.nil (B : Nat) (W : World) (l : List Ev) : SplR B W [] 0 l := ⟨rfl, fun q x hx => by simp at hx⟩
theorem SplR.push {B B2 : Nat} {W W' : World} {rows : List (Sl3 × List Ev)} {n : Nat} {l : List Ev} {x : Sl3 × List Ev} {o : Value} {xs : List (Sl3 × List Ev)} (h : SplR B W rows n l) (hx : OV encE 11 96 B W (slV x.1) x.2) (hq : x.2 = cpuL l n)
    (ho : OV encSe 1 85 B2 W o xs) (hg : W.grownBy W' o.ownBlock) : SplR B W' (rows ++ [x]) (n + 1) l := by
  refine ⟨by simp [h.1], fun q y hy => ?_⟩
  rcases Nat.lt_or_ge q rows.length with hql | hql
  · rw [List.getElem?_append_left hql] at hy
    obtain ⟨h1, h2⟩ := h.2 q y hy
    exact ⟨h1, h2.keep hg (h2.ne ho (by decide))⟩
  · rw [List.getElem?_append_right hql] at hy
    have h0 := (List.getElem?_eq_some_iff.1 hy).1
    simp at h0
    obtain rfl : q = n := by have := h.1; omega
    rw [show q - rows.length = 0 by have := h.1; omega] at hy
    simp at hy
    subst hy
    exact ⟨hq, hx.keep hg (hx.ne ho (by decide))⟩
theorem cpuL_take {l : List Ev} {t q : Nat} {e : Ev} (h : l[t]? = some e) : cpuL (l.take (t + 1)) q = cpuL (l.take t) q ++ (if e.cpu = (q : Int) then [e] else []) := by
  unfold cpuL
  rw [List.take_add_one, h, List.filter_append]
  by_cases hc : e.cpu = (q : Int) <;> simp [hc]
theorem cpuL_len (l : List Ev) (q : Nat) : (cpuL l q).length ≤ l.length := List.length_filter_le _ _
set_option maxRecDepth 100000 in
set_option maxHeartbeats 6400000 in
theorem r12split_ok (w : World) (v : Value) (l : List Ev) (hv : EV encE 11 w v l) (ho : ∀ e ∈ l, EvOk e) (hl : l.length ≤ 1000000) :
    Calls Tryz.prog 52 #[v] w fun r w' => Below w.heap.size w w' ∧ ((¬ RowM l ∧ r = .returned (.tuple #[.slice none 0 0, .int .i64 121])) ∨
      (RowM l ∧ ∃ v' rows, r = .returned (.tuple #[v', .int .i64 0]) ∧ OV encSe 1 85 w.heap.size w' v' rows ∧ SplR w.heap.size w' rows 64 l)) := by
  obtain ⟨A, c, hA⟩ := hv.shape
  subst hA
  obtain ⟨n, hn⟩ : ∃ n, l.length = n := ⟨_, rfl⟩
  have HN := Lib.hid hn
  have HO := Lib.hid ho
  have HRO := Lib.hid (r12row_ok w _ l hv ho hl)
  rw [hn] at hv hl HRO ⊢
  have HV := Lib.hid hv
  have HL := Lib.hid hl
  clear hv hn ho hl
  go_enter Tryz.func52, Tryz.ntmps52
  go_wp2_with fail
  refine HRO.out.mono ?_
  rintro r w1 ⟨bb, rfl, hbb, b1⟩
  have HBB := Lib.hid hbb
  have HB1 := Lib.hid b1
  have HV1 := Lib.hid (HV.out.below b1)
  clear hbb b1 HRO HV
  cases bb with
  | false =>
    have HNR := Lib.hid (show ¬ RowM l from fun h => absurd (HBB.out.2 h) (by simp))
    go_wp2
    go_ret2
    exact ⟨HB1.out, .inl ⟨HNR.out, rfl⟩⟩
  | true =>
    have HRM := Lib.hid (HBB.out.1 rfl)
    go_wp2
    go_loopg [4, 5] 64 (fun k o i wr => ∃ (j : Nat) (rows : List (Sl3 × List Ev)), j + k = 64 ∧ i = .int .i64 j ∧ OV encSe 1 85 w1.heap.size wr o rows ∧ SplR w.heap.size wr rows j l ∧ Below w1.heap.size w1 wr)
    case atStart => exact ⟨0, [], by omega, rfl, OV.nil _ _, SplR.nil _ _ _, Below.refl _ _⟩
    case round =>
      obtain ⟨j, rows, hj, rfl, ho, hs, hb⟩ := hrel
      have HJ := Lib.hid hj
      have HOV := Lib.hid ho
      have HS := Lib.hid hs
      have HB := Lib.hid hb
      clear hj ho hs hb
      by_cases hlt : j < 64
      · obtain ⟨ws, hws⟩ : ∃ ws, ws = wr := ⟨_, rfl⟩
        subst hws
        have d1 : decide ((j : Int) < 64) = true := by simp; omega
        have d2 : decide (j < 64) = true := by simp; omega
        go_wp2
        go_loopg [6, 7] n (fun k o i wq => ∃ t : Nat, t + k = n ∧ i = .int .i64 t ∧ OV encE 11 96 ws.heap.size wq o (cpuL (l.take t) j) ∧ Below ws.heap.size ws wq)
        case atStart => exact ⟨0, by omega, rfl, OV.nil _ _, Below.refl _ _⟩
        case round =>
          obtain ⟨t, ht, rfl, ho, hb⟩ := hrel
          have HTT := Lib.hid ht
          have HOW := Lib.hid ho
          have HBQ := Lib.hid hb
          clear ht ho hb
          have hl6 := HL.out
          by_cases hlt2 : t < n
          · obtain ⟨b, off, c', hsl, hcc, hr⟩ := ((HV1.out.below HB.out).below HBQ.out).row (by rw [HN.out]; omega)
            rw [HN.out] at hsl
            cases hsl
            obtain ⟨e, he⟩ : ∃ e, l[t]? = some e := ⟨_, List.getElem?_eq_getElem (by rw [HN.out]; exact hlt2)⟩
            have hoe := HO.out e (List.mem_of_getElem? he)
            have hc0 := hoe.cpu.1
            have hc1 := hoe.cpu.2
            obtain ⟨g0, g1, g2, g3, g4, g5, g6, g7, g8, g9, g10⟩ := hr.ev he
            have HT := Lib.hid (cpuL_take (q := j) he)
            have HLN := Lib.hid (Nat.le_trans (cpuL_len (l.take t) j) (by rw [List.length_take]; exact Nat.min_le_left t _))
            have hw : wrap64 e.cpu = e.cpu := IntWalk.wrap64_in _ (by omega)
            clear hr he hoe
            by_cases hce : e.cpu = (j : Int)
            · have d3 : (e.cpu == (j : Int)) = true := by simp [hce]
              have HT2 := Lib.hid (show cpuL (l.take (t + 1)) j = cpuL (l.take t) j ++ [e] by rw [HT.out, if_pos hce])
              clear hce
              go_wp2_with (at_builtin; refine wpList_app elemREv encE_len encE_one rfl _ _ rfl _ _ rfl rfl (HOW.out.alloc _) (EV.newL (xs := [e]) (n := 1) (c := 1) encE_len rfl rfl (Nat.le_refl _)) ?q1 ?q2 ?_)
              case q1 => have := HLN.out; simp; omega
              case q2 => have := HBQ.out.size; simp; omega
              intro v' w3 o3 g3'
              rw [← HT2.out] at o3
              have hal := bel_alloc wr (.cells #[.int .i64 e.seq, .int .i64 e.time, .int .u8 e.cpu, .int .u8 e.kind, .int .i64 e.task, .int .i64 e.grp, .int .i64 e.to, .int .i64 e.wt, .int .i64 e.ticks, .int .u64 e.mask, .int .i64 e.got] 96)
              have HO3 := Lib.hid o3
              have HB3 := Lib.hid ((bstep HBQ.out hal).grown g3' (bstep HBQ.out hal).size (fun g q => (HOW.out.block g q).1))
              clear o3 g3' hal g0 g1 g2 g3 g4 g5 g6 g7 g8 g9 g10
              go_wp2
              go_roundg (n - (t + 1))
              case measure => have := HTT.out; omega
              case rel => exact ⟨t + 1, by have := HTT.out; omega, by go_num, HO3.out, HB3.out⟩
            · have d3 : (e.cpu == (j : Int)) = false := by simp [hce]
              have HT2 := Lib.hid (show cpuL (l.take (t + 1)) j = cpuL (l.take t) j by rw [HT.out, if_neg hce, List.append_nil])
              clear hce
              go_wp2
              go_roundg (n - (t + 1))
              case measure => have := HTT.out; omega
              case rel => exact ⟨t + 1, by have := HTT.out; omega, by go_num, by rw [HT2.out]; exact HOW.out, HBQ.out⟩
          · obtain rfl : n = t := by have := HTT.out; omega
            have how := HOW.out
            rw [List.take_of_length_le (Nat.le_of_eq HN.out)] at how
            obtain ⟨A6, c6, h6⟩ := (how.ev encE_len).shape
            obtain ⟨m, hm⟩ : ∃ m, (cpuL l j).length = m := ⟨_, rfl⟩
            rw [hm] at h6
            subst h6
            clear hm
            have HX := Lib.hid (show OV encE 11 96 w.heap.size wr (slV ((A6, m, c6), cpuL l j).1) ((A6, m, c6), cpuL l j).2 from how.base_le (Nat.le_trans HB1.out.size HB.out.size))
            have HOV2 := Lib.hid (HOV.out.below HBQ.out)
            have HSQ := Lib.hid (HS.out.below HBQ.out)
            clear how
            go_wp2_with (at_builtin; refine wpList_app elemSRE encSe_len encSe_one rfl _ _ rfl _ _ rfl rfl (HOV2.out.alloc _) (EV.newL (xs := [((A6, m, c6), cpuL l j)]) (n := 1) (c := 1) encSe_len rfl rfl (Nat.le_refl _)) ?q1 ?q2 ?_)
            case q1 => have := HS.out.1; simp; omega
            case q2 => have h1 := HBQ.out.size; have h2 := HB.out.size; have h3 := HB1.out.size; simp; omega
            intro v' w3 o3 g3
            have hal := bel_alloc wr (.cells #[.slice A6 m c6] 85)
            have HO3 := Lib.hid o3
            have HS3 := Lib.hid ((HSQ.out.below hal).push (x := ((A6, m, c6), cpuL l j)) (HX.out.below hal) rfl (HOV2.out.below hal) g3)
            have HB3 := Lib.hid ((bstep (bstep HB.out HBQ.out) hal).grown g3 (bstep (bstep HB.out HBQ.out) hal).size (fun g q => ((HOV2.out.below hal).block g q).1))
            clear o3 g3 hal
            go_wp2
            go_roundg (64 - (j + 1))
            case measure => have := HJ.out; omega
            case rel => exact ⟨j + 1, _, by have := HJ.out; omega, by go_num, HO3.out, HS3.out, HB3.out⟩
      · obtain rfl : j = 64 := by have := HJ.out; omega
        have HB2 := Lib.hid (bstep HB1.out HB.out)
        go_wp2
        go_ret2
        exact ⟨HB2.out, .inr ⟨HRM.out, _, rows, rfl, HOV.out.base_le HB1.out.size, HS.out⟩⟩
end Go.Proofs.YtalophngappkhaaGreatDoor
