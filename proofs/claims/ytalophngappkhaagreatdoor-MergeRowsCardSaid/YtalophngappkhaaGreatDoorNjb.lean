/- quantumref12.join: the walk. -/
import Derived.Test.YtalophngappkhaaGreatDoorNja
import Derived.Test.YtalophngappkhaaGreatDoorNra
import Derived.Test.YtalophngappkhaaGreatDoorZ12
import Derived.Test.YtalophngappkhaaGreatDoorYb
import Derived.BigRegion
set_option linter.unusedVariables false
set_option linter.unusedSimpArgs false
set_option linter.unusedSectionVars false
namespace Go.Proofs.YtalophngappkhaaGreatDoor
open Go Go.RowKit Go.Shelf
attribute [local go_sem] Oper.semAt_some
set_option maxRecDepth 100000 in
theorem rev_neq (x e : Ev) (w : World) : (binOp .neq 96 (evA x) (evA e)).run Tryz.prog w = .ok (.bool (!decide (x = e))) w := by
  unfold evA
  go_simp
  by_cases h : x = e
  · subst h
    simp
  · have hd : decide (x = e) = false := by simpa using h
    simp only [hd, Bool.not_false]
    repeat' split
    all_goals first | rfl | (exfalso; apply h; cases x; cases e; simp only at *; subst_vars; rfl)
set_option maxRecDepth 100000 in
set_option maxHeartbeats 6400000 in
theorem r12join_ok (w : World) (v : Value) (l : List Ev) (hv : EV encE 11 w v l) (h1 : ∀ e ∈ l, 1 ≤ e.seq) (hl : l.length ≤ 1000000) :
    Calls Tryz.prog 74 #[v] w fun r w' => ∃ v1 v2 R T c, r = .returned (.tuple #[v1, v2, .int .i64 c]) ∧ OV encE 11 96 w.heap.size w' v1 R ∧ OV encI 1 3 w.heap.size w' v2 T ∧ JoinRes l R T c ∧ Below w.heap.size w w' := by
  obtain ⟨A, c, hA⟩ := hv.shape
  subst hA
  obtain ⟨n, hn⟩ : ∃ n, l.length = n := ⟨_, rfl⟩
  have HN := Lib.hid hn
  have HH := Lib.hid h1
  rw [hn] at hv hl ⊢
  have HV := Lib.hid hv
  have HL := Lib.hid hl
  clear hv hn h1
  by_cases hb : 65535 < n
  · have d1 : decide ((65535 : Int) < (n : Int)) = true := by simp; omega
    have HBB := Lib.hid hb
    clear hb
    go_enter Tryz.func74, Tryz.ntmps74
    go_wp2
    go_ret3
    exact ⟨_, _, [], [], 5, rfl, OV.nil _ _, OV.nil _ _, .inl ⟨by rw [HN.out]; exact HBB.out, rfl, rfl, rfl⟩, Below.refl _ _⟩
  · have d1 : decide ((65535 : Int) < (n : Int)) = false := by simp; omega
    have HNB := Lib.hid (show l.length ≤ 65535 by rw [HN.out]; omega)
    clear hb hl
    go_enter Tryz.func74, Tryz.ntmps74
    go_wp2
    go_loopg [5, 6, 7] (n + 1) (fun k o5 o6 o7 wr => ∃ (R : List Ev) (T : List Int) (a : Int), leftS l a < k ∧ o7 = .int .i64 a ∧ SelP l R T a ∧ OV encE 11 96 w.heap.size wr o5 R ∧ OV encI 1 3 w.heap.size wr o6 T ∧ Below w.heap.size w wr)
    case atStart => exact ⟨[], [], 0, by have := HN.out; have : leftS l 0 ≤ l.length := List.countP_le_length; omega, rfl, SelP.nil HH.out, OV.nil _ _, OV.nil _ _, Below.refl _ _⟩
    case round =>
      obtain ⟨R, T, a, hk, rfl, hs, ho, ht, hbr⟩ := hrel
      have HK := Lib.hid hk
      have HS := Lib.hid hs
      have HO := Lib.hid ho
      have HT := Lib.hid ht
      have HB := Lib.hid hbr
      clear hk hs ho ht hbr
      obtain ⟨ws, hws⟩ : ∃ ws, ws = wr := ⟨_, rfl⟩
      subst hws
      go_upto_block 2 with fail
      go_cut [8, 9] (fun o8 o9 wz => ∃ (wq : World) (nx of q : Nat), wq = wz ∧ o8 = .int .i64 (nx : Nat) ∧ o9 = .int .i64 (of : Nat) ∧ SelI l a nx of ∧ ws.drewN q = wq)
      case first =>
        go_wp2
        go_loopg [8, 9, 10] n (fun k o8 o9 o10 wz => ∃ (j nx of q : Nat), j + k = n ∧ o10 = .int .i64 j ∧ o8 = .int .i64 (nx : Nat) ∧ o9 = .int .i64 (of : Nat) ∧ SelI (l.take j) a nx of ∧ ws.drewN q = wz)
        case atStart => exact ⟨0, 0, 0, 0, by omega, rfl, rfl, rfl, SelI.nil a, rfl⟩
        case round =>
          obtain ⟨j, nx, of, q, hj, rfl, rfl, rfl, hsi, rfl⟩ := hrel
          have HJ := Lib.hid hj
          have HI := Lib.hid hsi
          clear hj hsi
          by_cases hlt : j < n
          · obtain ⟨b, off, c', hsl, hcc, hr⟩ := (HV.out.below HB.out).row (by rw [HN.out]; omega)
            rw [HN.out] at hsl
            cases hsl
            obtain ⟨x, hx⟩ : ∃ x, l[j]? = some x := ⟨_, List.getElem?_eq_getElem (by rw [HN.out]; exact hlt)⟩
            have HTK := Lib.hid (show l.take (j + 1) = l.take j ++ [x] from by rw [List.take_add_one, hx]; rfl)
            have HTL := Lib.hid (show (l.take j).length = j from by rw [List.length_take]; have := HN.out; omega)
            have HR := Lib.hid hr
            obtain ⟨g0, -⟩ := hr.ev hx
            have hl6 := HL.out
            clear hr hx
            by_cases hle : x.seq ≤ a
            · have d1 : decide (x.seq ≤ a) = true := by simpa using hle
              have HS2 := Lib.hid (HI.out.low hle)
              clear hle
              go_wp2
              go_roundg (gk - 1)
              case measure => have := HJ.out; omega
              case rel => exact ⟨j + 1, nx, of, q, by have := HJ.out; omega, by go_num, rfl, rfl, by rw [HTK.out]; exact HS2.out, rfl⟩
            · have d1 : decide (x.seq ≤ a) = false := by simpa using hle
              have ha : a < x.seq := by omega
              have HA := Lib.hid ha
              obtain ⟨S, hS⟩ : ∃ S, x.seq = S := ⟨_, rfl⟩
              rw [hS] at g0 d1 HA
              have HSS := Lib.hid hS
              clear hle ha hS
              have i0 : (0 : Int) ≤ (j : Int) := by omega
              have i1 : (j : Int) < (n : Int) := by omega
              have i2 : wrap64 ((j : Int) + 1) = (j : Int) + 1 := IntWalk.wrap64_in _ (by omega)
              have i4 : wrap64 (j : Int) = (j : Int) := IntWalk.wrap64_in _ (by omega)
              rcases Nat.eq_zero_or_pos nx with hz | hz
              · subst hz
                have HS2 := Lib.hid (HI.out.first (x := x) (by rw [HSS.out]; exact HA.out))
                rw [HTL.out] at HS2
                go_wp2_with fail
                go_big_region
                go_wp2_with fail
                go_big_region
                go_wp2
                go_roundg (gk - 1)
                case measure => have := HJ.out; omega
                case rel => exact ⟨j + 1, j + 1, 1, _, by have := HJ.out; omega, by go_num, rfl, rfl, by rw [HTK.out]; exact HS2.out, rfl⟩
              · obtain ⟨p, rfl⟩ : ∃ p, nx = p + 1 := ⟨nx - 1, by omega⟩
                obtain ⟨e, he, ha, hm, hof, hp⟩ := HI.out.cur
                rw [HTL.out] at hp
                have HE := Lib.hid (And.intro he (And.intro ha (And.intro hm hof)))
                have hle : l[p]? = some e := by rw [List.getElem?_take_of_lt hp] at he; exact he
                obtain ⟨k0, -⟩ := HR.out.ev hle
                obtain ⟨E, hEE⟩ : ∃ E, e.seq = E := ⟨_, rfl⟩
                rw [hEE] at k0
                have HES := Lib.hid hEE
                have hofl := List.countP_le_length (p := fun x => decide (x.seq = e.seq)) (l := l.take j)
                have HOF := Lib.hid (show of ≤ 1000000 by rw [hof]; unfold cntS; rw [HTL.out] at hofl; omega)
                have hof6 := HOF.out
                clear he ha hm hof hle hEE hz hofl
                have p0 : (0 : Int) ≤ (p : Int) := by omega
                have p1 : (p : Int) < (n : Int) := by omega
                have p4 : wrap64 (p : Int) = (p : Int) := IntWalk.wrap64_in _ (by omega)
                have p6 : ((p : Int) + 1 == 0) = false := by simp; omega
                have q4 : wrap64 ((of : Int) + 1) = (of : Int) + 1 := IntWalk.wrap64_in _ (by omega)
                rcases Int.lt_trichotomy S E with h | h | h
                · have d2 : decide (S < E) = true := by simpa using h
                  have HS2 := Lib.hid (HI.out.less (x := x) HE.out.1 (by rw [HSS.out]; exact HA.out) (by rw [HSS.out, HES.out]; exact h))
                  rw [HTL.out] at HS2
                  clear h
                  go_wp2_with fail
                  go_big_region
                  go_wp2_with fail
                  go_big_region
                  go_wp2
                  go_roundg (gk - 1)
                  case measure => have := HJ.out; omega
                  case rel => exact ⟨j + 1, j + 1, 1, _, by have := HJ.out; omega, by go_num, rfl, rfl, by rw [HTK.out]; exact HS2.out, rfl⟩
                · subst h
                  have d2 : decide (S < S) = false := by simp
                  have HS2 := Lib.hid (HI.out.same (x := x) HE.out.1 (by rw [HSS.out, HES.out]))
                  go_wp2_with fail
                  go_big_region
                  go_wp2_with fail
                  go_big_region
                  go_wp2
                  go_roundg (gk - 1)
                  case measure => have := HJ.out; omega
                  case rel => exact ⟨j + 1, p + 1, of + 1, _, by have := HJ.out; omega, by go_num, rfl, by go_num, by rw [HTK.out]; exact HS2.out, rfl⟩
                · have d2 : decide (S < E) = false := by simp; omega
                  have d3 : (S == E) = false := by simp; omega
                  have HS2 := Lib.hid (HI.out.more (x := x) HE.out.1 (by rw [HSS.out, HES.out]; exact h))
                  clear h
                  go_wp2_with fail
                  go_big_region
                  go_wp2_with fail
                  go_big_region
                  go_wp2
                  go_roundg (gk - 1)
                  case measure => have := HJ.out; omega
                  case rel => exact ⟨j + 1, p + 1, of, _, by have := HJ.out; omega, by go_num, rfl, rfl, by rw [HTK.out]; exact HS2.out, rfl⟩
          · obtain rfl : n = j := by have := HJ.out; omega
            have HS2 := HI
            rw [List.take_of_length_le (Nat.le_of_eq HN.out)] at HS2
            go_wp2
            go_meet
            exact ⟨_, nx, of, q, rfl, rfl, rfl, HS2.out, rfl⟩
      case rest =>
        obtain ⟨wz, nx, of, q, rfl, rfl, rfl, hsi, hq⟩ := hcut
        have HI := Lib.hid hsi
        have bq : Below ws.heap.size ws (ws.drewN q) := below_drewN (Below.refl _ _) q
        rw [hq] at bq
        have HB2 := Lib.hid (bstep HB.out bq)
        have HO2 := Lib.hid (HO.out.below bq)
        have HT2 := Lib.hid (HT.out.below bq)
        clear hsi bq HB HO HT hq
        rcases Nat.eq_zero_or_pos nx with hz | hz
        · subst hz
          have HJR := Lib.hid (HS.out.done HNB.out HI.out.zero)
          go_wp2
          go_ret3
          exact ⟨_, _, R, T, 0, rfl, HO2.out, HT2.out, HJR.out, HB2.out⟩
        · obtain ⟨p, rfl⟩ : ∃ p, nx = p + 1 := ⟨nx - 1, by omega⟩
          obtain ⟨e, he, ha, hm, hof, hp⟩ := HI.out.cur
          have HST := Lib.hid (fun (h3 : ∀ x ∈ l, x.seq = e.seq → x = e) => HS.out.step (List.mem_of_getElem? he) ha hm h3)
          have HCF := Lib.hid (fun (x : Ev) (hx : x ∈ l) (hs : x.seq = e.seq) (hne : x ≠ e) => sel_conf HNB.out (List.mem_of_getElem? he) hx hs hne)
          have HOF := Lib.hid hof
          rw [HN.out] at hp
          obtain ⟨b, off, c', hsl, hcc, hr⟩ := (HV.out.below HB2.out).row (by rw [HN.out]; omega)
          rw [HN.out] at hsl
          cases hsl
          obtain ⟨g0, g1, g2, g3, g4, g5, g6, g7, g8, g9, g10⟩ := hr.ev he
          have hl6 := HL.out
          have p0 : (0 : Int) ≤ (p : Int) := by omega
          have p1 : (p : Int) < (n : Int) := by omega
          have p6 : ((p : Int) + 1 == 0) = false := by simp; omega
          have HEV := Lib.hid (evp_newT wz e 96)
          have HNE := Lib.hid (And.intro (fun g (h : u5.ownBlock = some g) => (HO2.out.block g h).2) (fun g (h : u6.ownBlock = some g) => (HT2.out.block g h).2))
          have HA := Lib.hid (bel_alloc wz (.cells #[.int .i64 e.seq, .int .i64 e.time, .int .u8 e.cpu, .int .u8 e.kind, .int .i64 e.task, .int .i64 e.grp, .int .i64 e.to, .int .i64 e.wt, .int .i64 e.ticks, .int .u64 e.mask, .int .i64 e.got] 96))
          clear hr he ha hm hof hz
          have p4 : wrap64 (p : Int) = (p : Int) := IntWalk.wrap64_in _ (by omega)
          go_upto_region 17 with fail
          have h1 := HEV.out
          have HB3 := Lib.hid (bstep HB2.out HA.out)
          have HO3 := Lib.hid (HO2.out.below HA.out)
          have HT3 := Lib.hid (HT2.out.below HA.out)
          clear HEV g0 g1 g2 g3 g4 g5 g6 g7 g8 g9 g10 p0 p1 p4 p6 HB2 HO2 HT2 HA
          generalize wz.alloc (.cells #[.int .i64 e.seq, .int .i64 e.time, .int .u8 e.cpu, .int .u8 e.kind, .int .i64 e.task, .int .i64 e.grp, .int .i64 e.to, .int .i64 e.wt, .int .i64 e.ticks, .int .u64 e.mask, .int .i64 e.got] 96) = wb at h1 HB3 HO3 HT3 ⊢
          generalize wz.heap.size = B at h1 HNE ⊢
          have HE := Lib.hid h1
          clear h1
          go_upto_block 4 with fail
          go_cut [] (fun wz => ∃ (wq : World) (q : Nat), wq = wz ∧ (∀ x ∈ l, x.seq = e.seq → x = e) ∧ wb.drewN q = wq)
          case first =>
            go_wp2
            go_loopg [12] n (fun k i wz => ∃ (j q : Nat), j + k = n ∧ i = .int .i64 j ∧ (∀ x ∈ l.take j, x.seq = e.seq → x = e) ∧ wb.drewN q = wz)
            case atStart => exact ⟨0, 0, by omega, rfl, fun x hx => by simp at hx, rfl⟩
            case round =>
              obtain ⟨j, q, hj, rfl, hse, rfl⟩ := hrel
              have HJ := Lib.hid hj
              have HSE := Lib.hid hse
              clear hj hse
              by_cases hlt : j < n
              · obtain ⟨x, hx⟩ : ∃ x, l[j]? = some x := ⟨_, List.getElem?_eq_getElem (by rw [HN.out]; exact hlt)⟩
                have hr : ER encE 11 wb b off l := ((HV.out.below HB3.out).row3 (by rw [HN.out]; omega))
                obtain ⟨g0, g1, g2, g3, g4, g5, g6, g7, g8, g9, g10⟩ := hr.ev hx
                have HMX := Lib.hid (List.mem_of_getElem? hx)
                have HTK := Lib.hid (show l.take (j + 1) = l.take j ++ [x] from by rw [List.take_add_one, hx]; rfl)
                have i0 : (0 : Int) ≤ (j : Int) := by omega
                have i1 : (j : Int) < (n : Int) := by omega
                have i2 : wrap64 ((j : Int) + 1) = (j : Int) + 1 := IntWalk.wrap64_in _ (by have := HL.out; omega)
                have i4 : wrap64 (j : Int) = (j : Int) := IntWalk.wrap64_in _ (by have := HL.out; omega)
                clear hr hx
                have e0 := HE.out.c0
                have e1 := HE.out.c1
                have e2 := HE.out.c2
                have e3 := HE.out.c3
                have e4 := HE.out.c4
                have e5 := HE.out.c5
                have e6 := HE.out.c6
                have e7 := HE.out.c7
                have e8 := HE.out.c8
                have e9 := HE.out.c9
                have e10 := HE.out.c10
                by_cases hs : x.seq = e.seq
                · have d1 : (x.seq == e.seq) = true := by simp [hs]
                  have hnq := rev_neq x e
                  by_cases hxe : x = e
                  · rw [show (!decide (x = e)) = false by simp [hxe]] at hnq
                    unfold evA at hnq
                    have HS2 := Lib.hid (show ∀ y ∈ l.take (j + 1), y.seq = e.seq → y = e from fun y hy hys => by
                      rw [HTK.out] at hy
                      rcases List.mem_append.1 hy with hy | hy
                      · exact HSE.out y hy hys
                      · rw [List.mem_singleton.1 hy]; exact hxe)
                    clear hs hxe
                    go_wp2_with fail
                    go_big_region
                    go_wp2
                    go_roundg (gk - 1)
                    case measure => have := HJ.out; omega
                    case rel => exact ⟨j + 1, _, by have := HJ.out; omega, by go_num, HS2.out, rfl⟩
                  · rw [show (!decide (x = e)) = true by simp [hxe]] at hnq
                    unfold evA at hnq
                    have HJR := Lib.hid (HCF.out x HMX.out hs hxe)
                    clear hs hxe
                    go_wp2_with fail
                    go_big_region
                    go_wp2
                    go_ret3
                    exact ⟨_, _, [], [], 120, rfl, OV.nil _ _, OV.nil _ _, HJR.out, by first | exact below_drewN HB3.out _ | exact below_drew (below_drewN HB3.out _)⟩
                · have d1 : (x.seq == e.seq) = false := by simp [hs]
                  have HS2 := Lib.hid (show ∀ y ∈ l.take (j + 1), y.seq = e.seq → y = e from fun y hy hys => by
                    rw [HTK.out] at hy
                    rcases List.mem_append.1 hy with hy | hy
                    · exact HSE.out y hy hys
                    · rw [List.mem_singleton.1 hy] at hys; exact absurd hys hs)
                  clear hs
                  go_wp2_with fail
                  go_big_region
                  go_wp2
                  go_roundg (gk - 1)
                  case measure => have := HJ.out; omega
                  case rel => exact ⟨j + 1, _, by have := HJ.out; omega, by go_num, HS2.out, rfl⟩
              · obtain rfl : n = j := by have := HJ.out; omega
                have HS2 := HSE
                rw [List.take_of_length_le (Nat.le_of_eq HN.out)] at HS2
                go_wp2
                go_meet
                exact ⟨_, q, rfl, HS2.out, rfl⟩
          case rest =>
            obtain ⟨wy, q, rfl, hse, hq⟩ := hcut
            have HST2 := Lib.hid (HST.out hse)
            have bq : Below wb.heap.size wb (wb.drewN q) := below_drewN (Below.refl _ _) q
            rw [hq] at bq
            have HBL := HE.out.lt
            have HE4 := Lib.hid (HE.out.below bq HBL)
            have HB4 := Lib.hid (bstep HB3.out bq)
            have HO4 := Lib.hid (HO3.out.below bq)
            have HT4 := Lib.hid (HT3.out.below bq)
            have HBL4 := Lib.hid (Nat.lt_of_lt_of_le HBL bq.size)
            clear hse bq HB3 HO3 HT3 hq HE HBL HST
            have e0 := HE4.out.c0
            have e1 := HE4.out.c1
            have e2 := HE4.out.c2
            have e3 := HE4.out.c3
            have e4 := HE4.out.c4
            have e5 := HE4.out.c5
            have e6 := HE4.out.c6
            have e7 := HE4.out.c7
            have e8 := HE4.out.c8
            have e9 := HE4.out.c9
            have e10 := HE4.out.c10
            go_wp2_with (at_builtin; refine wpList_app elemREv encE_len encE_one rfl _ _ rfl _ _ rfl rfl (HO4.out.alloc _) (EV.newL (xs := [e]) (n := 1) (c := 1) encE_len rfl rfl (Nat.le_refl _)) ?q1 ?q2 ?_)
            case q1 => have h1 := HS.out.len; have h2 := HN.out; have h3 := HL.out; simp; omega
            case q2 => have := HB4.out.size; simp; omega
            intro v' w8 o8 g8
            have hal := bel_alloc wy (.cells #[.int .i64 e.seq, .int .i64 e.time, .int .u8 e.cpu, .int .u8 e.kind, .int .i64 e.task, .int .i64 e.grp, .int .i64 e.to, .int .i64 e.wt, .int .i64 e.ticks, .int .u64 e.mask, .int .i64 e.got] 96)
            have HO5 := Lib.hid o8
            have HB5 := Lib.hid ((bstep HB4.out hal).grown g8 (bstep HB4.out hal).size (fun g q => (HO4.out.block g q).1))
            have HT5 := Lib.hid ((HT4.out.below hal).keep g8 ((HT4.out.below hal).ne (HO4.out.below hal) (by decide)))
            have hlt2 := Nat.lt_of_lt_of_le HBL4.out hal.size
            have HE5 := Lib.hid (show EvP w8 B e from fun j u hu => (World.cell?_of_block (a := ⟨B, j, none⟩) (g8.block B hlt2 (fun h => by have := HNE.out.1 B h.symm; omega))).trans ((HE4.out.below hal HBL4.out) j u hu))
            clear o8 g8 hal hlt2 e0 e1 e2 e3 e4 e5 e6 e7 e8 e9 e10 HO4 HB4 HT4 HE4 HBL4
            have f0 := HE5.out.c0
            by_cases hgt : 1 < of
            · have d5 : decide ((1 : Int) < (of : Int)) = true := by simp; omega
              have HS3 := Lib.hid (show SelP l (R ++ [e]) (T ++ [e.seq]) e.seq by have := HST2.out.1; rwa [← HOF.out, if_pos hgt] at this)
              clear hgt
              go_wp2_with (at_builtin; refine wpList_app elemI encI_len encI_one rfl _ _ rfl _ _ rfl rfl (HT5.out.alloc _) (EV.newL (xs := [e.seq]) (n := 1) (c := 1) encI_len rfl rfl (Nat.le_refl _)) ?q1 ?q2 ?_)
              case q1 => have h1 := HS.out.len; have h2 := HN.out; have h3 := HL.out; simp; omega
              case q2 => have := HB5.out.size; simp; omega
              intro v2 w9 o9 g9
              have hal := bel_alloc w8 (.cells #[.int .i64 e.seq] 3)
              have HT6 := Lib.hid o9
              have HB6 := Lib.hid ((bstep HB5.out hal).grown g9 (bstep HB5.out hal).size (fun g q => (HT5.out.block g q).1))
              have HO6 := Lib.hid ((HO5.out.below hal).keep g9 ((HO5.out.below hal).ne (HT5.out.below hal) (by decide)))
              have k0 : w9.cell? ⟨B, 0, none⟩ = some (.int .i64 e.seq) := (World.cell?_of_block (a := ⟨B, 0, none⟩) (g9.block B (Nat.lt_of_lt_of_le HE5.out.lt hal.size) (fun h => by have := HNE.out.2 B h.symm; omega))).trans (HE5.out.below hal HE5.out.lt).c0
              clear o9 g9 hal f0
              go_wp2
              go_roundg (gk - 1)
              case measure => have := HK.out; omega
              case rel => exact ⟨R ++ [e], T ++ [e.seq], e.seq, by have := HK.out; have := HST2.out.2; omega, rfl, HS3.out, HO6.out, HT6.out, HB6.out⟩
            · have d5 : decide ((1 : Int) < (of : Int)) = false := by simp; omega
              have HS3 := Lib.hid (show SelP l (R ++ [e]) T e.seq by have := HST2.out.1; rwa [← HOF.out, if_neg hgt] at this)
              clear hgt
              go_wp2
              go_roundg (gk - 1)
              case measure => have := HK.out; omega
              case rel => exact ⟨R ++ [e], T, e.seq, by have := HK.out; have := HST2.out.2; omega, rfl, HS3.out, HO5.out, HT5.out, HB5.out⟩
end Go.Proofs.YtalophngappkhaaGreatDoor
