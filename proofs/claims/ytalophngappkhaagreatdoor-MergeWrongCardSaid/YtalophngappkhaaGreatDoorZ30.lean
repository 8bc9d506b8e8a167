/- quantumlaw12.Cut: the walk. -/
import Derived.Test.YtalophngappkhaaGreatDoorZ28
import Derived.Deep.CutBlock
import Derived.Deep.DeepCutAuto
set_option linter.unusedVariables false
set_option linter.unusedSimpArgs false
set_option linter.unusedSectionVars false
namespace Go.Proofs.YtalophngappkhaaGreatDoor
open Go Go.RowKit Go.Shelf
attribute [local go_sem] Oper.semAt_some

set_option maxRecDepth 100000 in
set_option maxHeartbeats 6400000 in
theorem cut_ok (w : World) (v : Value) (tr : List Ev) (size more : Int) (hv : EV encE 11 w v tr) (ht : Tr tr) (s1 : 0 ≤ size) (s2 : size ≤ 255) (m1 : 0 ≤ more) (m2 : more ≤ 255) :
    Calls Tryz.prog 21 #[v, .int .u8 size, .int .u8 more] w fun r w' => ∃ v' xs nx, r = .returned v' ∧ CutP w w' v' tr xs nx := by
  have HV := Lib.hid hv
  have HT := Lib.hid ht
  obtain ⟨A, c, hA⟩ := hv.shape
  subst hA
  obtain ⟨L, hL⟩ : ∃ L, tr.length = L := ⟨_, rfl⟩
  have HL := Lib.hid (show tr.length = L ∧ L ≤ 40 from ⟨hL, by have := ht.len; omega⟩)
  rw [hL] at HV ⊢
  clear hv ht hL
  obtain ⟨n, hn⟩ : ∃ n : Nat, 1 + size % 6 = (n : Int) := ⟨(1 + size % 6).toNat, by omega⟩
  have hn1 : 1 ≤ n := by omega
  have hn6 : n ≤ 6 := by omega
  have hmd : 0 ≤ size % 6 := by omega
  go_enter Tryz.func21, Tryz.ntmps21
  go_upto_region 3 with fail
  have HN := Lib.hid hn
  clear hn hmd s1 s2
  have hL40 := HL.out.2
  go_upto_block 0 with fail
  go_cut [7] (fun o wz => ∃ xs, CutW w wz o xs ∧ CutI tr 4 0 (xs.map Prod.snd))
  case first =>
    go_wp2
    go_loopg [7, 19] 4 (fun k o i wr => ∃ (c : Nat) (xs : List (Sl3 × Bck)), c + k = 4 ∧ i = .int .u8 c ∧ CutW w wr o xs ∧ CutI tr c 0 (xs.map Prod.snd))
    case atStart => exact ⟨0, [], by omega, rfl, CutW.nil w, CutI.nil tr⟩
    case round =>
      obtain ⟨q, xs, hq, rfl, hcw, hci⟩ := hrel
      have HQ := Lib.hid hq
      have HCW := Lib.hid hcw
      have HCI := Lib.hid hci
      clear hq hcw hci
      by_cases hlt : q < 4
      · obtain ⟨ws, hws⟩ : ∃ ws, ws = wr := ⟨_, rfl⟩
        rw [← hws]
        rw [← hws] at HCW
        clear hws
        have hd4 : decide (q < 4) = true := by simpa using hlt
        have hd4' : decide ((q : Int) < 4) = true := by simp; omega
        go_upto_block 2 with fail
        go_cut [10] (fun o wz => OV encE 11 28 ws.heap.size wz o (cpuL tr q) ∧ Below ws.heap.size ws wz)
        case first =>
          go_wp2
          go_loopg [10, 24] L (fun k o i wr => ∃ j : Nat, j + k = L ∧ i = .int .i64 j ∧ OV encE 11 28 ws.heap.size wr o (cpuL (tr.take j) q) ∧ Below ws.heap.size ws wr)
          case atStart => exact ⟨0, by omega, rfl, OV.nil _ _, Below.refl _ _⟩
          case round =>
            obtain ⟨j, hj, rfl, ho, hb⟩ := hrel
            have HJ := Lib.hid hj
            have HO := Lib.hid ho
            have HB := Lib.hid hb
            clear hj ho hb
            by_cases hjl : j < L
            · obtain ⟨b, off, c', hsl, hcc, hr⟩ := (HV.out.below (bstep HCW.out.bel HB.out)).row (by rw [HL.out.1]; omega)
              rw [HL.out.1] at hsl
              cases hsl
              obtain ⟨e, hev⟩ : ∃ e, tr[j]? = some e := ⟨_, List.getElem?_eq_getElem (by rw [HL.out.1]; exact hjl)⟩
              obtain ⟨g0, g1, g2, g3, g4, g5, g6, g7, g8, g9, g10⟩ := hr.ev hev
              have HTK := Lib.hid (cpuq_take q hev)
              have HEV := Lib.hid (evp_new wr e)
              have HA := Lib.hid (bel_alloc wr (.cells #[.int .i64 e.seq, .int .i64 e.time, .int .u8 e.cpu, .int .u8 e.kind, .int .i64 e.task, .int .i64 e.grp, .int .i64 e.to, .int .i64 e.wt, .int .i64 e.ticks, .int .u64 e.mask, .int .i64 e.got] 28))
              clear hr hcc hev
              go_upto_region 10 with fail
              obtain ⟨B, hB⟩ : ∃ B, wr.heap.size = B := ⟨_, rfl⟩
              have h1 := HEV.out
              have h2 := HA.out
              clear HEV HA g0 g1 g2 g3 g4 g5 g6 g7 g8 g9 g10
              generalize wr.alloc (.cells #[.int .i64 e.seq, .int .i64 e.time, .int .u8 e.cpu, .int .u8 e.kind, .int .i64 e.task, .int .i64 e.grp, .int .i64 e.to, .int .i64 e.wt, .int .i64 e.ticks, .int .u64 e.mask, .int .i64 e.got] 28) = wa at h1 h2 ⊢
              rw [hB] at h1 ⊢
              have HEV := Lib.hid h1
              have HB2 := Lib.hid (bstep HB.out h2)
              have HO2 := Lib.hid (HO.out.below h2)
              have e2 := h1.c2
              clear h1 h2 HB HO hB
              by_cases hc : e.cpu = (q : Int)
              · have d1 : (e.cpu == (q : Int)) = true := by simpa using hc
                have HTK2 := Lib.hid (show cpuL (tr.take (j + 1)) q = cpuL (tr.take j) q ++ [e] by rw [HTK.out, if_pos hc])
                have HLN := Lib.hid (show (cpuL (tr.take j) q).length ≤ j by unfold cpuL; exact Nat.le_trans (List.length_filter_le _ _) (by rw [List.length_take]; omega))
                obtain ⟨e0, e1, e3, e4, e5, e6, e7, e8, e9⟩ : _ ∧ _ ∧ _ ∧ _ ∧ _ ∧ _ ∧ _ ∧ _ ∧ _ := ⟨HEV.out.c0, HEV.out.c1, HEV.out.c3, HEV.out.c4, HEV.out.c5, HEV.out.c6, HEV.out.c7, HEV.out.c8, HEV.out.c9⟩
                have e10 := HEV.out.c10
                clear hc HTK
                go_wp2_with (at_builtin; refine wpList_app elemE encE_len encE_one rfl _ _ rfl _ _ rfl rfl (HO2.out.alloc _) (EV.newL (xs := [e]) (n := 1) (c := 1) encE_len rfl rfl (Nat.le_refl _)) ?q1 ?q2 ?_)
                case q1 => have := HLN.out; simp; omega
                case q2 => have := HB2.out.size; simp; omega
                intro v' w8 o8 g8
                have HO8 := Lib.hid o8
                have hb8 := bstep HB2.out (bel_alloc wa (.cells #[.int .i64 e.seq, .int .i64 e.time, .int .u8 e.cpu, .int .u8 e.kind, .int .i64 e.task, .int .i64 e.grp, .int .i64 e.to, .int .i64 e.wt, .int .i64 e.ticks, .int .u64 e.mask, .int .i64 e.got] 28))
                have HB8 := Lib.hid (hb8.grown g8 hb8.size (fun g q => (HO2.out.block g q).1))
                clear o8 g8 hb8 e0 e1 e2 e3 e4 e5 e6 e7 e8 e9 e10
                go_wp2
                go_roundg (L - (j + 1))
                case measure => have := HJ.out; omega
                case rel => exact ⟨j + 1, by have := HJ.out; omega, by go_num, by rw [HTK2.out]; exact HO8.out, HB8.out⟩
              · have d1 : (e.cpu == (q : Int)) = false := by simpa using hc
                have HTK2 := Lib.hid (show cpuL (tr.take (j + 1)) q = cpuL (tr.take j) q by rw [HTK.out, if_neg hc, List.append_nil])
                clear hc HTK
                go_wp2
                go_roundg (L - (j + 1))
                case measure => have := HJ.out; omega
                case rel => exact ⟨j + 1, by have := HJ.out; omega, by go_num, by rw [HTK2.out]; exact HO2.out, HB2.out⟩
            · obtain rfl : L = j := by have := HJ.out; omega
              go_wp2
              go_meet
              exact ⟨by rw [List.take_of_length_le (Nat.le_of_eq HL.out.1)] at HO; exact HO.out, HB.out⟩
        case rest =>
          obtain ⟨ho, hb⟩ := hcut
          obtain ⟨m, hm⟩ : ∃ m, (cpuL tr q).length = m := ⟨_, rfl⟩
          have HM := Lib.hid (show (cpuL tr q).length = m ∧ m ≤ 40 from ⟨hm, by have := HL.out; have h2 := List.length_filter_le (fun e => decide (e.cpu = (q : Int))) tr; unfold cpuL at hm; omega⟩)
          have hm40 := HM.out.2
          obtain ⟨Ao, co, hAo⟩ := (ho.ev encE_len).shape
          rw [hm] at hAo
          subst hAo
          have HCW2 := Lib.hid (HCW.out.below hb)
          have HOW := Lib.hid (ho.ev encE_len)
          have HDJ := Lib.hid (fun (a : Addr) (ha : Ao = some a) (e : u7.ownBlock = some a.block) => (show False by
            have h1 := (ho.block a.block (by rw [ha]; rfl)).1
            have h2 := (HCW.out.row.block a.block e).2
            omega))
          clear ho hb hm HCW
          go_upto_block 4 with fail
          go_wp2
          go_loopg [7, 13] m (fun k o i wr => ∃ (j : Nat) (xs : List (Sl3 × Bck)), m ≤ j + k ∧ j ≤ m + 6 ∧ i = .int .i64 j ∧ CutW w wr o xs ∧ CutI tr q j (xs.map Prod.snd) ∧ EV encE 11 wr (.slice Ao m co) (cpuL tr q) ∧ ∀ a, Ao = some a → o.ownBlock ≠ some a.block)
          case atStart => exact ⟨0, xs, by omega, by omega, rfl, HCW2.out, HCI.out, HOW.out, fun a ha e => HDJ.out a ha e⟩
          clear HCW2 HCI HOW HDJ
          case round =>
            obtain ⟨j, xs, hj, hj2, rfl, hcw, hci, how, hdj⟩ := hrel
            have HJ := Lib.hid (And.intro hj hj2)
            have HCW := Lib.hid hcw
            have HCI := Lib.hid hci
            have HOW := Lib.hid how
            have HDJ := Lib.hid hdj
            clear hj hj2 hcw hci how hdj
            by_cases hjm : j < m
            · obtain ⟨X, hX⟩ : ∃ X, xs.length = X := ⟨_, rfl⟩
              have HX := Lib.hid (show xs.length = X ∧ X ≤ 40 from ⟨hX, by have := HCI.out.len2; rw [List.length_map] at this; have := HL.out; omega⟩)
              have hX40 := HX.out.2
              obtain ⟨Ax, cx, hAx⟩ := (HCW.out.row.ev encSb_len).shape
              rw [hX] at hAx
              subst hAx
              obtain ⟨g, o1, c1, hsl, hcc, hr⟩ := HOW.out.row (by rw [HM.out.1]; omega)
              rw [HM.out.1] at hsl
              simp only [Value.slice.injEq, true_and] at hsl
              obtain ⟨rfl, rfl⟩ := hsl
              rw [HM.out.1] at hcc
              obtain ⟨e, he⟩ : ∃ e, min (j + n) m = e := ⟨_, rfl⟩
              have hmin : min ((j : Int) + (n : Int)) (m : Int) = (e : Int) := by omega
              have he1 : j ≤ e := by omega
              have he2 : e ≤ co := by omega
              have he3 : e ≤ m := by omega
              have HE := Lib.hid (show e = min (j + n) m from he.symm)
              have hz1 : 0 ≤ (X : Int) % 3 := by omega
              have hz2 : (X : Int) % 3 ≤ 2 := by omega
              have HZ := Lib.hid (And.intro hz1 hz2)
              clear hr he hX
              go_wp2_with (at_builtin; refine wpList_app_at elemBk encSb_len encSb_one rfl _ _ rfl _ _ rfl rfl (HCW.out.row.alloc _) (EV.newL (xs := [((some ⟨g, o1 + j * 11, none⟩, e - j, co - j), ⟨1, (q : Int), (X : Int) % 3, 0, ((cpuL tr q).drop j).take n⟩)]) (n := 1) (c := 1) encSb_len rfl rfl (Nat.le_refl _)) ?q1 ?q2 ?_)
              case q1 => have := HX.out; simp; omega
              case q2 => have := HCW.out.bel.size; simp; omega
              intro v' w8 o8 g8 a8
              have hb1 := bel_alloc wr (.cells #[.int .u8 1, .int .u8 (q : Int), .int .i64 ((X : Int) % 3), .int .i64 0, .slice (some ⟨g, o1 + j * 11, none⟩) (e - j) (co - j)] 24)
              have hml := HM.out.1
              have htk : ((cpuL tr q).drop j).take n = ((cpuL tr q).drop j).take (e - j) := by
                have he := HE.out
                rcases Nat.le_total (j + n) m with h | h
                · congr 1; omega
                · rw [List.take_of_length_le (by rw [List.length_drop]; omega), List.take_of_length_le (by rw [List.length_drop]; omega)]
              have hpc := (EV.piece (i := j) (m := e - j) HOW.out hml (by omega) (by omega)).below hb1
              rw [← htk] at hpc
              have hpl : 0 < (((cpuL tr q).drop j).take n).length := by rw [List.length_take, List.length_drop]; omega
              have HCW8 := Lib.hid ((HCW.out.below hb1).app (x := ((some ⟨g, o1 + j * 11, none⟩, e - j, co - j), ⟨1, (q : Int), (X : Int) % 3, 0, ((cpuL tr q).drop j).take n⟩))
                (fun y hy => (HCI.out.blk y.2 (List.mem_map.2 ⟨y, hy, rfl⟩)).len.1) hpl hpc (fun a ha => by cases ha; exact HDJ.out ⟨g, o1, none⟩ rfl) o8 g8 (by rw [World.size_alloc]; exact a8))
              have HCI8 := Lib.hid (show CutI tr q (j + n) ((xs ++ ([((some ⟨g, o1 + j * 11, none⟩, e - j, co - j), ⟨1, (q : Int), (X : Int) % 3, 0, ((cpuL tr q).drop j).take n⟩)] : List (Sl3 × Bck))).map Prod.snd) from by
                rw [List.map_append]
                exact HCI.out.step hlt (by omega) ⟨hn1, hn6⟩ HZ.out)
              have hgl : g < wr.heap.size := by
                obtain ⟨b', f', c', hs', _, hr'⟩ := HOW.out.row (by omega)
                simp only [Value.slice.injEq, Option.some.injEq, Addr.mk.injEq] at hs'
                rw [hs'.1.1]
                exact hr'.lt (by omega) (fun x => by simp [encE])
              have HOW8 := Lib.hid ((HOW.out.below hb1).grown g8 (fun b' f' n' c' he' => by
                simp only [Value.slice.injEq, Option.some.injEq, Addr.mk.injEq] at he'
                rw [← he'.1.1]
                exact HDJ.out _ rfl))
              have HDJ8 := Lib.hid (show ∀ (a : Addr), some (⟨g, o1, none⟩ : Addr) = some a → v'.ownBlock ≠ some a.block from fun a ha => by
                cases ha
                rcases a8 with h | h
                · rw [h]; exact HDJ.out _ rfl
                · rw [h]
                  intro h2
                  simp only [Option.some.injEq, World.size_alloc] at h2
                  omega)
              clear hb1 hml htk hpc hpl hgl o8 g8 a8
              go_wp2
              go_roundg (m - (j + n))
              case measure => have := HJ.out; omega
              case rel => exact ⟨j + n, _, by have := HJ.out; omega, by have := HJ.out; omega, by go_num, HCW8.out, HCI8.out, HOW8.out, HDJ8.out⟩
            · have HXS := Lib.hid (HCI.out.cpu (by rw [HM.out.1]; omega))
              go_wp2
              go_roundg (4 - (q + 1))
              case measure => have := HQ.out; omega
              case rel => exact ⟨q + 1, xs, by have := HQ.out; omega, by go_num, HCW.out, HXS.out⟩
      · obtain rfl : q = 4 := by have := HQ.out; omega
        go_wp2
        go_meet
        exact ⟨xs, HCW.out, HCI.out⟩
  case rest =>
    obtain ⟨xs, hcw, hci⟩ := hcut
    have HCW := Lib.hid hcw
    have HCI := Lib.hid hci
    clear hcw hci
    obtain ⟨X, hX⟩ : ∃ X, xs.length = X := ⟨_, rfl⟩
    have HX := Lib.hid (show xs.length = X ∧ X ≤ 40 from ⟨hX, by have := HCI.out.len2; rw [List.length_map] at this; have := HL.out; omega⟩)
    have hX40 := HX.out.2
    clear hX
    obtain ⟨nx, hnx⟩ : ∃ nx, 1 + more % 4 = nx := ⟨_, rfl⟩
    have hn1 : 1 ≤ nx := by omega
    have hn4 : nx ≤ 4 := by omega
    have hmm : 0 ≤ more % 4 := by omega
    obtain ⟨bl, hbl⟩ : ∃ bl, decide (0 < L) = bl := ⟨_, rfl⟩
    have hbl' : decide ((0 : Int) < (L : Int)) = bl := by rw [← hbl]; exact decide_eq_decide.2 (by omega)
    go_upto_if 68 with fail
    have HNX := Lib.hid (And.intro hn1 hn4)
    clear hnx hmm m1 m2
    go_cut [14] (fun x wz => ∃ wq, wq = wz ∧ x = .int .i64 (lastS tr + nx) ∧ CutW w wq u7 xs)
    case first =>
      cases bl with
      | false =>
        have h0 : L = 0 := by have := of_decide_eq_false hbl; omega
        have hls : lastS tr = 0 := by rw [List.eq_nil_of_length_eq_zero (HL.out.1.trans h0)]; rfl
        have HLS := Lib.hid hls
        have HL0 := Lib.hid h0
        clear h0 hls hbl hbl'
        go_wp2
        go_meet
        exact ⟨_, rfl, by rw [HLS.out]; simp, HCW.out⟩
      | true =>
        have h0 : 0 < L := of_decide_eq_true hbl
        obtain ⟨b, off, c', hsl, hcc, hr⟩ := (HV.out.below HCW.out.bel).row (by rw [HL.out.1]; omega)
        rw [HL.out.1] at hsl
        cases hsl
        obtain ⟨p, hp⟩ : ∃ p, L = p + 1 := ⟨L - 1, by omega⟩
        obtain ⟨e, hev⟩ : ∃ e, tr[p]? = some e := ⟨_, List.getElem?_eq_getElem (by rw [HL.out.1]; omega)⟩
        have hls := lastS_at (HL.out.1.trans hp) hev
        have g0 := (hr.ev hev).1
        have hle := lastS_le HT.out
        rw [hls] at hle
        have HLS := Lib.hid hls
        have hle1 := hle.1
        have hle2 := hle.2.1
        have hp1 : (L : Int) - 1 = (p : Int) := by omega
        have hpl : p < L := by omega
        have HP := Lib.hid hp
        clear hr hcc hev hls hle hp h0 hbl hbl'
        go_wp2
        go_meet
        exact ⟨_, rfl, by rw [HLS.out, Int.add_comm], HCW.out⟩
    case rest =>
      obtain ⟨w3, rfl, rfl, hcw⟩ := hcut
      have HCW3 := Lib.hid hcw
      have hle := lastS_le HT.out
      obtain ⟨N, hN⟩ : ∃ N, lastS tr + nx = N := ⟨_, rfl⟩
      have HNN := Lib.hid hN
      rw [hN]
      clear hcw HCW hle hN hbl hbl'
      obtain ⟨Ax, cx, hAx⟩ := (HCW3.out.row.ev encSb_len).shape
      rw [HX.out.1] at hAx
      subst hAx
      go_wp2_with (at_builtin; refine wpList_app_at elemBk encSb_len encSb_one rfl _ _ rfl _ _ rfl rfl (HCW3.out.row.alloc _) (EV.newL (xs := [((none, 0, 0), bkE N)]) (n := 1) (c := 1) encSb_len rfl rfl (Nat.le_refl _)) ?q1 ?q2 ?_)
      case q1 => have := HX.out; simp; omega
      case q2 => have := HCW3.out.bel.size; simp; omega
      intro v' w8 o8 g8 a8
      have hb1 := bel_alloc w3 (.cells #[.int .u8 2, .int .u8 0, .int .i64 0, .int .i64 N, .slice none 0 0] 24)
      have hcb := HCW3.out.below hb1
      have HFIN := Lib.hid (show CutP w w8 v' tr xs N from ⟨o8, fun x hx => (hcb.evs x hx).grown g8 (fun b f n c he => by
          unfold slV at he
          simp only [Value.slice.injEq] at he
          exact hcb.dis x hx _ he.1), HCI.out.done HT.out (by have := HNN.out; have := HNX.out; omega), hcb.bel.grown g8 hcb.bel.size (fun k e => (hcb.row.block k e).1)⟩)
      clear hb1 hcb o8 g8 a8
      go_wp2
      go_ret
      exact ⟨_, xs, N, rfl, HFIN.out⟩
end Go.Proofs.YtalophngappkhaaGreatDoor
