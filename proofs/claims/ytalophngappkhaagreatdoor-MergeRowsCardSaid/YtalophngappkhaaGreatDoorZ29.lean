/- quantumlaw12.numbers | slices.Contains at events | MergeAfter, in plain words | MergeAfter: what is asked at the end | merge.Blocks at blocks of a cut trace. -/
import Derived.Test.YtalophngappkhaaGreatDoorZ27
import Derived.Test.YtalophngappkhaaGreatDoorZ28
import Derived.Deep.CutBlock
import Derived.Deep.DeepCutAuto
import Derived.Test.YtalophngappkhaaGreatDoorZ25
set_option linter.unusedVariables false
set_option linter.unusedSimpArgs false
set_option linter.unusedSectionVars false
namespace Go.Proofs.YtalophngappkhaaGreatDoor
open Go Go.RowKit Go.Shelf
attribute [local go_sem] Oper.semAt_some

theorem grown_below {w w' : World} (h : Below w.heap.size w w') (row : Option Nat) : w.grownBy w' row := ⟨h.os, h.tape, h.output, h.size, fun i hi _ => h.block i hi⟩
theorem zeroBo (w : World) : (zeroValue 4).run Tryz.prog w = .ok (.bool false) w := by kernel_rfl
theorem seqs_snoc {R : List Ev} {j : Nat} {e : Ev} (h : R[j]? = some e) : seqsL (R.take (j + 1)) = seqsL (R.take j) ++ [e.seq] := (seqs_take h).1
theorem seqs_new {R : List Ev} (hs : R.Pairwise (fun a b => a.seq < b.seq)) {j : Nat} {e : Ev} (h : R[j]? = some e) : e.seq ∉ seqsL (R.take j) := by
  intro hm
  obtain ⟨x, hx, hxe⟩ := List.mem_map.1 hm
  obtain ⟨i, hi, rfl⟩ := List.getElem_of_mem hx
  rw [List.length_take] at hi
  obtain ⟨hj, rfl⟩ := List.getElem?_eq_some_iff.1 h
  rw [List.getElem_take] at hxe
  have := List.pairwise_iff_getElem.1 hs i j (by omega) hj (by omega)
  omega
theorem cntR_take {l : List (Int × Int)} {j : Nat} {r : Int × Int} (h : l[j]? = some r) : cntR (l.take (j + 1)) = cntR (l.take j) + r.2 := by
  rw [List.take_add_one, h, Option.toList_some, cntR_append]
  simp [cntR]
theorem cntR_take_le {l : List (Int × Int)} {lo : Int} (h : Can lo l) (j : Nat) : 0 ≤ cntR (l.take j) ∧ cntR (l.take j) ≤ cntR l := by
  have h1 : cntR l = cntR (l.take j) + cntR (l.drop j) := by rw [← cntR_append, List.take_append_drop]
  have h2 : ∀ l : List (Int × Int), (∀ r ∈ l, 0 ≤ r.2) → 0 ≤ cntR l := by
    intro l
    induction l with
    | nil => intro _; exact Int.le_refl _
    | cons r l ih =>
      intro h
      have := h r (by simp)
      have := ih (fun x hx => h x (by simp [hx]))
      simp only [cntR]; omega
  have h3 : ∀ r ∈ l, 0 ≤ r.2 := fun r hr => by have := rok_iff.1 (can_at h r hr); omega
  have := h2 (l.take j) (fun r hr => h3 r (List.mem_of_mem_take hr))
  have := h2 (l.drop j) (fun r hr => h3 r (List.mem_of_mem_drop hr))
  omega
set_option maxRecDepth 100000 in
set_option maxHeartbeats 6400000 in
theorem numbers_ok (w : World) (ve vt vg : Value) (R : List Ev) (G : List (Int × Int)) (lost next : Int) (opn : Bool) (he : EV encE 11 w ve R) (hg : EV encP 2 w vg G) (hs : Srt R (next - 1)) (hc : Can 0 G)
    (hh : ∀ n, hasR G n = decide (1 ≤ n ∧ n < next ∧ n ∉ seqsL R)) (hn : cntR G + R.length = next - 1) (h1 : next ≤ 1000) (hr1 : R.length ≤ 1000) (hg1 : G.length ≤ 1000) :
    Calls Tryz.prog 34 #[mgA ve vt vg lost next opn] w fun r w' => r = .returned (.bool true) ∧ Below w.heap.size w w' := by
  have HE := Lib.hid he
  have HG := Lib.hid hg
  have HS := Lib.hid hs
  have HC := Lib.hid hc
  have HH := Lib.hid hh
  obtain ⟨Ae, ce, hAe⟩ := he.shape
  subst hAe
  obtain ⟨Ag, cg, hAg⟩ := hg.shape
  subst hAg
  obtain ⟨n, hnn⟩ : ∃ n, R.length = n := ⟨_, rfl⟩
  obtain ⟨g, hgg⟩ : ∃ g, G.length = g := ⟨_, rfl⟩
  have HN := Lib.hid hnn
  have HGN := Lib.hid hgg
  rw [hnn] at hn HE hr1 ⊢
  rw [hgg] at HG hg1 ⊢
  have HSUM := Lib.hid hn
  have HMB := Lib.hid (MgBox.new w (.slice Ae n ce) vt (.slice Ag g cg) lost next opn)
  have HB := Lib.hid (bel_alloc w (.cells #[.slice Ae n ce, vt, .slice Ag g cg, .int .i64 lost, .int .i64 next, .bool opn] 39))
  clear he hg hs hc hh hn hnn hgg
  have hmm := @run_makeMap Tryz.prog
  unfold mgA
  go_enter Tryz.func34, Tryz.ntmps34
  go_upto_region 1 with fail
  generalize w.alloc (.cells #[.slice Ae n ce, vt, .slice Ag g cg, .int .i64 lost, .int .i64 next, .bool opn] 39) = wx at HMB HB ⊢
  obtain ⟨X, hX⟩ : ∃ X, w.heap.size = X := ⟨_, rfl⟩
  have HX := Lib.hid hX
  rw [hX] at HMB ⊢
  clear hX
  go_upto_region 2 with fail
  have HM := Lib.hid (MpC.made Tryz.prog 3 wx)
  have HMB1 := Lib.hid (HMB.out.below (bel_alloc wx (.map #[] 0)))
  have HB1 := Lib.hid (bstep HB.out (bel_alloc wx (.map #[] 0)))
  have hXlt := HMB.out.lt
  obtain ⟨mb, hmb⟩ : ∃ mb, wx.heap.size = mb := ⟨_, rfl⟩
  have HXM := Lib.hid (show X < mb by rw [← hmb]; exact hXlt)
  rw [hmb] at HM ⊢
  generalize wx.alloc (.map #[] 0) = w1 at HM HMB1 HB1 ⊢
  clear hmm hXlt hmb HMB HB
  have c0 := HMB1.out.c0
  go_upto_block 0 with fail
  go_cut [] (fun wz => ∃ wq F, wq = wz ∧ MpC Tryz.prog 3 wz mb n F ∧ TB F (seqsL R) ∧ w1.grownBy wz (some mb))
  case first =>
    go_wp2
    go_loopg [14] n (fun k i wr => ∃ (j : Nat) (F : Lit → Option Value), j + k = n ∧ i = .int .i64 j ∧ MpC Tryz.prog 3 wr mb j F ∧ TB F (seqsL (R.take j)) ∧ w1.grownBy wr (some mb))
    case atStart => exact ⟨0, _, by omega, rfl, HM.out, TB.nil, World.grownBy.refl _ _⟩
    case round =>
      obtain ⟨j, F, hj, rfl, hm, ht, hgb⟩ := hrel
      have HJ := Lib.hid hj
      have HM2 := Lib.hid hm
      have HT := Lib.hid ht
      have HGB := Lib.hid hgb
      clear hj hm ht hgb
      by_cases hlt : j < n
      · have HBR := Lib.hid (HB1.out.grown HGB.out HB1.out.size (fun k e => by cases e; have := HX.out; have := HXM.out; omega))
        obtain ⟨b, off, c', hsl, hcc, hr⟩ := (HE.out.below HBR.out).row (by rw [HN.out]; omega)
        rw [HN.out] at hsl
        cases hsl
        obtain ⟨e, hev⟩ : ∃ e, R[j]? = some e := ⟨_, List.getElem?_eq_getElem (by rw [HN.out]; exact hlt)⟩
        obtain ⟨g0, g1, g2, g3, g4, g5, g6, g7, g8, g9, g10⟩ := hr.ev hev
        have HSN := Lib.hid (seqs_snoc hev)
        have HNEW := Lib.hid (seqs_new HS.out.srt hev)
        have her := HS.out.rng e (List.mem_of_getElem? hev)
        have HKEY := Lib.hid (keyI (z := e.seq) (by omega))
        have HEV := Lib.hid (evp_new wr e)
        have HA := Lib.hid (bel_alloc wr (.cells #[.int .i64 e.seq, .int .i64 e.time, .int .u8 e.cpu, .int .u8 e.kind, .int .i64 e.task, .int .i64 e.grp, .int .i64 e.to, .int .i64 e.wt, .int .i64 e.ticks, .int .u64 e.mask, .int .i64 e.got] 28))
        clear hr hcc hev her
        go_upto_region 5 with fail
        have h1 := HEV.out
        have h2 := HA.out
        clear HEV HA g0 g1 g2 g3 g4 g5 g6 g7 g8 g9 g10
        generalize wr.alloc (.cells #[.int .i64 e.seq, .int .i64 e.time, .int .u8 e.cpu, .int .u8 e.kind, .int .i64 e.task, .int .i64 e.grp, .int .i64 e.to, .int .i64 e.wt, .int .i64 e.ticks, .int .u64 e.mask, .int .i64 e.got] 28) = wa at h1 h2 ⊢
        have HM3 := Lib.hid (HM2.out.below h2)
        have HGB3 := Lib.hid (HGB.out.trans (grown_below h2 _))
        have e0 := h1.c0
        clear h1 h2
        go_wp2_with (at_mapUpdate; refine wpList_putC (k := 3) (e := 4) rfl _ _ _ (by rfl) lawI Tryz.underlying64 (by rfl) HM3.out (by unfold maxLen; omega) _ _ _ (by rfl) (by rfl) HKEY.out ?_)
        intro w5 m5 g5
        rw [HT.out.new HNEW.out] at m5
        have HM5 := Lib.hid m5
        have HGB5 := Lib.hid (HGB3.out.trans g5)
        clear m5 g5 e0
        go_wp2
        go_roundg (n - (j + 1))
        case measure => have := HJ.out; omega
        case rel => exact ⟨j + 1, _, by have := HJ.out; omega, by go_num, HM5.out, by rw [HSN.out]; exact HT.out.snoc _, HGB5.out⟩
      · obtain rfl : n = j := by have := HJ.out; omega
        have HT2 := Lib.hid (show TB F (seqsL R) by have := HT.out; rwa [List.take_of_length_le (Nat.le_of_eq HN.out)] at this)
        go_wp2
        go_meet
        exact ⟨_, F, rfl, HM2.out, HT2.out, HGB.out⟩
  case rest =>
    obtain ⟨w2, F, rfl, hm, ht, hgb⟩ := hcut
    have HB2 := Lib.hid (HB1.out.grown hgb HB1.out.size (fun k e => by cases e; have := HX.out; have := HXM.out; omega))
    have HMB2 := Lib.hid (HMB1.out.grown hgb (fun e => by cases e; have := HXM.out; omega))
    have HM2 := Lib.hid hm
    have HT := Lib.hid ht
    clear hm ht hgb HMB1 HM HB1 c0
    have hlen := HM2.out.len Tryz.underlying64
    have c2 := HMB2.out.c2
    go_upto_block 2 with fail
    go_cut [6] (fun s wz => ∃ wq, wq = wz ∧ s = .int .i64 (cntR G) ∧ Below w2.heap.size w2 wq)
    case first =>
      clear hlen
      go_wp2
      go_loopg [6, 25] g (fun k s i wr => ∃ j : Nat, j + k = g ∧ i = .int .i64 j ∧ s = .int .i64 (cntR (G.take j)) ∧ Below w2.heap.size w2 wr)
      case atStart => exact ⟨0, by omega, rfl, rfl, Below.refl _ _⟩
      case round =>
        obtain ⟨j, hj, rfl, rfl, hb⟩ := hrel
        have HJ := Lib.hid hj
        have HB := Lib.hid hb
        clear hj hb
        by_cases hlt : j < g
        · obtain ⟨b, off, c', hsl, hcc, hr⟩ := (HG.out.below (bstep HB2.out HB.out)).row (by rw [HGN.out]; omega)
          rw [HGN.out] at hsl
          cases hsl
          obtain ⟨r, hrr⟩ : ∃ r, G[j]? = some r := ⟨_, List.getElem?_eq_getElem (by rw [HGN.out]; exact hlt)⟩
          obtain ⟨r1, r2⟩ := r
          have hrm := List.mem_of_getElem? hrr
          obtain ⟨x0, x1⟩ := hr.prs hrr
          have hrk := rok_iff.1 (can_at HC.out _ hrm)
          have hin : ∀ n : Int, r1 ≤ n → n < r1 + r2 → 1 ≤ n ∧ n < next ∧ n ∉ seqsL R := fun n h1 h2 => by
            have h3 : hasR G n = true := List.any_eq_true.2 ⟨_, hrm, decide_eq_true (show r1 ≤ n ∧ n < nxt (r1, r2) from ⟨h1, h2⟩)⟩
            rw [HH.out n] at h3
            simpa using h3
          have HIN := Lib.hid hin
          have hup := hin (r1 + r2 - 1) (by omega) (by omega)
          have hr1 : 1 ≤ r1 := hrk.1
          have hr2 : 1 ≤ r2 := hrk.2.2.1
          have hr3 : r1 + r2 ≤ 1000 := by omega
          have HCT := Lib.hid (cntR_take hrr)
          dsimp only at HCT
          obtain ⟨S, hS⟩ : ∃ S, cntR (G.take j) = S := ⟨_, rfl⟩
          have hS0 := cntR_take_le HC.out j
          have hSU := HSUM.out
          rw [hS] at hS0 HCT ⊢
          have hS1 : 0 ≤ S := hS0.1
          have hS2 : S ≤ 1000 := by omega
          have HN0 := Lib.hid (show next ≤ 1000 from h1)
          clear hr hcc hrr hrm hrk hin hup hS hS0 hSU
          have HMB3 := Lib.hid (HMB2.out.below HB.out)
          have HM3 := Lib.hid (HM2.out.below HB.out)
          have HA := Lib.hid (bel_alloc wr (.cells #[.int .i64 r1, .int .i64 r2] 34))
          have HC0 := Lib.hid (show (wr.alloc (.cells #[.int .i64 r1, .int .i64 r2] 34)).cell? ⟨wr.heap.size, 0, none⟩ = some (.int .i64 r1) from cell_of_row _ _ 0 _ _ (0, 0) (heap_alloc_new wr _))
          have HC1 := Lib.hid (show (wr.alloc (.cells #[.int .i64 r1, .int .i64 r2] 34)).cell? ⟨wr.heap.size, 1, none⟩ = some (.int .i64 r2) from cell_of_row _ _ 1 _ _ (0, 0) (heap_alloc_new wr _))
          go_upto_region 11 with fail
          clear x0 x1
          have HB3 := Lib.hid (bstep HB.out HA.out)
          have HMB4 := Lib.hid (HMB3.out.below HA.out)
          have HM4 := Lib.hid (HM3.out.below HA.out)
          clear HMB3 HM3
          generalize wr.alloc (.cells #[.int .i64 r1, .int .i64 r2] 34) = wa at HC0 HC1 HB3 HMB4 HM4 ⊢
          generalize wr.heap.size = Y at HC0 HC1 ⊢
          clear HA HB
          have x0 := HC0.out
          have x1 := HC1.out
          have c4 := HMB4.out.c4
          go_upto_block 4 with fail
          go_cut [9] (fun _ wz => wz = wa)
          case first =>
            obtain ⟨cn, hcn⟩ : ∃ cn : Nat, min r2 500 = (cn : Int) := ⟨(min r2 500).toNat, by omega⟩
            have HCN := Lib.hid hcn
            have hcn1 : (cn : Int) ≤ r2 := by omega
            have hlook := fun (n : Int) (h1 : r1 ≤ n) (h2 : n < r1 + r2) => HM4.out.mpv.look lawI Tryz.underlying64 (zeroBo _) (keyI (z := n) (by omega))
            have HLK := Lib.hid hlook
            clear hlook
            go_wp2
            go_loopg [9] cn (fun k i wr => ∃ j : Nat, j + k = cn ∧ i = .int .i64 (r1 + (j : Int)) ∧ wr = wa)
            case atStart => exact ⟨0, by omega, by simp, rfl⟩
            case round =>
              obtain ⟨jj, hjj, rfl, rfl⟩ := hrel
              have HJJ := Lib.hid hjj
              clear hjj
              by_cases hl2 : jj < cn
              · have hd1 : decide (r1 + (jj : Int) < r1 + (cn : Int)) = true := by simp; omega
                have hi := HIN.out (r1 + (jj : Int)) (by omega) (by omega)
                have hlk := HLK.out (r1 + (jj : Int)) (by omega) (by omega)
                rw [HT.out, if_neg hi.2.2] at hlk
                have hd2 : decide (r1 + (jj : Int) < 1) = false := by simp; omega
                have hd3 : decide (next ≤ r1 + (jj : Int)) = false := by simp; omega
                clear hi
                go_wp2
                go_roundg (cn - (jj + 1))
                case measure => have := HJJ.out; omega
                case rel => exact ⟨jj + 1, by have := HJJ.out; omega, by go_num, rfl⟩
              · obtain rfl : cn = jj := by have := HJJ.out; omega
                have hd1 : decide (r1 + (cn : Int) < r1 + (cn : Int)) = false := by simp
                go_wp2
                go_meet
                rfl
          case rest =>
            obtain rfl := hcut
            go_wp2
            go_roundg (g - (j + 1))
            case measure => have := HJ.out; omega
            case rel => exact ⟨j + 1, by have := HJ.out; omega, by go_num, by rw [HCT.out], HB3.out⟩
        · obtain rfl : g = j := by have := HJ.out; omega
          have HTG := Lib.hid (show G.take g = G from List.take_of_length_le (Nat.le_of_eq HGN.out))
          go_wp2
          go_meet
          exact ⟨_, rfl, by rw [HTG.out], HB.out⟩
    case rest =>
      obtain ⟨w3, rfl, rfl, hb⟩ := hcut
      have hlen3 := (HM2.out.below hb).len Tryz.underlying64
      have HMB3 := Lib.hid (HMB2.out.below hb)
      have HB3 := Lib.hid (bstep HB2.out hb)
      have hS := cntR_take_le HC.out g
      rw [List.take_of_length_le (Nat.le_of_eq HGN.out)] at hS
      have hsum := HSUM.out
      obtain ⟨S, hS'⟩ : ∃ S, cntR G = S := ⟨_, rfl⟩
      rw [hS'] at hS hsum ⊢
      have hS1 : 0 ≤ S := hS.1
      have hS2 : S ≤ 1000 := by omega
      have hN2 : 1 ≤ next := by omega
      have hq : (S + (n : Int) == next - 1) = true := by rw [hsum]; exact beq_self_eq_true _
      clear hS hS' hsum hlen c2 hb HM2 HMB2 HB2
      have c0 := HMB3.out.c0
      have c4 := HMB3.out.c4
      go_wp2
      go_ret
      exact ⟨rfl, HB3.out⟩
end Go.Proofs.YtalophngappkhaaGreatDoor
namespace Go.Proofs.YtalophngappkhaaGreatDoor
open Go Go.RowKit Go.Shelf
attribute [local go_sem] Oper.semAt_some
set_option maxRecDepth 100000 in
theorem ev_eql (x e : Ev) (w : World) : (binOp .eql 28 (evA x) (evA e)).run Tryz.prog w = .ok (.bool (decide (x = e))) w := by
  unfold evA
  go_simp
  by_cases h : x = e
  · subst h
    simp
  · have hd : decide (x = e) = false := by simpa using h
    simp only [hd, Bool.not_false]
    repeat' split
    all_goals first | rfl | (exfalso; apply h; cases x; cases e; simp only at *; subst_vars; rfl)
set_option maxRecDepth 100000 in
set_option maxHeartbeats 3200000 in
theorem index_ev (w : World) (v1 : Value) (xs : List Ev) (k : Ev) (h1 : EV encE 11 w v1 xs) (b1 : xs.length ≤ 1000000000) :
    Calls Tryz.prog 63 #[v1, evA k] w fun e w' => ∃ i : Int, e = .returned (.int .i64 i) ∧ (0 ≤ i ↔ k ∈ xs) ∧ Below w.heap.size w w' := by
  have HA := Lib.hid (bel_alloc w (.cells #[.int .i64 k.seq, .int .i64 k.time, .int .u8 k.cpu, .int .u8 k.kind, .int .i64 k.task, .int .i64 k.grp, .int .i64 k.to, .int .i64 k.wt, .int .i64 k.ticks, .int .u64 k.mask, .int .i64 k.got] 28))
  have HEV := Lib.hid (evp_new w k)
  obtain ⟨L, hL⟩ : ∃ L, xs.length = L := ⟨_, rfl⟩
  have HL := Lib.hid hL
  have HV := Lib.hid (h1.below HA.out)
  obtain ⟨A, c, rfl⟩ := h1.shape
  rw [hL] at b1 HV ⊢
  clear h1 hL
  unfold evA
  go_enter Tryz.func63, Tryz.ntmps63
  go_upto_region 1 with fail
  generalize w.alloc (.cells #[.int .i64 k.seq, .int .i64 k.time, .int .u8 k.cpu, .int .u8 k.kind, .int .i64 k.task, .int .i64 k.grp, .int .i64 k.to, .int .i64 k.wt, .int .i64 k.ticks, .int .u64 k.mask, .int .i64 k.got] 28) = w1 at HA HV HEV ⊢
  generalize w.heap.size = B at HEV ⊢
  have f0 := HEV.out.c0
  have f1 := HEV.out.c1
  have f2 := HEV.out.c2
  have f3 := HEV.out.c3
  have f4 := HEV.out.c4
  have f5 := HEV.out.c5
  have f6 := HEV.out.c6
  have f7 := HEV.out.c7
  have f8 := HEV.out.c8
  have f9 := HEV.out.c9
  have f10 := HEV.out.c10
  have heq := fun (x : Ev) (w : World) => ev_eql k x w
  unfold evA at heq
  go_wp2_with fail
  go_loopg [8] L (fun q i wr => ∃ j : Nat, j + q = L ∧ i = .int .i64 j ∧ (∀ a : Nat, a < j → xs[a]? ≠ some k) ∧ (∃ n, w1.drewN n = wr))
  case atStart => exact ⟨0, by omega, rfl, fun a h => absurd h (Nat.not_lt_zero a), ⟨0, rfl⟩⟩
  case round =>
    obtain ⟨j, hj, rfl, hno, ⟨n, rfl⟩⟩ := hrel
    have HJ := Lib.hid hj
    have HN := Lib.hid hno
    clear hj hno
    by_cases hlt : j < L
    · obtain ⟨x, hx⟩ : ∃ x, xs[j]? = some x := ⟨_, List.getElem?_eq_getElem (by rw [HL.out]; exact hlt)⟩
      obtain ⟨b, off, c', hv, _, r1⟩ := HV.out.row (by rw [HL.out]; omega)
      rw [HL.out] at hv
      simp only [Value.slice.injEq] at hv
      obtain ⟨rfl, hz, rfl⟩ := hv
      obtain ⟨c0, c1, c2, c3, c4, c5, c6, c7, c8, c9, c10⟩ := r1.ev hx
      have heq2 := heq x
      clear heq
      have HX := Lib.hid hx
      clear hx r1 hz
      by_cases he : k = x
      · have hd : decide (k = x) = true := by simpa using he
        rw [hd] at heq2
        have HE := Lib.hid he
        clear hd he
        go_wp2
        go_quiet (fail)
        go_wp2
        go_ret
        exact ⟨j, rfl, ⟨fun _ => List.mem_of_getElem? (HE.out ▸ HX.out), fun _ => by omega⟩, HA.out.trans ((below_drewN (below_drewN (Below.refl _ _) _) _).mono HA.out.size)⟩
      · have HNX := Lib.hid (show ∀ a : Nat, a < j + 1 → xs[a]? ≠ some k from fun a ha e => by
          rcases Nat.lt_succ_iff_lt_or_eq.1 ha with h | rfl
          · exact HN.out a h e
          · rw [HX.out] at e; exact he (Option.some.inj e).symm)
        have hd : decide (k = x) = false := by simpa using he
        rw [hd] at heq2
        clear hd he
        go_wp2
        go_quiet (fail)
        go_wp2
        go_roundg (gk - 1)
        case measure => have := HJ.out; omega
        case rel => exact ⟨j + 1, by have := HJ.out; omega, by go_num, HNX.out, ⟨_, rfl⟩⟩
    · go_wp2
      go_ret
      refine ⟨-1, rfl, ⟨fun h => by omega, fun h => ?_⟩, HA.out.trans ((below_drewN (Below.refl _ _) _).mono HA.out.size)⟩
      obtain ⟨a, ha⟩ := List.getElem?_of_mem h
      have hl := (List.getElem?_eq_some_iff.1 ha).1
      exact absurd ha (HN.out a (by have := HL.out; omega))
set_option maxRecDepth 100000 in
set_option maxHeartbeats 1600000 in
theorem contains_ev (w : World) (v1 : Value) (xs : List Ev) (k : Ev) (h1 : EV encE 11 w v1 xs) (b1 : xs.length ≤ 1000000000) :
    Calls Tryz.prog 32 #[v1, evA k] w fun e w' => e = .returned (.bool (decide (k ∈ xs))) ∧ Below w.heap.size w w' := by
  have HA := Lib.hid (bel_alloc w (.cells #[.int .i64 k.seq, .int .i64 k.time, .int .u8 k.cpu, .int .u8 k.kind, .int .i64 k.task, .int .i64 k.grp, .int .i64 k.to, .int .i64 k.wt, .int .i64 k.ticks, .int .u64 k.mask, .int .i64 k.got] 28))
  have HEV := Lib.hid (evp_new w k)
  have IX := Lib.hid (index_ev (w.alloc (.cells #[.int .i64 k.seq, .int .i64 k.time, .int .u8 k.cpu, .int .u8 k.kind, .int .i64 k.task, .int .i64 k.grp, .int .i64 k.to, .int .i64 k.wt, .int .i64 k.ticks, .int .u64 k.mask, .int .i64 k.got] 28)) v1 xs k (h1.below HA.out) b1)
  clear h1
  unfold evA at IX ⊢
  go_enter Tryz.func32, Tryz.ntmps32
  go_upto_region 1 with fail
  generalize w.alloc (.cells #[.int .i64 k.seq, .int .i64 k.time, .int .u8 k.cpu, .int .u8 k.kind, .int .i64 k.task, .int .i64 k.grp, .int .i64 k.to, .int .i64 k.wt, .int .i64 k.ticks, .int .u64 k.mask, .int .i64 k.got] 28) = w1 at HA IX HEV ⊢
  generalize w.heap.size = B at HEV ⊢
  have f0 := HEV.out.c0
  have f1 := HEV.out.c1
  have f2 := HEV.out.c2
  have f3 := HEV.out.c3
  have f4 := HEV.out.c4
  have f5 := HEV.out.c5
  have f6 := HEV.out.c6
  have f7 := HEV.out.c7
  have f8 := HEV.out.c8
  have f9 := HEV.out.c9
  have f10 := HEV.out.c10
  go_wp2_with fail
  refine IX.out.mono ?_
  rintro e w2 ⟨i, rfl, hi, bb⟩
  have HB := Lib.hid (bstep HA.out bb)
  have HI := Lib.hid hi
  clear hi bb IX HA
  by_cases h0 : 0 ≤ i
  · have hd : decide (0 ≤ i) = true := decide_eq_true h0
    have HM := Lib.hid (show decide (k ∈ xs) = true from decide_eq_true (HI.out.1 h0))
    go_wp2
    go_ret
    exact ⟨by rw [HM.out]; rfl, HB.out⟩
  · have hd : decide (0 ≤ i) = false := decide_eq_false h0
    have HM := Lib.hid (show decide (k ∈ xs) = false from decide_eq_false (fun h => h0 (HI.out.2 h)))
    go_wp2
    go_ret
    exact ⟨by rw [HM.out]; rfl, HB.out⟩
end Go.Proofs.YtalophngappkhaaGreatDoor
namespace Go.Proofs.YtalophngappkhaaGreatDoor
open Go Go.RowKit Go.Shelf

theorem frsG_spec {next fr : Int} : ∀ {l : List (Int × Int)} {lo : Int}, Can lo l →
    (∀ n, frsG l next fr = some n → hasR l n = true ∧ fr ≤ n ∧ n < next ∧ ∀ k, fr ≤ k → k < n → hasR l k = false) ∧ (frsG l next fr = none → ∀ k, fr ≤ k → k < next → hasR l k = false)
  | [], lo, _ => ⟨fun n h => (by cases h), fun _ k _ _ => rfl⟩
  | r :: l, lo, hc => by
    obtain ⟨_, hr, hl⟩ := can_cons.1 hc
    obtain ⟨i1, i2⟩ := frsG_spec (next := next) (fr := fr) hl
    have hk := rok_iff.1 hr
    have hnx : nxt r = r.1 + r.2 := rfl
    unfold frsG
    by_cases h : max r.1 fr < r.1 + r.2 ∧ max r.1 fr < next
    · rw [if_pos h]
      refine ⟨fun n hn => ?_, fun hn => (by cases hn)⟩
      simp only [Option.some.injEq] at hn
      refine ⟨?_, by omega, by omega, fun k h1 h2 => has_head hc (by omega)⟩
      rw [hasR_cons, decide_eq_true (by omega), Bool.true_or]
    · rw [if_neg h]
      have hn : ∀ k, fr ≤ k → k < next → decide (r.1 ≤ k ∧ k < nxt r) = false := fun k h1 h2 => by
        rw [decide_eq_false_iff_not]; omega
      refine ⟨fun n hf => ?_, fun hf k h1 h2 => ?_⟩
      · obtain ⟨a1, a2, a3, a4⟩ := i1 n hf
        refine ⟨by rw [hasR_cons, a1, Bool.or_true], a2, a3, fun k h1 h2 => ?_⟩
        rw [hasR_cons, hn k h1 (by omega), a4 k h1 h2]; rfl
      · rw [hasR_cons, hn k h1 h2, i2 hf k h1 h2]; rfl
theorem seqs_run {R : List Ev} (hs : R.Pairwise (fun a b => a.seq < b.seq)) {at_ next : Int} (h : ∀ n, n ∈ seqsL R ↔ at_ ≤ n ∧ n < next) (hle : at_ ≤ next) : seqsL R = (List.range (next - at_).toNat).map (fun i => at_ + (i : Nat)) := by
  refine strict_unique id ?_ ?_ fun n => ?_
  · exact List.pairwise_map.2 hs
  · rw [List.pairwise_map]
    exact List.pairwise_lt_range.imp (fun {a b} h => by show at_ + (a : Int) < at_ + (b : Int); omega)
  · rw [h n, List.mem_map]
    refine ⟨fun hn => ⟨(n - at_).toNat, List.mem_range.2 (by omega), by omega⟩, ?_⟩
    rintro ⟨i, hi, rfl⟩
    have := List.mem_range.1 hi
    omega
/-- What First and After tell, where numbers up to want are there. -/
theorem first_gap {R : List Ev} {G : List (Int × Int)} {next at_ want : Int} (hr : rightB G = true) (hc : Can 0 G) (hh : ∀ n, hasR G n = decide (1 ≤ n ∧ n < next ∧ n ∉ seqsL R)) (h1 : 1 ≤ at_) (h3 : next ≤ 1000) (h4 : at_ ≤ want) (h5 : want < next)
    (h6 : ∀ k, at_ ≤ k → k < want → k ∈ seqsL R) (h7 : want ∉ seqsL R) : frsE G next false at_ = (want, 122) := by
  obtain ⟨s1, s2⟩ := frsG_spec (next := next) (fr := at_) hc
  have hw : hasR G want = true := by rw [hh, decide_eq_true ⟨by omega, h5, h7⟩]
  unfold frsE
  rw [hr, if_neg (by simp), if_neg (by omega)]
  cases hf : frsG G next at_ with
  | none => have := s2 hf want h4 h5; rw [hw] at this; cases this
  | some n =>
    obtain ⟨a1, a2, a3, a4⟩ := s1 n hf
    rw [hh] at a1
    have a1 := of_decide_eq_true a1
    rcases Int.lt_trichotomy n want with h | h | h
    · exact absurd (h6 n a2 h) a1.2.2
    · subst h; rfl
    · have := a4 want h4 h; rw [hw] at this; cases this
theorem first_all {R : List Ev} {G : List (Int × Int)} {next at_ : Int} (hr : rightB G = true) (hc : Can 0 G) (hh : ∀ n, hasR G n = decide (1 ≤ n ∧ n < next ∧ n ∉ seqsL R)) (h1 : 1 ≤ at_) (h2 : at_ ≤ next) (h3 : next ≤ 1000)
    (h6 : ∀ k, at_ ≤ k → k < next → k ∈ seqsL R) : frsE G next false at_ = (0, 0) := by
  obtain ⟨s1, s2⟩ := frsG_spec (next := next) (fr := at_) hc
  unfold frsE
  rw [hr, if_neg (by simp), if_neg (by omega)]
  cases hf : frsG G next at_ with
  | none => rfl
  | some n =>
    obtain ⟨a1, a2, a3, a4⟩ := s1 n hf
    rw [hh] at a1
    have a1 := of_decide_eq_true a1
    exact absurd (h6 n a2 a3) a1.2.2
theorem after_all {R : List Ev} {next at_ : Int} (hs : Srt R (next - 1)) (h2 : at_ ≤ next) (h6 : ∀ k, at_ ≤ k → k < next → k ∈ seqsL R) :
    ((fromE at_ R).length : Int) = next - at_ ∧ ∀ (i : Nat) (e : Ev), (fromE at_ R)[i]? = some e → e.seq = at_ + (i : Int) ∧ e ∈ R := by
  have hp : (fromE at_ R).Pairwise (fun a b => a.seq < b.seq) := hs.srt.sublist List.filter_sublist
  have hm : ∀ n, n ∈ seqsL (fromE at_ R) ↔ at_ ≤ n ∧ n < next := fun n => by
    unfold seqsL fromE
    rw [List.mem_map]
    refine ⟨?_, fun ⟨a1, a2⟩ => ?_⟩
    · rintro ⟨e, he, rfl⟩
      obtain ⟨b1, b2⟩ := List.mem_filter.1 he
      have := hs.rng e b1
      have b2 : at_ ≤ e.seq := by simpa using b2
      exact ⟨b2, by omega⟩
    · obtain ⟨e, he, rfl⟩ := List.mem_map.1 (h6 n a1 a2)
      exact ⟨e, List.mem_filter.2 ⟨he, by simpa using a1⟩, rfl⟩
  have hq := seqs_run hp hm h2
  have hl : (seqsL (fromE at_ R)).length = (next - at_).toNat := by rw [hq]; simp
  refine ⟨by unfold seqsL at hl; rw [List.length_map] at hl; omega, fun i e he => ⟨?_, (List.mem_filter.1 (List.mem_of_getElem? he)).1⟩⟩
  have h1 : (seqsL (fromE at_ R))[i]? = some e.seq := by unfold seqsL; rw [List.getElem?_map, he]; rfl
  rw [hq, List.getElem?_map] at h1
  obtain ⟨k, hk, hk2⟩ := Option.map_eq_some_iff.1 h1
  rw [List.getElem?_range] at hk
  · cases hk; exact hk2.symm
  · have := (List.getElem?_eq_some_iff.1 hk).1
    simpa using this
end Go.Proofs.YtalophngappkhaaGreatDoor
namespace Go.Proofs.YtalophngappkhaaGreatDoor
open Go Go.RowKit Go.Shelf
attribute [local go_sem] Oper.semAt_some

/-- What is known behind Blocks. -/
structure AfW (W : World) (Y : Nat) (vt ve vw vg : Value) (R : List Ev) (G : List (Int × Int)) (lost next : Int) : Prop where
  box : MgBox W Y ve vw vg lost next false
  tr : EV encE 11 W vt R
  ee : EV encE 11 W ve R
  eg : EV encP 2 W vg G
theorem AfW.below {W W' : World} {Y : Nat} {vt ve vw vg : Value} {R : List Ev} {G : List (Int × Int)} {lost next : Int} (h : AfW W Y vt ve vw vg R G lost next) (hb : Below W.heap.size W W') : AfW W' Y vt ve vw vg R G lost next :=
  ⟨h.box.below hb, h.tr.below hb, h.ee.below hb, h.eg.below hb⟩
set_option maxRecDepth 100000 in
set_option maxHeartbeats 6400000 in
theorem after_t17 (w wc : World) (Y : Nat) (vt ve vw vg : Value) (R : List Ev) (G : List (Int × Int)) (lost next at_ want : Int) {u0 u1 u2 u3 u4 u5 u6 u7 u8 u11 u13 u14 u15 u17 u18 u19 u20 u21 u22 u23 u24 u25 u26 u27 u28 u29 u30 u31 u32 u33 u34 u35 u36 u37 u38 u39 u40 u41 u42 u43 u44 u45 u46 u47 u48 u49 u50 u51 u52 u53 u54 u55 u56 u57 u58 u59 u60 u61 u62 u63 u64 u65 u66 u67 u68 u69 u70 u71 u72 u73 u74 u75 u76 u77 u78 u79 u80 u81 u82 u83 u84 u85 u86 u87 u88 u89 u90 u91 u92 u93 u94 u95 u96 u97 u98 u99 u100 u101 u102 u103 u104 u105 u106 u107 u108 u109 u110 u111 u112 u113 u114 u115 u116 u117 u118 u119 u120 u121 u122 u123 u124 u125 u126 u127 u128 u129 u130 u131 u132 u133 u134 u135 u136 u137 u138 u139 u140 u141 : Value} (h : AfW wc Y vt ve vw vg R G lost next) (hb : Below w.heap.size w wc)
    (hs : Srt R (next - 1)) (hr : rightB G = true) (hc : Can 0 G) (hh : ∀ n, hasR G n = decide (1 ≤ n ∧ n < next ∧ n ∉ seqsL R)) (lR : R.length ≤ 1000) (lG : G.length ≤ 1000) (h1 : 1 ≤ at_) (h2 : at_ ≤ want) (h3 : want ≤ next) (h4 : next ≤ 1000)
    (h5 : ∀ k, at_ ≤ k → k < want → k ∈ seqsL R) (h6 : want < next → want ∉ seqsL R) :
    Code.wp Tryz.prog (tailR Tryz.f5 17) (bodyPost Tryz.prog Tryz.f5 fun r w' => r = .returned (.bool true) ∧ Below w.heap.size w w')
      ⟨#[u0, u1, u2, u3, u4, u5, u6, u7, u8, vt, .pointer (some ⟨Y, 0, none⟩), u11, .int .i64 at_, u13, u14, u15, .int .i64 want, u17, u18, u19, u20, u21, u22, u23, u24, u25, u26, u27, u28, u29, u30, u31, u32, u33, u34, u35, u36, u37, u38, u39, u40, u41, u42, u43, u44, u45, u46, u47, u48, u49, u50, u51, u52, u53, u54, u55, u56, u57, u58, u59, u60, u61, u62, u63, u64, u65, u66, u67, u68, u69, u70, u71, u72, u73, u74, u75, u76, u77, u78, u79, u80, u81, u82, u83, u84, u85, u86, u87, u88, u89, u90, u91, u92, u93, u94, u95, u96, u97, u98, u99, u100, u101, u102, u103, u104, u105, u106, u107, u108, u109, u110, u111, u112, u113, u114, u115, u116, u117, u118, u119, u120, u121, u122, u123, u124, u125, u126, u127, u128, u129, u130, u131, u132, u133, u134, u135, u136, u137, u138, u139, u140, u141], []⟩ wc := by
  conv => arg 2; whnf
  conv => arg 4; dsimp only
  have HA := Lib.hid h
  have HB := Lib.hid hb
  have HF1 := Lib.hid (first_ok wc ve vw vg lost next at_ false G h.eg (by omega))
  have HF2 := Lib.hid (fun (W : World) (k : AfW W Y vt ve vw vg R G lost next) => after_ok W ve vw vg lost next at_ false R G k.eg (by omega) k.ee (by omega))
  have HLR := Lib.hid lR
  unfold mgA at HF1 HF2
  have c0 := h.box.c0
  have c1 := h.box.c1
  have c2 := h.box.c2
  have c3 := h.box.c3
  have c4 := h.box.c4
  have c5 := h.box.c5
  by_cases hlt : want < next
  · have hE := first_gap hr hc hh h1 h4 h2 hlt h5 (h6 hlt)
    rw [hE] at HF1
    have HF3 := Lib.hid (show ∀ (W : World) (k : AfW W Y vt ve vw vg R G lost next), Calls Tryz.prog 31 #[.agg #[ve, vw, vg, .int .i64 lost, .int .i64 next, .bool false], .int .i64 at_] W fun r w' => ∃ A c, r = .returned (.tuple #[.slice A 0 c, .int .i64 122]) ∧ Below W.heap.size W w' from fun W k => by
      refine (HF2.out W k).mono ?_
      rintro r w' ⟨v, rfl, o, b⟩
      rw [hE]
      have e : aftL R G next false at_ = [] := by unfold aftL; rw [hE]; rfl
      rw [e] at o
      obtain ⟨A, c, rfl⟩ := (o.ev encE_len).shape
      exact ⟨A, c, rfl, b⟩)
    clear hs hr hc hh h5 h6 hE h lR HF2 hb
    go_wp2_with fail
    refine HF1.out.mono ?_
    rintro r w1 ⟨rfl, b1⟩
    have HA1 := Lib.hid (HA.out.below b1)
    have HB1 := Lib.hid (bstep HB.out b1)
    clear c0 c1 c2 c3 c4 c5 HA HB HF1 b1
    have c0 := HA1.out.box.c0
    have c1 := HA1.out.box.c1
    have c2 := HA1.out.box.c2
    have c3 := HA1.out.box.c3
    have c4 := HA1.out.box.c4
    have c5 := HA1.out.box.c5
    go_wp2_with fail
    refine (HF3.out w1 HA1.out).mono ?_
    rintro r w2 ⟨A, c, rfl, b2⟩
    have HA2 := Lib.hid (HA1.out.below b2)
    have HB2 := Lib.hid (bstep HB1.out b2)
    clear c0 c1 c2 c3 c4 c5 HA1 HB1 HF3 b2
    have c4 := HA2.out.box.c4
    go_wp2
    go_ret
    exact ⟨rfl, HB2.out⟩
  · obtain rfl : want = next := by omega
    have hE := first_all hr hc hh h1 h2 h4 h5
    have hAll := after_all (at_ := at_) hs h2 h5
    rw [hE] at HF1
    obtain ⟨La, hLa⟩ : ∃ La, (fromE at_ R).length = La := ⟨_, rfl⟩
    have HF3 := Lib.hid (show ∀ (W : World) (k : AfW W Y vt ve vw vg R G lost want), Calls Tryz.prog 31 #[.agg #[ve, vw, vg, .int .i64 lost, .int .i64 want, .bool false], .int .i64 at_] W fun r w' => ∃ A c, r = .returned (.tuple #[.slice A La c, .int .i64 0]) ∧ EV encE 11 w' (.slice A La c) (fromE at_ R) ∧ Below W.heap.size W w' from fun W k => by
      refine (HF2.out W k).mono ?_
      rintro r w' ⟨v, rfl, o, b⟩
      rw [hE]
      have e : aftL R G want false at_ = fromE at_ R := by unfold aftL; rw [hE]; rfl
      rw [e] at o
      have o' := o.ev encE_len
      obtain ⟨A, c, rfl⟩ := o'.shape
      rw [hLa] at o' ⊢
      exact ⟨A, c, rfl, o', b⟩)
    rw [hLa] at hAll
    have hl1 := hAll.1
    have HALL := Lib.hid hAll.2
    have HLA := Lib.hid hLa
    have HLE := Lib.hid hl1
    have z1 : IntKind.i64.wrap (want - at_) = (La : Int) := by rw [← hl1]; exact IntWalk.i64_in _ (by omega)
    have z2 : wrap64 (want - at_) = (La : Int) := by rw [← hl1]; exact IntWalk.wrap64_in _ (by omega)
    have hL2 : La ≤ 1000 := by omega
    clear hs hr hc hh h5 h6 hE h lR HF2 hb hAll hLa hl1
    go_wp2_with fail
    refine HF1.out.mono ?_
    rintro r w1 ⟨rfl, b1⟩
    have HA1 := Lib.hid (HA.out.below b1)
    have HB1 := Lib.hid (bstep HB.out b1)
    clear c0 c1 c2 c3 c4 c5 HA HB HF1 b1
    have c0 := HA1.out.box.c0
    have c1 := HA1.out.box.c1
    have c2 := HA1.out.box.c2
    have c3 := HA1.out.box.c3
    have c4 := HA1.out.box.c4
    have c5 := HA1.out.box.c5
    go_wp2_with fail
    refine (HF3.out w1 HA1.out).mono ?_
    rintro r w2 ⟨A, c, rfl, ev2, b2⟩
    have HV := Lib.hid ev2
    have HA2 := Lib.hid (HA1.out.below b2)
    have HB2 := Lib.hid (bstep HB1.out b2)
    clear c0 c1 c2 c3 c4 c5 HA1 HB1 HF3 b2 ev2
    have c4 := HA2.out.box.c4
    go_wp2
    go_loopg [124] La (fun k i wr => ∃ j : Nat, j + k = La ∧ i = .int .i64 j ∧ Below w2.heap.size w2 wr)
    case atStart => exact ⟨0, by omega, rfl, Below.refl _ _⟩
    case round =>
      obtain ⟨j, hj, rfl, hb⟩ := hrel
      have HJ := Lib.hid hj
      have HBR := Lib.hid hb
      clear hj hb
      by_cases hjl : j < La
      · obtain ⟨b, off, c', hsl, hcc, hrr⟩ := (HV.out.below HBR.out).row (by rw [HLA.out]; omega)
        rw [HLA.out] at hsl
        cases hsl
        obtain ⟨e, hev⟩ : ∃ e, (fromE at_ R)[j]? = some e := ⟨_, List.getElem?_eq_getElem (by rw [HLA.out]; exact hjl)⟩
        obtain ⟨g0, g1, g2, g3, g4, g5, g6, g7, g8, g9, g10⟩ := hrr.ev hev
        have hsq := HALL.out j e hev
        have HSQ := Lib.hid hsq
        have HEV := Lib.hid (evp_new wr e)
        have HBE := Lib.hid (bel_alloc wr (.cells #[.int .i64 e.seq, .int .i64 e.time, .int .u8 e.cpu, .int .u8 e.kind, .int .i64 e.task, .int .i64 e.grp, .int .i64 e.to, .int .i64 e.wt, .int .i64 e.ticks, .int .u64 e.mask, .int .i64 e.got] 28))
        clear hrr hcc hev hsq
        go_upto_region 26 with fail
        have h1 := HEV.out
        have h2 := HBE.out
        clear HEV HBE g0 g1 g2 g3 g4 g5 g6 g7 g8 g9 g10
        generalize wr.alloc (.cells #[.int .i64 e.seq, .int .i64 e.time, .int .u8 e.cpu, .int .u8 e.kind, .int .i64 e.task, .int .i64 e.grp, .int .i64 e.to, .int .i64 e.wt, .int .i64 e.ticks, .int .u64 e.mask, .int .i64 e.got] 28) = wa at h1 h2 ⊢
        generalize wr.heap.size = B at h1 ⊢
        have HB3 := Lib.hid (bstep HBR.out h2)
        have HCN := Lib.hid (contains_ev wa vt R e ((HA2.out.tr.below HB3.out)) (by have := HLR.out; omega))
        rw [decide_eq_true HSQ.out.2] at HCN
        unfold evA at HCN
        obtain ⟨e0, e1, e2, e3, e4, e5, e6, e7, e8, e9⟩ : _ ∧ _ ∧ _ ∧ _ ∧ _ ∧ _ ∧ _ ∧ _ ∧ _ ∧ _ := ⟨h1.c0, h1.c1, h1.c2, h1.c3, h1.c4, h1.c5, h1.c6, h1.c7, h1.c8, h1.c9⟩
        have e10 := h1.c10
        rw [HSQ.out.1] at e0 HCN
        clear h1 h2 HBR
        go_wp2_with fail
        refine HCN.out.mono ?_
        rintro r w3 ⟨rfl, b3⟩
        have HB4 := Lib.hid (bstep HB3.out b3)
        clear e0 e1 e2 e3 e4 e5 e6 e7 e8 e9 e10 HCN HB3 b3
        go_wp2
        go_roundg (La - (j + 1))
        case measure => have := HJ.out; omega
        case rel => exact ⟨j + 1, by have := HJ.out; omega, by go_num, HB4.out⟩
      · obtain rfl : La = j := by have := HJ.out; omega
        go_wp2
        go_ret
        exact ⟨rfl, bstep HB2.out HBR.out⟩
end Go.Proofs.YtalophngappkhaaGreatDoor
namespace Go.Proofs.YtalophngappkhaaGreatDoor
open Go Go.RowKit Go.Shelf

theorem flat_le6 : ∀ {l : List Bck}, (∀ b ∈ l, b.evs.length ≤ 6) → (l.flatMap Bck.evs).length ≤ 6 * l.length
  | [], _ => by simp
  | b :: l, h => by
    have h1 := h b (by simp)
    have h2 := flat_le6 (l := l) (fun x hx => h x (by simp [hx]))
    rw [List.flatMap_cons, List.length_append, List.length_cons]
    omega
theorem BksS.of_sb {w : World} {v : Value} {L : List (Sl3 × Bck)} (hv : EV encSb 5 w v L) (he : ∀ x ∈ L, EV encE 11 w (slV x.1) x.2.evs) : BksS w v (L.map sbV) :=
  ⟨hv.sb, fun x hx => by
    obtain ⟨y, hy, rfl⟩ := List.mem_map.1 hx
    exact he y hy⟩
theorem blocks_sb (w : World) (v : Value) (L : List (Sl3 × Bck)) (hv : EV encSb 5 w v L) (he : ∀ x ∈ L, EV encE 11 w (slV x.1) x.2.evs) (hg : ∀ x ∈ L, BlkOk x.2 ∧ chkB x.2 = 0 ∧ x.2.evs.length ≤ 6) (hn : L.length ≤ 200) (hla : LaidAt w) (M : Mg) (c : Int) (hres : ∀ m c', MrgRes (L.map Prod.snd) m c' → c' = c ∧ m = M) :
    Calls Tryz.prog 23 #[v] w fun r w' => ∃ A1 n1 c1 A2 n2 c2 A3 n3 c3, r = .returned (.tuple #[mgA (.slice A1 n1 c1) (.slice A2 n2 c2) (.slice A3 n3 c3) M.lost M.next M.opn, .int .i64 c]) ∧ OV encE 11 28 w.heap.size w' (.slice A1 n1 c1) M.evs ∧ OV encI 1 3 w.heap.size w' (.slice A2 n2 c2) M.tw ∧ OV encP 2 34 w.heap.size w' (.slice A3 n3 c3) M.gaps ∧ Below w.heap.size w w' := by
  have hm : ∀ x ∈ L.map sbV, ∃ y ∈ L, x.2 = y.2 := fun x hx => by
    obtain ⟨y, hy, rfl⟩ := List.mem_map.1 hx
    exact ⟨y, hy, rfl⟩
  refine blocks_good w v (L.map sbV) (BksS.of_sb hv he) (fun x hx => ?_) (fun x hx => ?_) (by rw [List.length_map]; omega) ?_ hla M c (fun m c' h => hres m c' (by rwa [sb_snd] at h))
  · obtain ⟨y, hy, e⟩ := hm x hx
    rw [e]; exact (hg y hy).1
  · obtain ⟨y, hy, e⟩ := hm x hx
    rw [e]; have := (hg y hy).2.2; omega
  · rw [flat_rows, sb_snd]
    have := flat_le6 (l := L.map Prod.snd) (fun b hb => by
      obtain ⟨y, hy, rfl⟩ := List.mem_map.1 hb
      exact (hg y hy).2.2)
    rw [List.length_map] at this
    omega
/-- The whole list of a cut trace. -/
def CutP.all (xs : List (Sl3 × Bck)) (nx : Int) : List (Sl3 × Bck) := xs ++ [((none, 0, 0), bkE nx)]
theorem cut_all_snd (xs : List (Sl3 × Bck)) (nx : Int) : (CutP.all xs nx).map Prod.snd = xs.map Prod.snd ++ [bkE nx] := by unfold CutP.all; simp
theorem CutP.ev {w W : World} {v : Value} {tr : List Ev} {xs : List (Sl3 × Bck)} {nx : Int} (h : CutP w W v tr xs nx) : EV encSb 5 W v (CutP.all xs nx) := h.row.ev encSb_len
theorem CutP.evs' {w W : World} {v : Value} {tr : List Ev} {xs : List (Sl3 × Bck)} {nx : Int} (h : CutP w W v tr xs nx) : ∀ x ∈ CutP.all xs nx, EV encE 11 W (slV x.1) x.2.evs := fun x hx => by
  rcases List.mem_append.1 hx with hx | hx
  · exact h.evs x hx
  · simp only [List.mem_cons, List.not_mem_nil, or_false] at hx
    subst hx
    exact .inl ⟨rfl, _, _, rfl⟩
theorem CutP.good {w W : World} {v : Value} {tr : List Ev} {xs : List (Sl3 × Bck)} {nx : Int} (h : CutP w W v tr xs nx) (ht : Tr tr) : ∀ x ∈ CutP.all xs nx, BlkOk x.2 ∧ chkB x.2 = 0 ∧ x.2.evs.length ≤ 6 := fun x hx =>
  h.cut.all ht (l := (CutP.all xs nx).map Prod.snd) (fun b hb => by rw [cut_all_snd] at hb; simpa using hb) x.2 (List.mem_map.2 ⟨x, hx, rfl⟩)
theorem CutP.len {w W : World} {v : Value} {tr : List Ev} {xs : List (Sl3 × Bck)} {nx : Int} (h : CutP w W v tr xs nx) (ht : Tr tr) : (CutP.all xs nx).length = xs.length + 1 ∧ xs.length ≤ 40 := by
  have := h.cut.len
  rw [List.length_map] at this
  have := ht.len
  unfold CutP.all
  exact ⟨by simp, by omega⟩
theorem CutP.below {w W W' : World} {v : Value} {tr : List Ev} {xs : List (Sl3 × Bck)} {nx : Int} (h : CutP w W v tr xs nx) (hb : Below W.heap.size W W') : CutP w W' v tr xs nx :=
  ⟨h.row.below hb, fun x hx => (h.evs x hx).below hb, h.cut, bstep h.bel hb⟩
end Go.Proofs.YtalophngappkhaaGreatDoor
