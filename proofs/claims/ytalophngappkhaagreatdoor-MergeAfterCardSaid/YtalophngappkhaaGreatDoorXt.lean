/- MergeAfter: the walk. -/
import Derived.Test.YtalophngappkhaaGreatDoorZ29
import Derived.Test.YtalophngappkhaaGreatDoorZ30
import Derived.Test.YtalophngappkhaaGreatDoorZ27
set_option linter.unusedVariables false
set_option linter.unusedSimpArgs false
set_option linter.unusedSectionVars false
namespace Go.Proofs.YtalophngappkhaaGreatDoor
open Go Go.RowKit Go.Shelf
attribute [local go_sem] Oper.semAt_some

theorem EV.grm {α : Type} {enc : α → List Value} {k : Nat} {w w' : World} {v : Value} {xs : List α} {P : Program} {t : TypeId} {b c : Nat} {F : Lit → Option Value} (h : EV enc k w v xs) (hk : ∀ x, 0 < (enc x).length) (hm : MpC P t w b c F) (hg : w.grownBy w' (some b)) : EV enc k w' v xs := by
  rcases h with h | ⟨hne, b', off, c', rfl, hle, hr⟩
  · exact .inl h
  · refine .inr ⟨hne, b', off, c', rfl, hle, hr.keep fun p u hp hc => hg.cell hc ?_⟩
    rintro e
    simp only [Option.some.injEq] at e
    obtain ⟨o, ho, hc⟩ := cells_of_cell hc
    obtain ⟨D, ⟨es, clock, h1, h2⟩, _⟩ := hm
    rw [e, h1] at ho
    cases ho
    simp [Obj.isCells] at hc
theorem AfW.grm {W W' : World} {Y : Nat} {vt ve vw vg : Value} {R : List Ev} {G : List (Int × Int)} {lost next : Int} {P : Program} {t : TypeId} {b c : Nat} {F : Lit → Option Value} (h : AfW W Y vt ve vw vg R G lost next) (hm : MpC P t W b c F) (hg : W.grownBy W' (some b)) (hy : Y ≠ b) : AfW W' Y vt ve vw vg R G lost next :=
  ⟨h.box.grown hg (fun e => hy (Option.some.inj e).symm), h.tr.grm (fun x => by simp [encE]) hm hg, h.ee.grm (fun x => by simp [encE]) hm hg, h.eg.grm (fun x => by simp [encP]) hm hg⟩
set_option maxRecDepth 100000 in
set_option maxHeartbeats 6400000 in
theorem mafter_walk (w : World) (v : Value) (xs : List S6) (size more from_ : Int) (hx : S6Arg w v xs) (hU : LaidAt w) (s1 : 0 ≤ size ∧ size ≤ 255) (m1 : 0 ≤ more ∧ more ≤ 255) (f1 : 0 ≤ from_) (f2 : from_ ≤ 65535) :
    Calls Tryz.prog 5 #[v, .int .u8 size, .int .u8 more, .int .u16 from_] w fun r w' => r = .returned (.bool true) ∧ Below w.heap.size w w' := by
  have HX := Lib.hid hx
  have HU := Lib.hid hU
  have HAW := Lib.hid (awake_ok w hU)
  have HS := Lib.hid s1
  have HM := Lib.hid m1
  clear hx hU s1 m1
  go_enter Tryz.func5, Tryz.ntmps5
  go_wp2_with fail
  refine HAW.out.mono ?_
  rintro r w1 ⟨rfl, b1⟩
  have HB1 := Lib.hid b1
  have HX1 := Lib.hid (HX.out.below b1)
  clear HAW HX b1
  go_wp2_with fail
  refine (trace_ok w1 v xs HX1.out.1 HX1.out.2.1 HX1.out.2.2).mono ?_
  rintro r w2 ⟨vt, tr, rfl, o2, ht, hlen, b2⟩
  have HT := Lib.hid ht
  have HTV := Lib.hid (o2.ev encE_len)
  have HB2 := Lib.hid (bstep HB1.out b2)
  clear HX1 HB1 b2 o2 ht hlen
  go_wp2_with fail
  refine (cut_ok w2 vt tr size more HTV.out HT.out HS.out.1 HS.out.2 HM.out.1 HM.out.2).mono ?_
  rintro r w3 ⟨vc, bs, nx, rfl, hcp⟩
  have HTV3 := Lib.hid (HTV.out.below hcp.bel)
  have HB3 := Lib.hid (bstep HB2.out hcp.bel)
  have HCP := Lib.hid hcp
  clear HTV HB2 hcp
  obtain ⟨M, hM, hres⟩ := HCP.out.cut.mrg HT.out (List.Perm.refl _)
  rw [← cut_all_snd] at hres
  have HMW := Lib.hid hM
  have HRES := Lib.hid hres
  clear hM hres
  go_wp2_with fail
  refine (blocks_sb w3 vc (CutP.all bs nx) HCP.out.ev HCP.out.evs' (HCP.out.good HT.out) (by have := HCP.out.len HT.out; omega) (HU.out.below HB3.out) M 0 HRES.out).mono ?_
  rintro r w4 ⟨A1, n1, c1, A2, n2, c2, A3, n3, c3, rfl, o1, o2, o3, b4⟩
  obtain ⟨lost, hlost⟩ : ∃ lost, lostB ((bs.map Prod.snd) ++ [bkE nx]) = lost := ⟨_, rfl⟩
  have hmw := HMW.out
  rw [hlost] at hmw
  have heq := hmw.eq
  obtain ⟨G, hG⟩ : ∃ G, gapsOf tr nx = G := ⟨_, rfl⟩
  rw [hG] at heq
  subst heq
  have HW := Lib.hid hmw
  have hn1 := hmw.rng.1
  have hn2 := hmw.rng.2
  have HE1 := Lib.hid (o1.ev encE_len)
  have HE3 := Lib.hid (o3.ev encP_len)
  have HTV4 := Lib.hid (HTV3.out.below b4)
  have HB4 := Lib.hid (bstep HB3.out b4)
  clear HMW HRES hlost hmw hG o1 o2 o3 b4 HTV3 HB3 HCP
  unfold mgA
  dsimp only
  have HMB := Lib.hid (MgBox.new w4 (.slice A1 n1 c1) (.slice A2 n2 c2) (.slice A3 n3 c3) lost nx false)
  have HA5 := Lib.hid (bel_alloc w4 (.cells #[.slice A1 n1 c1, .slice A2 n2 c2, .slice A3 n3 c3, .int .i64 lost, .int .i64 nx, .bool false] 39))
  go_upto_region 5 with fail
  generalize w4.alloc (.cells #[.slice A1 n1 c1, .slice A2 n2 c2, .slice A3 n3 c3, .int .i64 lost, .int .i64 nx, .bool false] 39) = w5 at HMB HA5 ⊢
  generalize w4.heap.size = Y at HMB ⊢
  have HAF := Lib.hid (show AfW w5 Y vt (.slice A1 n1 c1) (.slice A2 n2 c2) (.slice A3 n3 c3) tr G lost nx from ⟨HMB.out, HTV4.out.below HA5.out, HE1.out.below HA5.out, HE3.out.below HA5.out⟩)
  have HB5 := Lib.hid (bstep HB4.out HA5.out)
  clear HMB HA5 HTV4 HE1 HE3 HB4
  have c4 := HAF.out.box.c4
  have hz1 := Int.emod_nonneg from_ (show nx ≠ 0 by omega)
  have hz2 := Int.emod_lt_of_pos from_ (show 0 < nx by omega)
  have hz3 : ¬ nx = 0 := by omega
  obtain ⟨at_, hat⟩ : ∃ at_, 1 + from_ % nx = at_ := ⟨_, rfl⟩
  have ha1 : 1 ≤ at_ := by omega
  have ha2 : at_ ≤ nx := by omega
  have hmm := @run_makeMap Tryz.prog
  go_upto_region 9 with fail
  try rw [hat]
  have HM0 := Lib.hid (MpC.made Tryz.prog 3 w5)
  have HAF6 := Lib.hid (HAF.out.below (bel_alloc w5 (.map #[] 0)))
  have HB6 := Lib.hid (bstep HB5.out (bel_alloc w5 (.map #[] 0)))
  have hlt := HAF.out.box.lt
  have hsz := HB5.out.size
  obtain ⟨mb, hmb⟩ : ∃ mb, w5.heap.size = mb := ⟨_, rfl⟩
  have HYM := Lib.hid (show Y < mb ∧ w.heap.size ≤ mb by omega)
  rw [hmb] at HM0 ⊢
  generalize w5.alloc (.map #[] 0) = w6 at HM0 HAF6 HB6 ⊢
  clear hmm hlt hsz hmb HAF HB5 c4 hz1 hz2 hz3 hat
  obtain ⟨At, ct, hAt⟩ := HAF6.out.tr.shape
  subst hAt
  obtain ⟨n, hn⟩ : ∃ n, tr.length = n := ⟨_, rfl⟩
  have HN := Lib.hid (show tr.length = n ∧ n ≤ 40 from ⟨hn, by have := HT.out.len; omega⟩)
  have HTR6 := Lib.hid HAF6.out.tr
  have HDIF := Lib.hid (fun (g : Nat) (h : EV encE 11 w6 (.slice At tr.length ct) tr) => h)
  rw [hn] at HAF6 HTR6 ⊢
  clear hn HDIF
  have hn40 := HN.out.2
  go_upto_block 0 with fail
  go_cut [] (fun wz => ∃ wq F, wq = wz ∧ MpC Tryz.prog 3 wz mb n F ∧ TB F (seqsL tr) ∧ w6.grownBy wz (some mb))
  case first =>
    go_wp2
    go_loopg [50] n (fun k i wr => ∃ (j : Nat) (F : Lit → Option Value), j + k = n ∧ i = .int .i64 j ∧ MpC Tryz.prog 3 wr mb j F ∧ TB F (seqsL (tr.take j)) ∧ w6.grownBy wr (some mb))
    case atStart => exact ⟨0, _, by omega, rfl, HM0.out, TB.nil, World.grownBy.refl _ _⟩
    case round =>
      obtain ⟨j, F, hj, rfl, hm, ht, hgb⟩ := hrel
      have HJ := Lib.hid hj
      have HM2 := Lib.hid hm
      have HTB := Lib.hid ht
      have HGB := Lib.hid hgb
      clear hj hm ht hgb
      by_cases hlt : j < n
      · obtain ⟨b, off, c', hsl, hcc, hr⟩ := HTR6.out.row (by rw [HN.out.1]; omega)
        rw [HN.out.1] at hsl
        cases hsl
        obtain ⟨e, hev⟩ : ∃ e, tr[j]? = some e := ⟨_, List.getElem?_eq_getElem (by rw [HN.out.1]; exact hlt)⟩
        have hne : b ≠ mb := fun e => by
          subst e
          obtain ⟨o, ho, hc⟩ := cells_of_cell (hr.ev hev).1
          obtain ⟨D, ⟨es, clock, h1, h2⟩, _⟩ := HM0.out
          rw [show (⟨b, off + j * 11, none⟩ : Addr).block = b from rfl, h1] at ho
          cases ho
          simp [Obj.isCells] at hc
        have hr2 : ER encE 11 wr b off tr := hr.keep (fun p u hp hc => HGB.out.cell hc (by rw [hp]; simpa using hne))
        obtain ⟨g0, g1, g2, g3, g4, g5, g6, g7, g8, g9, g10⟩ := hr2.ev hev
        have HSN := Lib.hid (seqs_snoc hev)
        have HNEW := Lib.hid (seqs_new (HT.out.srt.imp (fun {a b} h => h.1)) hev)
        have her := HT.out.srt'.rng e (List.mem_of_getElem? hev)
        have HKEY := Lib.hid (keyI (z := e.seq) (by omega))
        have HEV := Lib.hid (evp_new wr e)
        have HA := Lib.hid (bel_alloc wr (.cells #[.int .i64 e.seq, .int .i64 e.time, .int .u8 e.cpu, .int .u8 e.kind, .int .i64 e.task, .int .i64 e.grp, .int .i64 e.to, .int .i64 e.wt, .int .i64 e.ticks, .int .u64 e.mask, .int .i64 e.got] 28))
        clear hr hr2 hcc hev her hne
        go_upto_region 12 with fail
        have h1 := HEV.out
        have h2 := HA.out
        clear HEV HA g0 g1 g2 g3 g4 g5 g6 g7 g8 g9 g10
        generalize wr.alloc (.cells #[.int .i64 e.seq, .int .i64 e.time, .int .u8 e.cpu, .int .u8 e.kind, .int .i64 e.task, .int .i64 e.grp, .int .i64 e.to, .int .i64 e.wt, .int .i64 e.ticks, .int .u64 e.mask, .int .i64 e.got] 28) = wa at h1 h2 ⊢
        have HM3 := Lib.hid (HM2.out.below h2)
        have HGB3 := Lib.hid (HGB.out.trans (grown_below h2 _))
        have e0 := h1.c0
        clear h1 h2
        go_wp2_with (at_mapUpdate; refine wpList_putC (k := 3) (e := 4) rfl _ _ _ (by rfl) lawI Tryz.underlying64 (by rfl) HM3.out (by unfold maxLen; omega) _ _ _ (by rfl) (by rfl) HKEY.out ?_)
        intro w7 m7 g7
        rw [HTB.out.new HNEW.out] at m7
        have HM7 := Lib.hid m7
        have HGB7 := Lib.hid (HGB3.out.trans g7)
        clear m7 g7 e0
        go_wp2
        go_roundg (n - (j + 1))
        case measure => have := HJ.out; omega
        case rel => exact ⟨j + 1, _, by have := HJ.out; omega, by go_num, HM7.out, by rw [HSN.out]; exact HTB.out.snoc _, HGB7.out⟩
      · obtain rfl : n = j := by have := HJ.out; omega
        have HT2 := Lib.hid (show TB F (seqsL tr) by have := HTB.out; rwa [List.take_of_length_le (Nat.le_of_eq HN.out.1)] at this)
        go_wp2
        go_meet
        exact ⟨_, F, rfl, HM2.out, HT2.out, HGB.out⟩
  case rest =>
    obtain ⟨w7, F, rfl, hm, ht, hgb⟩ := hcut
    have HM7 := Lib.hid hm
    have HT7 := Lib.hid ht
    have HAF7 := Lib.hid (HAF6.out.grm HM0.out hgb (by have := HYM.out.1; omega))
    have HB7 := Lib.hid (HB6.out.grown hgb HB6.out.size (fun k e => by cases e; exact HYM.out.2))
    clear hm ht hgb HAF6 HM0 HB6 HTR6
    have c4 := HAF7.out.box.c4
    go_upto_block 2 with fail
    go_cut [16] (fun v wz => ∃ want, v = .int .i64 want ∧ (at_ ≤ want ∧ want ≤ nx ∧ (∀ k, at_ ≤ k → k < want → k ∈ seqsL tr) ∧ (want < nx → want ∉ seqsL tr)) ∧ wz = w7)
    case first =>
      go_wp2
      go_loopg [16] (nx - at_).toNat (fun k i wr => ∃ x : Int, i = .int .i64 x ∧ (x + (k : Int) = nx ∧ at_ ≤ x ∧ ∀ k, at_ ≤ k → k < x → k ∈ seqsL tr) ∧ wr = w7)
      case atStart => exact ⟨at_, rfl, ⟨by omega, Int.le_refl _, fun k h1 h2 => by omega⟩, rfl⟩
      case round =>
        obtain ⟨x, rfl, ⟨hx1, hx2, hx3⟩, rfl⟩ := hrel
        have HX3 := Lib.hid hx3
        have HX1 := Lib.hid hx1
        clear hx1 hx3
        by_cases hlt : x < nx
        · have hlook := HM7.out.mpv.look lawI Tryz.underlying64 (zeroBo _) (keyI (z := x) (by omega))
          rw [HT7.out] at hlook
          by_cases hin : x ∈ seqsL tr
          · have HIN := Lib.hid hin
            rw [if_pos hin] at hlook
            clear hin
            go_wp2
            go_roundg (gk - 1)
            case measure => have := HX1.out; omega
            case rel => exact ⟨x + 1, rfl, ⟨by have := HX1.out; omega, by omega, fun k h1 h2 => by
              by_cases h : k < x
              · exact HX3.out k h1 h
              · obtain rfl : k = x := by omega
                exact HIN.out⟩, rfl⟩
          · have HIN := Lib.hid hin
            rw [if_neg hin] at hlook
            clear hin
            go_wp2
            go_meet
            exact ⟨x, rfl, ⟨hx2, Int.le_of_lt hlt, HX3.out, fun _ => HIN.out⟩, rfl⟩
        · go_wp2
          go_meet
          exact ⟨x, rfl, ⟨hx2, by have := HX1.out; omega, HX3.out, fun h => absurd h (by omega)⟩, rfl⟩
    case rest =>
      obtain ⟨want, rfl, ⟨q1, q2, q3, q4⟩, rfl⟩ := hcut
      refine (‹∀ (a : Act) (w : World), Code.wp _ _ _ a w → _› : ∀ (a : Act) (w : World), _ → _) _ _ (after_t17 w _ Y _ _ _ _ tr G lost nx at_ want HAF7.out HB7.out HW.out.srt HW.out.right HW.out.can HW.out.has HW.out.len.1 HW.out.len.2 ha1 q1 q2 hn2 q3 q4)
end Go.Proofs.YtalophngappkhaaGreatDoor
