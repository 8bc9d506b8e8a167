/- The walk of the law SeqSets. -/
import Derived.Test.YtofjgcbjpmgkdaaTe
import Derived.Deep.CutBlock
set_option linter.unusedVariables false
set_option linter.unusedSimpArgs false
set_option linter.unusedSectionVars false
namespace Go.Proofs.Ytofjgcbjpmgkdaa
open Go.RowKit Go.Shelf

theorem four_rows (w : World) (X : Nat) (hX : w.heap.size = X) {v1 v2 v3 v4 : Value} {l1 l2 l3 l4 : List (Int × Int)} (e1 : EV encP 2 w v1 l1) (e2 : EV encP 2 w v2 l2) (e3 : EV encP 2 w v3 l3) (e4 : EV encP 2 w v4 l4)
    (r1 : rightB l1 = true) (r2 : rightB l2 = true) (r3 : rightB l3 = true) (r4 : rightB l4 = true) :
    ∃ xs : List (Value × List (Int × Int)), xs.length = 4 ∧ RowsOf (w.alloc (.cells #[v1, v2, v3, v4] 22)) (.slice (some ⟨X, 0, none⟩) 4 4) xs ∧ (∀ x ∈ xs, rightB x.2 = true) ∧ True := by
  have h1 := right_len r1
  have h2 := right_len r2
  have h3 := right_len r3
  have h4 := right_len r4
  refine ⟨[(v1, l1), (v2, l2), (v3, l3), (v4, l4)], rfl, ⟨EV.newM encV_len rfl rfl hX, fun x hx => ?_⟩, fun x hx => ?_, trivial⟩
  · simp at hx
    rcases hx with rfl | rfl | rfl | rfl
    · exact ⟨e1.below (bel_alloc _ _), by dsimp only; omega⟩
    · exact ⟨e2.below (bel_alloc _ _), by dsimp only; omega⟩
    · exact ⟨e3.below (bel_alloc _ _), by dsimp only; omega⟩
    · exact ⟨e4.below (bel_alloc _ _), by dsimp only; omega⟩
  · simp at hx
    rcases hx with rfl | rfl | rfl | rfl <;> assumption
set_option maxRecDepth 100000 in
set_option maxHeartbeats 4000000 in
theorem setsLaw_walk (w : World) (a1 : Option Addr) (n1 c1 : Nat) (z1 : List Int) (a2 : Option Addr) (n2 c2 : Nat) (z2 : List Int) (n : Int) (h1 : IsRow .u8 w a1 n1 c1 z1) (h2 : IsRow .u8 w a2 n2 c2 z2) (hn : (Lit.int .i64 n).wf = true) :
    Calls Try.prog 8 #[.slice a1 n1 c1, .slice a2 n2 c2, .int .i64 n] w fun e w' => e = .returned (.bool true) ∧ Below w.heap.size w w' := by
  obtain ⟨A, rA, lA, MA⟩ := made_arg h1
  obtain ⟨B, rB, lB, MB⟩ := made_arg h2
  have wn := Lib.hid (wf_i64 hn)
  have F := (Facts.nil w).snoc (sB w) (Below.refl _ _)
  have RA := Lib.hid rA
  have RB := Lib.hid rB
  have MA := Lib.hid MA
  have MB := Lib.hid MB
  have RU := Lib.hid (both_right (tk := tkU) rfl rA rB (by omega) (by omega))
  have RC := Lib.hid (both_right (tk := tkC) rfl rA rB (by omega) (by omega))
  have RW := Lib.hid (both_right (tk := tkW) rfl rA rB (by omega) (by omega))
  have HU := Lib.hid (fun k => both_has (tk := tkU) rfl rA rB k)
  have HC := Lib.hid (fun k => both_has (tk := tkC) rfl rA rB k)
  have HW := Lib.hid (fun k => both_has (tk := tkW) rfl rA rB k)
  have U1 := Lib.hid (union_r (a := A) (b := B))
  have U2 := Lib.hid (common_r (a := A) (b := B))
  have U3 := Lib.hid (without_r (a := A) (b := B))
  generalize bothL tkU A B = U at *
  generalize bothL tkC A B = C at *
  generalize bothL tkW A B = D at *
  clear h1 h2 hn rA rB lA lB
  go_enter Try.func8, Try.ntmps8
  go_wp2_with fail
  refine (awake_ok w).mono ?_
  rintro e w1 ⟨rfl, bb⟩
  replace F := F.below bb
  have sw1 := bb.size
  clear bb
  go_wp2_with fail
  refine (MA.out w1 (F.get 0)).mono ?_
  rintro e w2 ⟨a, rfl, o, bb⟩
  replace F := (F.below bb).snoc (sOV encP 2 35 w1.heap.size a A) o
  have sw2 := bb.size
  have Ka := Lib.hid o.block
  clear bb o
  go_wp2_with fail
  refine (MB.out w2 (F.get 0)).mono ?_
  rintro e w3 ⟨b, rfl, o, bb⟩
  replace F := (F.below bb).snoc (sOV encP 2 35 w2.heap.size b B) o
  have sw3 := bb.size
  have Kb := Lib.hid o.block
  clear bb o
  go_wp2_with fail
  refine (U1.out w3 a b (OV.ev (F.get 1) encP_len) (OV.ev (F.get 2) encP_len) RA.out RB.out).mono ?_
  rintro e w4 ⟨u, rfl, o, bb⟩
  replace F := (F.below bb).snoc (sOV encP 2 35 w3.heap.size u U) o
  have sw4 := bb.size
  have Ku := Lib.hid o.block
  clear bb o
  go_wp2_with fail
  refine (U2.out w4 a b (OV.ev (F.get 1) encP_len) (OV.ev (F.get 2) encP_len) RA.out RB.out).mono ?_
  rintro e w5 ⟨c, rfl, o, bb⟩
  replace F := (F.below bb).snoc (sOV encP 2 35 w4.heap.size c C) o
  have sw5 := bb.size
  have Kc := Lib.hid o.block
  clear bb o
  go_wp2_with fail
  refine (U3.out w5 a b (OV.ev (F.get 1) encP_len) (OV.ev (F.get 2) encP_len) RA.out RB.out).mono ?_
  rintro e w6 ⟨d, rfl, o, bb⟩
  replace F := (F.below bb).snoc (sOV encP 2 35 w5.heap.size d D) o
  have sw6 := bb.size
  have Kd := Lib.hid o.block
  clear bb o
  go_wp2_with fail
  refine (right_t w6 u U (OV.ev (F.get 3) encP_len) RU.out).mono ?_
  rintro e w7 ⟨rfl, bb⟩
  replace F := F.below bb
  have sw7 := bb.size
  clear bb
  go_wp2_with fail
  refine (right_t w7 c C (OV.ev (F.get 4) encP_len) RC.out).mono ?_
  rintro e w8 ⟨rfl, bb⟩
  replace F := F.below bb
  have sw8 := bb.size
  clear bb
  go_wp2_with fail
  refine (right_t w8 d D (OV.ev (F.get 5) encP_len) RW.out).mono ?_
  rintro e w9 ⟨rfl, bb⟩
  replace F := F.below bb
  have sw9 := bb.size
  clear bb
  obtain ⟨Aa, ca, rfl⟩ := (OV.ev (F.get 1 : OV encP 2 35 w1.heap.size w9 a A) encP_len).shape
  obtain ⟨Ab, cb, rfl⟩ := (OV.ev (F.get 2 : OV encP 2 35 w2.heap.size w9 b B) encP_len).shape
  obtain ⟨Au, cu, rfl⟩ := (OV.ev (F.get 3 : OV encP 2 35 w3.heap.size w9 u U) encP_len).shape
  obtain ⟨Ac, cc, rfl⟩ := (OV.ev (F.get 4 : OV encP 2 35 w4.heap.size w9 c C) encP_len).shape
  obtain ⟨Ad, cd, rfl⟩ := (OV.ev (F.get 5 : OV encP 2 35 w5.heap.size w9 d D) encP_len).shape
  have EN := Lib.hid (ends_two w9 _ _ A B _ rfl (OV.ev (F.get 1) encP_len) (OV.ev (F.get 2) encP_len) RA.out RB.out)
  have F9 := Lib.hid F
  clear F
  go_wp2_with fail
  refine EN.out.mono ?_
  rintro e w10 ⟨r, zs, rfl, o, hzl, hzb, bb⟩
  have sw10 := bb.size
  have HO := Lib.hid o
  have BB := Lib.hid bb
  have HZB := Lib.hid hzb
  clear o bb hzb EN
  go_wp2_with (at_builtin; refine wpList_app elemI encI_len encI_one rfl (.tmp 71) (.tmp 73) rfl _ _ rfl rfl (HO.out.alloc _) (new_one (z := n)) ?q1 ?q2 ?_)
  case q1 => simp; omega
  case q2 => (try simp); omega
  intro v' w11 o2 g2
  have b11 : Below w9.heap.size w9 w11 := (BB.out.alloc sw10 _).grown g2 (by simp; omega) (fun k hk => (HO.out.block k hk).1)
  have sw11 := b11.size
  have F11 := Lib.hid (F9.out.below b11)
  have HZ := Lib.hid (show ∀ z ∈ zs ++ [n], -9223372036854775808 ≤ z ∧ z ≤ 9223372036854775807 from fun z hz => by
    rcases List.mem_append.1 hz with hz | hz
    · have := HZB.out z hz; omega
    · simp at hz; subst hz; exact wn.out)
  have hzl2 : (zs ++ [n]).length ≤ 1000000000 := by simp; omega
  generalize zs ++ [n] = zs2 at *
  have hev := o2.ev encI_len
  obtain ⟨A7, c7, rfl⟩ := hev.shape
  obtain ⟨N, hN⟩ : ∃ N, zs2.length = N := ⟨_, rfl⟩
  rw [hN] at hev hzl2 ⊢
  have HN := Lib.hid hN
  have HEV := Lib.hid hev
  clear g2 o2 b11 hev hN F9 HZB HO BB hzl
  go_wp2_with fail
  go_loopg [16, 17, 18, 20, 21, 22, 76] N (fun k _ _ _ _ _ _ i wr => ∃ t : Nat, t + k = N ∧ i = .int .i64 t ∧ Below w11.heap.size w11 wr)
  case atStart => exact ⟨0, by omega, rfl, Below.refl _ _⟩
  case round =>
    obtain ⟨t, ht, rfl, hb⟩ := hrel
    have HT := Lib.hid ht
    have HB := Lib.hid hb
    have hsz := hb.size
    clear ht hb
    by_cases hlt : t < N
    · obtain ⟨b7, o7, c7', hvv, -, rr⟩ := HEV.out.row (by rw [HN.out]; omega)
      simp only [Value.slice.injEq] at hvv
      obtain ⟨rfl, -, rfl⟩ := hvv
      obtain ⟨z, hz, cz⟩ := (rr.below HB.out).get1 (i := t) (by rw [HN.out]; exact hlt)
      have WZ := Lib.hid (HZ.out z (List.mem_of_getElem? hz))
      have F := F11.out.below HB.out
      have HUz := Lib.hid (HU.out z)
      have HCz := Lib.hid (HC.out z)
      have HWz := Lib.hid (HW.out z)
      have LA := Lib.hid (fun (w' : World) (h : EV encP 2 w' (.slice Aa A.length ca) A) => lhas_r w' _ A z h RA.out)
      have LB := Lib.hid (fun (w' : World) (h : EV encP 2 w' (.slice Ab B.length cb) B) => lhas_r w' _ B z h RB.out)
      obtain ⟨x, hx⟩ : ∃ x, hasR A z = x := ⟨_, rfl⟩
      obtain ⟨y, hy⟩ : ∃ y, hasR B z = y := ⟨_, rfl⟩
      rw [hx] at HUz HCz HWz LA
      rw [hy] at HUz HCz HWz LB
      clear hz rr hx hy
      go_wp2_with fail
      refine (LA.out wr (OV.ev (F.get 1) encP_len)).mono ?_
      rintro e x1 ⟨rfl, bb⟩
      replace F := F.below bb
      have B1 := Lib.hid (HB.out.trans (bb.mono hsz))
      have s1 := B1.out.size
      clear bb
      go_wp2_with fail
      refine (LB.out x1 (OV.ev (F.get 2) encP_len)).mono ?_
      rintro e x2 ⟨rfl, bb⟩
      replace F := F.below bb
      have B2 := Lib.hid (B1.out.trans (bb.mono s1))
      have s2 := B2.out.size
      have F2 := Lib.hid F
      clear bb LA LB B1 s1 F
      go_upto_region 13 with fail
      go_cut [114] (fun v wx => v = .bool false ∧ Below w11.heap.size w11 wx)
      case first =>
        have F := F2.out
        cases x <;> cases y
        all_goals
          have E1 := Lib.hid HUz.out
          have E2 := Lib.hid HCz.out
          have E3 := Lib.hid HWz.out
          simp only [tkU, tkC, tkW, Bool.or_false, Bool.or_true, Bool.and_false, Bool.and_true, Bool.not_true, Bool.not_false] at E1 E2 E3
          have H1 := Lib.hid (fun (w' : World) (h : EV encP 2 w' (.slice Au U.length cu) U) => (lhas_r w' _ U z h RU.out).mono fun e w'' h' => (show e = .returned (.bool _) ∧ _ from ⟨h'.1.trans (by rw [E1.out]), h'.2⟩))
          have H2 := Lib.hid (fun (w' : World) (h : EV encP 2 w' (.slice Ac C.length cc) C) => (lhas_r w' _ C z h RC.out).mono fun e w'' h' => (show e = .returned (.bool _) ∧ _ from ⟨h'.1.trans (by rw [E2.out]), h'.2⟩))
          have H3 := Lib.hid (fun (w' : World) (h : EV encP 2 w' (.slice Ad D.length cd) D) => (lhas_r w' _ D z h RW.out).mono fun e w'' h' => (show e = .returned (.bool _) ∧ _ from ⟨h'.1.trans (by rw [E3.out]), h'.2⟩))
          go_wp2_with fail
          refine (H1.out x2 (OV.ev (F.get 3) encP_len)).mono ?_
          rintro e x3 ⟨rfl, bb⟩
          replace F := F.below bb
          have B3 := Lib.hid (B2.out.trans (bb.mono s2))
          have s3 := B3.out.size
          clear bb
          go_wp2_with fail
          refine (H2.out x3 (OV.ev (F.get 4) encP_len)).mono ?_
          rintro e x4 ⟨rfl, bb⟩
          replace F := F.below bb
          have B4 := Lib.hid (B3.out.trans (bb.mono s3))
          have s4 := B4.out.size
          clear bb
          go_wp2_with fail
          refine (H3.out x4 (OV.ev (F.get 5) encP_len)).mono ?_
          rintro e x5 ⟨rfl, bb⟩
          have B5 := Lib.hid (B4.out.trans (bb.mono s4))
          clear bb F
          go_wp2_with fail
          go_meet
          exact ⟨rfl, B5.out⟩
      case rest =>
        obtain ⟨rfl, hb⟩ := hcut
        have HB := Lib.hid hb
        have hsz := hb.size
        have F := F11.out.below HB.out
        clear hb F2 HUz HCz HWz B2 s2
        rename_i wc
        have RW := Lib.hid (four_rows wc _ rfl (OV.ev (F.get 1) encP_len) (OV.ev (F.get 3) encP_len) (OV.ev (F.get 4) encP_len) (OV.ev (F.get 5) encP_len) RA.out RU.out RC.out RW.out)
        clear F
        go_wp2_with fail
        have ba := bel_alloc wc (.cells #[.slice Aa A.length ca, .slice Au U.length cu, .slice Ac C.length cc, .slice Ad D.length cd] 22)
        have bw := HB.out.trans (ba.mono hsz)
        have HBW := Lib.hid bw
        have szx := bw.size
        generalize wc.alloc (.cells #[.slice Aa A.length ca, .slice Au U.length cu, .slice Ac C.length cc, .slice Ad D.length cd] 22) = wx at RW HBW szx ⊢
        generalize wc.heap.size = X at RW ⊢
        clear ba bw
        go_loopg [20, 21, 22, 121] 4 (fun k _ _ _ i wq => ∃ q : Nat, q + k = 4 ∧ i = .int .i64 q ∧ Below wx.heap.size wx wq)
        case atStart => exact ⟨0, by omega, rfl, Below.refl _ _⟩
        case round =>
          obtain ⟨q, hq, rfl, hb⟩ := hrel
          have HQ := Lib.hid hq
          have HB2 := Lib.hid hb
          have hsz2 := hb.size
          clear hq hb
          by_cases hlq : q < 4
          · have hd : decide ((q : Int) < 4) = true := by rw [decide_eq_true_eq]; omega
            obtain ⟨xs, hxs, r1, r2, r3⟩ := RW.out
            obtain ⟨⟨g, L⟩, hx⟩ : ∃ x, xs[q]? = some x := ⟨_, List.getElem?_eq_getElem (by omega)⟩
            have hm := List.mem_of_getElem? hx
            have c0 := (r1.1.row3 (by omega)).below HB2.out q (g, L) hx 0 g rfl
            simp only [Nat.mul_one, Nat.add_zero, Nat.zero_add] at c0
            have EL := Lib.hid (fun (w' : World) (h : Below wx.heap.size wx w') => (show EV encP 2 w' g L from (r1.2 _ hm).1.below h))
            have RL := Lib.hid (show rightB L = true from r2 _ hm)
            have S1 := Lib.hid (has_r wr g L z (EL.out _ HB2.out) RL.out WZ.out.1 WZ.out.2)
            clear hx hm r1 r2 r3 hxs
            go_wp2_with fail
            refine S1.out.mono ?_
            rintro e x3 ⟨rfl, bb⟩
            have B3 := Lib.hid (HB2.out.trans (bb.mono hsz2))
            have s3 := B3.out.size
            have S2 := Lib.hid (lhas_r x3 g L z (EL.out _ B3.out) RL.out)
            clear bb S1
            go_wp2_with fail
            refine S2.out.mono ?_
            rintro e x4 ⟨rfl, bb⟩
            have B4 := Lib.hid (B3.out.trans (bb.mono s3))
            clear bb S2
            generalize hasR L z = hz
            go_wp2
            go_roundg (gk - 1)
            case measure => have := HQ.out; omega
            case rel => exact ⟨q + 1, by have := HQ.out; omega, by go_num, B4.out⟩
          · have hd : decide ((q : Int) < 4) = false := by rw [decide_eq_false_iff_not]; omega
            have BF := Lib.hid (HBW.out.trans (HB2.out.mono szx))
            go_wp2
            go_roundg (N - (t + 1))
            case measure => have := HT.out; omega
            case rel => exact ⟨t + 1, by have := HT.out; omega, by go_num, BF.out⟩
    · go_wp2
      go_ret
      exact ⟨rfl, by have := (F11.out.below HB.out).get 0; exact this⟩
end Go.Proofs.Ytofjgcbjpmgkdaa
