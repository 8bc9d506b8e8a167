/- MergeSplits: the rows are merged again. -/
import Derived.Test.YtalophngappkhaaGreatDoorMsb
import Derived.Test.YtalophngappkhaaGreatDoorZ10
import Derived.Test.YtalophngappkhaaGreatDoorZ19
import Derived.Test.YtalophngappkhaaGreatDoorZ8
import Derived.Test.YtalophngappkhaaGreatDoorZ28
import Derived.Lib.AppendZerosOnto
import Derived.Deep.CutBlock
set_option linter.unusedVariables false
set_option linter.unusedSimpArgs false
set_option linter.unusedSectionVars false
namespace Go.Proofs.YtalophngappkhaaGreatDoor
open Go Go.RowKit Go.Shelf
attribute [local go_sem] Oper.semAt_some
theorem elemLE2 : ElemT Tryz.prog 41 22 1 24 := ⟨Tryz.underlying41, by
  have h : (Tryz.prog.info? 22).map (fun i => (i.zero, i.size, i.bytes)) = some (some (.slice none 0 0), 1, 24) := by kernel_rfl
  obtain ⟨i, h1, h2, h3, h4⟩ := info_parts h
  exact ⟨i, _, h1, h2, h3, h4, rfl⟩, by omega, by omega⟩
set_option maxHeartbeats 800000 in
theorem grow_rw (w : World) (n : Nat) (hn : n ≤ 1000000000) :
    Calls Tryz.prog 72 #[.slice none 0 0, .int .i64 n] w fun e w' => ∃ v, e = .returned v ∧ OV encSl 1 22 w.heap.size w' v [] ∧ Below w.heap.size w w' := by
  rcases Nat.eq_zero_or_pos n with rfl | h0
  · go_enter Tryz.func72, Tryz.ntmps72
    go_wp2
    go_ret
    exact ⟨_, rfl, OV.nil _ _, Below.refl _ _⟩
  · go_enter Tryz.func72, Tryz.ntmps72
    go_wp2_with (at_builtin; refine wpList_grow0 (enc := encSl) elemLE2 Tryz.underlying3 rfl _ _ rfl n rfl rfl h0 hn ?_)
    intro cap w1 hc ho hb
    have HO := Lib.hid ho
    have HB := Lib.hid hb
    clear ho hb
    go_wp2
    go_ret
    exact ⟨_, rfl, HO.out, HB.out⟩
set_option maxRecDepth 100000 in
set_option maxHeartbeats 1600000 in
theorem concat_rw (w0 : World) (v : Value) (xss : List (Value × List (Sl3))) (hv : EV encVs 1 w0 v xss) (hx : ∀ x ∈ xss, EV encSl 1 w0 x.1 x.2) (hm : xss.length ≤ 1000000) (hT : (xss.flatMap Prod.snd).length ≤ 10000000) :
    Calls Tryz.prog 42 #[v] w0 fun e w' => ∃ v', e = .returned v' ∧ OV encSl 1 22 w0.heap.size w' v' (xss.flatMap Prod.snd) ∧ Below w0.heap.size w0 w' := by
  obtain ⟨A, c, rfl⟩ := hv.shape
  have HV := Lib.hid hv
  have HX := Lib.hid hx
  have HTT := Lib.hid hT
  obtain ⟨m, hmm⟩ : ∃ m, m = xss.length := ⟨_, rfl⟩
  have HM := Lib.hid hmm
  rw [← hmm] at hm ⊢
  have HTL := Lib.hid (fun j => tot_le xss j)
  obtain ⟨S, hS⟩ : ∃ S, S = (xss.flatMap Prod.snd).length := ⟨_, rfl⟩
  have HS := Lib.hid hS
  have hS2 : S ≤ 10000000 := by omega
  have HGR := Lib.hid (fun wx => grow_rw wx S (by omega))
  clear hv hx hmm hT hS
  go_enter Tryz.func42, Tryz.ntmps42
  go_wp2
  go_loopg [3, 11] m (fun k z i wr => ∃ j : Nat, j + k = m ∧ i = .int .i64 j ∧ z = .int .i64 (((xss.take j).flatMap Prod.snd).length : Nat) ∧ wr = w0)
  case atStart => exact ⟨0, by omega, rfl, rfl, rfl⟩
  case round =>
    obtain ⟨j, hj, rfl, rfl, rfl⟩ := hrel
    have HJ := Lib.hid hj
    clear hj
    by_cases hlt : j < m
    · obtain ⟨b, off, c', hsl, hcc, hr⟩ := HV.out.row (by have := HM.out; omega)
      cases hsl
      obtain ⟨x, hx⟩ : ∃ x, xss[j]? = some x := ⟨_, List.getElem?_eq_getElem (by rw [← HM.out]; exact hlt)⟩
      have g0 := hr.vs hx
      obtain ⟨A', c2, hA⟩ := (HX.out x (List.mem_of_getElem? hx)).shape
      rw [hA] at g0
      have HST := Lib.hid (tot_step hx)
      have q1 := HTL.out (j + 1)
      rw [HST.out] at q1
      have q2 : ((xss.take j).flatMap Prod.snd).length + x.2.length ≤ S := by rw [HS.out]; exact q1
      generalize ((xss.take j).flatMap Prod.snd).length = T0 at q1 q2 HST ⊢
      generalize x.2.length = T1 at q1 q2 HST g0 ⊢
      have q3 : wrap64 ((T0 : Int) + (T1 : Int)) = ((T0 + T1 : Nat) : Int) := by rw [show (T0 : Int) + (T1 : Int) = ((T0 + T1 : Nat) : Int) by omega]; exact IntWalk.wrap64_in _ (by omega)
      have q4 : decide (((T0 : Int) + (T1 : Int)) < 0) = false := by simp; omega
      clear hr hx hA q1
      go_wp2
      go_roundg (gk - 1)
      case measure => have := HJ.out; omega
      case rel => exact ⟨j + 1, by have := HJ.out; omega, by go_num, by rw [HST.out]; first | rfl | (congr 1) | (congr 1; omega), rfl⟩
    · obtain rfl : m = j := by have := HJ.out; omega
      rw [List.take_of_length_le (show xss.length ≤ m by rw [HM.out]; exact Nat.le_refl _), ← HS.out]
      go_wp2_with fail
      refine (HGR.out _).mono ?_
      rintro e w1 ⟨v, rfl, ho, hb⟩
      have HO := Lib.hid ho
      have HB := Lib.hid hb
      clear ho hb
      obtain ⟨ws, hws⟩ : ∃ ws, ws = wr := ⟨_, rfl⟩
      subst hws
      go_wp2
      go_loopg [6, 27] m (fun k v i wq => ∃ j : Nat, j + k = m ∧ i = .int .i64 j ∧ OV encSl 1 22 ws.heap.size wq v ((xss.take j).flatMap Prod.snd) ∧ Below ws.heap.size ws wq)
      case atStart => exact ⟨0, by omega, rfl, HO.out, HB.out⟩
      case round =>
        obtain ⟨j, hj, rfl, ho, hb⟩ := hrel
        have HJ := Lib.hid hj
        have HO2 := Lib.hid ho
        have HB2 := Lib.hid hb
        clear ho hb hj
        by_cases hlt : j < m
        · have hev := HV.out.below HB2.out
          obtain ⟨b, off, c', hsl, hcc, hr⟩ := hev.row (by have := HM.out; omega)
          cases hsl
          obtain ⟨x, hx⟩ : ∃ x, xss[j]? = some x := ⟨_, List.getElem?_eq_getElem (by rw [← HM.out]; exact hlt)⟩
          have g0 := hr.vs hx
          have hxe := (HX.out x (List.mem_of_getElem? hx)).below HB2.out
          have HST := Lib.hid (tot_cat hx)
          have HXE := Lib.hid hxe
          have HQ := Lib.hid (show ((xss.take j).flatMap Prod.snd).length + x.2.length ≤ 1000000000 by
            have q1 := HTL.out (j + 1)
            rw [HST.out, List.length_append] at q1
            have := HTT.out; omega)
          clear hr hx hev hxe
          go_wp2_with (at_builtin; refine wpList_app elemLE2 encSl_len encSl_one rfl _ _ rfl _ _ rfl rfl HO2.out HXE.out ?q1 ?q2 ?_)
          case q1 => exact HQ.out
          case q2 => exact HB2.out.size
          intro v' w3 ho3 hg3
          have HO3 := Lib.hid ho3
          have HB3 := Lib.hid (HB2.out.grown hg3 HB2.out.size (fun k hk => (HO2.out.block k hk).1))
          clear ho3 hg3
          go_wp2
          go_roundg (m - (j + 1))
          case measure => have := HJ.out; omega
          case rel => exact ⟨j + 1, by have := HJ.out; omega, by go_num, by rw [HST.out]; exact HO3.out, HB3.out⟩
        · obtain rfl : m = j := by have := HJ.out; omega
          rw [List.take_of_length_le (show xss.length ≤ m by rw [HM.out]; exact Nat.le_refl _)] at HO2
          go_wp2
          go_ret
          exact ⟨_, rfl, HO2.out, HB2.out⟩
/-- A value as a slice. -/
def slOf : Value → Sl3
  | .slice a n c => (a, n, c)
  | _ => (none, 0, 0)
theorem slOf_eq {α : Type} {enc : α → List Value} {k : Nat} {w : World} {v : Value} {xs : List α} (h : EV enc k w v xs) : v = slV (slOf v) := by
  obtain ⟨A, c, rfl⟩ := h.shape
  rfl
/-- What Rows has returned. -/
def MrT (W : World) (v : Value) (R : List Ev) (T : List Int) : Prop :=
  ∃ A1 n1 c1 A2 n2 c2, v = .tuple #[.slice A1 n1 c1, .slice A2 n2 c2, .int .i64 0] ∧ EV encE 11 W (.slice A1 n1 c1) R ∧ EV encI 1 W (.slice A2 n2 c2) T
theorem MrT.below {W W' : World} {v : Value} {R : List Ev} {T : List Int} (h : MrT W v R T) (hb : Below W.heap.size W W') : MrT W' v R T := by
  obtain ⟨A1, n1, c1, A2, n2, c2, e, a, b⟩ := h
  exact ⟨A1, n1, c1, A2, n2, c2, e, a.below hb, b.below hb⟩
set_option maxRecDepth 100000 in
set_option maxHeartbeats 6400000 in
theorem splits_t21 (w wc : World) (Z k n m ct cr : Nat) (At Ar : Option Addr) (s : Nat → Sl3) (tr rest : List Ev) {u0 u1 u2 u3 u4 u5 u6 u9 u11 u12 u13 u14 u17 u18 u19 u20 u21 u22 u23 u24 u25 u26 u27 u28 u29 u30 u31 u32 u33 u34 u35 u36 u37 u38 u39 u40 u41 u42 u43 u44 u45 u46 u47 u48 u49 u50 u51 u52 u53 u54 u55 u56 u57 u58 u59 u60 u61 u62 u63 u64 u65 u66 u67 u68 u69 u70 u71 u72 u73 u74 u75 u76 u77 u78 u79 u80 u81 u82 u83 u84 u85 u86 u87 u88 u89 u90 u91 u92 u93 u94 u95 u96 u97 u98 u99 u100 u101 u102 u103 u104 u105 u106 u107 u108 u109 u110 u111 u112 u113 u114 u115 u116 u117 u118 u119 u120 u121 u122 u123 u124 u125 u126 u127 u128 u129 u130 u131 u132 u133 u134 u135 u136 u137 u138 u139 u140 u141 u142 u143 u144 u145 u146 u147 : Value}
    (hT : Tr tr) (ht : EV encE 11 wc (.slice At n ct) tr) (hr : EV encE 11 wc (.slice Ar m cr) rest) (hsub : rest.Sublist tr) (hn : tr.length = n ∧ n ≤ 40) (hm : rest.length = m ∧ m ≤ 40) (hk : k < 64)
    (hp : EV encSl 1 wc (.slice (some ⟨Z, 0, none⟩) 64 64) ((List.range 64).map s)) (hq : ∀ q, q < 64 → EV encE 11 wc (slV (s q)) (cpuL tr q)) (hU : UsesAt wc) (hb : Below w.heap.size w wc) :
    Code.wp Tryz.prog (tailR Tryz.f11 21) (bodyPost Tryz.prog Tryz.f11 fun r w' => r = .returned (.bool true) ∧ Below w.heap.size w w')
      ⟨#[u0, u1, u2, u3, u4, u5, u6, .slice At n ct, .slice (some ⟨Z, 0, none⟩) 64 64, u9, .int .i64 (n : Nat), u11, u12, u13, u14, .int .i64 (k : Nat), .slice Ar m cr, u17, u18, u19, u20, u21, u22, u23, u24, u25, u26, u27, u28, u29, u30, u31, u32, u33, u34, u35, u36, u37, u38, u39, u40, u41, u42, u43, u44, u45, u46, u47, u48, u49, u50, u51, u52, u53, u54, u55, u56, u57, u58, u59, u60, u61, u62, u63, u64, u65, u66, u67, u68, u69, u70, u71, u72, u73, u74, u75, u76, u77, u78, u79, u80, u81, u82, u83, u84, u85, u86, u87, u88, u89, u90, u91, u92, u93, u94, u95, u96, u97, u98, u99, u100, u101, u102, u103, u104, u105, u106, u107, u108, u109, u110, u111, u112, u113, u114, u115, u116, u117, u118, u119, u120, u121, u122, u123, u124, u125, u126, u127, u128, u129, u130, u131, u132, u133, u134, u135, u136, u137, u138, u139, u140, u141, u142, u143, u144, u145, u146, u147], []⟩ wc := by
  conv => arg 2; whnf
  conv => arg 4; dsimp only
  have HT := Lib.hid hT
  have HTV := Lib.hid ht
  have HR := Lib.hid hr
  have HSB := Lib.hid hsub
  have HN := Lib.hid hn
  have HM := Lib.hid hm
  have HQ := Lib.hid hq
  have HU := Lib.hid hU
  have HB := Lib.hid hb
  have HD := Lib.hid (EV.row_drop (j := k) hp (by simp; omega) (by simp))
  have HTK := Lib.hid (EV.row_take (j := k) hp (by simp; omega) (by simp))
  have hki : (0 : Int) ≤ (k : Int) := by omega
  have hk64 : (k : Int) ≤ 64 := by omega
  have hne : ¬ (64 : Nat) = k := by omega
  have hne2 : ¬ k = 64 := by omega
  clear hT ht hr hsub hn hm hp hq hU hb
  obtain ⟨L1, hL1⟩ : ∃ L1, ((List.range 64).map s).drop k = L1 := ⟨_, rfl⟩
  obtain ⟨L2, hL2⟩ : ∃ L2, ((List.range 64).map s).take k = L2 := ⟨_, rfl⟩
  rw [hL1] at HD
  rw [hL2] at HTK
  have HLN := Lib.hid (show L1.length ≤ 64 ∧ L2.length ≤ 64 by rw [← hL1, ← hL2]; simp; omega)
  have HMP := Lib.hid (show (rowsP (fun q => slV (s q)) tr k (.slice Ar m cr) rest).map encVs = (L1 ++ L2 ++ [((Ar, m, cr) : Sl3)]).map encSl from by
    unfold rowsP partL
    rw [← hL1, ← hL2]
    simp only [List.map_append, List.map_drop, List.map_take, List.map_map]
    rfl)
  clear hL1 hL2
  apply wp_seq_k
  intro K0 hK0
  go_cut [17, 18, 19] (fun a b c wz => ∃ wq A1 c1 A2 c2, wq = wz ∧ a = .slice A1 n c1 ∧ b = .slice A2 m c2 ∧ c = .int .i64 0 ∧ EV encE 11 wq (.slice A1 n c1) tr ∧ EV encI 1 wq (.slice A2 m c2) (seqsL rest) ∧ Below wc.heap.size wc wq)
  case first =>
    go_wp2_with fail
    refine wp_region_dagG (by kernel_rfl) 18 rfl (fun i => i == 7 || i == 8 || i == 9 || i == 10 || i == 11 || i == 12 || i == 13 || i == 14 || i == 15 || i == 16) (fun i => !(false)) ?hMw (fun x => ⟨#[u0, u1, u2, u3, u4, u5, u6, .slice At n ct, .slice (some ⟨Z, 0, none⟩) 64 64, u9, .int .i64 (n : Nat), u11, u12, u13, u14, .int .i64 (k : Nat), .slice Ar m cr, x 15, x 16, x 17, u20, u21, u22, u23, u24, u25, u26, u27, u28, u29, u30, u31, u32, u33, u34, u35, u36, u37, u38, u39, u40, u41, u42, u43, u44, u45, u46, u47, u48, u49, u50, u51, u52, u53, u54, u55, u56, u57, u58, u59, u60, u61, u62, u63, u64, u65, u66, u67, u68, u69, u70, u71, u72, u73, u74, u75, u76, u77, u78, u79, u80, u81, u82, u83, u84, u85, u86, u87, u88, u89, u90, u91, u92, u93, u94, u95, u96, x 11, x 0, x 1, x 2, x 3, x 4, x 5, x 6, x 7, x 8, x 9, x 10, x 12, x 13, x 14, u112, u113, u114, u115, u116, u117, u118, u119, u120, u121, u122, u123, u124, u125, u126, u127, u128, u129, u130, u131, u132, u133, u134, u135, u136, u137, u138, u139, u140, u141, u142, u143, u144, u145, u146, u147], []⟩) (fun iF vF => match iF with | 0 => vF = .slice (some ⟨Z, 0, none⟩) 64 64 | 1 => vF = .int .i64 (k : Nat) | 2 => vF = .slice (some ⟨Z, k, none⟩) (64 - k) (64 - k) | 3 => vF = .slice (some ⟨Z, 0, none⟩) 64 64 | 4 => vF = .int .i64 (k : Nat) | 5 => vF = .slice (some ⟨Z, 0, none⟩) k 64 | 6 => vF = .slice Ar m cr | 17 => vF = .int .i64 0 | _ => True)
      (fun d x W => Below wc.heap.size wc W ∧ (d 7 = true → ∃ g, x 7 = .slice (some ⟨g, 0, none⟩) 1 1 ∧ EV encSl 1 W (.slice (some ⟨g, 0, none⟩) 1 1) [((Ar, m, cr) : Sl3)]) ∧ (d 8 = true → ∃ v3, EV encVs 1 W (x 8) [(.slice (some ⟨Z, k, none⟩) (64 - k) (64 - k), L1), (.slice (some ⟨Z, 0, none⟩) k 64, L2), (v3, [((Ar, m, cr) : Sl3)])] ∧ EV encSl 1 W v3 [((Ar, m, cr) : Sl3)]) ∧ (d 9 = true → EV encSl 1 W (x 9) (L1 ++ L2 ++ [((Ar, m, cr) : Sl3)])) ∧ (d 10 = true → MrT W (x 10) tr (seqsL rest)) ∧ (d 11 = true → x 11 = x 10) ∧ (d 12 = true → ∃ b c, x 10 = .tuple #[x 12, b, c]) ∧ (d 13 = true → ∃ b c, x 10 = .tuple #[b, x 13, c]) ∧ (d 14 = true → x 14 = .int .i64 0) ∧ (d 15 = true → x 15 = x 12) ∧ (d 16 = true → x 16 = x 13)) ?hB ?hwant ?hoff (by kernel_rfl) ?hpure ?hmem ?hend (fun i => (#[u98, u99, u100, u101, u102, u103, u104, u105, u106, u107, u108, u97, u109, u110, u111, u17, u18, u19] : Array Value).getD i undef) rfl ?hstart
    case hstart =>
      try dsimp only
      exact ⟨below_drew (Below.refl _ _), fun h => (by cases h), fun h => (by cases h), fun h => (by cases h), fun h => (by cases h), fun h => (by cases h), fun h => (by cases h), fun h => (by cases h), fun h => (by cases h), fun h => (by cases h), fun h => (by cases h)⟩
    case hB =>
      intro d d' x i v W hi hm h
      have g7 : ¬ 7 = i := by rintro rfl; exact absurd (show true = false from hi) (by simp)
      have e7 : d' 7 = d 7 := hm 7 rfl
      have g8 : ¬ 8 = i := by rintro rfl; exact absurd (show true = false from hi) (by simp)
      have e8 : d' 8 = d 8 := hm 8 rfl
      have g9 : ¬ 9 = i := by rintro rfl; exact absurd (show true = false from hi) (by simp)
      have e9 : d' 9 = d 9 := hm 9 rfl
      have g10 : ¬ 10 = i := by rintro rfl; exact absurd (show true = false from hi) (by simp)
      have e10 : d' 10 = d 10 := hm 10 rfl
      have g11 : ¬ 11 = i := by rintro rfl; exact absurd (show true = false from hi) (by simp)
      have e11 : d' 11 = d 11 := hm 11 rfl
      have g12 : ¬ 12 = i := by rintro rfl; exact absurd (show true = false from hi) (by simp)
      have e12 : d' 12 = d 12 := hm 12 rfl
      have g13 : ¬ 13 = i := by rintro rfl; exact absurd (show true = false from hi) (by simp)
      have e13 : d' 13 = d 13 := hm 13 rfl
      have g14 : ¬ 14 = i := by rintro rfl; exact absurd (show true = false from hi) (by simp)
      have e14 : d' 14 = d 14 := hm 14 rfl
      have g15 : ¬ 15 = i := by rintro rfl; exact absurd (show true = false from hi) (by simp)
      have e15 : d' 15 = d 15 := hm 15 rfl
      have g16 : ¬ 16 = i := by rintro rfl; exact absurd (show true = false from hi) (by simp)
      have e16 : d' 16 = d 16 := hm 16 rfl
      try dsimp only at h ⊢
      first | rw [upd_ne g7, upd_ne g8, upd_ne g9, upd_ne g10, upd_ne g11, upd_ne g12, upd_ne g13, upd_ne g14, upd_ne g15, upd_ne g16, e7, e8, e9, e10, e11, e12, e13, e14, e15, e16] | simp only [upd_ne g7, upd_ne g8, upd_ne g9, upd_ne g10, upd_ne g11, upd_ne g12, upd_ne g13, upd_ne g14, upd_ne g15, upd_ne g16, e7, e8, e9, e10, e11, e12, e13, e14, e15, e16]
      exact h
    case hMw =>
      intro i hi
      simp only [Bool.or_eq_true, beq_iff_eq] at hi
      rcases hi with ((((((((rfl | rfl) | rfl) | rfl) | rfl) | rfl) | rfl) | rfl) | rfl) | rfl
      all_goals rfl
    case hwant =>
      intro iF o hi ho x hf
      rcases (show iF = 0 ∨ iF = 1 ∨ iF = 2 ∨ iF = 3 ∨ iF = 4 ∨ iF = 5 ∨ iF = 6 ∨ iF = 7 ∨ iF = 8 ∨ iF = 9 ∨ iF = 10 ∨ iF = 11 ∨ iF = 12 ∨ iF = 13 ∨ iF = 14 ∨ iF = 15 ∨ iF = 16 ∨ iF = 17 by omega) with rfl | rfl | rfl | rfl | rfl | rfl | rfl | rfl | rfl | rfl | rfl | rfl | rfl | rfl | rfl | rfl | rfl | rfl
      · obtain rfl := Option.some.inj ho
        rfl
      · obtain rfl := Option.some.inj ho
        rfl
      · obtain rfl := Option.some.inj ho
        rfl
      · obtain rfl := Option.some.inj ho
        rfl
      · obtain rfl := Option.some.inj ho
        rfl
      · obtain rfl := Option.some.inj ho
        rfl
      · obtain rfl := Option.some.inj ho
        rfl
      · obtain rfl := Option.some.inj ho
        rfl
      · obtain rfl := Option.some.inj ho
        rfl
      · obtain rfl := Option.some.inj ho
        rfl
      · obtain rfl := Option.some.inj ho
        rfl
      · obtain rfl := Option.some.inj ho
        rfl
      · obtain rfl := Option.some.inj ho
        rfl
      · obtain rfl := Option.some.inj ho
        rfl
      · obtain rfl := Option.some.inj ho
        rfl
      · obtain rfl := Option.some.inj ho
        rfl
      · obtain rfl := Option.some.inj ho
        rfl
      · obtain rfl := Option.some.inj ho
        rfl
    case hoff =>
      intro iF o hi hw ho x
      rcases (show iF = 0 ∨ iF = 1 ∨ iF = 2 ∨ iF = 3 ∨ iF = 4 ∨ iF = 5 ∨ iF = 6 ∨ iF = 7 ∨ iF = 8 ∨ iF = 9 ∨ iF = 10 ∨ iF = 11 ∨ iF = 12 ∨ iF = 13 ∨ iF = 14 ∨ iF = 15 ∨ iF = 16 ∨ iF = 17 by omega) with rfl | rfl | rfl | rfl | rfl | rfl | rfl | rfl | rfl | rfl | rfl | rfl | rfl | rfl | rfl | rfl | rfl | rfl
      · exact absurd (show true = false from hw) (by simp)
      · exact absurd (show true = false from hw) (by simp)
      · exact absurd (show true = false from hw) (by simp)
      · exact absurd (show true = false from hw) (by simp)
      · exact absurd (show true = false from hw) (by simp)
      · exact absurd (show true = false from hw) (by simp)
      · exact absurd (show true = false from hw) (by simp)
      · exact absurd (show true = false from hw) (by simp)
      · exact absurd (show true = false from hw) (by simp)
      · exact absurd (show true = false from hw) (by simp)
      · exact absurd (show true = false from hw) (by simp)
      · exact absurd (show true = false from hw) (by simp)
      · exact absurd (show true = false from hw) (by simp)
      · exact absurd (show true = false from hw) (by simp)
      · exact absurd (show true = false from hw) (by simp)
      · exact absurd (show true = false from hw) (by simp)
      · exact absurd (show true = false from hw) (by simp)
      · exact absurd (show true = false from hw) (by simp)
    case hpure =>
      intro iF o hi hnm hww ho d x W hB hd hdn hnd hcl Kq hK
      rcases (show iF = 0 ∨ iF = 1 ∨ iF = 2 ∨ iF = 3 ∨ iF = 4 ∨ iF = 5 ∨ iF = 6 ∨ iF = 7 ∨ iF = 8 ∨ iF = 9 ∨ iF = 10 ∨ iF = 11 ∨ iF = 12 ∨ iF = 13 ∨ iF = 14 ∨ iF = 15 ∨ iF = 16 ∨ iF = 17 by omega) with rfl | rfl | rfl | rfl | rfl | rfl | rfl | rfl | rfl | rfl | rfl | rfl | rfl | rfl | rfl | rfl | rfl | rfl
      · obtain rfl := Option.some.inj ho
        clear ho hd hdn hnd hcl hB hnm hi
        simp only [upd, reduceIte, Nat.reduceEqDiff] at hK
        try dsimp only
        go_simp
        exact hK _ rfl
      · obtain rfl := Option.some.inj ho
        clear ho hd hdn hnd hcl hB hnm hi
        simp only [upd, reduceIte, Nat.reduceEqDiff] at hK
        try dsimp only
        go_simp
        exact hK _ rfl
      · obtain rfl := Option.some.inj ho
        have e0 : x 0 = .slice (some ⟨Z, 0, none⟩) 64 64 := hd 0 (by kernel_rfl) (by kernel_rfl)
        have e1 : x 1 = .int .i64 (k : Nat) := hd 1 (by kernel_rfl) (by kernel_rfl)
        clear ho hd hdn hnd hcl hB hnm hi
        simp only [upd, reduceIte, Nat.reduceEqDiff, e0, e1] at hK
        try dsimp only
        go_simp
        exact hK _ rfl
      · obtain rfl := Option.some.inj ho
        clear ho hd hdn hnd hcl hB hnm hi
        simp only [upd, reduceIte, Nat.reduceEqDiff] at hK
        try dsimp only
        go_simp
        exact hK _ rfl
      · obtain rfl := Option.some.inj ho
        clear ho hd hdn hnd hcl hB hnm hi
        simp only [upd, reduceIte, Nat.reduceEqDiff] at hK
        try dsimp only
        go_simp
        exact hK _ rfl
      · obtain rfl := Option.some.inj ho
        have e3 : x 3 = .slice (some ⟨Z, 0, none⟩) 64 64 := hd 3 (by kernel_rfl) (by kernel_rfl)
        have e4 : x 4 = .int .i64 (k : Nat) := hd 4 (by kernel_rfl) (by kernel_rfl)
        clear ho hd hdn hnd hcl hB hnm hi
        simp only [upd, reduceIte, Nat.reduceEqDiff, e3, e4] at hK
        try dsimp only
        go_simp
        exact hK _ rfl
      · obtain rfl := Option.some.inj ho
        clear ho hd hdn hnd hcl hB hnm hi
        simp only [upd, reduceIte, Nat.reduceEqDiff] at hK
        try dsimp only
        go_simp
        exact hK _ rfl
      · exact absurd (show true = false from hnm) (by simp)
      · exact absurd (show true = false from hnm) (by simp)
      · exact absurd (show true = false from hnm) (by simp)
      · exact absurd (show true = false from hnm) (by simp)
      · exact absurd (show true = false from hnm) (by simp)
      · exact absurd (show true = false from hnm) (by simp)
      · exact absurd (show true = false from hnm) (by simp)
      · exact absurd (show true = false from hnm) (by simp)
      · exact absurd (show true = false from hnm) (by simp)
      · exact absurd (show true = false from hnm) (by simp)
      · obtain rfl := Option.some.inj ho
        have e14 := hB.2.2.2.2.2.2.2.2.1 (hdn 14 (by kernel_rfl))
        clear ho hd hdn hnd hcl hB hnm hi
        simp only [upd, reduceIte, Nat.reduceEqDiff, e14] at hK
        try dsimp only
        go_simp
        exact hK _ rfl
    case hmem =>
      intro iF o hi hmm ho d d' x W hB hd hdn hnd hdi hdi' hdm hcl Kq hK
      rcases (show iF = 0 ∨ iF = 1 ∨ iF = 2 ∨ iF = 3 ∨ iF = 4 ∨ iF = 5 ∨ iF = 6 ∨ iF = 7 ∨ iF = 8 ∨ iF = 9 ∨ iF = 10 ∨ iF = 11 ∨ iF = 12 ∨ iF = 13 ∨ iF = 14 ∨ iF = 15 ∨ iF = 16 ∨ iF = 17 by omega) with rfl | rfl | rfl | rfl | rfl | rfl | rfl | rfl | rfl | rfl | rfl | rfl | rfl | rfl | rfl | rfl | rfl | rfl
      · exact absurd (show false = true from hmm) (by simp)
      · exact absurd (show false = true from hmm) (by simp)
      · exact absurd (show false = true from hmm) (by simp)
      · exact absurd (show false = true from hmm) (by simp)
      · exact absurd (show false = true from hmm) (by simp)
      · exact absurd (show false = true from hmm) (by simp)
      · exact absurd (show false = true from hmm) (by simp)
      · obtain rfl := Option.some.inj ho
        have e6 : x 6 = .slice Ar m cr := hd 6 (by kernel_rfl) (by kernel_rfl)
        have dm8 : d' 8 = d 8 := hdm 8 (by omega)
        have dm9 : d' 9 = d 9 := hdm 9 (by omega)
        have dm10 : d' 10 = d 10 := hdm 10 (by omega)
        have dm11 : d' 11 = d 11 := hdm 11 (by omega)
        have dm12 : d' 12 = d 12 := hdm 12 (by omega)
        have dm13 : d' 13 = d 13 := hdm 13 (by omega)
        have dm14 : d' 14 = d 14 := hdm 14 (by omega)
        have dm15 : d' 15 = d 15 := hdm 15 (by omega)
        have dm16 : d' 16 = d 16 := hdm 16 (by omega)
        obtain ⟨hb, h7, h8, h9, h10, h11, h12, h13, h14, h15, h16⟩ := hB
        clear ho hd hdn hnd hcl hmm
        simp only [upd, reduceIte, Nat.reduceEqDiff, e6] at hK
        try dsimp only
        go_simp
        have bb := bel_alloc W (.cells #[.slice Ar m cr] 22)
        refine hK _ _ ?_
        try dsimp only
        rw [dm8, dm9, dm10, dm11, dm12, dm13, dm14, dm15, dm16, hdi']
        exact ⟨(bstep hb bb), fun _ => ⟨_, rfl, EV.newL (xs := [((Ar, m, cr) : Sl3)]) (n := 1) (c := 1) encSl_len rfl rfl (Nat.le_refl _)⟩, fun a => (by obtain ⟨v3, e1, e2⟩ := h8 a; exact ⟨v3, e1.below bb, e2.below bb⟩), fun a => (h9 a).below bb, fun a => (h10 a).below bb, h11, h12, h13, h14, h15, h16⟩
      · obtain rfl := Option.some.inj ho
        have e2 : x 2 = .slice (some ⟨Z, k, none⟩) (64 - k) (64 - k) := hd 2 (by kernel_rfl) (by kernel_rfl)
        have e5 : x 5 = .slice (some ⟨Z, 0, none⟩) k 64 := hd 5 (by kernel_rfl) (by kernel_rfl)
        have dm7 : d' 7 = d 7 := hdm 7 (by omega)
        have dm9 : d' 9 = d 9 := hdm 9 (by omega)
        have dm10 : d' 10 = d 10 := hdm 10 (by omega)
        have dm11 : d' 11 = d 11 := hdm 11 (by omega)
        have dm12 : d' 12 = d 12 := hdm 12 (by omega)
        have dm13 : d' 13 = d 13 := hdm 13 (by omega)
        have dm14 : d' 14 = d 14 := hdm 14 (by omega)
        have dm15 : d' 15 = d 15 := hdm 15 (by omega)
        have dm16 : d' 16 = d 16 := hdm 16 (by omega)
        have dn7 : d 7 = true := hdn 7 (by kernel_rfl)
        obtain ⟨hb, h7, h8, h9, h10, h11, h12, h13, h14, h15, h16⟩ := hB
        obtain ⟨g, e7, q7⟩ := h7 dn7
        clear ho hd hdn hnd hcl hmm
        simp only [upd, reduceIte, Nat.reduceEqDiff, e2, e5, e7] at hK
        try dsimp only
        go_simp
        have bb := bel_alloc W (.cells #[.slice (some ⟨Z, k, none⟩) (64 - k) (64 - k), .slice (some ⟨Z, 0, none⟩) k 64, .slice (some ⟨g, 0, none⟩) 1 1] 41)
        refine hK _ _ ?_
        try dsimp only
        rw [dm7, dm9, dm10, dm11, dm12, dm13, dm14, dm15, dm16, hdi']
        exact ⟨(bstep hb bb), fun _ => ⟨g, rfl, q7.below bb⟩, fun _ => ⟨.slice (some ⟨g, 0, none⟩) 1 1, EV.newL (xs := [(.slice (some ⟨Z, k, none⟩) (64 - k) (64 - k), L1), (.slice (some ⟨Z, 0, none⟩) k 64, L2), (.slice (some ⟨g, 0, none⟩) 1 1, [((Ar, m, cr) : Sl3)])]) (n := 3) (c := 3) encVs_len rfl rfl (Nat.le_refl _), q7.below bb⟩, fun a => (h9 a).below bb, fun a => (h10 a).below bb, h11, h12, h13, h14, h15, h16⟩
      · obtain rfl := Option.some.inj ho
        have dm7 : d' 7 = d 7 := hdm 7 (by omega)
        have dm8 : d' 8 = d 8 := hdm 8 (by omega)
        have dm10 : d' 10 = d 10 := hdm 10 (by omega)
        have dm11 : d' 11 = d 11 := hdm 11 (by omega)
        have dm12 : d' 12 = d 12 := hdm 12 (by omega)
        have dm13 : d' 13 = d 13 := hdm 13 (by omega)
        have dm14 : d' 14 = d 14 := hdm 14 (by omega)
        have dm15 : d' 15 = d 15 := hdm 15 (by omega)
        have dm16 : d' 16 = d 16 := hdm 16 (by omega)
        have dn8 : d 8 = true := hdn 8 (by kernel_rfl)
        obtain ⟨hb, h7, h8, h9, h10, h11, h12, h13, h14, h15, h16⟩ := hB
        obtain ⟨v3, q8, q9⟩ := h8 dn8
        clear ho hd hdn hnd hcl hmm
        simp only [upd, reduceIte, Nat.reduceEqDiff] at hK
        try dsimp only
        go_simp
        go_at_call 42
        refine (concat_rw W (x 8) _ q8 (fun y hy => ?_) (by simp) (by have := HLN.out; simp; omega)).mono ?_
        · simp only [List.mem_cons, List.not_mem_nil, or_false] at hy
          rcases hy with rfl | rfl | rfl
          · have := HD.out.below hb
            simpa using this
          · exact HTK.out.below hb
          · exact q9
        rintro r W2 ⟨v8, rfl, o8, bb⟩
        go_simp
        refine hK _ _ ?_
        try dsimp only
        rw [dm7, dm8, dm10, dm11, dm12, dm13, dm14, dm15, dm16, hdi']
        exact ⟨(bstep hb bb), fun a => (by obtain ⟨g, e1, e2⟩ := h7 a; exact ⟨g, e1, e2.below bb⟩), fun a => (by obtain ⟨v3, e1, e2⟩ := h8 a; exact ⟨v3, e1.below bb, e2.below bb⟩), fun _ => by have := o8.ev encSl_len; simpa using this, fun a => (h10 a).below bb, h11, h12, h13, h14, h15, h16⟩
      · obtain rfl := Option.some.inj ho
        have dm7 : d' 7 = d 7 := hdm 7 (by omega)
        have dm8 : d' 8 = d 8 := hdm 8 (by omega)
        have dm9 : d' 9 = d 9 := hdm 9 (by omega)
        have dm11 : d' 11 = d 11 := hdm 11 (by omega)
        have dm12 : d' 12 = d 12 := hdm 12 (by omega)
        have dm13 : d' 13 = d 13 := hdm 13 (by omega)
        have dm14 : d' 14 = d 14 := hdm 14 (by omega)
        have dm15 : d' 15 = d 15 := hdm 15 (by omega)
        have dm16 : d' 16 = d 16 := hdm 16 (by omega)
        have dn9 : d 9 = true := hdn 9 (by kernel_rfl)
        have dz11 : d 11 = false := hnd 11 (by kernel_rfl)
        have dz12 : d 12 = false := notyet (i := 12) hcl (hnd 11 (by kernel_rfl)) (by kernel_rfl)
        have dz13 : d 13 = false := notyet (i := 13) hcl (hnd 11 (by kernel_rfl)) (by kernel_rfl)
        obtain ⟨hb, h7, h8, h9, h10, h11, h12, h13, h14, h15, h16⟩ := hB
        have q9 := h9 dn9
        clear ho hd hdn hnd hcl hmm
        simp only [upd, reduceIte, Nat.reduceEqDiff] at hK
        try dsimp only
        go_simp
        go_at_call 28
        have hrow := q9.recode (enc' := encVs) (ys := rowsP (fun q => slV (s q)) tr k (.slice Ar m cr) rest) HMP.out
        have hpf := rowsP_flat (pv := fun q => slV (s q)) HT.out (k := k) (vr := .slice Ar m cr) (rest := rest)
        refine (mrows_ok W (x 9) _ hrow (fun y hy => ?_) (fun e he => ?_) ?_ ?_ (HU.out.below hb)).mono ?_
        · rcases rowsP_mem hy with ⟨q, hq, rfl⟩ | rfl
          · exact (HQ.out q hq).below hb
          · exact HR.out.below hb
        · rcases List.mem_append.1 (hpf.mem_iff.1 he) with he | he
          · exact (HT.out.ok e he).1
          · exact (HT.out.ok e (HSB.out.mem he)).1
        · unfold rowsP partL; simp; omega
        · have := hpf.length_eq
          rw [List.length_append, HN.out.1, HM.out.1] at this
          have := HN.out.2; have := HM.out.2; omega
        rintro r W2 ⟨v1, v2, c, R, T, rfl, o1, o2, hres, bb⟩
        obtain ⟨rfl, rfl, rfl⟩ := rowsP_res HT.out HSB.out hres
        obtain ⟨A1, c1, e1⟩ := (o1.ev encE_len).shape
        obtain ⟨A2, c2, e2⟩ := (o2.ev encI_len).shape
        subst e1
        subst e2
        go_simp
        refine hK _ _ ?_
        try dsimp only
        rw [dm7, dm8, dm9, dm11, dm12, dm13, dm14, dm15, dm16, hdi']
        exact ⟨(bstep hb bb), fun a => (by obtain ⟨g, e1, e2⟩ := h7 a; exact ⟨g, e1, e2.below bb⟩), fun a => (by obtain ⟨v3, e1, e2⟩ := h8 a; exact ⟨v3, e1.below bb, e2.below bb⟩), fun a => (h9 a).below bb, fun _ => ⟨A1, _, c1, A2, _, c2, rfl, o1.ev encE_len, o2.ev encI_len⟩, fun k => absurd k (by rw [dz11]; simp), fun k => absurd k (by rw [dz12]; simp), fun k => absurd k (by rw [dz13]; simp), h14, h15, h16⟩
      · obtain rfl := Option.some.inj ho
        have dm7 : d' 7 = d 7 := hdm 7 (by omega)
        have dm8 : d' 8 = d 8 := hdm 8 (by omega)
        have dm9 : d' 9 = d 9 := hdm 9 (by omega)
        have dm10 : d' 10 = d 10 := hdm 10 (by omega)
        have dm12 : d' 12 = d 12 := hdm 12 (by omega)
        have dm13 : d' 13 = d 13 := hdm 13 (by omega)
        have dm14 : d' 14 = d 14 := hdm 14 (by omega)
        have dm15 : d' 15 = d 15 := hdm 15 (by omega)
        have dm16 : d' 16 = d 16 := hdm 16 (by omega)
        have dn10 : d 10 = true := hdn 10 (by kernel_rfl)
        obtain ⟨hb, h7, h8, h9, h10, h11, h12, h13, h14, h15, h16⟩ := hB
        clear ho hd hdn hnd hcl hmm
        simp only [upd, reduceIte, Nat.reduceEqDiff] at hK
        try dsimp only
        go_simp
        refine hK _ _ ?_
        try dsimp only
        rw [dm7, dm8, dm9, dm10, dm12, dm13, dm14, dm15, dm16, hdi']
        exact ⟨hb, h7, h8, h9, h10, fun _ => rfl, h12, h13, h14, h15, h16⟩
      · obtain rfl := Option.some.inj ho
        have dm7 : d' 7 = d 7 := hdm 7 (by omega)
        have dm8 : d' 8 = d 8 := hdm 8 (by omega)
        have dm9 : d' 9 = d 9 := hdm 9 (by omega)
        have dm10 : d' 10 = d 10 := hdm 10 (by omega)
        have dm11 : d' 11 = d 11 := hdm 11 (by omega)
        have dm13 : d' 13 = d 13 := hdm 13 (by omega)
        have dm14 : d' 14 = d 14 := hdm 14 (by omega)
        have dm15 : d' 15 = d 15 := hdm 15 (by omega)
        have dm16 : d' 16 = d 16 := hdm 16 (by omega)
        have dn11 : d 11 = true := hdn 11 (by kernel_rfl)
        have dz15 : d 15 = false := hnd 15 (by kernel_rfl)
        have dn10 : d 10 = true := hcl 11 dn11 10 (by kernel_rfl)
        obtain ⟨hb, h7, h8, h9, h10, h11, h12, h13, h14, h15, h16⟩ := hB
        obtain ⟨A1, n1, c1, A2, n2, c2, e10, q1, q2⟩ := h10 dn10
        have e11 := (h11 dn11).trans e10
        have E10 := Lib.hid e10
        clear e10 h11
        clear ho hd hdn hnd hcl hmm
        simp only [upd, reduceIte, Nat.reduceEqDiff, e11] at hK
        try dsimp only
        go_simp
        refine hK _ _ ?_
        try dsimp only
        rw [dm7, dm8, dm9, dm10, dm11, dm13, dm14, dm15, dm16, hdi']
        exact ⟨hb, h7, h8, h9, h10, fun _ => E10.out.symm, fun _ => ⟨_, _, E10.out⟩, h13, h14, fun k => absurd k (by rw [dz15]; simp), h16⟩
      · obtain rfl := Option.some.inj ho
        have dm7 : d' 7 = d 7 := hdm 7 (by omega)
        have dm8 : d' 8 = d 8 := hdm 8 (by omega)
        have dm9 : d' 9 = d 9 := hdm 9 (by omega)
        have dm10 : d' 10 = d 10 := hdm 10 (by omega)
        have dm11 : d' 11 = d 11 := hdm 11 (by omega)
        have dm12 : d' 12 = d 12 := hdm 12 (by omega)
        have dm14 : d' 14 = d 14 := hdm 14 (by omega)
        have dm15 : d' 15 = d 15 := hdm 15 (by omega)
        have dm16 : d' 16 = d 16 := hdm 16 (by omega)
        have dn11 : d 11 = true := hdn 11 (by kernel_rfl)
        have dz16 : d 16 = false := hnd 16 (by kernel_rfl)
        have dn10 : d 10 = true := hcl 11 dn11 10 (by kernel_rfl)
        obtain ⟨hb, h7, h8, h9, h10, h11, h12, h13, h14, h15, h16⟩ := hB
        obtain ⟨A1, n1, c1, A2, n2, c2, e10, q1, q2⟩ := h10 dn10
        have e11 := (h11 dn11).trans e10
        have E10 := Lib.hid e10
        clear e10 h11
        clear ho hd hdn hnd hcl hmm
        simp only [upd, reduceIte, Nat.reduceEqDiff, e11] at hK
        try dsimp only
        go_simp
        refine hK _ _ ?_
        try dsimp only
        rw [dm7, dm8, dm9, dm10, dm11, dm12, dm14, dm15, dm16, hdi']
        exact ⟨hb, h7, h8, h9, h10, fun _ => E10.out.symm, h12, fun _ => ⟨_, _, E10.out⟩, h14, h15, fun k => absurd k (by rw [dz16]; simp)⟩
      · obtain rfl := Option.some.inj ho
        have dm7 : d' 7 = d 7 := hdm 7 (by omega)
        have dm8 : d' 8 = d 8 := hdm 8 (by omega)
        have dm9 : d' 9 = d 9 := hdm 9 (by omega)
        have dm10 : d' 10 = d 10 := hdm 10 (by omega)
        have dm11 : d' 11 = d 11 := hdm 11 (by omega)
        have dm12 : d' 12 = d 12 := hdm 12 (by omega)
        have dm13 : d' 13 = d 13 := hdm 13 (by omega)
        have dm15 : d' 15 = d 15 := hdm 15 (by omega)
        have dm16 : d' 16 = d 16 := hdm 16 (by omega)
        have dn11 : d 11 = true := hdn 11 (by kernel_rfl)
        have dn10 : d 10 = true := hcl 11 dn11 10 (by kernel_rfl)
        obtain ⟨hb, h7, h8, h9, h10, h11, h12, h13, h14, h15, h16⟩ := hB
        obtain ⟨A1, n1, c1, A2, n2, c2, e10, q1, q2⟩ := h10 dn10
        have e11 := (h11 dn11).trans e10
        have E10 := Lib.hid e10
        clear e10 h11
        clear ho hd hdn hnd hcl hmm
        simp only [upd, reduceIte, Nat.reduceEqDiff, e11] at hK
        try dsimp only
        go_simp
        refine hK _ _ ?_
        try dsimp only
        rw [dm7, dm8, dm9, dm10, dm11, dm12, dm13, dm15, dm16, hdi']
        exact ⟨hb, h7, h8, h9, h10, fun _ => E10.out.symm, h12, h13, fun _ => rfl, h15, h16⟩
      · obtain rfl := Option.some.inj ho
        have dm7 : d' 7 = d 7 := hdm 7 (by omega)
        have dm8 : d' 8 = d 8 := hdm 8 (by omega)
        have dm9 : d' 9 = d 9 := hdm 9 (by omega)
        have dm10 : d' 10 = d 10 := hdm 10 (by omega)
        have dm11 : d' 11 = d 11 := hdm 11 (by omega)
        have dm12 : d' 12 = d 12 := hdm 12 (by omega)
        have dm13 : d' 13 = d 13 := hdm 13 (by omega)
        have dm14 : d' 14 = d 14 := hdm 14 (by omega)
        have dm16 : d' 16 = d 16 := hdm 16 (by omega)
        have dn12 : d 12 = true := hdn 12 (by kernel_rfl)
        obtain ⟨hb, h7, h8, h9, h10, h11, h12, h13, h14, h15, h16⟩ := hB
        clear ho hd hdn hnd hcl hmm
        simp only [upd, reduceIte, Nat.reduceEqDiff] at hK
        try dsimp only
        go_simp
        refine hK _ _ ?_
        try dsimp only
        rw [dm7, dm8, dm9, dm10, dm11, dm12, dm13, dm14, dm16, hdi']
        exact ⟨hb, h7, h8, h9, h10, h11, h12, h13, h14, fun _ => rfl, h16⟩
      · obtain rfl := Option.some.inj ho
        have dm7 : d' 7 = d 7 := hdm 7 (by omega)
        have dm8 : d' 8 = d 8 := hdm 8 (by omega)
        have dm9 : d' 9 = d 9 := hdm 9 (by omega)
        have dm10 : d' 10 = d 10 := hdm 10 (by omega)
        have dm11 : d' 11 = d 11 := hdm 11 (by omega)
        have dm12 : d' 12 = d 12 := hdm 12 (by omega)
        have dm13 : d' 13 = d 13 := hdm 13 (by omega)
        have dm14 : d' 14 = d 14 := hdm 14 (by omega)
        have dm15 : d' 15 = d 15 := hdm 15 (by omega)
        have dn13 : d 13 = true := hdn 13 (by kernel_rfl)
        obtain ⟨hb, h7, h8, h9, h10, h11, h12, h13, h14, h15, h16⟩ := hB
        clear ho hd hdn hnd hcl hmm
        simp only [upd, reduceIte, Nat.reduceEqDiff] at hK
        try dsimp only
        go_simp
        refine hK _ _ ?_
        try dsimp only
        rw [dm7, dm8, dm9, dm10, dm11, dm12, dm13, dm14, dm15, hdi']
        exact ⟨hb, h7, h8, h9, h10, h11, h12, h13, h14, h15, fun _ => rfl⟩
      · exact absurd (show false = true from hmm) (by simp)
    case hend =>
      intro d x W hall hB hd
      have d10 := hall 10 (by omega)
      have d12 := hall 12 (by omega)
      have d13 := hall 13 (by omega)
      have d15 := hall 15 (by omega)
      have d16 := hall 16 (by omega)
      obtain ⟨hb, h7, h8, h9, h10, h11, h12, h13, h14, h15, h16⟩ := hB
      obtain ⟨A1, n1, c1, A2, n2, c2, e10, q1, q2⟩ := h10 d10
      obtain ⟨b1, b2, e12⟩ := h12 d12
      obtain ⟨b3, b4, e13⟩ := h13 d13
      have e15 := h15 d15
      have e16 := h16 d16
      rw [e10] at e12 e13
      simp only [Value.tuple.injEq, Array.mk.injEq, List.cons.injEq, and_true] at e12 e13
      rw [← e12.1] at e15
      rw [← e13.2.1] at e16
      obtain rfl : n1 = n := q1.nlen.trans HN.out.1
      obtain rfl : n2 = m := q2.nlen.trans (by unfold seqsL; rw [List.length_map]; exact HM.out.1)
      have ek := hd 17 (by omega) rfl
      clear hd hall h7 h8 h9 h10 h11 h12 h13 h14 h15 h16 e10 e12 e13
      try dsimp only
      rw [ek, e15, e16]
      clear ek e15 e16
      generalize x 0 = y0
      generalize x 1 = y1
      generalize x 2 = y2
      generalize x 3 = y3
      generalize x 4 = y4
      generalize x 5 = y5
      generalize x 6 = y6
      generalize x 7 = y7
      generalize x 8 = y8
      generalize x 9 = y9
      generalize x 10 = y10
      generalize x 11 = y11
      generalize x 12 = y12
      generalize x 13 = y13
      generalize x 14 = y14
      go_wp2
      go_meet
      exact ⟨_, A1, c1, A2, c2, rfl, rfl, rfl, rfl, q1, q2, hb⟩
  case rest =>
    obtain ⟨w9, A1, c1, A2, c2, rfl, rfl, rfl, rfl, h1, h2, b9⟩ := hcut
    exact (‹∀ (a : Act) (w : World), Code.wp _ _ _ a w → _› : ∀ (a : Act) (w : World), _ → _) _ _ (splits_t22 w w9 n m ct cr c1 c2 At Ar A1 A2 tr rest (HTV.out.below b9) (HR.out.below b9) h1 h2 HN.out HM.out (bstep HB.out b9))
end Go.Proofs.YtalophngappkhaaGreatDoor
