/- The walk of the law SeqOf: the numbers; and the whole. -/
import Derived.Test.YtofjgcbjpmgkdaaVf
set_option linter.unusedVariables false
set_option linter.unusedSimpArgs false
set_option linter.unusedSectionVars false
namespace Go.Proofs.Ytofjgcbjpmgkdaa
open Go Go.RowKit Go.Shelf

def encH (z : Int) : List Value := [.int .u16 z]
theorem encH_len (z : Int) : (encH z).length = 1 := rfl
def numF (far : Bool) (z : Int) : Int := if far then 281474976710656 - (1 + z % 97) else 1 + z % 97
theorem numF_ok (far : Bool) (z : Int) : 1 ≤ numF far z ∧ numF far z ≤ 281474976710656 := by
  have h1 := Int.emod_nonneg z (b := 97) (by decide)
  have h2 := Int.emod_lt_of_pos z (b := 97) (by decide)
  unfold numF
  split <;> omega
set_option maxRecDepth 100000 in
set_option maxHeartbeats 1600000 in
theorem of_tail4 (w wc : World) (A : Option Addr) (M c o : Nat) (far : Bool) (xs : List Int) {u3 u4 u5 u6 u7 u8 u9 u10 u11 u12 u13 u14 u15 u16 u17 u18 u19 u20 u21 u22 u23 u24 u25 u26 u27 u28 u29 u30 u31 u32 u33 u34 u35 u36 u37 u38 u39 u40 u41 u42 u43 u44 u45 u46 u47 u48 u49 u50 u51 u52 u53 u54 u55 u56 u57 u58 u59 u60 u61 u62 u63 u64 u65 u66 u67 u68 u69 u70 u71 u72 u73 u74 u75 u76 u77 u78 u79 u80 u81 u82 u83 u84 u85 u86 u87 u88 u89 u90 u91 u92 u93 u94 u95 u96 u97 u98 u99 u100 u101 u102 u103 u104 u105 u106 u107 u108 u109 u110 u111 u112 u113 u114 u115 u116 u117 u118 u119 u120 u121 u122 u123 u124 u125 u126 u127 u128 u129 u130 u131 u132 u133 u134 u135 u136 u137 u138 u139 u140 u141 u142 u143 u144 u145 u146 u147 u148 u149 u150 u151 u152 u153 u154 u155 u156 u157 u158 u159 u160 u161 u162 u163 u164 u165 u166 u167 u168 u169 u170 u171 u172 u173 u174 u175 : Value}
    (hx : EV encH 1 wc (.slice A M c) xs) (hM : xs.length = M) (hn : M ≤ 60) (hz : ∀ z ∈ xs, 0 ≤ z ∧ z ≤ 65535) (ho : o < 256) (hb : Below w.heap.size w wc) :
    Code.wp Try.prog (tailR Try.f6 4) (bodyPost Try.prog Try.f6 fun e w' => e = .returned (.bool true) ∧ Below w.heap.size w w')
      ⟨#[.slice A M c, .int .u8 (o : Int), .bool far, u3, u4, u5, u6, u7, u8, u9, u10, u11, u12, u13, u14, u15, u16, u17, u18, u19, u20, u21, u22, u23, u24, u25, u26, u27, u28, u29, u30, u31, u32, u33, u34, u35, u36, u37, u38, u39, u40, u41, u42, u43, u44, u45, u46, u47, u48, u49, u50, u51, u52, u53, u54, u55, u56, u57, u58, u59, u60, u61, u62, u63, u64, u65, u66, u67, u68, u69, u70, u71, u72, u73, u74, u75, u76, u77, u78, u79, u80, u81, u82, u83, u84, u85, u86, u87, u88, u89, u90, u91, u92, u93, u94, u95, u96, u97, u98, u99, u100, u101, u102, u103, u104, u105, u106, u107, u108, u109, u110, u111, u112, u113, u114, u115, u116, u117, u118, u119, u120, u121, u122, u123, u124, u125, u126, u127, u128, u129, u130, u131, u132, u133, u134, u135, u136, u137, u138, u139, u140, u141, u142, u143, u144, u145, u146, u147, u148, u149, u150, u151, u152, u153, u154, u155, u156, u157, u158, u159, u160, u161, u162, u163, u164, u165, u166, u167, u168, u169, u170, u171, u172, u173, u174, u175], []⟩ wc := by
  conv => arg 2; whnf
  conv => arg 4; dsimp only
  have HX := Lib.hid hx
  have HML := Lib.hid hM
  have HZ := Lib.hid hz
  have HB := Lib.hid hb
  have sc := hb.size
  clear hx hM hz hb
  have HNL := Lib.hid (show (xs.map (numF far)).length = M by rw [List.length_map, HML.out])
  obtain ⟨ns, hns⟩ : ∃ ns, xs.map (numF far) = ns := ⟨_, rfl⟩
  have HNS := Lib.hid hns
  rw [hns] at HNL
  clear hns
  go_upto_block 0 with fail
  go_cut [7] (fun nv wx => OV encI 1 3 w.heap.size wx nv ns ∧ Below w.heap.size w wx)
  case first =>
    go_wp2_with fail
    go_loopg [7, 38] M (fun k nv i wr => ∃ j : Nat, j + k = M ∧ i = .int .i64 j ∧ OV encI 1 3 wc.heap.size wr nv (ns.take j) ∧ Below wc.heap.size wc wr)
    case atStart => exact ⟨0, by omega, rfl, OV.nil _ _, Below.refl _ _⟩
    case round =>
      obtain ⟨j, hj, rfl, hv, hb⟩ := hrel
      have HJ := Lib.hid hj
      have HV := Lib.hid hv
      have HB2 := Lib.hid hb
      have sr := hb.size
      clear hj hv hb
      by_cases hlt : j < M
      · have hd : decide ((j : Int) < (M : Int)) = true := by rw [decide_eq_true_eq]; omega
        obtain ⟨z, hz⟩ : ∃ z, xs[j]? = some z := ⟨_, List.getElem?_eq_getElem (by rw [HML.out]; omega)⟩
        obtain ⟨b, off, c', hvv, _, hr⟩ := HX.out.row (by rw [HML.out]; omega)
        simp only [Value.slice.injEq] at hvv
        obtain ⟨rfl, hz', rfl⟩ := hvv
        clear hz'
        have cj := (hr.below HB2.out) j z hz 0 _ rfl
        simp only [Nat.mul_one, Nat.add_zero] at cj
        obtain ⟨z0, z1⟩ := HZ.out z (List.mem_of_getElem? hz)
        have hgt : ns[j]? = some (numF far z) := by rw [← HNS.out, List.getElem?_map, hz]; rfl
        have TK := Lib.hid (show ns.take (j + 1) = ns.take j ++ [numF far z] by rw [List.take_add_one, hgt, Option.toList_some])
        obtain ⟨q, hq⟩ : ∃ q, z % 97 = q := ⟨_, rfl⟩
        have q0 : 0 ≤ q := by rw [← hq]; exact Int.emod_nonneg z (by decide)
        have q1 : q < 97 := by rw [← hq]; exact Int.emod_lt_of_pos z (by decide)
        have hqt : z.tmod 97 = q := by rw [Int.tmod_eq_emod_of_nonneg z0]; exact hq
        have w0 : IntKind.i64.wrap z = z := IntWalk.i64_in _ (by omega)
        have w1 : IntKind.i64.wrap (1 + q) = 1 + q := IntWalk.i64_in _ (by omega)
        have w2 : IntKind.i64.wrap (281474976710656 - (1 + q)) = 281474976710656 - (1 + q) := IntWalk.i64_in _ (by omega)
        have hlen : (ns.take j).length ≤ 60 := by rw [List.length_take, HNL.out]; omega
        have HF := Lib.hid (show numF far z = if far then 281474976710656 - (1 + q) else 1 + q by unfold numF; rw [hq])
        clear hr hz hgt
        obtain ⟨x, hxe⟩ : ∃ x, (if far then 281474976710656 - (1 + q) else 1 + q) = x := ⟨_, rfl⟩
        rw [hxe] at HF
        rw [HF.out] at TK
        cases far
        all_goals
          simp only [Bool.false_eq_true, if_false, if_true] at hxe
          subst hxe
          go_wp2_with (at_builtin; refine wpList_app elemI encI_len encI_one rfl (.tmp 49) (.tmp 51) rfl _ _ rfl rfl (HV.out.alloc _) new_int1 ?q1 ?q2 ?_)
          case q1 => simp only [List.length_cons, List.length_nil]; omega
          case q2 => (try simp); omega
          intro v2 w2 o2 g2
          have hgr := (World.grownBy_alloc wr (.cells #[.int .i64 _] 3) u7.ownBlock).andThen g2 (fun k hk => .inr hk)
          have B2 := Lib.hid (HB2.out.grown hgr sr (fun k hk => (HV.out.block k hk).1))
          rw [← TK.out] at o2
          have V2 := Lib.hid o2
          clear o2 g2 hgr HB2 HV
          go_wp2_with fail
          go_roundg (gk - 1)
          case measure => have := HJ.out; omega
          case rel => exact ⟨j + 1, by have := HJ.out; omega, by go_num, V2.out, B2.out⟩
      · have hd : decide ((j : Int) < (M : Int)) = false := by rw [decide_eq_false_iff_not]; omega
        have X := Lib.hid (show OV encI 1 3 w.heap.size wr u7 ns from by have := HV.out; rw [List.take_of_length_le (by rw [HNL.out]; omega)] at this; exact this.base_le sc)
        go_wp2_with fail
        go_meet
        exact ⟨X.out, HB.out.trans (HB2.out.mono sc)⟩
  case rest =>
    obtain ⟨h1, h2⟩ := hcut
    refine (‹∀ (a : Act) (w : World), Code.wp _ _ _ a w → _› : ∀ (a : Act) (w : World), _ → _) _ _ (of_tail13 w wc _ ns o h1 (by rw [HNL.out]; exact hn) ho ?_ h2)
    rw [List.all_eq_true]
    intro n hn
    rw [← HNS.out, List.mem_map] at hn
    obtain ⟨z, _, rfl⟩ := hn
    exact okN_iff.2 (numF_ok far z)
theorem row_half {w : World} {a : Option Addr} {len cap : Nat} {zs : List Int} (h : IsRow .u16 w a len cap zs) :
    ∃ xs, EV encH 1 w (.slice a len cap) xs ∧ xs.length = len ∧ len ≤ cap ∧ (a = none → cap = 0) ∧ (∀ b ∈ xs, 0 ≤ b ∧ b ≤ 65535) ∧ cap ≤ 9223372036854775807 := by
  obtain ⟨h1, h2, h3, h4⟩ := row_ev encH id (fun _ _ => rfl) h
  refine ⟨_, h1, h2, ?_, ?_, fun b hb => ?_, ?_⟩
  · rcases h with ⟨_, rfl, rfl, _⟩ | ⟨x, _, h, _⟩
    · exact Nat.le_refl _
    · exact h
  · rintro rfl
    rcases h with ⟨_, _, rfl, _⟩ | ⟨x, h, _⟩
    · rfl
    · cases h
  · simp at hb
    exact wf_u16 (h4 b (List.mem_of_mem_take hb))
  · rcases h with ⟨_, _, rfl, _⟩ | ⟨x, _, _, h, _⟩
    · decide
    · unfold maxLen at h; omega
set_option maxRecDepth 100000 in
set_option maxHeartbeats 1600000 in
theorem ofLaw_walk (w : World) (a1 : Option Addr) (n1 c1 : Nat) (z1 : List Int) (o : Nat) (far : Bool) (h1 : IsRow .u16 w a1 n1 c1 z1) (ho : o < 256) :
    Calls Try.prog 6 #[.slice a1 n1 c1, .int .u8 (o : Int), .bool far] w fun e w' => e = .returned (.bool true) ∧ Below w.heap.size w w' := by
  obtain ⟨xs, hv, hl, hnc, hA, hz, hcm⟩ := row_half h1
  clear h1
  obtain ⟨M, hM⟩ : ∃ M, min n1 60 = M := ⟨_, rfl⟩
  have hM1 : M ≤ n1 := by omega
  have hM2 : M ≤ 60 := by omega
  have HV := Lib.hid hv
  have HL := Lib.hid hl
  have HZ := Lib.hid hz
  have hmin : min (n1 : Int) 60 = (M : Int) := by omega
  have hmin2 : max (M : Int) 0 = (M : Int) := by omega
  have hmin3 : ((M : Int)).toNat = M := by omega
  have hmc : M ≤ c1 := by omega
  have hMi : (0 : Int) ≤ (M : Int) := by omega
  have hMc : (M : Int) ≤ (c1 : Int) := by omega
  clear hv hl hz hM
  cases a1 with
  | none =>
    obtain rfl : c1 = 0 := hA rfl
    obtain rfl : n1 = 0 := by omega
    obtain rfl : M = 0 := by omega
    clear hmin hmin2
    obtain rfl : xs = [] := List.eq_nil_of_length_eq_zero HL.out
    go_enter Try.func6, Try.ntmps6
    go_wp2_with fail
    refine (awake_ok w).mono ?_
    rintro e w1 ⟨rfl, b1⟩
    go_upto_region 3 with fail
    go_cut [0] (fun v wx => v = .slice none 0 0 ∧ wx = w1)
    case first =>
      go_wp2_with fail
      go_meet
      exact ⟨rfl, rfl⟩
    case rest =>
      obtain ⟨rfl, rfl⟩ := hcut
      refine (‹∀ (a : Act) (w : World), Code.wp _ _ _ a w → _› : ∀ (a : Act) (w : World), _ → _) _ _ (of_tail4 w _ none 0 0 o far [] (EV.nil _ _) rfl (by decide) (by simp) ho b1)
  | some ad =>
    clear hA
    go_enter Try.func6, Try.ntmps6
    go_wp2_with fail
    refine (awake_ok w).mono ?_
    rintro e w1 ⟨rfl, b1⟩
    have hadr : ∃ ad', (some ad = some ad' ∧ EV encH 1 w1 (.slice (some ad') M c1) (xs.take M)) := by
      refine ⟨ad, rfl, ?_⟩
      rcases Nat.eq_zero_or_pos M with h0 | h0
      · rw [h0]; exact .inl ⟨by simp, _, _, rfl⟩
      · obtain ⟨b, off, c', hvv, _, rb⟩ := HV.out.row (by rw [HL.out]; omega)
        simp only [Value.slice.injEq, Option.some.injEq] at hvv
        obtain ⟨rfl, _, rfl⟩ := hvv
        have := (EV.below (by have := HV.out; rw [← HL.out] at this; exact this) b1 : EV encH 1 w1 (.slice (some ⟨b, off, none⟩) xs.length c1) xs).row_take (j := M) (by rw [HL.out]; exact hM1) rfl
        exact this
    obtain ⟨_, _, hev⟩ := hadr
    rename_i hre
    cases hre
    have HE := Lib.hid hev
    clear hev
    go_upto_region 3 with fail
    go_cut [0] (fun v wx => v = .slice (some ad) M c1 ∧ wx = w1)
    case first =>
      go_wp2_with fail
      go_meet
      exact ⟨rfl, rfl⟩
    case rest =>
      obtain ⟨rfl, rfl⟩ := hcut
      refine (‹∀ (a : Act) (w : World), Code.wp _ _ _ a w → _› : ∀ (a : Act) (w : World), _ → _) _ _ (of_tail4 w _ (some ad) M c1 o far (xs.take M) HE.out (by rw [List.length_take, HL.out]; omega) hM2 (fun z h => HZ.out z (List.mem_of_mem_take h)) ho b1)
end Go.Proofs.Ytofjgcbjpmgkdaa
