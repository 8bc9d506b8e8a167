/- The walk of the law SeqOf, from its end: the loop over the numbers that are there more than once, and the result. -/
import Derived.Test.YtofjgcbjpmgkdaaVa
import Derived.Test.YtofjgcbjpmgkdaaCt
set_option linter.unusedVariables false
set_option linter.unusedSimpArgs false
set_option linter.unusedSectionVars false
namespace Go.Proofs.Ytofjgcbjpmgkdaa
open Go Go.RowKit Go.Shelf

theorem lawI : Maps.Keyed Try.prog 3 := Maps.int_keyed Try.underlying3
theorem zeroI (w : World) : (zeroValue 3).run Try.prog w = .ok (.int .i64 0) w := by kernel_rfl
def OM (w : World) (B n : Nat) (D : DataW Unit) : Prop := w.ownsMap Try.prog 3 (plainElem Try.prog 3) B n D
theorem wf_i64_mk {z : Int} (h : -9223372036854775808 ≤ z ∧ z ≤ 9223372036854775807) : (Lit.int .i64 z).wf = true := by simpa [Lit.wf, IntKind.min, IntKind.max, IntKind.signed, IntKind.bits] using h
theorem okN_iff {z : Int} : okN z = true ↔ 1 ≤ z ∧ z ≤ 281474976710656 := by unfold okN; rw [decide_eq_true_eq]
theorem OM.len {w : World} {B n : Nat} {D : DataW Unit} (h : OM w B n D) (ty : TypeId) : (Builtin.len_ #[45] ty #[.map (some B)]).run Try.prog w = .ok (.int .i64 (Maps.size D)) w := World.ownsMap.len h Try.underlying45 ty

set_option maxRecDepth 100000 in
set_option maxHeartbeats 1600000 in
theorem of_tail5 (w wc : World) (B N c : Nat) (A : Option Addr) (D : DataW Unit) (ns T : List Int) {u0 u1 u2 u3 u4 u5 u6 u7 u8 u9 u10 u11 u12 u13 u15 u16 u17 u18 u20 u21 u25 u26 u27 u28 u29 u30 u31 u32 u33 u34 u35 u36 u37 u38 u39 u40 u41 u42 u43 u44 u45 u46 u47 u48 u49 u50 u51 u52 u53 u54 u55 u56 u57 u58 u59 u60 u61 u62 u63 u64 u65 u66 u67 u68 u69 u70 u71 u72 u73 u74 u75 u76 u77 u78 u79 u80 u81 u82 u83 u84 u85 u86 u87 u88 u89 u90 u91 u92 u93 u94 u95 u96 u97 u98 u99 u100 u101 u102 u103 u104 u105 u106 u107 u108 u109 u110 u111 u112 u113 u114 u115 u116 u117 u118 u119 u120 u121 u122 u123 u124 u125 u126 u127 u128 u129 u130 u131 u132 u133 u134 u135 u136 u137 u138 u139 u140 u141 u142 u143 u144 u145 u146 u147 u148 u149 u150 u151 u152 u153 u154 u155 u156 u157 u158 u159 u160 u161 u162 u163 u164 u165 u166 u167 u168 u169 u170 u171 u172 u173 u174 u175 : Value}
    (hD : Cnt D ns) (hO : OM wc B N D) (hT : EV encI 1 wc (.slice A T.length c) T) (hp : T.Pairwise (· < ·)) (ht : ∀ n, n ∈ T ↔ 2 ≤ ns.count n) (hl : T.length ≤ 100) (hn : ns.length ≤ 60) (hk : ns.all okN = true) (hb : Below w.heap.size w wc) :
    Code.wp Try.prog (tailR Try.f6 38) (bodyPost Try.prog Try.f6 fun e w' => e = .returned (.bool true) ∧ Below w.heap.size w w')
      ⟨#[u0, u1, u2, u3, u4, u5, u6, u7, u8, u9, u10, u11, u12, u13, .slice A T.length c, u15, u16, u17, u18, .map (some B), u20, u21, .int .i64 ((ded ns).length : Nat), .int .i64 0, .int .i64 (T.length : Nat), u25, u26, u27, u28, u29, u30, u31, u32, u33, u34, u35, u36, u37, u38, u39, u40, u41, u42, u43, u44, u45, u46, u47, u48, u49, u50, u51, u52, u53, u54, u55, u56, u57, u58, u59, u60, u61, u62, u63, u64, u65, u66, u67, u68, u69, u70, u71, u72, u73, u74, u75, u76, u77, u78, u79, u80, u81, u82, u83, u84, u85, u86, u87, u88, u89, u90, u91, u92, u93, u94, u95, u96, u97, u98, u99, u100, u101, u102, u103, u104, u105, u106, u107, u108, u109, u110, u111, u112, u113, u114, u115, u116, u117, u118, u119, u120, u121, u122, u123, u124, u125, u126, u127, u128, u129, u130, u131, u132, u133, u134, u135, u136, u137, u138, u139, u140, u141, u142, u143, u144, u145, u146, u147, u148, u149, u150, u151, u152, u153, u154, u155, u156, u157, u158, u159, u160, u161, u162, u163, u164, u165, u166, u167, u168, u169, u170, u171, u172, u173, u174, u175], []⟩ wc := by
  conv => arg 2; whnf
  conv => arg 4; dsimp only
  have HLEN := hO.len
  rw [hD.size] at HLEN
  have HO := Lib.hid hO
  have HD := Lib.hid hD
  have HT := Lib.hid hT
  have HP := Lib.hid hp
  have HTM := Lib.hid ht
  have HB := Lib.hid hb
  have HK := Lib.hid (fun n (h : n ∈ ns) => okN_iff.1 (List.all_eq_true.1 hk n h))
  clear hD hO hT hp ht hb hk
  obtain ⟨d, hd⟩ : ∃ d, (ded ns).length = d := ⟨_, rfl⟩
  rw [hd] at HLEN ⊢
  clear hd
  have HLN := Lib.hid HLEN
  obtain ⟨L, hL⟩ : ∃ L, T.length = L := ⟨_, rfl⟩
  have HL := Lib.hid hL
  rw [hL] at hl HT ⊢
  clear hL
  go_wp2_with fail
  go_loopg [27, 28, 139] L (fun k _ _ i wr => ∃ j : Nat, j + k = L ∧ i = .int .i64 j ∧ wc = wr)
  case atStart => exact ⟨0, by omega, rfl, rfl⟩
  case round =>
    obtain ⟨j, hj, rfl, rfl⟩ := hrel
    have HJ := Lib.hid hj
    clear hj
    by_cases hlt : j < L
    · have hd : decide ((j : Int) < (L : Int)) = true := by rw [decide_eq_true_eq]; omega
      obtain ⟨x, hx⟩ : ∃ x, T[j]? = some x := ⟨_, List.getElem?_eq_getElem (by rw [HL.out]; omega)⟩
      have hm := (HTM.out x).1 (List.mem_of_getElem? hx)
      have hkx := HK.out x (List.count_pos_iff.1 (by omega))
      obtain ⟨b, off, c', hv, _, hr⟩ := HT.out.row (by rw [HL.out]; omega)
      simp only [Value.slice.injEq] at hv
      obtain ⟨rfl, hz, rfl⟩ := hv
      clear hz
      have cj := hr.int (i := j) (by rw [HL.out]; omega)
      rw [hx, Option.getD_some] at cj
      have hwf := Lib.hid (wf_i64_mk (z := x) (by omega))
      have hmH := Lib.hid hm
      have hlast := Lib.hid (show ∀ i y, i + 1 = j → T[i]? = some y → y < x from fun i y hi hy => by
        have h1 := List.pairwise_iff_getElem.1 HP.out i j (List.getElem?_eq_some_iff.1 hy).1 (List.getElem?_eq_some_iff.1 hx).1 (by omega)
        rw [(List.getElem?_eq_some_iff.1 hy).2, (List.getElem?_eq_some_iff.1 hx).2] at h1
        exact h1)
      have hjl : j ≤ 100 := by omega
      clear hm hkx hx HLEN
      go_wp2_with (at_lookup; refine wpList_lookup_own_int _ rfl _ _ 45 rfl 3 3 .i64 lawI Try.underlying45 Try.underlying3 (zeroI _) B N D rfl HO.out _ _ rfl (Maps.keyOf_int_mk Try.underlying3 hwf.out) ?_)
      intro q hat _
      rw [HD.out.at_ x] at hat
      have hq : (ns.count x : Int) = q := by injection hat with h; injection h
      have hq2 : decide (q < 2) = false := by rw [decide_eq_false_iff_not]; have := hmH.out; omega
      clear hat hq hmH
      rcases Nat.eq_zero_or_pos j with h0 | h0
      · have hd0 : decide ((0 : Int) < (j : Int)) = false := by rw [decide_eq_false_iff_not]; omega
        have hd0' : decide (0 < j) = false := by rw [decide_eq_false_iff_not]; omega
        clear hr HT hlast h0
        go_wp2_with fail
        go_roundg (gk - 1)
        case measure => have := HJ.out; omega
        case rel => exact ⟨j + 1, by have := HJ.out; omega, by go_num, rfl⟩
      · have hd0 : decide ((0 : Int) < (j : Int)) = true := by rw [decide_eq_true_eq]; omega
        obtain ⟨i, hi⟩ : ∃ i, i + 1 = j := ⟨j - 1, by omega⟩
        obtain ⟨y, hy⟩ : ∃ y, T[i]? = some y := ⟨_, List.getElem?_eq_getElem (by rw [HL.out]; omega)⟩
        have hyx := hlast.out i y hi hy
        have ci := hr.int (i := i) (by rw [HL.out]; omega)
        rw [hy, Option.getD_some] at ci
        subst hi
        have hd1 : decide (x ≤ y) = false := by rw [decide_eq_false_iff_not]; omega
        have w1 : IntKind.i64.wrap (((i + 1 : Nat) : Int) - 1) = (i : Int) := by rw [show ((i + 1 : Nat) : Int) - 1 = (i : Int) by omega]; exact IntWalk.i64_in _ (by omega)
        have h00 : (0 : Int) ≤ (i : Int) := by omega
        have hil : (i : Int) < (L : Int) := by omega
        have hil' : i < L := by omega
        clear hr HT hlast hy hyx
        go_wp2_with fail
        go_roundg (gk - 1)
        case measure => have := HJ.out; omega
        case rel => exact ⟨i + 1 + 1, by have := HJ.out; omega, by go_num, rfl⟩
    · have hd : decide ((j : Int) < (L : Int)) = false := by rw [decide_eq_false_iff_not]; omega
      have HLEN' := HLN.out
      clear HT HO HTM HK
      go_wp2_with fail
      go_ret
      exact ⟨rfl, HB.out⟩
end Go.Proofs.Ytofjgcbjpmgkdaa
