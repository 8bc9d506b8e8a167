/- QuotaSums: the walk through the uses, at the end. -/
import Derived.Test.YtaplangfppohdaaDoorZ31
set_option linter.unusedVariables false
set_option linter.unusedSimpArgs false
set_option linter.unusedSectionVars false
namespace Go.Proofs.YtaplangfppohdaaDoor
open Go.RowKit Go.Shelf Go.Maps
attribute [local go_sem] Oper.semAt_some

theorem wpList_lenC {P : Program} {w : World} {ops : Array Oper} {rest : List Oper} {o : Oper} {a : Act} {Q : Exit → Act → World → Prop} {k e t : TypeId} {b c : Nat} {F : Lit → Option Value} (hg : o.guard = none) (m : Operand) (hop : o.op = Op.call { callee := Callee.builtin Builtin.len, args := #[m], argTypes := #[t] })
    (ht : P.underlying t = some (.map k e)) (hm : a.eval m = .map (some b)) (h : MpC P k w b c F) (hK : wpList P ops Q rest (a.put o.dst (.int .i64 c)) w) : wpList P ops Q (o :: rest) a w := by
  obtain ⟨D, h1, h2, h3⟩ := h
  exact wpList_len_own w hg m t hop k e ht tokR b c D hm h1 (by rw [h3]; exact hK)
/-- What is known of each use. -/
structure SOk (p : Nat) (us : List Us) (F : Lit → Option Value) : Prop where
  each : ∀ u ∈ us, u.r = 0 ∧ (0 ≤ u.c ∧ u.c < 64) ∧ 0 ≤ u.d ∧ (0 ≤ u.p ∧ u.p ≤ 281474976710656) ∧ (1 ≤ u.t ∧ u.t ≤ p)
  tells : ∀ u ∈ us, (F (kA2 u.c u.p)).getD (.int .i64 0) = .int .i64 u.t
  next : ∀ j u v, us[j]? = some v → us[j + 1]? = some u → v.c < u.c ∨ (v.c = u.c ∧ v.p < u.p)
set_option maxRecDepth 100000 in
set_option maxHeartbeats 3200000 in
theorem sums_tail (w6 : World) (RB p n mb cu : Nat) (Au : Option Addr) (us : List Us) (F : Lit → Option Value) (Post : Ending → World → Prop) {u0 u1 u2 u3 u4 u5 u6 u7 u8 u9 u10 u11 u12 u13 u14 u17 u18 u19 u21 u22 u23 u24 u25 u26 u27 u28 u29 u30 u31 u32 u33 u34 u35 u36 u37 u38 u39 u40 u41 u42 u43 u44 u45 u46 u47 u48 u49 u50 u51 u52 u53 u54 u55 u56 u57 u58 u59 u60 u61 u62 u63 u64 u65 u66 u67 u68 u69 u70 u71 u72 u73 u74 u75 u76 u77 u78 u79 u80 u81 u82 u83 u84 u85 u86 u87 u88 u89 u90 u91 u92 u93 u94 u95 u96 u97 u98 u99 u100 u101 u102 u103 u104 u105 u106 u107 u108 u109 u110 u111 u112 u113 u114 u115 u116 u117 u118 u119 u120 u121 u122 u123 u124 u125 u126 u127 u128 u129 u130 u131 u132 u133 u134 u135 u136 u137 u138 u139 u140 u141 u142 u143 u144 u145 u146 u147 u148 u149 u150 u151 u152 u153 u154 u155 u156 u157 u158 u159 u160 u161 u162 u163 u164 u165 u166 u167 u168 u169 u170 u171 u172 u173 u174 u175 u176 u177 u178 u179 u180 u181 u182 u183 u184 u185 u186 u187 u188 u189 u190 u191 u192 u193 u194 u195 u196 u197 u198 u199 u200 u201 u202 : Value}
    (HUS : Hid (EV encUs 5 w6 (.slice Au n cu) us ∧ us.length = n ∧ n ≤ 1000000000)) (HUO : Hid (SOk p us F)) (HRB : Hid (w6.cell? ⟨RB, 1, none⟩ = some (.int .i64 (p : Nat))))
    (HM : Hid (MpC Tryd.prog 77 w6 mb n F)) (FIN : Hid (∀ w', Below w6.heap.size w6 w' → Post (.returned (.bool true)) w')) :
    Code.wp Tryd.prog (tailR Tryd.f9 21) (bodyPost Tryd.prog Tryd.f9 Post)
      ⟨#[u0, u1, u2, u3, u4, u5, u6, u7, u8, u9, u10, u11, u12, u13, u14, .pointer (some ⟨RB, 0, none⟩), .slice Au n cu, u17, u18, u19, .map (some mb), u21, u22, u23, u24, u25, u26, u27, u28, u29, u30, u31, u32, u33, u34, u35, u36, u37, u38, u39, u40, u41, u42, u43, u44, u45, u46, u47, u48, u49, u50, u51, u52, u53, u54, u55, u56, u57, u58, u59, u60, u61, u62, u63, u64, u65, u66, u67, u68, u69, u70, u71, u72, u73, u74, u75, u76, u77, u78, u79, u80, u81, u82, u83, u84, u85, u86, u87, u88, u89, u90, u91, u92, u93, u94, u95, u96, u97, u98, u99, u100, u101, u102, u103, u104, u105, u106, u107, u108, u109, u110, u111, u112, u113, u114, u115, u116, u117, u118, u119, u120, u121, u122, u123, u124, u125, u126, u127, u128, u129, u130, u131, u132, u133, u134, u135, u136, u137, u138, u139, u140, u141, u142, u143, u144, u145, u146, u147, u148, u149, u150, u151, u152, u153, u154, u155, u156, u157, u158, u159, u160, u161, u162, u163, u164, u165, u166, u167, u168, u169, u170, u171, u172, u173, u174, u175, u176, u177, u178, u179, u180, u181, u182, u183, u184, u185, u186, u187, u188, u189, u190, u191, u192, u193, u194, u195, u196, u197, u198, u199, u200, u201, u202], []⟩ w6 := by
  conv => arg 2; whnf
  conv => arg 4; dsimp only
  have hn9 := HUS.out.2.2
  go_wp2
  go_loopg [125] n (fun k i wr => ∃ j : Nat, j + k = n ∧ i = .int .i64 j ∧ Below w6.heap.size w6 wr)
  case atStart => exact ⟨0, by omega, rfl, Below.refl _ _⟩
  case round =>
    obtain ⟨j, hj, rfl, hb⟩ := hrel
    have HJ := Lib.hid hj
    have HB := Lib.hid hb
    clear hj hb
    by_cases hlt : j < n
    · obtain ⟨u, hu⟩ : ∃ u, us[j]? = some u := ⟨_, List.getElem?_eq_getElem (by rw [HUS.out.2.1]; exact hlt)⟩
      have hum := List.mem_of_getElem? hu
      have hE := HUO.out.each u hum
      have hur := Lib.hid hE.1
      obtain ⟨a1, a2⟩ := hE.2.1
      have a3 := hE.2.2.1
      obtain ⟨a5, a6⟩ := hE.2.2.2.1
      obtain ⟨a7, a8⟩ := hE.2.2.2.2
      obtain ⟨b, off, c', hs, hc, hr⟩ := (HUS.out.1.below HB.out).row (by rw [HUS.out.2.1]; omega)
      rw [HUS.out.2.1] at hs hc
      simp only [Value.slice.injEq, true_and] at hs
      obtain ⟨rfl, rfl⟩ := hs
      obtain ⟨c0, c1, c2, c3, c4⟩ := hr.us hu
      have hbel := bel_alloc wr (.cells #[.int .i64 u.r, .int .i64 u.c, .int .i64 u.p, .int .i64 u.t, .int .i64 u.d] 50)
      have HB2 := Lib.hid (HB.out.trans (hbel.mono HB.out.size))
      obtain ⟨b2, off2, c2', hs2, hc2, hr2⟩ := (HUS.out.1.below HB2.out).row (by rw [HUS.out.2.1]; omega)
      rw [HUS.out.2.1] at hs2 hc2
      simp only [Value.slice.injEq, Option.some.injEq, Addr.mk.injEq, true_and, and_true] at hs2
      obtain ⟨⟨rfl, rfl⟩, rfl⟩ := hs2
      have hlook := fun (W : World) (h : MpC Tryd.prog 77 W mb n F) => h.mpv.look lawK2 Tryd.underlying74 (zeroI W) (keyK2 (i64_of (z := u.c) a1 (Int.le_of_lt a2) (by omega)) (i64_of (z := u.p) a5 a6 (by omega)))
      rw [HUO.out.tells u hum] at hlook
      have HLK := Lib.hid hlook
      have HR2 := Lib.hid hr2
      have HU := Lib.hid hu
      have HRB2 := Lib.hid ((below_cell HB2.out (HRB.out)))
      clear hlook hr hc hE hr2 hu
      go_upto_region 24 with fail
      have d0 : (wr.alloc (.cells #[.int .i64 u.r, .int .i64 u.c, .int .i64 u.p, .int .i64 u.t, .int .i64 u.d] 50)).cell? ⟨wr.heap.size, 0, none⟩ = some (.int .i64 u.r) := by go_simp
      have d1 : (wr.alloc (.cells #[.int .i64 u.r, .int .i64 u.c, .int .i64 u.p, .int .i64 u.t, .int .i64 u.d] 50)).cell? ⟨wr.heap.size, 1, none⟩ = some (.int .i64 u.c) := by go_simp
      have d2 : (wr.alloc (.cells #[.int .i64 u.r, .int .i64 u.c, .int .i64 u.p, .int .i64 u.t, .int .i64 u.d] 50)).cell? ⟨wr.heap.size, 2, none⟩ = some (.int .i64 u.p) := by go_simp
      have d3 : (wr.alloc (.cells #[.int .i64 u.r, .int .i64 u.c, .int .i64 u.p, .int .i64 u.t, .int .i64 u.d] 50)).cell? ⟨wr.heap.size, 3, none⟩ = some (.int .i64 u.t) := by go_simp
      have d4 : (wr.alloc (.cells #[.int .i64 u.r, .int .i64 u.c, .int .i64 u.p, .int .i64 u.t, .int .i64 u.d] 50)).cell? ⟨wr.heap.size, 4, none⟩ = some (.int .i64 u.d) := by go_simp
      have d5 := HRB2.out
      have HMB := Lib.hid (HM.out.below HB2.out)
      clear c0 c1 c2 c3 c4 hbel
      generalize wr.alloc (.cells #[.int .i64 u.r, .int .i64 u.c, .int .i64 u.p, .int .i64 u.t, .int .i64 u.d] 50) = w7 at HB2 d0 d1 d2 d3 d4 d5 HR2 HMB ⊢
      generalize wr.heap.size = X at d0 d1 d2 d3 d4 ⊢
      rw [hur.out] at d0
      have l0 := HLK.out w7 HMB.out
      have l1 := HLK.out w7.drew (HMB.out.same rfl)
      have l2 := fun n => HLK.out (w7.drewN n) (HMB.out.same rfl)
      have t1 : decide (u.t < 1) = false := by simp; omega
      have t2 : decide ((p : Int) < u.t) = false := by simp; omega
      have t3 : decide (u.d < 0) = false := by simp; omega
      go_wp2_with fail
      go_quiet (fail)
      have HB3 := Lib.hid (below_drewN HB2.out nq)
      replace d1 : (w7.drewN nq).cell? ⟨X, 1, none⟩ = some (.int .i64 u.c) := d1
      replace d2 : (w7.drewN nq).cell? ⟨X, 2, none⟩ = some (.int .i64 u.p) := d2
      have HR3 := Lib.hid (show ER encUs 5 (w7.drewN nq) b off us from HR2.out)
      clear l0 l1 l2 d0 d3 d4 d5 HR2 HMB HB2
      generalize w7.drewN nq = w8 at HB3 HR3 d1 d2 ⊢
      rcases Nat.eq_zero_or_pos j with hj0 | hj0
      · subst hj0
        go_wp2_with fail
        go_quiet (fail)
        go_wp2
        go_roundg (gk - 1)
        case measure => have := HJ.out; omega
        case rel => exact ⟨1, by have := HJ.out; omega, by go_num, below_drewN HB3.out _⟩
      · obtain ⟨v, hv⟩ : ∃ v, us[j - 1]? = some v := ⟨_, List.getElem?_eq_getElem (by rw [HUS.out.2.1]; omega)⟩
        obtain ⟨e0, e1, e2, e3, e4⟩ := HR3.out.us hv
        have hnx := HUO.out.next (j - 1) u v hv (by rw [show j - 1 + 1 = j by omega]; exact HU.out)
        have i0 : decide ((0 : Int) < (j : Int)) = true := by simp; omega
        have i00 : decide (0 < j) = true := by simp; omega
        have i1 : (0 : Int) ≤ (j : Int) - 1 := by omega
        have i2 : (j : Int) - 1 < (n : Int) := by omega
        have i3 : ((j : Int) - 1).toNat = j - 1 := by omega
        have s1 : decide (u.c < v.c) = false := by simp; omega
        clear hv e0 e3 e4
        by_cases hcc : u.c = v.c
        · have s2 : (u.c == v.c) = true := by simp [hcc]
          have s3 : decide (u.p ≤ v.p) = false := by simp; omega
          have HCC := Lib.hid hcc
          clear hcc hnx
          go_wp2_with fail
          go_quiet (fail)
          go_wp2
          go_roundg (gk - 1)
          case measure => have := HJ.out; omega
          case rel => exact ⟨j + 1, by have := HJ.out; omega, by go_num, below_drewN HB3.out _⟩
        · have s2 : (u.c == v.c) = false := by simp [hcc]
          have HCC := Lib.hid hcc
          clear hcc hnx
          go_wp2_with fail
          go_quiet (fail)
          go_wp2
          go_roundg (gk - 1)
          case measure => have := HJ.out; omega
          case rel => exact ⟨j + 1, by have := HJ.out; omega, by go_num, below_drewN HB3.out _⟩
    · obtain rfl : n = j := by have := HJ.out; omega
      have HMB := Lib.hid (HM.out.below HB.out)
      have hlen := HMB.out.len (e := 3) (t := 74) Tryd.underlying74
      have hlen1 := hlen 3
      go_wp2
      exact FIN.out _ HB.out
end Go.Proofs.YtaplangfppohdaaDoor
