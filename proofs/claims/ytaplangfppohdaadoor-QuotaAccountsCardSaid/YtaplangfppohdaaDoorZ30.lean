/- QuotaGroups: the walk through the uses, at the end | QuotaGroups: the law. -/
import Derived.Test.YtaplangfppohdaaDoorZ29
import Derived.Test.YtaplangfppohdaaDoorZ19
import Derived.Test.YtaplangfppohdaaDoorZ28
set_option linter.unusedVariables false
set_option linter.unusedSimpArgs false
set_option linter.unusedSectionVars false
namespace Go.Proofs.YtaplangfppohdaaDoor
open Go.RowKit Go.Shelf Go.Maps
attribute [local go_sem] Oper.semAt_some

/-- What the map tells of the uses. -/
def Tells (us : List Us) (F : Lit → Option Value) : Prop := ∀ u ∈ us, F (kA3 u.r u.c u.p) = some (.int .i64 u.t)
/-- What is known of each use. -/
structure UOk (gs : List (Int × Int)) (us : List Us) : Prop where
  in64 : ∀ u ∈ us, (0 ≤ u.r ∧ u.r < 256) ∧ (0 ≤ u.c ∧ u.c < 64) ∧ (0 ≤ u.p ∧ u.p ≤ 281474976710656) ∧ (1 ≤ u.t ∧ u.t ≤ 1000) ∧ u.d = 0
  up : ∀ u ∈ us, ∃ v ∈ us, ∃ i : Nat, u.r = i ∧ i < gs.length ∧ v.r = par gs i ∧ v.c = u.c ∧ v.p = u.p ∧ u.t ≤ v.t
theorem i64_of {z n : Int} (h0 : 0 ≤ z) (h1 : z ≤ n) (hn : n ≤ 9223372036854775807) : I64 z := by unfold I64; omega
set_option maxRecDepth 100000 in
set_option maxHeartbeats 3200000 in
theorem gr_tail (w6 : World) (G n M g mb N cg cu ca : Nat) (Ag Au Aa : Option Addr) (gs : List (Int × Int)) (us : List Us) (F : Lit → Option Value) (Post : Ending → World → Prop) {u0 u1 u2 u3 u4 u5 u6 u7 u8 u10 u11 u12 u13 u14 u16 u18 u19 u22 u23 u24 u25 u26 u27 u28 u29 u30 u31 u32 u33 u34 u35 u36 u37 u38 u39 u40 u41 u42 u43 u44 u45 u46 u47 u48 u49 u50 u51 u52 u53 u54 u55 u56 u57 u58 u59 u60 u61 u62 u63 u64 u65 u66 u67 u68 u69 u70 u71 u72 u73 u74 u75 u76 u77 u78 u79 u80 u81 u82 u83 u84 u85 u86 u87 u88 u89 u90 u91 u92 u93 u94 u95 u96 u97 u98 u99 u100 u101 u102 u103 u104 u105 u106 u107 u108 u109 u110 u111 u112 u113 u114 u115 u116 u117 u118 u119 u120 u121 u122 u123 u124 u125 u126 u127 u128 u129 u130 u131 u132 u133 u134 u135 u136 u137 u138 u139 u140 u141 u142 u143 u144 u145 u146 : Value}
    (HG : Hid (EV encG 2 w6 (.slice Ag G cg) gs ∧ gs.length = G ∧ 0 < G ∧ G ≤ 256)) (HUS : Hid (EV encUs 5 w6 (.slice Au n cu) us ∧ us.length = n ∧ n ≤ 1000000000)) (HUO : Hid (UOk gs us))
    (HA : Hid (EV encUs 5 w6 (.slice Aa M ca) ((us.filter fun u => decide (u.r = (g : Int))).map fun u => { u with r := 0 }) ∧ ((us.filter fun u => decide (u.r = (g : Int))).map fun u => ({ u with r := 0 } : Us)).length = M))
    (HM : Hid (MpV Tryd.prog 51 w6 mb N F)) (HF : Hid (Tells us F)) (hg : g < 256) (FIN : Hid (∀ w', Below w6.heap.size w6 w' → Post (.returned (.bool true)) w')) :
    Code.wp Tryd.prog (tailR Tryd.f5 26) (bodyPost Tryd.prog Tryd.f5 Post)
      ⟨#[u0, u1, u2, u3, u4, u5, u6, u7, u8, .slice Ag G cg, u10, u11, u12, u13, u14, .slice Au n cu, u16, .map (some mb), u18, u19, .int .i64 g, .slice Aa M ca, u22, u23, u24, u25, u26, u27, u28, u29, u30, u31, u32, u33, u34, u35, u36, u37, u38, u39, u40, u41, u42, u43, u44, u45, u46, u47, u48, u49, u50, u51, u52, u53, u54, u55, u56, u57, u58, u59, u60, u61, u62, u63, u64, u65, u66, u67, u68, u69, u70, u71, u72, u73, u74, u75, u76, u77, u78, u79, u80, u81, u82, u83, u84, u85, u86, u87, u88, u89, u90, u91, u92, u93, u94, u95, u96, u97, u98, u99, u100, u101, u102, u103, u104, u105, u106, u107, u108, u109, u110, u111, u112, u113, u114, u115, u116, u117, u118, u119, u120, u121, u122, u123, u124, u125, u126, u127, u128, u129, u130, u131, u132, u133, u134, u135, u136, u137, u138, u139, u140, u141, u142, u143, u144, u145, u146], []⟩ w6 := by
  conv => arg 2; whnf
  conv => arg 4; dsimp only
  have hn9 := HUS.out.2.2
  have hMn : M ≤ n := by rw [← HA.out.2, ← HUS.out.2.1, List.length_map]; exact List.length_filter_le _ _
  go_wp2
  go_loopg [22, 103] n (fun k cv i wr => ∃ j : Nat, j + k = n ∧ i = .int .i64 j ∧ cv = .int .i64 (cntG us g j : Nat) ∧ Below w6.heap.size w6 wr)
  case atStart => exact ⟨0, by omega, rfl, rfl, Below.refl _ _⟩
  case round =>
    obtain ⟨j, hj, rfl, rfl, hb⟩ := hrel
    have HJ := Lib.hid hj
    have HB := Lib.hid hb
    clear hj hb
    have hkj := cntG_le us g j
    by_cases hlt : j < n
    · obtain ⟨u, hu⟩ : ∃ u, us[j]? = some u := ⟨_, List.getElem?_eq_getElem (by rw [HUS.out.2.1]; exact hlt)⟩
      have hum := List.mem_of_getElem? hu
      obtain ⟨⟨a1, a2⟩, ⟨a3, a4⟩, ⟨a5, a6⟩, ⟨a7, a8⟩, a9⟩ := HUO.out.in64 u hum
      obtain ⟨v, hv, i, hui, hil, hvr, hvc, hvp, hvt⟩ := HUO.out.up u hum
      have hvin := HUO.out.in64 v hv
      have hFv := HF.out v hv
      rw [hvr, hvc, hvp] at hFv
      obtain ⟨b, off, c', hs, hc, hr⟩ := (HUS.out.1.below HB.out).row (by rw [HUS.out.2.1]; omega)
      rw [HUS.out.2.1] at hs hc
      simp only [Value.slice.injEq, true_and] at hs
      obtain ⟨rfl, rfl⟩ := hs
      obtain ⟨c0, c1, c2, c3, c4⟩ := hr.us hu
      have hbel := bel_alloc wr (.cells #[.int .i64 u.r, .int .i64 u.c, .int .i64 u.p, .int .i64 u.t, .int .i64 u.d] 50)
      have HB2 := Lib.hid (HB.out.trans (hbel.mono HB.out.size))
      obtain ⟨bg, og, cg', hsg, hcg, hrg⟩ := (HG.out.1.below HB2.out).row (by rw [HG.out.2.1]; exact HG.out.2.2.1)
      rw [HG.out.2.1] at hsg hcg
      simp only [Value.slice.injEq, true_and] at hsg
      obtain ⟨rfl, rfl⟩ := hsg
      rw [HG.out.2.1] at hil
      obtain ⟨e0, _⟩ := hrg.pt (i := i) (x := (par gs i, wgt gs i)) (by rw [List.getElem?_eq_getElem (by rw [HG.out.2.1]; exact hil)]; simp [par, wgt, List.getElem?_eq_getElem (show i < gs.length by rw [HG.out.2.1]; exact hil)])
      dsimp only at e0
      have HSU := Lib.hid (cntG_succ (g := (g : Int)) hu)
      have HGT := Lib.hid (fun h : u.r = (g : Int) => cntG_get (g := (g : Int)) hu h)
      obtain ⟨P, hP⟩ : ∃ P, par gs i = P := ⟨_, rfl⟩
      rw [hP] at e0 hvr hFv
      have hPb : I64 P := by rw [← hvr]; exact i64_of hvin.1.1 (Int.le_of_lt hvin.1.2) (by omega)
      have hlook := fun (W : World) (h : MpV Tryd.prog 51 W mb N F) => h.look lawK3 Tryd.underlying48 (zeroI W) (keyK3 hPb (i64_of (z := u.c) a3 (Int.le_of_lt a4) (by omega)) (i64_of (z := u.p) a5 a6 (by omega)))
      rw [hFv] at hlook
      simp only [Option.getD_some] at hlook
      have HLK := Lib.hid hlook
      have HUI := Lib.hid (And.intro hui a9)
      have HVT := Lib.hid hvt
      clear hlook hFv hvin hP hPb hvr hvc hvp hv hr hrg hcg hui a9
      go_upto_region 30 with fail
      have d0 : (wr.alloc (.cells #[.int .i64 u.r, .int .i64 u.c, .int .i64 u.p, .int .i64 u.t, .int .i64 u.d] 50)).cell? ⟨wr.heap.size, 0, none⟩ = some (.int .i64 u.r) := by go_simp
      have d1 : (wr.alloc (.cells #[.int .i64 u.r, .int .i64 u.c, .int .i64 u.p, .int .i64 u.t, .int .i64 u.d] 50)).cell? ⟨wr.heap.size, 1, none⟩ = some (.int .i64 u.c) := by go_simp
      have d2 : (wr.alloc (.cells #[.int .i64 u.r, .int .i64 u.c, .int .i64 u.p, .int .i64 u.t, .int .i64 u.d] 50)).cell? ⟨wr.heap.size, 2, none⟩ = some (.int .i64 u.p) := by go_simp
      have d3 : (wr.alloc (.cells #[.int .i64 u.r, .int .i64 u.c, .int .i64 u.p, .int .i64 u.t, .int .i64 u.d] 50)).cell? ⟨wr.heap.size, 3, none⟩ = some (.int .i64 u.t) := by go_simp
      have d4 : (wr.alloc (.cells #[.int .i64 u.r, .int .i64 u.c, .int .i64 u.p, .int .i64 u.t, .int .i64 u.d] 50)).cell? ⟨wr.heap.size, 4, none⟩ = some (.int .i64 u.d) := by go_simp
      have df : (wr.alloc (.cells #[.int .i64 u.r, .int .i64 u.c, .int .i64 u.p, .int .i64 u.t, .int .i64 u.d] 50)).frozen? ⟨wr.heap.size, 0, none⟩ = false := by go_simp
      have HMB := Lib.hid (HM.out.below HB2.out)
      have HXB := Lib.hid (show w6.heap.size ≤ wr.heap.size from HB.out.size)
      clear c0 c1 c2 c3 c4 hbel
      generalize wr.alloc (.cells #[.int .i64 u.r, .int .i64 u.c, .int .i64 u.p, .int .i64 u.t, .int .i64 u.d] 50) = w7 at HB2 d0 d1 d2 d3 d4 df e0 HMB ⊢
      generalize wr.heap.size = X at d0 d1 d2 d3 d4 df HXB ⊢
      have l0 := HLK.out w7 HMB.out
      have l1 := HLK.out w7.drew (HMB.out.same rfl)
      have l2 := fun n => HLK.out (w7.drewN n) (HMB.out.same rfl)
      rw [HUI.out.1] at d0
      have t1 : decide (v.t < u.t) = false := by simp; omega
      have i1 : (0 : Int) ≤ (i : Int) := by omega
      have i2 : (i : Int) < (G : Int) := by omega
      have i3 : (i : Int).toNat = i := by omega
      go_wp2_with fail
      go_quiet (fail)
      have HB3 := Lib.hid (below_drewN HB2.out nq)
      replace d0 : (w7.drewN nq).cell? ⟨X, 0, none⟩ = some (.int .i64 (i : Int)) := d0
      replace d1 : (w7.drewN nq).cell? ⟨X, 1, none⟩ = some (.int .i64 u.c) := d1
      replace d2 : (w7.drewN nq).cell? ⟨X, 2, none⟩ = some (.int .i64 u.p) := d2
      replace d3 : (w7.drewN nq).cell? ⟨X, 3, none⟩ = some (.int .i64 u.t) := d3
      replace d4 : (w7.drewN nq).cell? ⟨X, 4, none⟩ = some (.int .i64 u.d) := d4
      replace df : (w7.drewN nq).frozen? ⟨X, 0, none⟩ = false := df
      clear l0 l1 l2 e0 t1 i1 i2 i3 HLK HMB hvt
      generalize w7.drewN nq = w8 at HB3 d0 d1 d2 d3 d4 df ⊢
      by_cases hig : i = g
      · have hg1 : ((i : Int) == (g : Int)) = true := by simp [hig]
        have hg2 : (i == g) = true := by simp [hig]
        have hal := HGT.out (by rw [HUI.out.1, hig])
        have HK := Lib.hid (show cntG us g (j + 1) = cntG us g j + 1 from by rw [HSU.out, if_pos (by rw [HUI.out.1, hig])])
        have hkM : cntG us g j < M := by rw [← HA.out.2]; exact (List.getElem?_eq_some_iff.1 hal).1
        have HB4 := Lib.hid (show Below w6.heap.size w6 (w8.setCell ⟨X, 0, none⟩ (.int .i64 0)) from HB3.out.setCell (p := ⟨X, 0, none⟩) HXB.out _)
        obtain ⟨ba, oa, ca', hsa, hca, hra⟩ := (HA.out.1.below HB4.out).row (by rw [HA.out.2]; omega)
        rw [HA.out.2] at hsa hca
        simp only [Value.slice.injEq, true_and] at hsa
        obtain ⟨rfl, rfl⟩ := hsa
        obtain ⟨f0, f1, f2, f3, f4⟩ := hra.us hal
        dsimp only at f0 f1 f2 f3 f4
        clear hra hal hca hu hig
        generalize cntG us g j = k at hkM hkj HK f0 f1 f2 f3 f4 ⊢
        have g1 : decide ((M : Int) ≤ (k : Int)) = false := by simp; omega
        have g2 : decide (M ≤ k) = false := by simp; omega
        have k0 : (w8.setCell ⟨X, 0, none⟩ (.int .i64 0)).cell? ⟨X, 0, none⟩ = some (.int .i64 0) := World.cell?_setCell_same _ _ _ (by rw [d0])
        have k1 : (w8.setCell ⟨X, 0, none⟩ (.int .i64 0)).cell? ⟨X, 1, none⟩ = some (.int .i64 u.c) := (World.cell?_setCell_other _ _ _ _ (by simp)).trans d1
        have k2 : (w8.setCell ⟨X, 0, none⟩ (.int .i64 0)).cell? ⟨X, 2, none⟩ = some (.int .i64 u.p) := (World.cell?_setCell_other _ _ _ _ (by simp)).trans d2
        have k3 : (w8.setCell ⟨X, 0, none⟩ (.int .i64 0)).cell? ⟨X, 3, none⟩ = some (.int .i64 u.t) := (World.cell?_setCell_other _ _ _ _ (by simp)).trans d3
        have k4 : (w8.setCell ⟨X, 0, none⟩ (.int .i64 0)).cell? ⟨X, 4, none⟩ = some (.int .i64 u.d) := (World.cell?_setCell_other _ _ _ _ (by simp)).trans d4
        go_upto_region 34 with fail
        clear d0 d1 d2 d3 d4 df
        generalize w8.setCell ⟨X, 0, none⟩ (.int .i64 0) = w9 at HB4 f0 f1 f2 f3 f4 k0 k1 k2 k3 k4 ⊢
        go_wp2_with fail
        go_quiet (fail)
        go_wp2
        go_roundg (gk - 1)
        case measure => have := HJ.out; omega
        case rel => exact ⟨j + 1, by have := HJ.out; omega, by go_num, by rw [HK.out]; go_num, below_drewN HB4.out _⟩
      · have hg1 : ((i : Int) == (g : Int)) = false := by simp; omega
        have hg2 : (i == g) = false := by simp [hig]
        have HK := Lib.hid (show cntG us g (j + 1) = cntG us g j from by rw [HSU.out, if_neg (by rw [HUI.out.1]; omega)]; rfl)
        clear hu
        go_wp2
        go_roundg (gk - 1)
        case measure => have := HJ.out; omega
        case rel => exact ⟨j + 1, by have := HJ.out; omega, by go_num, by rw [HK.out], HB3.out⟩
    · obtain rfl : n = j := by have := HJ.out; omega
      have hkM : cntG us g n = M := by rw [← HUS.out.2.1, cntG_all, HA.out.2]
      rw [hkM]
      clear hkM hkj hlt
      go_wp2
      first | exact FIN.out _ HB.out | (go_ret; first | exact FIN.out _ HB.out | (have := FIN.out _ HB.out; simpa using this))
end Go.Proofs.YtaplangfppohdaaDoor
namespace Go.Proofs.YtaplangfppohdaaDoor
open Go.RowKit Go.Shelf Go.Maps
attribute [local go_sem] Oper.semAt_some

theorem uok_all {gs : List (Int × Int)} {p : Nat} {o : List Rn} (hg : GOK gs) (hG : gs.length ≤ 256) (ho : OOk gs.length o) (h1 : 1 ≤ p) (h2 : p ≤ 1000) : UOk gs (usesL gs (rulesG gs.length p) o) := by
  refine ⟨fun u hu => ?_, fun u hu => up_use hg ho h1 hu⟩
  obtain ⟨i, c, a1, a2, a3, a4, a5, _, a6, a7, a8, a9⟩ := use_facts ho h1 hu
  omega
theorem lt_keys {a b : Us} (h : LtU a b) : ¬ (a.r = b.r ∧ a.c = b.c ∧ a.p = b.p) := by unfold LtU at h; omega
/-- The map behind j uses. -/
def TellsJ (us : List Us) (j : Nat) (F : Lit → Option Value) : Prop := ∀ q, q < j → ∀ u, us[q]? = some u → F (kA3 u.r u.c u.p) = some (.int .i64 u.t)
theorem tells_step {gs : List (Int × Int)} {us : List Us} {j : Nat} {F : Lit → Option Value} {u : Us} (hs : us.Pairwise LtU) (ho : UOk gs us) (h : TellsJ us j F) (hu : us[j]? = some u) : TellsJ us (j + 1) (updF F (kA3 u.r u.c u.p) (some (.int .i64 u.t))) := by
  intro q hq v hv
  rcases Nat.lt_or_ge q j with hlt | hge
  · rw [updF_ne]
    · exact h q hlt v hv
    · intro e
      have hvm := List.mem_of_getElem? hv
      have hum := List.mem_of_getElem? hu
      have b1 := ho.in64 v hvm
      have b2 := ho.in64 u hum
      have e2 := kA3_inj (by unfold I64; omega) (by unfold I64; omega) (by unfold I64; omega) (by unfold I64; omega) (by unfold I64; omega) (by unfold I64; omega) e
      obtain ⟨hql, hqv⟩ := List.getElem?_eq_some_iff.1 hv
      obtain ⟨hjl, hju⟩ := List.getElem?_eq_some_iff.1 hu
      have := List.pairwise_iff_getElem.1 hs q j hql hjl hlt
      rw [hqv, hju] at this
      exact lt_keys this e2
  · obtain rfl : q = j := by omega
    rw [hu] at hv
    cases hv
    exact updF_same
set_option maxRecDepth 100000 in
set_option maxHeartbeats 3200000 in
theorem groups_walk (w : World) (vn vl : Value) (ns : List Nat) (sq : List Sq) (which period : Nat) (hU : UsesAt w) (hn : U16 w vn ns) (hs : SqArg w vl sq) (h1 : which < 256) (h2 : period < 65536) :
    Calls Tryd.prog 5 #[vn, vl, .int .u8 (which : Nat), .int .u16 (period : Nat)] w fun e w' => e = .returned (.bool true) ∧ Below w.heap.size w w' := by
  have HAW := Lib.hid (awake_ok w hU)
  have HU := Lib.hid hU
  have HN := Lib.hid hn
  have HS := Lib.hid hs
  clear hU hn hs
  obtain ⟨p, hp⟩ : ∃ p, p = 1 + period % 1000 := ⟨_, rfl⟩
  have HPI := Lib.hid (show 1 + (period : Int) % 1000 = (p : Int) from by omega)
  have hp2 : 1 ≤ p ∧ p ≤ 1000 := by omega
  have HP := Lib.hid hp2
  clear hp
  go_enter Tryd.func5, Tryd.ntmps5
  go_wp2_with fail
  refine HAW.out.mono ?_
  rintro e w1 ⟨rfl, hb1⟩
  have HB1 := Lib.hid hb1
  clear HAW
  go_wp2_with fail
  refine (made28_ok w1 vn vl ns sq (HN.out.below hb1).1 HN.out.2.1 HN.out.2.2 (HS.out.below hb1)).mono ?_
  rintro e w2 ⟨vg, vh, ve, rfl, og, oh, oe, b2⟩
  have hgok := made_ok (l := ns.take 8) (fun n hn => HN.out.2.1 n (List.mem_of_mem_take hn))
  generalize madG (ns.take 8) = gs at hgok og oh oe
  have HG := Lib.hid hgok.1
  have hG : gs.length ≤ 256 := by have := hgok.2; omega
  have hG9 : gs.length ≤ 9 := by have := hgok.2; simp at this; omega
  have HGL := Lib.hid (And.intro hgok.1.pos hG9)
  have HACC := Lib.hid (acc_all (l := sq.take 60) (p := p) hgok.1 hp2.1 hp2.2 hG (by simp; omega))
  have HHI := Lib.hid (homesG_i64 hG)
  have HEO := Lib.hid (show ∀ e ∈ madE gs.length (sq.take 60), EvOk e from by
    obtain ⟨_, _, _, _, _, h⟩ := madE_look (l := sq.take 60) hgok.1.pos hG (by simp; omega)
    exact h)
  have HEL := Lib.hid (show (madE gs.length (sq.take 60)).length ≤ 1000000 from by rw [madE_len]; simp; omega)
  have F : Facts w2 [sOV encG 2 53 w1.heap.size vg gs, sOV encG 2 61 w1.heap.size vh (homesG gs.length), sOV encE 11 59 w1.heap.size ve (madE gs.length (sq.take 60)), sB w] := ⟨og, oh, oe, HB1.out.trans (b2.mono HB1.out.size), trivial⟩
  obtain ⟨Ag, cg, hvg⟩ := (og.ev encG_len).shape
  obtain ⟨G, hGe⟩ : ∃ G, gs.length = G := ⟨_, rfl⟩
  have HGE := Lib.hid hGe
  rw [hGe] at hvg
  subst hvg
  have hGb : 0 < G ∧ G ≤ 9 := by have := HGL.out; omega
  have HGB := Lib.hid hGb
  rw [hGe] at F HACC HHI HEO HEL
  generalize madE G (sq.take 60) = E at F HACC HEO HEL
  clear hb1 og oh oe b2 hgok hG hG9 HN HS HB1 hGe HGL
  go_upto_region 5 with fail
  rw [HPI.out]
  clear hp2
  go_wp2
  go_loopg [13, 40] G (fun k v i wr => ∃ j : Nat, j + k = G ∧ i = .int .i64 j ∧ OV encRu 3 44 w2.heap.size wr v (rulesG j p) ∧ Below w2.heap.size w2 wr)
  case atStart => exact ⟨0, by omega, rfl, OV.nil _ _, Below.refl _ _⟩
  case round =>
    obtain ⟨j, hj, rfl, ho, hb⟩ := hrel
    have HJ := Lib.hid hj
    have HO := Lib.hid ho
    have HB := Lib.hid hb
    clear hj ho hb
    by_cases hlt : j < G
    · go_wp2_with (at_builtin; refine wpList_app elemRu encRu_len encRu_one rfl _ _ rfl _ _ rfl rfl (HO.out.alloc _) (new_ruM (r := ⟨(j : Int), (p : Int), (p : Int)⟩) (by simp)) ?q1 ?q2 ?_)
      case q1 => rw [rulesG_len]; simp; omega
      case q2 => have := HB.out.size; simp; omega
      intro v' w3 ho3 hg3
      have HO3 := Lib.hid ho3
      have HB3 := Lib.hid ((HB.out.alloc HB.out.size (.cells #[.int .i64 (j : Int), .int .i64 (p : Int), .int .i64 (p : Int)] 44)).grown hg3 (by have := HB.out.size; simp; omega) (fun k hk => (HO.out.block k hk).1))
      clear ho3 hg3
      go_wp2
      go_roundg (gk - 1)
      case measure => have := HJ.out; omega
      case rel => exact ⟨j + 1, by have := HJ.out; omega, by go_num, by rw [rulesG_succ]; exact HO3.out, HB3.out⟩
    · obtain rfl : G = j := by have := HJ.out; omega
      clear HJ hlt
      replace F : Facts wr (sOV encRu 3 44 w2.heap.size u13 (rulesG G p) :: _) := ⟨HO.out, F.below HB.out⟩
      clear HO HB
      obtain ⟨o, hlk, _, a3, a4, ⟨hae, hal⟩, hone⟩ := HACC.out
      have HLK := Lib.hid hlk
      clear hlk
      have HOO := Lib.hid (show OOk G o from ⟨fun t ht => (a3 t ht).2, a4⟩)
      have HONE := Lib.hid hone
      have HRU := Lib.hid (rulesG_ok (G := G) HP.out.1 HP.out.2)
      have hbw : Below w.heap.size w wr := F.get 4
      have HCA := Lib.hid (account_ok wr (.slice Ag G cg) u13 vh ve gs (rulesG G p) (homesG G) E (OV.ev (F.get 1) encG_len) (OV.ev (F.get 0) encRu_len) (OV.ev (F.get 2) encG_len) (OV.ev (F.get 3) encE_len) (HU.out.below hbw) (by rw [HGE.out]; omega) (by rw [rulesG_len]; omega) (by rw [homesG_len]; omega) HEL.out HEO.out HHI.out)
      rw [hae, hal] at HCA
      have HUO := Lib.hid (show UOk gs (usesL gs (rulesG G p) o) from by
        have h := uok_all HG.out (by rw [HGE.out]; have := HGB.out.2; omega) (by rw [HGE.out]; exact HOO.out) HP.out.1 HP.out.2
        rwa [HGE.out] at h)
      have HSO := Lib.hid (show (usesL gs (rulesG G p) o).Pairwise LtU from uses_sorted (n := G) (fun i hi => by
        rw [rulesG_len] at hi
        rw [ruAt_rulesG hi]
        exact HRU.out _ (List.mem_of_getElem? (rulesG_at hi))) HOO.out.each HOO.out.apart)
      have HAL := Lib.hid (fun g (h : g < G) => alone_eq (gs := gs) (G := G) (p := p) (o := o) h)
      have HUL := Lib.hid (show (usesL gs (rulesG G p) o).length ≤ 1000000000 from by
        rw [← hal]
        have hbound := uses_len (gs := gs) (rs := rulesG G p) (o := o)
        have hall : allN gs (rulesG G p) o ≤ 65536 := by
          unfold accE at hae
          split at hae
          · rename_i h; exact absurd hae h
          · rename_i ho1
            split at hae
            · cases hae
            · rename_i o' ho'
              rw [HGE.out] at ho'
              have : o' = o := by rw [HLK.out] at ho'; exact (Option.some.inj ho').symm
              subst this
              split at hae
              · cases hae
              · omega
        rw [rulesG_len] at hbound
        rw [hal]
        have : G * (64 * allN gs (rulesG G p) o) ≤ 226 * (64 * 65536) := Nat.mul_le_mul (by omega) (Nat.mul_le_mul_left _ hall)
        omega)
      clear hae hal hone a3 a4 HACC
      generalize usesL gs (rulesG G p) o = us at HCA HUO HSO HAL HUL
      go_wp2_with fail
      refine HCA.out.mono ?_
      rintro e w3 ⟨vu, rfl, o3, b3⟩
      replace F : Facts w3 (sOV encUs 5 50 wr.heap.size vu us :: _) := ⟨o3, F.below b3⟩
      clear o3 b3 HCA hbw
      obtain ⟨Au, cu, hvu⟩ := (OV.ev (F.get 0 : OV encUs 5 50 _ w3 vu us) encUs_len).shape
      obtain ⟨n, hn⟩ : ∃ n, us.length = n := ⟨_, rfl⟩
      rw [hn] at hvu
      subst hvu
      have HNU := Lib.hid hn
      have HEU := Lib.hid (OV.ev (F.get 0 : OV encUs 5 50 _ w3 _ us) encUs_len)
      have hn9 := HUL.out
      rw [hn] at hn9
      clear hn
      have hmm := @run_makeMap Tryd.prog
      go_upto_region 15 with fail
      clear hmm
      obtain ⟨mb, hmb⟩ : ∃ mb, mb = w3.heap.size := ⟨_, rfl⟩
      have HM0 := Lib.hid (show MpV Tryd.prog 51 (w3.alloc (.map #[] 0)) mb 0 (fun _ => none) from by rw [hmb]; exact MpV.made _ _ _)
      have HB30 := Lib.hid (bel_alloc w3 (.map #[] 0))
      have HMB := Lib.hid (show w3.heap.size ≤ mb from by omega)
      rw [← hmb]
      clear hmb
      generalize w3.alloc (.map #[] 0) = w4 at HM0 HB30 ⊢
      go_wp2
      go_loopg [64] n (fun k i wq => ∃ (j : Nat) (F : Lit → Option Value), j + k = n ∧ i = .int .i64 j ∧ MpV Tryd.prog 51 wq mb j F ∧ TellsJ us j F ∧ Below w3.heap.size w3 wq)
      case atStart => exact ⟨0, _, by omega, rfl, HM0.out, fun q hq => by omega, HB30.out⟩
      case round =>
        obtain ⟨j, FF, hj, rfl, hm, ht, hb⟩ := hrel
        have HJ := Lib.hid hj
        have HM := Lib.hid hm
        have HT := Lib.hid ht
        have HB := Lib.hid hb
        clear hj hm ht hb
        by_cases hlt : j < n
        · obtain ⟨u, hu⟩ : ∃ u, us[j]? = some u := ⟨_, List.getElem?_eq_getElem (by rw [HNU.out]; exact hlt)⟩
          obtain ⟨⟨a1, a2⟩, ⟨a3, a4⟩, ⟨a5, a6⟩, ⟨a7, a8⟩, a9⟩ := HUO.out.in64 u (List.mem_of_getElem? hu)
          obtain ⟨b, off, c', hs, hc, hr⟩ := (HEU.out.below HB.out).row (by rw [HNU.out]; omega)
          rw [HNU.out] at hs hc
          simp only [Value.slice.injEq, true_and] at hs
          obtain ⟨rfl, rfl⟩ := hs
          obtain ⟨c0, c1, c2, c3, c4⟩ := hr.us hu
          have HTS := Lib.hid (tells_step HSO.out HUO.out HT.out hu)
          have KEY := Lib.hid (keyK3 (a := u.r) (b := u.c) (c := u.p) (by unfold I64; omega) (by unfold I64; omega) (by unfold I64; omega))
          rw [a9] at c4
          have HMA := Lib.hid (HM.out.below (bel_alloc wr (.cells #[.int .i64 u.r, .int .i64 u.c, .int .i64 u.p, .int .i64 u.t, .int .i64 0] 50)))
          have HBA := Lib.hid (HB.out.trans ((bel_alloc wr (.cells #[.int .i64 u.r, .int .i64 u.c, .int .i64 u.p, .int .i64 u.t, .int .i64 0] 50)).mono HB.out.size))
          clear hr hu hc a1 a2 a3 a4 a5 a6 a7 a8 a9
          go_wp2_with (at_mapUpdate; refine wpList_putV (k := 51) (e := 3) rfl _ _ _ (by rfl) lawK3 Tryd.underlying48 (by rfl) HMA.out (by unfold maxLen; omega) _ _ _ (by rfl) (by rfl) KEY.out ?_)
          intro w5 hm5 hg5
          have HM5 := Lib.hid hm5
          have HB5 := Lib.hid (HBA.out.grown hg5 HBA.out.size (fun k hk => by cases hk; exact HMB.out))
          clear hm5 hg5 c0 c1 c2 c3 c4
          go_wp2
          go_roundg (gk - 1)
          case measure => have := HJ.out; omega
          case rel => exact ⟨j + 1, _, by have := HJ.out; omega, by go_num, HM5.out, HTS.out, HB5.out⟩
        · obtain rfl : n = j := by have := HJ.out; omega
          have HTE := Lib.hid (show Tells us FF from fun u hu => by
            obtain ⟨q, hq⟩ := List.getElem?_of_mem hu
            exact HT.out q (by rw [← HNU.out]; exact (List.getElem?_eq_some_iff.1 hq).1) u hq)
          replace F := F.below HB.out
          have HMF := Lib.hid HM.out
          have HEU2 := Lib.hid (HEU.out.below HB.out)
          obtain ⟨br, cr, hvr, hcr, _⟩ := (F.get 1 : OV encRu 3 44 _ wr u13 (rulesG G p)).row_form encRu_len (n := G) (rulesG_len G p) hGb.1
          subst hvr
          obtain ⟨g, hg⟩ : ∃ g, which % G = g := ⟨_, rfl⟩
          have hgi : (which : Int) % (G : Int) = (g : Int) := by rw [← hg]; simp
          have hgl : g < G := by rw [← hg]; exact Nat.mod_lt _ hGb.1
          have hG0 : ((G : Int) == 0) = false := by simp; omega
          have HEO1 := Lib.hid (HONE.out g hgl)
          have hrr := OV.ev (F.get 1 : OV encRu 3 44 _ wr _ (rulesG G p)) encRu_len
          have hrt := EV.row_drop (j := g) (EV.row_take (j := g + 1) hrr (by rw [rulesG_len]; omega) (by rw [rulesG_len])) (by rw [List.length_take, rulesG_len]; omega) (by rw [List.length_take, rulesG_len]; omega)
          rw [show ((rulesG G p).take (g + 1)).drop g = [⟨(g : Int), (p : Int), (p : Int)⟩] from by
            rw [List.take_add_one, rulesG_at hgl, List.drop_append_of_le_length (by rw [List.length_take, rulesG_len]; omega), List.drop_of_length_le (by rw [List.length_take, rulesG_len]; omega)]; rfl] at hrt
          have hsub : g + 1 - g = 1 := by omega
          rw [hsub, Nat.zero_add] at hrt
          have hbw : Below w.heap.size w wr := F.get 5
          have HCA := Lib.hid (account_ok wr (.slice Ag G cg) (.slice (some ⟨br, g * 3, none⟩) 1 (cr - g)) vh ve gs [⟨(g : Int), (p : Int), (p : Int)⟩] (homesG G) E (OV.ev (F.get 2) encG_len) hrt (OV.ev (F.get 3) encG_len) (OV.ev (F.get 4) encE_len) (HU.out.below hbw) (by rw [HGE.out]; omega) (by simp) (by rw [homesG_len]; omega) HEL.out HEO.out HHI.out)
          rw [HEO1.out.1, HEO1.out.2, HAL.out g hgl] at HCA
          have HGG := Lib.hid hgl
          clear hrr hrt hg HEO1 HM HB HJ hlt HT
          go_upto_region 23 with fail
          rw [hgi]
          clear hgi hG0
          go_wp2_with fail
          refine HCA.out.mono ?_
          rintro e w9 ⟨va, rfl, o9, b9⟩
          obtain ⟨M, hM⟩ : ∃ M, ((us.filter fun u => decide (u.r = (g : Int))).map fun u => ({ u with r := 0 } : Us)).length = M := ⟨_, rfl⟩
          obtain ⟨Aa, ca, hva⟩ := (o9.ev encUs_len).shape
          rw [hM] at hva
          subst hva
          have HT1 := Lib.hid (show EV encG 2 w9 (.slice Ag G cg) gs ∧ gs.length = G ∧ 0 < G ∧ G ≤ 256 from ⟨(OV.ev (F.get 2 : OV encG 2 53 _ wr _ gs) encG_len).below b9, HGE.out, hGb.1, by omega⟩)
          have HT2 := Lib.hid (show EV encUs 5 w9 (.slice Au n cu) us ∧ us.length = n ∧ n ≤ 1000000000 from ⟨HEU2.out.below b9, HNU.out, hn9⟩)
          have HT3 := Lib.hid (show EV encUs 5 w9 (.slice Aa M ca) ((us.filter fun u => decide (u.r = (g : Int))).map fun u => { u with r := 0 }) ∧ ((us.filter fun u => decide (u.r = (g : Int))).map fun u => ({ u with r := 0 } : Us)).length = M from ⟨o9.ev encUs_len, hM⟩)
          have HT4 := Lib.hid (HMF.out.below b9)
          have HT5 := Lib.hid (hbw.trans (b9.mono hbw.size))
          clear o9 b9 hM HCA hsub hbw F HMF HEU2 HEU
          go_upto_if 100 with fail
          go_cut [] (fun wx => wx = w9)
          case first =>
            go_wp2
            go_meet
            rfl
          case rest =>
            subst hcut
            refine (‹∀ (a : Act) (w : World), Code.wp _ _ _ a w → _› : ∀ (a : Act) (w : World), _ → _) _ _ (gr_tail _ G n M g mb _ cg cu ca Ag Au Aa gs us FF (fun (e : Ending) (w' : World) => e = .returned (.bool true) ∧ Below w.heap.size w w') HT1 HT2 HUO HT3 HT4 HTE (by omega) (Lib.hid fun w' hb => ⟨rfl, HT5.out.trans (hb.mono HT5.out.size)⟩))
end Go.Proofs.YtaplangfppohdaaDoor
