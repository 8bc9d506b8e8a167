/- quantumlaw12.rows: the loop over the lists. -/
import Derived.Test.YtalophngappkhaaGreatDoorNje
import Derived.Test.YtalophngappkhaaGreatDoorNre
import Derived.Test.YtalophngappkhaaGreatDoorZ22
import Derived.Test.YtalophngappkhaaGreatDoorZ8
set_option linter.unusedVariables false
set_option linter.unusedSimpArgs false
set_option linter.unusedSectionVars false
namespace Go.Proofs.YtalophngappkhaaGreatDoor
open Go Go.RowKit Go.Shelf
attribute [local go_sem] Oper.semAt_some

/-- Lists of events in a slice. -/
structure LsE (W : World) (v : Value) (L : List (Sl3 × List Ev)) : Prop where
  ev : EV encSe 1 W v L
  rows : ∀ x ∈ L, EV encE 11 W (slV x.1) x.2
theorem LsE.below {W W' : World} {v : Value} {L : List (Sl3 × List Ev)} (h : LsE W v L) (hb : Below W.heap.size W W') : LsE W' v L := ⟨h.ev.below hb, fun x hx => (h.rows x hx).below hb⟩
/-- What the loop over the lists knows. -/
structure RwF (w1 : World) (v o3 o4 : Value) (L own refs : List (Sl3 × List Ev)) : Prop where
  li : LsE w1 v L
  ow : LsE w1 o3 own
  rf : LsE w1 o4 refs
  e1 : own.map Prod.snd = L.map Prod.snd
  e2 : refs.map Prod.snd = L.map Prod.snd
  ok : ∀ x ∈ L, (∀ e ∈ x.2, EvOk e) ∧ x.2.length ≤ 30
  len : L.length ≤ 8
  laid : LaidAt w1
theorem RwF.get {w1 : World} {v o3 o4 : Value} {L own refs : List (Sl3 × List Ev)} (h : RwF w1 v o3 o4 L own refs) {j : Nat} (hj : j < L.length) : ∃ a b c xs, L[j]? = some (a, xs) ∧ own[j]? = some (b, xs) ∧ refs[j]? = some (c, xs) := by
  obtain ⟨⟨a, xs⟩, ha⟩ : ∃ x, L[j]? = some x := ⟨_, List.getElem?_eq_getElem hj⟩
  have h1 : (own.map Prod.snd)[j]? = some xs := by rw [h.e1, List.getElem?_map, ha]; rfl
  have h2 : (refs.map Prod.snd)[j]? = some xs := by rw [h.e2, List.getElem?_map, ha]; rfl
  rw [List.getElem?_map] at h1 h2
  obtain ⟨⟨b, ys⟩, hb, e1⟩ := Option.map_eq_some_iff.1 h1
  obtain ⟨⟨c, zs⟩, hc, e2⟩ := Option.map_eq_some_iff.1 h2
  dsimp only at e1 e2
  subst e1 e2
  exact ⟨a, b, c, _, ha, hb, hc⟩
set_option maxRecDepth 100000 in
set_option maxHeartbeats 6400000 in
theorem rows_t12 (w w1 wc : World) (Al A3 A4 Aa : Option Addr) (cl c3 c4 na ca n : Nat) (L own refs : List (Sl3 × List Ev)) {u1 u2 u5 u6 u8 u9 u10 u11 u12 u13 u14 u15 u16 u17 u18 u19 u20 u21 u22 u23 u24 u25 u26 u27 u28 u29 u30 u31 u32 u33 u34 u35 u36 u37 u38 u39 u40 u41 u42 u43 u44 u45 u46 u47 u48 u49 u50 u51 u52 u53 u54 u55 u56 u57 u58 u59 u60 u61 u62 u63 u64 u65 u66 u67 u68 u69 u70 u71 u72 u73 u74 u75 u76 u77 u78 u79 u80 u81 u82 u83 u84 u85 u86 u87 u88 u89 u90 u91 u92 u93 u94 u95 u96 u97 u98 u99 u100 u101 u102 u103 u104 u105 u106 u107 u108 u109 u110 u111 u112 u113 u114 u115 u116 u117 u118 u119 u120 u121 u122 u123 u124 u125 u126 u127 u128 u129 u130 u131 u132 u133 u134 u135 u136 u137 u138 u139 u140 u141 u142 u143 u144 u145 u146 u147 u148 u149 u150 : Value} (hn : L.length = n) (h : RwF w1 (.slice Al n cl) (.slice A3 n c3) (.slice A4 n c4) L own refs) (hb : Below w.heap.size w w1) (hc : Below w1.heap.size w1 wc)
    (hw : Wrt 11 wc (.slice Aa na ca) na) (hwb : ∀ g, (Value.slice Aa na ca).ownBlock = some g → w1.heap.size ≤ g) (hna : na ≤ 100000) :
    Code.wp Tryz.prog (tailR Tryz.f17 12) (bodyPost Tryz.prog Tryz.f17 fun r w' => r = .returned (.bool true) ∧ Below w.heap.size w w')
      ⟨#[.slice Al n cl, u1, u2, .slice A3 n c3, .slice A4 n c4, u5, u6, .slice Aa na ca, u8, u9, u10, u11, u12, u13, u14, u15, u16, u17, u18, u19, u20, u21, u22, u23, u24, u25, u26, u27, u28, u29, u30, u31, u32, u33, u34, u35, u36, u37, u38, u39, u40, u41, u42, u43, u44, u45, u46, u47, u48, u49, u50, u51, u52, u53, u54, u55, u56, u57, u58, u59, u60, u61, u62, u63, u64, u65, u66, u67, u68, u69, u70, u71, u72, u73, u74, u75, u76, u77, u78, u79, u80, u81, u82, u83, u84, u85, u86, u87, u88, u89, u90, u91, u92, u93, u94, u95, u96, u97, u98, u99, u100, u101, u102, u103, u104, u105, u106, u107, u108, u109, u110, u111, u112, u113, u114, u115, u116, u117, u118, u119, u120, u121, u122, u123, u124, u125, u126, u127, u128, u129, u130, u131, u132, u133, u134, u135, u136, u137, u138, u139, u140, u141, u142, u143, u144, u145, u146, u147, u148, u149, u150], []⟩ wc := by
  conv => arg 2; whnf
  conv => arg 4; dsimp only
  have HH := Lib.hid h
  have HN := Lib.hid hn
  have HB := Lib.hid hb
  have HC := Lib.hid hc
  have HW := Lib.hid hw
  have HWB := Lib.hid hwb
  have HNA := Lib.hid hna
  have hn8 : n ≤ 8 := by have := h.len; omega
  clear h hn hb hc hw hwb hna
  go_wp2
  go_loopg [69] n (fun k i wr => ∃ j : Nat, j + k = n ∧ i = .int .i64 j ∧ Wrt 11 wr (.slice Aa na ca) na ∧ Below w1.heap.size w1 wr)
  case atStart => exact ⟨0, by omega, rfl, HW.out, HC.out⟩
  clear HW HC
  case round =>
    obtain ⟨j, hj, rfl, hw, hb⟩ := hrel
    have HJ := Lib.hid hj
    have HW := Lib.hid hw
    have HC := Lib.hid hb
    clear hj hw hb
    obtain ⟨ws, hws⟩ : ∃ ws, ws = wr := ⟨_, rfl⟩
    subst hws
    by_cases hlt : j < n
    · obtain ⟨a, b, c, xs, ha, hbo, hcr⟩ := HH.out.get (j := j) (by rw [HN.out]; exact hlt)
      obtain ⟨bl, ol, c', hsl, _, hr⟩ := (HH.out.li.ev.below HC.out).row (by rw [HN.out]; omega)
      rw [HN.out] at hsl
      cases hsl
      have lo : own.length = n := by have := congrArg List.length HH.out.e1; simpa [HN.out] using this
      have lr : refs.length = n := by have := congrArg List.length HH.out.e2; simpa [HN.out] using this
      obtain ⟨b3, o3, c3', hs3, _, hr3⟩ := (HH.out.ow.ev.below HC.out).row (by rw [lo]; omega)
      rw [lo] at hs3
      cases hs3
      obtain ⟨b4, o4, c4', hs4, _, hr4⟩ := (HH.out.rf.ev.below HC.out).row (by rw [lr]; omega)
      rw [lr] at hs4
      cases hs4
      have g0 := hr.se ha
      have g3 := hr3.se hbo
      have G31 := Lib.hid (((HH.out.ow.ev.row3 (by rw [lo]; omega)).se hbo))
      have EV1 := Lib.hid (And.intro (HH.out.li.rows _ (List.mem_of_getElem? ha)) (HH.out.ow.rows _ (List.mem_of_getElem? hbo)))
      have g4 := hr4.se hcr
      have EVS := Lib.hid (And.intro ((HH.out.li.rows _ (List.mem_of_getElem? ha)).below HC.out) (And.intro ((HH.out.ow.rows _ (List.mem_of_getElem? hbo)).below HC.out) ((HH.out.rf.rows _ (List.mem_of_getElem? hcr)).below HC.out)))
      have HOK := Lib.hid (HH.out.ok _ (List.mem_of_getElem? ha))
      have G4 := Lib.hid g4
      have G3 := Lib.hid g3
      obtain ⟨Ab, nb, cb⟩ := b
      obtain ⟨Aw, nw, cw⟩ := a
      obtain ⟨Ac, nc, cc⟩ := c
      dsimp only at g0 g3 g4 EVS HOK G3 G4 G31 EV1
      unfold slV at EVS EV1
      dsimp only at EVS EV1
      clear hr hr3 hr4 ha hbo hcr lo lr
      go_upto_region 15 with fail
      have HSP := Lib.hid (split_ok ws (.slice Ab nb cb) xs EVS.out.2.1 HOK.out.1 (by have := HOK.out.2; omega) (HH.out.laid.below HC.out).uses)
      go_wp2_with fail
      refine HSP.out.mono ?_
      rintro r wA ⟨bA, hres⟩
      have HBA := Lib.hid bA
      have HRES := Lib.hid hres
      have q4 := below_cell bA G4.out
      have HSR := Lib.hid (r12split_ok wA (.slice Ac nc cc) xs (EVS.out.2.2.below bA) HOK.out.1 (by have := HOK.out.2; omega))
      clear hres g0 g3 g4 bA HSP
      by_cases hrm : RowM xs
      · obtain ⟨Z, A, rfl, hZ, hF⟩ : ∃ Z A, r = .returned (.tuple #[.slice (some ⟨Z, 0, none⟩) 64 64, .int .i64 0]) ∧ ws.heap.size ≤ Z ∧ Fam wA Z (Z + 1) A (cpuL xs) := by
          rcases HRES.out with ⟨h, _⟩ | ⟨_, Z, A, h1, h2, h3⟩
          · exact absurd hrm h
          · exact ⟨Z, A, h1, h2, h3⟩
        have HZ := Lib.hid (And.intro hZ hF.zb)
        have HFB := Lib.hid (fun p (hp : p < 64) g (hg : (A.getD p undef).ownBlock = some g) => ((hF.rows p hp).block g hg))
        have HFA := Lib.hid hF
        have HRM := Lib.hid hrm
        clear hZ hF hrm HRES
        go_upto_region 16 with fail
        go_wp2_with fail
        refine HSR.out.mono ?_
        rintro r wB ⟨bB, hres⟩
        obtain ⟨vv, rows, rfl, hov, hsr⟩ : ∃ v' rows, r = .returned (.tuple #[v', .int .i64 0]) ∧ OV encSe 1 85 wA.heap.size wB v' rows ∧ SplR wA.heap.size wB rows 64 xs := by
          rcases hres with ⟨h, _⟩ | ⟨_, v', rows, h1, h2, h3⟩
          · exact absurd HRM.out h
          · exact ⟨v', rows, h1, h2, h3⟩
        obtain ⟨vb, vc, hvv, _, _⟩ := hov.form (by rw [hsr.1]; omega)
        rw [hsr.1] at hvv
        subst hvv
        have HOV := Lib.hid hov
        have HSP := Lib.hid hsr
        have HF := Lib.hid (HFA.out.below bB)
        have HBB := Lib.hid (bstep HBA.out bB)
        have HABS := Lib.hid bB.size
        clear hres bB HSR HFA hov hsr q4
        go_upto_block 4 with fail
        go_cut [] (fun wz => ∃ wq, wq = wz ∧ Wrt 11 wq (.slice Aa na ca) na ∧ Below ws.heap.size ws wq)
        case first =>
          obtain ⟨T, hT⟩ : ∃ T : Nat → Prop, T = fun k => ∃ p, p < 64 ∧ (A.getD p undef).ownBlock = some k := ⟨_, rfl⟩
          have HTD := Lib.hid hT
          have HTB := Lib.hid (show ∀ k, T k → Z + 1 ≤ k ∧ k < wA.heap.size from fun k hk => by rw [hT] at hk; obtain ⟨p, hp, hg⟩ := hk; exact HFB.out p hp k hg)
          clear hT
          go_wp2
          go_loopg [102] 64 (fun k i wz => ∃ q : Nat, q + k = 64 ∧ i = .int .i64 q ∧ (∀ p, q ≤ p → p < 64 → OV encE 11 28 (Z + 1) wz (A.getD p undef) (cpuL xs p)) ∧ Mod T wB wz)
          case atStart => exact ⟨0, by omega, rfl, fun p _ hp => HF.out.rows p hp, Mod.refl _ _⟩
          case round =>
            obtain ⟨q, hq, rfl, hrw, hm⟩ := hrel
            obtain ⟨wz, hwz⟩ : ∃ wz, wz = wr := ⟨_, rfl⟩
            subst hwz
            have HQ := Lib.hid hq
            have HRW := Lib.hid hrw
            have HM := Lib.hid hm
            clear hq hrw hm
            by_cases hlt2 : q < 64
            · have d1 : decide ((q : Int) < 64) = true := by simp; omega
              have d2 : decide (q < 64) = true := by simp; omega
              have hzc := HM.out.cell (HF.out.at hlt2) (fun h => by have := HTB.out Z h; omega)
              obtain ⟨Aq, cq, hAq⟩ := ((HRW.out q (Nat.le_refl _) hlt2).ev encE_len).shape
              obtain ⟨mq, hmq⟩ : ∃ m, (cpuL xs q).length = m := ⟨_, rfl⟩
              rw [hmq] at hAq
              rw [hAq] at hzc
              obtain ⟨⟨⟨Ar, mr, cr⟩, ys⟩, hy⟩ : ∃ y, rows[q]? = some y := ⟨_, List.getElem?_eq_getElem (by rw [HSP.out.1]; exact hlt2)⟩
              obtain ⟨hys, hyo⟩ := HSP.out.2 q _ hy
              dsimp only at hys hyo
              subst hys
              unfold slV at hyo
              dsimp only at hyo
              have hvc := (((HOV.out.mod HM.out (fun g hg t => by have h1 := (HOV.out.block g hg).1; have h2 := HTB.out g t; omega)).ev encSe_len).row3 (by rw [HSP.out.1]; omega)).se hy
              dsimp only at hvc
              simp only [Nat.zero_add] at hvc
              have HYE := Lib.hid ((hyo.mod HM.out (fun g hg t => by have h1 := (hyo.block g hg).1; have h2 := HTB.out g t; omega)).ev encE_len)
              have HAQ := Lib.hid hAq
              have HMQ := Lib.hid hmq
              have HPO := Lib.hid (HRW.out q (Nat.le_refl _) hlt2)
              rw [hAq] at HPO
              have HAE := Lib.hid (HPO.out.ev encE_len)
              have HCL := Lib.hid (show (cpuL xs q).length ≤ 1000000 from Nat.le_trans (cpuL_len _ _) (by have := HOK.out.2; omega))
              have HZC := Lib.hid hzc
              have HVC := Lib.hid hvc
              have q0 : (0 : Int) ≤ (q : Int) := by omega
              have q1 : (q : Int) < 64 := by omega
              clear hAq hmq hy hyo hzc hvc
              go_upto_region 22 with fail
              refine wp_region_dagG (by kernel_rfl) 11 rfl (fun i => i == 4 || i == 9) (fun i => !(false)) ?hMw (fun x => ⟨#[Value.slice (some { block := bl, off := ol }) n cl, u1, u2, Value.slice (some { block := b3, off := o3 }) n c3, Value.slice (some { block := b4, off := o4 }) n c4, u5, u6, Value.slice Aa na ca, u8, u9, u10, u11, u12, Value.int IntKind.i64 ↑j, Value.slice Aw nw cw, Value.slice (some { block := Z, off := 0 }) 64 64, Value.int IntKind.i64 0, Value.slice (some { block := vb, off := 0 }) 64 vc, Value.int IntKind.i64 0, Value.int IntKind.i64 ↑q, u20, u21, u22, u23, u24, u25, u26, u27, u28, u29, u30, u31, u32, u33, u34, u35, u36, u37, u38, u39, u40, u41, u42, u43, u44, u45, u46, u47, u48, u49, u50, u51, u52, u53, u54, u55, u56, u57, u58, u59, u60, u61, u62, u63, u64, u65, u66, Value.slice (some { block := bl, off := ol }) n cl, Value.int IntKind.i64 ↑n, Value.int IntKind.i64 ↑j, Value.bool true, Value.int IntKind.i64 ↑j, Value.pointer (some { block := bl, off := ol + j }), Value.slice Aw nw cw, Value.tuple #[Value.slice (some { block := Z, off := 0 }) 64 64, Value.int IntKind.i64 0], Value.slice (some { block := b3, off := o3 }) n c3, Value.int IntKind.i64 ↑j, Value.pointer (some { block := b3, off := o3 + j }), Value.slice Ab nb cb, Value.tuple #[Value.slice (some { block := Z, off := 0 }) 64 64, Value.int IntKind.i64 0], Value.slice (some { block := Z, off := 0 }) 64 64, Value.int IntKind.i64 0, Value.tuple #[Value.slice (some { block := vb, off := 0 }) 64 vc, Value.int IntKind.i64 0], Value.slice (some { block := b4, off := o4 }) n c4, Value.int IntKind.i64 ↑j, Value.pointer (some { block := b4, off := o4 + j }), Value.slice Ac nc cc, Value.tuple #[Value.slice (some { block := vb, off := 0 }) 64 vc, Value.int IntKind.i64 0], Value.slice (some { block := vb, off := 0 }) 64 vc, Value.int IntKind.i64 0, Value.slice (some { block := Z, off := 0 }) 64 64, Value.int IntKind.i64 64, Value.slice (some { block := vb, off := 0 }) 64 vc, Value.int IntKind.i64 64, Value.bool false, Value.bool false, Value.int IntKind.i64 0, Value.int IntKind.i64 0, Value.bool false, Value.bool false, Value.slice (some { block := Z, off := 0 }) 64 64, Value.int IntKind.i64 64, Value.int IntKind.i64 ↑q, Value.bool true, Value.int IntKind.i64 ↑q, x 0, x 1, x 2, x 3, x 4, x 5, x 6, x 7, x 8, x 9, x 10, u116, u117, u118, u119, u120, u121, u122, u123, u124, u125, u126, u127, u128, u129, u130, u131, u132, u133, u134, u135, u136, u137, u138, u139, u140, u141, u142, u143, u144, u145, u146, u147, u148, u149, u150], []⟩) (fun iF vF => match iF with | 0 => vF = Value.slice (some { block := Z, off := 0 }) 64 64 | 1 => vF = Value.int IntKind.i64 ↑q | 2 => vF = .pointer (some ⟨Z, q, none⟩) | 3 => vF = .slice Aq mq cq | 5 => vF = Value.slice (some { block := vb, off := 0 }) 64 vc | 6 => vF = Value.int IntKind.i64 ↑q | 7 => vF = .pointer (some ⟨vb, q, none⟩) | 8 => vF = .slice Ar mr cr | 10 => vF = .bool false | _ => True)
                (fun d x W => Below wz.heap.size wz W ∧ (d 4 = true → OV encE 11 96 wz.heap.size W (x 4) (cpuL xs q)) ∧ (d 9 = true → (x 9) = .bool true)) ?hB ?hwant ?hoff (by kernel_rfl) ?hpure ?hmem ?hend (fun i => (#[u105, u106, u107, u108, u109, u110, u111, u112, u113, u114, u115] : Array Value).getD i undef) rfl ?hstart
              case hstart =>
                try dsimp only
                exact ⟨below_drew (Below.refl _ _), fun h => (by cases h), fun h => (by cases h)⟩
              case hB =>
                intro d d' x i v W hi hm h
                have g4 : ¬ 4 = i := by rintro rfl; exact absurd (show true = false from hi) (by simp)
                have e4 : d' 4 = d 4 := hm 4 rfl
                have g9 : ¬ 9 = i := by rintro rfl; exact absurd (show true = false from hi) (by simp)
                have e9 : d' 9 = d 9 := hm 9 rfl
                try dsimp only at h ⊢
                first | rw [upd_ne g4, upd_ne g9, e4, e9] | simp only [upd_ne g4, upd_ne g9, e4, e9]
                exact h
              case hMw =>
                intro i hi
                simp only [Bool.or_eq_true, beq_iff_eq] at hi
                rcases hi with rfl | rfl
                all_goals rfl
              case hwant =>
                intro iF o hi ho x hf
                rcases (show iF = 0 ∨ iF = 1 ∨ iF = 2 ∨ iF = 3 ∨ iF = 4 ∨ iF = 5 ∨ iF = 6 ∨ iF = 7 ∨ iF = 8 ∨ iF = 9 ∨ iF = 10 by omega) with rfl | rfl | rfl | rfl | rfl | rfl | rfl | rfl | rfl | rfl | rfl
                · obtain rfl := Option.some.inj ho
                  rfl
                · obtain rfl := Option.some.inj ho
                  rfl
                · obtain rfl := Option.some.inj ho
                  rfl
                · obtain rfl := Option.some.inj ho
                  rfl
                · obtain rfl := Option.some.inj ho
                  rfl
                · obtain rfl := Option.some.inj ho
                  rfl
                · obtain rfl := Option.some.inj ho
                  rfl
                · obtain rfl := Option.some.inj ho
                  rfl
                · obtain rfl := Option.some.inj ho
                  rfl
                · obtain rfl := Option.some.inj ho
                  rfl
                · obtain rfl := Option.some.inj ho
                  rfl
              case hoff =>
                intro iF o hi hw ho x
                rcases (show iF = 0 ∨ iF = 1 ∨ iF = 2 ∨ iF = 3 ∨ iF = 4 ∨ iF = 5 ∨ iF = 6 ∨ iF = 7 ∨ iF = 8 ∨ iF = 9 ∨ iF = 10 by omega) with rfl | rfl | rfl | rfl | rfl | rfl | rfl | rfl | rfl | rfl | rfl
                · exact absurd (show true = false from hw) (by simp)
                · exact absurd (show true = false from hw) (by simp)
                · exact absurd (show true = false from hw) (by simp)
                · exact absurd (show true = false from hw) (by simp)
                · exact absurd (show true = false from hw) (by simp)
                · exact absurd (show true = false from hw) (by simp)
                · exact absurd (show true = false from hw) (by simp)
                · exact absurd (show true = false from hw) (by simp)
                · exact absurd (show true = false from hw) (by simp)
                · exact absurd (show true = false from hw) (by simp)
                · exact absurd (show true = false from hw) (by simp)
              case hpure =>
                intro iF o hi hnm hww ho d x W hB hd hdn hnd hcl Kq hK
                rcases (show iF = 0 ∨ iF = 1 ∨ iF = 2 ∨ iF = 3 ∨ iF = 4 ∨ iF = 5 ∨ iF = 6 ∨ iF = 7 ∨ iF = 8 ∨ iF = 9 ∨ iF = 10 by omega) with rfl | rfl | rfl | rfl | rfl | rfl | rfl | rfl | rfl | rfl | rfl
                · obtain rfl := Option.some.inj ho
                  clear ho hd hdn hnd hcl hB hnm hi
                  simp only [upd, reduceIte, Nat.reduceEqDiff] at hK
                  try dsimp only
                  go_simp
                  exact hK _ rfl
                · obtain rfl := Option.some.inj ho
                  clear ho hd hdn hnd hcl hB hnm hi
                  simp only [upd, reduceIte, Nat.reduceEqDiff] at hK
                  try dsimp only
                  go_simp
                  exact hK _ rfl
                · obtain rfl := Option.some.inj ho
                  have e0 : x 0 = Value.slice (some { block := Z, off := 0 }) 64 64 := hd 0 (by kernel_rfl) (by kernel_rfl)
                  have e1 : x 1 = Value.int IntKind.i64 ↑q := hd 1 (by kernel_rfl) (by kernel_rfl)
                  clear ho hd hdn hnd hcl hB hnm hi
                  simp only [upd, reduceIte, Nat.reduceEqDiff, e0, e1] at hK
                  try dsimp only
                  go_simp
                  exact hK _ rfl
                · obtain rfl := Option.some.inj ho
                  have e2 : x 2 = .pointer (some ⟨Z, q, none⟩) := hd 2 (by kernel_rfl) (by kernel_rfl)
                  have hb := hB.1
                  have cz := below_cell hb HZC.out
                  clear ho hd hdn hnd hcl hB hnm hi
                  simp only [upd, reduceIte, Nat.reduceEqDiff, e2] at hK
                  try dsimp only
                  go_simp
                  exact hK _ rfl
                · exact absurd (show true = false from hnm) (by simp)
                · obtain rfl := Option.some.inj ho
                  clear ho hd hdn hnd hcl hB hnm hi
                  simp only [upd, reduceIte, Nat.reduceEqDiff] at hK
                  try dsimp only
                  go_simp
                  exact hK _ rfl
                · obtain rfl := Option.some.inj ho
                  clear ho hd hdn hnd hcl hB hnm hi
                  simp only [upd, reduceIte, Nat.reduceEqDiff] at hK
                  try dsimp only
                  go_simp
                  exact hK _ rfl
                · obtain rfl := Option.some.inj ho
                  have e5 : x 5 = Value.slice (some { block := vb, off := 0 }) 64 vc := hd 5 (by kernel_rfl) (by kernel_rfl)
                  have e6 : x 6 = Value.int IntKind.i64 ↑q := hd 6 (by kernel_rfl) (by kernel_rfl)
                  clear ho hd hdn hnd hcl hB hnm hi
                  simp only [upd, reduceIte, Nat.reduceEqDiff, e5, e6] at hK
                  try dsimp only
                  go_simp
                  exact hK _ rfl
                · obtain rfl := Option.some.inj ho
                  have e7 : x 7 = .pointer (some ⟨vb, q, none⟩) := hd 7 (by kernel_rfl) (by kernel_rfl)
                  have hb := hB.1
                  have cz := below_cell hb HVC.out
                  clear ho hd hdn hnd hcl hB hnm hi
                  simp only [upd, reduceIte, Nat.reduceEqDiff, e7] at hK
                  try dsimp only
                  go_simp
                  exact hK _ rfl
                · exact absurd (show true = false from hnm) (by simp)
                · obtain rfl := Option.some.inj ho
                  have e9 : x 9 = .bool true := hB.2.2 (hdn 9 (by kernel_rfl))
                  clear ho hd hdn hnd hcl hB hnm hi
                  simp only [upd, reduceIte, Nat.reduceEqDiff, e9] at hK
                  try dsimp only
                  try rw [e9]
                  go_simp
                  exact hK _ rfl
              case hmem =>
                intro iF o hi hmm ho d d' x W hB hd hdn hnd hdi hdi' hdm hcl Kq hK
                rcases (show iF = 0 ∨ iF = 1 ∨ iF = 2 ∨ iF = 3 ∨ iF = 4 ∨ iF = 5 ∨ iF = 6 ∨ iF = 7 ∨ iF = 8 ∨ iF = 9 ∨ iF = 10 by omega) with rfl | rfl | rfl | rfl | rfl | rfl | rfl | rfl | rfl | rfl | rfl
                · exact absurd (show false = true from hmm) (by simp)
                · exact absurd (show false = true from hmm) (by simp)
                · exact absurd (show false = true from hmm) (by simp)
                · exact absurd (show false = true from hmm) (by simp)
                · obtain rfl := Option.some.inj ho
                  have e3 : x 3 = .slice Aq mq cq := hd 3 (by kernel_rfl) (by kernel_rfl)
                  have dm9 : d' 9 = d 9 := hdm 9 (by omega)
                  obtain ⟨hb, h4, h9⟩ := hB
                  clear ho hd hdn hnd hcl hmm
                  simp only [upd, reduceIte, Nat.reduceEqDiff, e3] at hK
                  try dsimp only
                  go_simp
                  go_at_call 47
                  refine (theirs_ok W (.slice Aq mq cq) (cpuL xs q) (HAE.out.below hb) HCL.out).mono ?_
                  rintro r W2 ⟨v2, rfl, o2, bb⟩
                  go_simp
                  refine hK _ _ ?_
                  try dsimp only
                  rw [dm9, hdi']
                  exact ⟨(bstep hb bb), fun _ => o2.base_le hb.size, h9⟩
                · exact absurd (show false = true from hmm) (by simp)
                · exact absurd (show false = true from hmm) (by simp)
                · exact absurd (show false = true from hmm) (by simp)
                · exact absurd (show false = true from hmm) (by simp)
                · obtain rfl := Option.some.inj ho
                  have e8 : x 8 = .slice Ar mr cr := hd 8 (by kernel_rfl) (by kernel_rfl)
                  have dm4 : d' 4 = d 4 := hdm 4 (by omega)
                  have dn4 : d 4 = true := hdn 4 (by kernel_rfl)
                  obtain ⟨hb, h4, h9⟩ := hB
                  have q4 := h4 dn4
                  clear ho hd hdn hnd hcl hmm
                  simp only [upd, reduceIte, Nat.reduceEqDiff, e8] at hK
                  try dsimp only
                  go_simp
                  go_at_call 46
                  refine (eq_rev W (x 4) (.slice Ar mr cr) (cpuL xs q) (q4.ev encE_len) (HYE.out.below hb) (by have := HCL.out; omega)).mono ?_
                  rintro r W2 ⟨rfl, bb⟩
                  go_simp
                  refine hK _ _ ?_
                  try dsimp only
                  rw [dm4, hdi']
                  exact ⟨(bstep hb bb), fun a => (h4 a).below bb, fun _ => rfl⟩
                · exact absurd (show false = true from hmm) (by simp)
              case hend =>
                intro d x W hall hB hd
                obtain ⟨hb, h4, h9⟩ := hB
                have ek := hd 10 (by omega) rfl
                clear hd hall h4 h9
                try dsimp only
                rw [ek]
                clear ek
                generalize x 0 = y0
                generalize x 1 = y1
                generalize x 2 = y2
                generalize x 3 = y3
                generalize x 4 = y4
                generalize x 5 = y5
                generalize x 6 = y6
                generalize x 7 = y7
                generalize x 8 = y8
                generalize x 9 = y9
                have hzc := below_cell hb HZC.out
                have HMW := Lib.hid (HM.out.trans (Mod.of_below hb))
                have HRW2 := Lib.hid (fun p (h1 : q < p) (h2 : p < 64) => (HRW.out p (by omega) h2).below hb)
                have HWR := Lib.hid (show Wrt 11 W (.slice Aq mq cq) mq by have := (HPO.out.below hb).wrt encE_len; rwa [HMQ.out] at this)
                have hmq6 : mq ≤ 1000000 := by have := HCL.out; rw [HMQ.out] at this; exact this
                clear hb
                go_wp2
                go_loopg [121] mq (fun k i wy => ∃ t : Nat, t + k = mq ∧ i = .int .i64 t ∧ Wrt 11 wy (.slice Aq mq cq) mq ∧ (∀ p, q < p → p < 64 → OV encE 11 28 (Z + 1) wy (A.getD p undef) (cpuL xs p)) ∧ Mod T wB wy)
                case atStart => exact ⟨0, by omega, rfl, HWR.out, HRW2.out, HMW.out⟩
                clear hzc HWR HRW2 HMW
                case round =>
                  obtain ⟨t, ht, rfl, hw, hrw, hm⟩ := hrel
                  have HTT := Lib.hid ht
                  have HWT := Lib.hid hw
                  have HRT := Lib.hid hrw
                  have HMT := Lib.hid hm
                  clear ht hw hrw hm
                  by_cases hlt3 : t < mq
                  · rcases HWT.out with ⟨h0, _⟩ | ⟨_, g, cg, hv, hwc⟩
                    · omega
                    · cases hv
                      obtain ⟨⟨u1, hu1⟩, f1⟩ := hwc (t * 11 + 1) (by omega)
                      have hog : (A.getD q undef).ownBlock = some g := by rw [HAQ.out]; rfl
                      have HTG := Lib.hid (show T g by rw [HTD.out]; exact ⟨q, hlt2, hog⟩)
                      have hzc := HMT.out.cell (HF.out.at hlt2) (fun h => by have := HTB.out Z h; omega)
                      rw [HAQ.out] at hzc
                      have HOG := Lib.hid hog
                      clear hwc hog
                      go_wp2
                      go_roundg (mq - (t + 1))
                      case measure => have := HTT.out; omega
                      case rel =>
                        refine ⟨t + 1, by have := HTT.out; omega, by go_num, HWT.out.setCell _ _, fun p h1 h2 => (HRT.out p h1 h2).mod (Mod.setCell (T := fun k => k = g) _ rfl) (fun g' hg' e => ?_), HMT.out.trans (Mod.setCell _ HTG.out)⟩
                        rcases HF.out.dist p q h2 hlt2 (by omega) with h | h
                        · rw [h] at hg'; cases hg'
                        · rw [HOG.out, hg', e] at h; exact h rfl
                  · obtain rfl : mq = t := by have := HTT.out; omega
                    go_wp2
                    go_roundg (64 - (q + 1))
                    case measure => have := HQ.out; omega
                    case rel => exact ⟨q + 1, by have := HQ.out; omega, by go_num, fun p h1 h2 => HRT.out p (by omega) h2, HMT.out⟩
            · obtain rfl : q = 64 := by have := HQ.out; omega
              have hbz := HBB.out.trans (HM.out.below (B := ws.heap.size) (fun k hk t => by have h1 := HTB.out k t; have h2 := HZ.out.1; omega) HBB.out.size)
              have HBZ := Lib.hid hbz
              clear hbz
              go_wp2
              go_meet
              exact ⟨_, rfl, HW.out.below HBZ.out, HBZ.out⟩
        case rest =>
        obtain ⟨wq, rfl, hwq, hcq⟩ := hcut
        have HWQ := Lib.hid hwq
        have HCQ := Lib.hid (bstep HC.out hcq)
        clear hwq hcq
        go_wp2
        go_loopg [135] na (fun k i wz => ∃ t : Nat, t + k = na ∧ i = .int .i64 t ∧ Wrt 11 wz (.slice Aa na ca) na ∧ Below w1.heap.size w1 wz)
        case atStart => exact ⟨0, by omega, rfl, HWQ.out, HCQ.out⟩
        case round =>
          obtain ⟨t, ht, rfl, hw, hb⟩ := hrel
          have HTT := Lib.hid ht
          have HWT := Lib.hid hw
          have HCT := Lib.hid hb
          have hna := HNA.out
          clear ht hw hb
          by_cases hlt3 : t < na
          · rcases HWT.out with ⟨h0, _⟩ | ⟨_, g, cg, hv, hwc⟩
            · omega
            · cases hv
              obtain ⟨⟨u1, hu1⟩, f1⟩ := hwc (t * 11 + 1) (by omega)
              have HTG := Lib.hid (HWB.out g rfl)
              clear hwc
              go_wp2
              go_roundg (na - (t + 1))
              case measure => have := HTT.out; omega
              case rel => exact ⟨t + 1, by have := HTT.out; omega, by go_num, HWT.out.setCell _ _, HCT.out.setCell HTG.out _⟩
          · obtain rfl : na = t := by have := HTT.out; omega
            have G3T := Lib.hid (below_cell HCT.out G31.out)
            have k3 := G3T.out
            go_wp2_with fail
            refine (eq_ev wr (.slice Ab nb cb) (.slice Aw nw cw) xs (EV1.out.2.below HCT.out) (EV1.out.1.below HCT.out) (by have := HOK.out.2; omega)).mono ?_
            rintro r wy ⟨rfl, by'⟩
            have HCY := Lib.hid (bstep HCT.out by')
            have HWY := Lib.hid (HWT.out.below by')
            clear by' k3
            go_wp2
            go_roundg (n - (j + 1))
            case measure => have := HJ.out; omega
            case rel => exact ⟨j + 1, by have := HJ.out; omega, by go_num, HWY.out, HCY.out⟩
      · obtain rfl : r = .returned (.tuple #[.slice none 0 0, .int .i64 121]) := by
          rcases HRES.out with ⟨_, h⟩ | ⟨h, _⟩
          · exact h
          · exact absurd h hrm
        have HNR := Lib.hid hrm
        clear hrm HRES
        go_upto_region 16 with fail
        go_wp2_with fail
        refine HSR.out.mono ?_
        rintro r wB ⟨bB, hres⟩
        obtain rfl : r = .returned (.tuple #[.slice none 0 0, .int .i64 121]) := by
          rcases hres with ⟨_, h⟩ | ⟨h, _⟩
          · exact h
          · exact absurd h HNR.out
        have HBB := Lib.hid (bstep HBA.out bB)
        clear hres bB HSR q4
        go_upto_block 4 with fail
        go_cut [] (fun wz => ∃ wq, wq = wz ∧ Wrt 11 wq (.slice Aa na ca) na ∧ Below ws.heap.size ws wq)
        case first =>
          go_wp2
          refine wp_loop_rounds 1 ?_
          rw [rounds_succ]
          go_wp2
          go_meet
          exact ⟨_, rfl, HW.out.below HBB.out, HBB.out⟩
        case rest =>
        obtain ⟨wq, rfl, hwq, hcq⟩ := hcut
        have HWQ := Lib.hid hwq
        have HCQ := Lib.hid (bstep HC.out hcq)
        clear hwq hcq
        go_wp2
        go_loopg [135] na (fun k i wz => ∃ t : Nat, t + k = na ∧ i = .int .i64 t ∧ Wrt 11 wz (.slice Aa na ca) na ∧ Below w1.heap.size w1 wz)
        case atStart => exact ⟨0, by omega, rfl, HWQ.out, HCQ.out⟩
        case round =>
          obtain ⟨t, ht, rfl, hw, hb⟩ := hrel
          have HTT := Lib.hid ht
          have HWT := Lib.hid hw
          have HCT := Lib.hid hb
          have hna := HNA.out
          clear ht hw hb
          by_cases hlt3 : t < na
          · rcases HWT.out with ⟨h0, _⟩ | ⟨_, g, cg, hv, hwc⟩
            · omega
            · cases hv
              obtain ⟨⟨u1, hu1⟩, f1⟩ := hwc (t * 11 + 1) (by omega)
              have HTG := Lib.hid (HWB.out g rfl)
              clear hwc
              go_wp2
              go_roundg (na - (t + 1))
              case measure => have := HTT.out; omega
              case rel => exact ⟨t + 1, by have := HTT.out; omega, by go_num, HWT.out.setCell _ _, HCT.out.setCell HTG.out _⟩
          · obtain rfl : na = t := by have := HTT.out; omega
            have G3T := Lib.hid (below_cell HCT.out G31.out)
            have k3 := G3T.out
            go_wp2_with fail
            refine (eq_ev wr (.slice Ab nb cb) (.slice Aw nw cw) xs (EV1.out.2.below HCT.out) (EV1.out.1.below HCT.out) (by have := HOK.out.2; omega)).mono ?_
            rintro r wy ⟨rfl, by'⟩
            have HCY := Lib.hid (bstep HCT.out by')
            have HWY := Lib.hid (HWT.out.below by')
            clear by' k3
            go_wp2
            go_roundg (n - (j + 1))
            case measure => have := HJ.out; omega
            case rel => exact ⟨j + 1, by have := HJ.out; omega, by go_num, HWY.out, HCY.out⟩
    · obtain rfl : n = j := by have := HJ.out; omega
      go_wp2
      go_ret
      exact ⟨rfl, bstep HB.out HC.out⟩
end Go.Proofs.YtalophngappkhaaGreatDoor
