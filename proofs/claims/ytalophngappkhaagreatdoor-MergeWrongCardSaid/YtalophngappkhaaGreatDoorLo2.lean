/- MergeLost: the blocks but one are merged. -/
import Derived.Test.YtalophngappkhaaGreatDoorXy
import Derived.Test.YtalophngappkhaaGreatDoorZ28
import Derived.Test.YtalophngappkhaaGreatDoorZ8
set_option linter.unusedVariables false
set_option linter.unusedSimpArgs false
set_option linter.unusedSectionVars false
namespace Go.Proofs.YtalophngappkhaaGreatDoor
open Go Go.RowKit Go.Shelf
attribute [local go_sem] Oper.semAt_some

theorem lostB_small : ∀ {l : List Bck}, (∀ b ∈ l, 0 ≤ b.lost ∧ b.lost ≤ 2) → 0 ≤ lostB l ∧ lostB l ≤ 2 * (l.length : Int)
  | [], _ => by simp [lostB]
  | b :: l, h => by
    have h1 := h b (by simp)
    have h2 := lostB_small (l := l) (fun x hx => h x (by simp [hx]))
    rw [lostB_cons, List.length_cons]
    push_cast
    omega
/-- What is known of the rest, whichever block is missing. -/
structure LsR (tr : List Ev) (bs : List Bck) (nx : Int) (k : Nat) (R : List Ev) (G2 : List (Int × Int)) (lost2 nx2 : Int) (opn : Bool) : Prop where
  res : ∀ m c, MrgRes ((bs ++ [bkE nx]).take k ++ (bs ++ [bkE nx]).drop (k + 1)) m c → c = 0 ∧ m = ⟨R, [], G2, lost2, nx2, opn⟩
  fac : Srt R (nx2 - 1) ∧ Can 0 G2 ∧ (∀ n, hasR G2 n = decide (1 ≤ n ∧ n < nx2 ∧ n ∉ seqsL R)) ∧ cntR G2 + R.length = nx2 - 1 ∧ nx2 ≤ 1000 ∧ R.length ≤ 1000 ∧ G2.length ≤ 1000 ∧ rightB G2 = true
  way : (k = bs.length ∧ R = tr ∧ opn = true ∧ nx2 = lastS tr + 1 ∧ lost2 = lostB (bs ++ [bkE nx])) ∨ (∃ b, bs[k]? = some b ∧ R = leftL tr b ∧ opn = false ∧ nx2 = nx ∧ lost2 = lostB (bs ++ [bkE nx]) - b.lost)
theorem lsr_of {tr : List Ev} {bs : List Bck} {nx : Int} (ht : Tr tr) (h : CutR tr bs nx) {k : Nat} (hk : k ≤ bs.length) : ∃ R G2 lost2 nx2 opn, LsR tr bs nx k R G2 lost2 nx2 opn := by
  rcases Nat.lt_or_ge k bs.length with hl | hl
  · obtain ⟨b, hb⟩ : ∃ b, bs[k]? = some b := ⟨_, List.getElem?_eq_getElem hl⟩
    obtain ⟨M, hM, hr⟩ := lost_mid ht h hb
    have he := hM.eq
    subst he
    exact ⟨_, _, _, _, _, hr, ⟨hM.srt, hM.can, hM.has, hM.cnt, hM.rng.2, hM.len.1, hM.len.2, hM.right⟩, .inr ⟨b, hb, rfl, rfl, rfl, rfl⟩⟩
  · obtain rfl : k = bs.length := by omega
    obtain ⟨M, hM, hr⟩ := lost_end ht h
    have he := hM.eq
    subst he
    have e0 : (bs ++ [bkE nx]).take bs.length ++ (bs ++ [bkE nx]).drop (bs.length + 1) = bs := by
      rw [List.take_append_of_le_length (Nat.le_refl _), List.take_length, List.drop_of_length_le (by simp), List.append_nil]
    exact ⟨_, _, _, _, _, by rw [e0]; exact hr, ⟨hM.srt, hM.can, hM.has, hM.cnt, hM.rng.2, hM.len.1, hM.len.2, hM.right⟩, .inl ⟨rfl, rfl, rfl, rfl, by rw [lostB_snoc]; show lostB bs = lostB bs + 0; omega⟩⟩
/-- Two slices of blocks, in a row. -/
def P7 (wc W : World) (v S1 : Value) (L1 L2 : List (Sl3 × Bck)) : Prop := ∃ v2, EV encVs 1 W v [(S1, L1), (v2, L2)] ∧ EV encSb 5 wc v2 L2
theorem P7.below {wc W W' : World} {v S1 : Value} {L1 L2 : List (Sl3 × Bck)} (h : P7 wc W v S1 L1 L2) (hb : Below W.heap.size W W') : P7 wc W' v S1 L1 L2 := by
  obtain ⟨v2, a, b⟩ := h
  exact ⟨v2, a.below hb, b⟩
/-- What Blocks has returned. -/
def MgT (wc W : World) (v : Value) (R : List Ev) (T : List Int) (G : List (Int × Int)) (lost next : Int) (opn : Bool) : Prop :=
  ∃ A1 n1 c1 A2 n2 c2 A3 n3 c3, v = .tuple #[mgA (.slice A1 n1 c1) (.slice A2 n2 c2) (.slice A3 n3 c3) lost next opn, .int .i64 0] ∧ OV encE 11 28 wc.heap.size W (.slice A1 n1 c1) R ∧ OV encI 1 3 wc.heap.size W (.slice A2 n2 c2) T ∧ OV encP 2 34 wc.heap.size W (.slice A3 n3 c3) G
theorem MgT.below {wc W W' : World} {v : Value} {R : List Ev} {T : List Int} {G : List (Int × Int)} {lost next : Int} {opn : Bool} (h : MgT wc W v R T G lost next opn) (hb : Below W.heap.size W W') : MgT wc W' v R T G lost next opn := by
  obtain ⟨A1, n1, c1, A2, n2, c2, A3, n3, c3, e, a, b, c⟩ := h
  exact ⟨A1, n1, c1, A2, n2, c2, A3, n3, c3, e, a.below hb, b.below hb, c.below hb⟩
/-- An empty box. -/
def ZBox (wc W : World) (v : Value) : Prop := ∃ Y, v = .pointer (some ⟨Y, 0, none⟩) ∧ wc.heap.size ≤ Y ∧ MgBox W Y (.slice none 0 0) (.slice none 0 0) (.slice none 0 0) 0 0 false
theorem ZBox.below {wc W W' : World} {v : Value} (h : ZBox wc W v) (hb : Below W.heap.size W W') : ZBox wc W' v := by
  obtain ⟨Y, e, a, b⟩ := h
  exact ⟨Y, e, a, b.below hb⟩
/-- A full one. -/
def FBox (wc W : World) (v : Value) (R : List Ev) (T : List Int) (G : List (Int × Int)) (lost next : Int) (opn : Bool) : Prop :=
  ∃ Y A1 n1 c1 A2 n2 c2 A3 n3 c3, v = .pointer (some ⟨Y, 0, none⟩) ∧ MB2 W Y (.slice A1 n1 c1) (.slice A2 n2 c2) (.slice A3 n3 c3) R T G lost next opn
theorem FBox.below {wc W W' : World} {v : Value} {R : List Ev} {T : List Int} {G : List (Int × Int)} {lost next : Int} {opn : Bool} (h : FBox wc W v R T G lost next opn) (hb : Below W.heap.size W W') : FBox wc W' v R T G lost next opn := by
  obtain ⟨Y, A1, n1, c1, A2, n2, c2, A3, n3, c3, e, a⟩ := h
  exact ⟨Y, A1, n1, c1, A2, n2, c2, A3, n3, c3, e, a.below hb⟩
theorem OV.six {α : Type} {enc : α → List Value} {k base : Nat} {e : TypeId} {w w' : World} {v : Value} {xs : List α} {Y : Nat} {cs : Array Value} {t : TypeId} (h : OV enc k e base w v xs) (hb : w.heap[Y]? = some (.cells cs t (0, 0))) (hne : e ≠ t) (hm : Mod (fun j => j = Y) w w') : OV enc k e base w' v xs := by
  refine h.mod hm fun g hg he => ?_
  subst he
  rcases h.2 with ⟨rfl, _⟩ | ⟨g', cap, cur, rfl, _, hg', _⟩
  · cases hg
  · obtain rfl : g' = g := by simpa [Value.ownBlock] using hg
    rw [hb] at hg'
    cases hg'
    exact hne rfl
theorem mg_store {wc W : World} {Y : Nat} {v1 v2 v3 : Value} {lost next : Int} {opn : Bool} {A1 A2 A3 : Option Addr} {n1 c1 n2 c2 n3 c3 : Nat} {R : List Ev} {T : List Int} {G : List (Int × Int)} {l0 x0 : Int} {o0 : Bool} (hb : MgBox W Y v1 v2 v3 l0 x0 o0) (hy : wc.heap.size ≤ Y) (hw : Below wc.heap.size wc W)
    (h1 : OV encE 11 28 wc.heap.size W (.slice A1 n1 c1) R) (h2 : OV encI 1 3 wc.heap.size W (.slice A2 n2 c2) T) (h3 : OV encP 2 34 wc.heap.size W (.slice A3 n3 c3) G) :
    MB2 ((((((W.setCell ⟨Y, 0, none⟩ (.slice A1 n1 c1)).setCell ⟨Y, 1, none⟩ (.slice A2 n2 c2)).setCell ⟨Y, 2, none⟩ (.slice A3 n3 c3)).setCell ⟨Y, 3, none⟩ (.int .i64 lost)).setCell ⟨Y, 4, none⟩ (.int .i64 next)).setCell ⟨Y, 5, none⟩ (.bool opn)) Y (.slice A1 n1 c1) (.slice A2 n2 c2) (.slice A3 n3 c3) R T G lost next opn ∧
    Below wc.heap.size wc ((((((W.setCell ⟨Y, 0, none⟩ (.slice A1 n1 c1)).setCell ⟨Y, 1, none⟩ (.slice A2 n2 c2)).setCell ⟨Y, 2, none⟩ (.slice A3 n3 c3)).setCell ⟨Y, 3, none⟩ (.int .i64 lost)).setCell ⟨Y, 4, none⟩ (.int .i64 next)).setCell ⟨Y, 5, none⟩ (.bool opn)) := by
  have hm := (((((Mod.setCell (a := W) (p := ⟨Y, 0, none⟩) (T := fun k => k = Y) (.slice A1 n1 c1) rfl).trans (Mod.setCell (p := ⟨Y, 1, none⟩) (T := fun k => k = Y) (.slice A2 n2 c2) rfl)).trans (Mod.setCell (p := ⟨Y, 2, none⟩) (T := fun k => k = Y) (.slice A3 n3 c3) rfl)).trans (Mod.setCell (p := ⟨Y, 3, none⟩) (T := fun k => k = Y) (.int .i64 lost) rfl)).trans (Mod.setCell (p := ⟨Y, 4, none⟩) (T := fun k => k = Y) (.int .i64 next) rfl)).trans (Mod.setCell (p := ⟨Y, 5, none⟩) (T := fun k => k = Y) (.bool opn) rfl)
  exact ⟨⟨(((((hb.set0 _).set1 _).set2 _).set3 _).set4 _).set5 _, (h1.six hb.cell (by decide) hm).ev encE_len, (h2.six hb.cell (by decide) hm).ev encI_len, (h3.six hb.cell (by decide) hm).ev encP_len⟩,
    hw.trans (hm.below (B := wc.heap.size) (fun k hk e => by omega) hw.size)⟩
set_option maxRecDepth 100000 in
set_option maxHeartbeats 6400000 in
theorem lost_t8 (w wc : World) (X GB cb co p cc k n1 c1 c2 n3 c3 : Nat) (A1 A2 A3 : Option Addr) (vt : Value) (tr R : List Ev) (bs : List (Sl3 × Bck)) (x : Sl3 × Bck) (G G2 : List (Int × Int)) (lost nx lost2 nx2 : Int) (opn : Bool) {u0 u1 u2 u3 u4 u5 u6 u7 u8 u15 u16 u17 u18 u19 u20 u21 u22 u23 u24 u25 u26 u27 u28 u29 u30 u31 u32 u33 u34 u35 u36 u37 u38 u39 u40 u41 u42 u43 u44 u45 u46 u47 u48 u49 u50 u51 u52 u53 u54 u55 u56 u57 u58 u59 u60 u61 u62 u63 u64 u65 u66 u67 u68 u69 u70 u71 u72 u73 u74 u75 u76 u77 u78 u79 u80 u81 u82 u83 u84 u85 u86 u87 u88 u89 u90 u91 u92 u93 u94 u95 u96 u97 u98 u99 u100 u101 u102 u103 u104 u105 u106 u107 u108 u109 u110 u111 u112 u113 u114 u115 u116 u117 u118 u119 u120 u121 u122 u123 u124 u125 u126 u127 u128 u129 u130 u131 u132 u133 u134 u135 u136 u137 u138 u139 u140 u141 u142 u143 u144 u145 u146 u147 u148 u149 u150 u151 u152 u153 u154 u155 u156 u157 u158 u159 u160 u161 u162 u163 u164 u165 u166 u167 u168 u169 u170 u171 u172 u173 u174 u175 u176 u177 u178 u179 u180 u181 : Value}
    (hT : Tr tr) (hL : (CutP.all bs nx).length = p + 1 ∧ p ≤ 40) (hP : bs.length = p) (hC : CutR tr (bs.map Prod.snd) nx) (hev : EV encSb 5 wc (.slice (some ⟨cb, co, none⟩) (p + 1) cc) (CutP.all bs nx)) (hevs : ∀ y ∈ CutP.all bs nx, EV encE 11 wc (slV y.1) y.2.evs)
    (hcc : p + 1 ≤ cc) (hk : k ≤ p) (hxx : (CutP.all bs nx)[k]? = some x) (hg : BkBox wc GB x.2 (slV x.1)) (hmx : MB2 wc X (.slice A1 n1 c1) (.slice A2 0 c2) (.slice A3 n3 c3) tr [] G lost nx false) (hmw : MgW tr lost nx false ⟨tr, [], G, lost, nx, false⟩) (hlo : lostB ((bs.map Prod.snd) ++ [bkE nx]) = lost)
    (hls : LsR tr (bs.map Prod.snd) nx k R G2 lost2 nx2 opn) (htv : EV encE 11 wc vt tr) (hU : LaidAt wc) (hb : Below w.heap.size w wc) :
    Code.wp Tryz.prog (tailR Tryz.f6 8) (bodyPost Tryz.prog Tryz.f6 fun r w' => r = .returned (.bool true) ∧ Below w.heap.size w w')
      ⟨#[u0, u1, u2, u3, u4, u5, u6, u7, u8, vt, .slice (some ⟨cb, co, none⟩) (p + 1) cc, .int .i64 (k : Nat), .pointer (some ⟨GB, 0, none⟩), .pointer (some ⟨X, 0, none⟩), .int .i64 0, u15, u16, u17, u18, u19, u20, u21, u22, u23, u24, u25, u26, u27, u28, u29, u30, u31, u32, u33, u34, u35, u36, u37, u38, u39, u40, u41, u42, u43, u44, u45, u46, u47, u48, u49, u50, u51, u52, u53, u54, u55, u56, u57, u58, u59, u60, u61, u62, u63, u64, u65, u66, u67, u68, u69, u70, u71, u72, u73, u74, u75, u76, u77, u78, u79, u80, u81, u82, u83, u84, u85, u86, u87, u88, u89, u90, u91, u92, u93, u94, u95, u96, u97, u98, u99, u100, u101, u102, u103, u104, u105, u106, u107, u108, u109, u110, u111, u112, u113, u114, u115, u116, u117, u118, u119, u120, u121, u122, u123, u124, u125, u126, u127, u128, u129, u130, u131, u132, u133, u134, u135, u136, u137, u138, u139, u140, u141, u142, u143, u144, u145, u146, u147, u148, u149, u150, u151, u152, u153, u154, u155, u156, u157, u158, u159, u160, u161, u162, u163, u164, u165, u166, u167, u168, u169, u170, u171, u172, u173, u174, u175, u176, u177, u178, u179, u180, u181], []⟩ wc := by
  conv => arg 2; whnf
  conv => arg 4; dsimp only
  have HT := Lib.hid hT
  have HL := Lib.hid hL
  have HP := Lib.hid hP
  have HC := Lib.hid hC
  have HEV := Lib.hid hev
  have HES := Lib.hid hevs
  have HCC := Lib.hid hcc
  have HKP := Lib.hid hk
  have HXX := Lib.hid hxx
  have HG := Lib.hid hg
  have HMX := Lib.hid hmx
  have HMW := Lib.hid hmw
  have HLO := Lib.hid hlo
  have HLS := Lib.hid hls
  have HTV := Lib.hid htv
  have HU := Lib.hid hU
  have HB := Lib.hid hb
  have hp40 := hL.2
  have HGD := Lib.hid (show ∀ y ∈ CutP.all bs nx, BlkOk y.2 ∧ chkB y.2 = 0 ∧ y.2.evs.length ≤ 6 from fun y hy => hC.all hT (l := (CutP.all bs nx).map Prod.snd) (fun b hb => by rw [cut_all_snd] at hb; simpa using hb) y.2 (List.mem_map.2 ⟨y, hy, rfl⟩))
  clear hT hL hP hC hev hevs hxx hg hmx hmw hlo hls htv hU hb
  apply wp_seq_k
  intro K0 hK0
  go_cut [15, 16] (fun a b wz => ∃ wq, wq = wz ∧ b = .int .i64 0 ∧ FBox wc wq a R [] G2 lost2 nx2 opn ∧ Below wc.heap.size wc wq)
  case first =>
    have hki : (0 : Int) ≤ (k : Int) := by omega
    have hki2 : (k : Int) ≤ (p : Int) + 1 := by omega
    have hki3 : (k : Int) ≤ (cc : Int) := by omega
    have hkj : (0 : Int) ≤ (k : Int) + 1 := by omega
    have hkj2 : (k : Int) + 1 ≤ (p : Int) + 1 := by omega
    have hkj3 : (k : Int) + 1 ≤ (cc : Int) := by omega
    have HMEM := Lib.hid (show ∀ y, y ∈ (CutP.all bs nx).take k ++ (CutP.all bs nx).drop (k + 1) → y ∈ CutP.all bs nx from fun y hy => (List.mem_append.1 hy).elim List.mem_of_mem_take List.mem_of_mem_drop)
    have HLE := Lib.hid (show ((CutP.all bs nx).take k ++ (CutP.all bs nx).drop (k + 1)).length ≤ 200 by rw [List.length_append, List.length_take, List.length_drop, HL.out.1]; omega)
    have HLR := Lib.hid (show ∀ m c, MrgRes (((CutP.all bs nx).take k ++ (CutP.all bs nx).drop (k + 1)).map Prod.snd) m c → _ from fun m c h => HLS.out.res m c (by rwa [List.map_append, List.map_take, List.map_drop, cut_all_snd] at h))
    have HE1 := Lib.hid (EV.row_take (j := k) HEV.out (by rw [HL.out.1]; omega) HL.out.1.symm)
    obtain ⟨L1, hL1⟩ : ∃ L1, (CutP.all bs nx).take k = L1 := ⟨_, rfl⟩
    obtain ⟨L2, hL2⟩ : ∃ L2, (CutP.all bs nx).drop (k + 1) = L2 := ⟨_, rfl⟩
    have HLL := Lib.hid (show L1.length ≤ 41 ∧ L2.length ≤ 41 by rw [← hL1, ← hL2, List.length_take, List.length_drop, HL.out.1]; omega)
    rw [hL1, hL2] at HMEM HLE HLR
    rw [hL1] at HE1
    have HL2 := Lib.hid hL2
    clear hL1 hL2
    go_wp2_with fail
    refine wp_region_dagG (by kernel_rfl) 16 rfl (fun i => i == 6 || i == 7 || i == 8 || i == 9 || i == 10 || i == 11 || i == 12 || i == 13 || i == 14) (fun i => !(false)) ?hMw (fun x => ⟨#[u0, u1, u2, u3, u4, u5, u6, u7, u8, vt, .slice (some ⟨cb, co, none⟩) (p + 1) cc, .int .i64 (k : Nat), .pointer (some ⟨GB, 0, none⟩), .pointer (some ⟨X, 0, none⟩), .int .i64 0, x 13, x 15, u17, u18, u19, u20, u21, u22, u23, u24, u25, u26, u27, u28, u29, u30, u31, u32, u33, u34, u35, u36, u37, u38, u39, u40, u41, u42, u43, u44, u45, u46, u47, u48, u49, u50, x 10, x 0, x 1, x 2, x 3, x 4, x 5, x 6, x 7, x 8, x 9, x 11, x 12, u64, u65, u66, u67, u68, u69, u70, u71, u72, u73, u74, u75, u76, u77, u78, u79, u80, u81, u82, u83, u84, u85, u86, u87, u88, u89, u90, u91, u92, u93, u94, u95, u96, u97, u98, u99, u100, u101, u102, u103, u104, u105, u106, u107, u108, u109, u110, u111, u112, u113, u114, u115, u116, u117, u118, u119, u120, u121, u122, u123, u124, u125, u126, u127, u128, u129, u130, u131, u132, u133, u134, u135, u136, u137, u138, u139, u140, u141, u142, u143, u144, u145, u146, u147, u148, u149, u150, u151, u152, u153, u154, u155, u156, u157, u158, u159, u160, u161, u162, u163, u164, u165, u166, u167, u168, u169, u170, u171, u172, u173, u174, u175, u176, u177, u178, u179, u180, u181], []⟩) (fun iF vF => match iF with | 0 => vF = .slice (some ⟨cb, co, none⟩) (p + 1) cc | 1 => vF = .int .i64 (k : Nat) | 2 => vF = .slice (some ⟨cb, co, none⟩) k cc | 3 => vF = .slice (some ⟨cb, co, none⟩) (p + 1) cc | 4 => vF = .int .i64 (k : Nat) | 5 => vF = .int .i64 ((k + 1 : Nat) : Int) | 15 => vF = .int .i64 0 | _ => True)
      (fun d x W => Below wc.heap.size wc W ∧ (d 6 = true → ∃ A n c, x 6 = .slice A n c ∧ EV encSb 5 wc (.slice A n c) L2) ∧ (d 7 = true → d 8 = false → P7 wc W (x 7) (.slice (some ⟨cb, co, none⟩) k cc) L1 L2) ∧ (d 8 = true → d 9 = false → EV encSb 5 W (x 8) (L1 ++ L2)) ∧ (d 9 = true → d 14 = false → MgT wc W (x 9) R [] G2 lost2 nx2 opn) ∧ (d 9 = true → ∃ a, x 9 = .tuple #[a, .int .i64 0]) ∧ (d 10 = true → x 10 = x 9) ∧ (d 11 = true → ∃ e, x 9 = .tuple #[x 11, e]) ∧ (d 12 = true → x 12 = .int .i64 0) ∧ (d 13 = true → d 14 = false → ZBox wc W (x 13)) ∧ (d 14 = true → FBox wc W (x 13) R [] G2 lost2 nx2 opn)) ?hB ?hwant ?hoff (by kernel_rfl) ?hpure ?hmem ?hend (fun i => (#[u52, u53, u54, u55, u56, u57, u58, u59, u60, u61, u51, u62, u63, u15, undef, u16] : Array Value).getD i undef) rfl ?hstart
    case hstart =>
      try dsimp only
      exact ⟨below_drew (Below.refl _ _), fun h => (by cases h), fun h => (by cases h), fun h => (by cases h), fun h => (by cases h), fun h => (by cases h), fun h => (by cases h), fun h => (by cases h), fun h => (by cases h), fun h => (by cases h), fun h => (by cases h)⟩
    case hB =>
      intro d d' x i v W hi hm h
      have g6 : ¬ 6 = i := by rintro rfl; exact absurd (show true = false from hi) (by simp)
      have e6 : d' 6 = d 6 := hm 6 rfl
      have g7 : ¬ 7 = i := by rintro rfl; exact absurd (show true = false from hi) (by simp)
      have e7 : d' 7 = d 7 := hm 7 rfl
      have g8 : ¬ 8 = i := by rintro rfl; exact absurd (show true = false from hi) (by simp)
      have e8 : d' 8 = d 8 := hm 8 rfl
      have g9 : ¬ 9 = i := by rintro rfl; exact absurd (show true = false from hi) (by simp)
      have e9 : d' 9 = d 9 := hm 9 rfl
      have g10 : ¬ 10 = i := by rintro rfl; exact absurd (show true = false from hi) (by simp)
      have e10 : d' 10 = d 10 := hm 10 rfl
      have g11 : ¬ 11 = i := by rintro rfl; exact absurd (show true = false from hi) (by simp)
      have e11 : d' 11 = d 11 := hm 11 rfl
      have g12 : ¬ 12 = i := by rintro rfl; exact absurd (show true = false from hi) (by simp)
      have e12 : d' 12 = d 12 := hm 12 rfl
      have g13 : ¬ 13 = i := by rintro rfl; exact absurd (show true = false from hi) (by simp)
      have e13 : d' 13 = d 13 := hm 13 rfl
      have g14 : ¬ 14 = i := by rintro rfl; exact absurd (show true = false from hi) (by simp)
      have e14 : d' 14 = d 14 := hm 14 rfl
      try dsimp only at h ⊢
      first | rw [upd_ne g6, upd_ne g7, upd_ne g8, upd_ne g9, upd_ne g10, upd_ne g11, upd_ne g12, upd_ne g13, upd_ne g14, e6, e7, e8, e9, e10, e11, e12, e13, e14] | simp only [upd_ne g6, upd_ne g7, upd_ne g8, upd_ne g9, upd_ne g10, upd_ne g11, upd_ne g12, upd_ne g13, upd_ne g14, e6, e7, e8, e9, e10, e11, e12, e13, e14]
      exact h
    case hMw =>
      intro i hi
      simp only [Bool.or_eq_true, beq_iff_eq] at hi
      rcases hi with (((((((rfl | rfl) | rfl) | rfl) | rfl) | rfl) | rfl) | rfl) | rfl
      all_goals rfl
    case hwant =>
      intro iF o hi ho x hf
      rcases (show iF = 0 ∨ iF = 1 ∨ iF = 2 ∨ iF = 3 ∨ iF = 4 ∨ iF = 5 ∨ iF = 6 ∨ iF = 7 ∨ iF = 8 ∨ iF = 9 ∨ iF = 10 ∨ iF = 11 ∨ iF = 12 ∨ iF = 13 ∨ iF = 14 ∨ iF = 15 by omega) with rfl | rfl | rfl | rfl | rfl | rfl | rfl | rfl | rfl | rfl | rfl | rfl | rfl | rfl | rfl | rfl
      · obtain rfl := Option.some.inj ho
        rfl
      · obtain rfl := Option.some.inj ho
        rfl
      · obtain rfl := Option.some.inj ho
        rfl
      · obtain rfl := Option.some.inj ho
        rfl
      · obtain rfl := Option.some.inj ho
        rfl
      · obtain rfl := Option.some.inj ho
        rfl
      · obtain rfl := Option.some.inj ho
        rfl
      · obtain rfl := Option.some.inj ho
        rfl
      · obtain rfl := Option.some.inj ho
        rfl
      · obtain rfl := Option.some.inj ho
        rfl
      · obtain rfl := Option.some.inj ho
        rfl
      · obtain rfl := Option.some.inj ho
        rfl
      · obtain rfl := Option.some.inj ho
        rfl
      · obtain rfl := Option.some.inj ho
        rfl
      · obtain rfl := Option.some.inj ho
        rfl
      · obtain rfl := Option.some.inj ho
        rfl
    case hoff =>
      intro iF o hi hw ho x
      rcases (show iF = 0 ∨ iF = 1 ∨ iF = 2 ∨ iF = 3 ∨ iF = 4 ∨ iF = 5 ∨ iF = 6 ∨ iF = 7 ∨ iF = 8 ∨ iF = 9 ∨ iF = 10 ∨ iF = 11 ∨ iF = 12 ∨ iF = 13 ∨ iF = 14 ∨ iF = 15 by omega) with rfl | rfl | rfl | rfl | rfl | rfl | rfl | rfl | rfl | rfl | rfl | rfl | rfl | rfl | rfl | rfl
      · exact absurd (show true = false from hw) (by simp)
      · exact absurd (show true = false from hw) (by simp)
      · exact absurd (show true = false from hw) (by simp)
      · exact absurd (show true = false from hw) (by simp)
      · exact absurd (show true = false from hw) (by simp)
      · exact absurd (show true = false from hw) (by simp)
      · exact absurd (show true = false from hw) (by simp)
      · exact absurd (show true = false from hw) (by simp)
      · exact absurd (show true = false from hw) (by simp)
      · exact absurd (show true = false from hw) (by simp)
      · exact absurd (show true = false from hw) (by simp)
      · exact absurd (show true = false from hw) (by simp)
      · exact absurd (show true = false from hw) (by simp)
      · exact absurd (show true = false from hw) (by simp)
      · exact absurd (show true = false from hw) (by simp)
      · exact absurd (show true = false from hw) (by simp)
    case hpure =>
      intro iF o hi hnm hww ho d x W hB hd hdn hnd hcl Kq hK
      rcases (show iF = 0 ∨ iF = 1 ∨ iF = 2 ∨ iF = 3 ∨ iF = 4 ∨ iF = 5 ∨ iF = 6 ∨ iF = 7 ∨ iF = 8 ∨ iF = 9 ∨ iF = 10 ∨ iF = 11 ∨ iF = 12 ∨ iF = 13 ∨ iF = 14 ∨ iF = 15 by omega) with rfl | rfl | rfl | rfl | rfl | rfl | rfl | rfl | rfl | rfl | rfl | rfl | rfl | rfl | rfl | rfl
      · obtain rfl := Option.some.inj ho
        clear ho hd hdn hnd hcl hB hnm hi
        simp only [upd, reduceIte, Nat.reduceEqDiff] at hK
        try dsimp only
        go_simp
        exact hK _ rfl
      · obtain rfl := Option.some.inj ho
        clear ho hd hdn hnd hcl hB hnm hi
        simp only [upd, reduceIte, Nat.reduceEqDiff] at hK
        try dsimp only
        go_simp
        exact hK _ rfl
      · obtain rfl := Option.some.inj ho
        have e0 : x 0 = .slice (some ⟨cb, co, none⟩) (p + 1) cc := hd 0 (by kernel_rfl) (by kernel_rfl)
        have e1 : x 1 = .int .i64 (k : Nat) := hd 1 (by kernel_rfl) (by kernel_rfl)
        clear ho hd hdn hnd hcl hB hnm hi
        simp only [upd, reduceIte, Nat.reduceEqDiff, e0, e1] at hK
        try dsimp only
        go_simp
        exact hK _ rfl
      · obtain rfl := Option.some.inj ho
        clear ho hd hdn hnd hcl hB hnm hi
        simp only [upd, reduceIte, Nat.reduceEqDiff] at hK
        try dsimp only
        go_simp
        exact hK _ rfl
      · obtain rfl := Option.some.inj ho
        clear ho hd hdn hnd hcl hB hnm hi
        simp only [upd, reduceIte, Nat.reduceEqDiff] at hK
        try dsimp only
        go_simp
        exact hK _ rfl
      · obtain rfl := Option.some.inj ho
        have e4 : x 4 = .int .i64 (k : Nat) := hd 4 (by kernel_rfl) (by kernel_rfl)
        clear ho hd hdn hnd hcl hB hnm hi
        simp only [upd, reduceIte, Nat.reduceEqDiff, e4] at hK
        try dsimp only
        go_simp
        exact hK _ (congrArg (Value.int .i64) (by push_cast; exact IntWalk.i64_in _ (by omega)))
      · exact absurd (show true = false from hnm) (by simp)
      · exact absurd (show true = false from hnm) (by simp)
      · exact absurd (show true = false from hnm) (by simp)
      · exact absurd (show true = false from hnm) (by simp)
      · exact absurd (show true = false from hnm) (by simp)
      · exact absurd (show true = false from hnm) (by simp)
      · exact absurd (show true = false from hnm) (by simp)
      · exact absurd (show true = false from hnm) (by simp)
      · exact absurd (show true = false from hnm) (by simp)
      · obtain rfl := Option.some.inj ho
        have e12 := hB.2.2.2.2.2.2.2.2.1 (hdn 12 (by kernel_rfl))
        clear ho hd hdn hnd hcl hB hnm hi
        simp only [upd, reduceIte, Nat.reduceEqDiff, e12] at hK
        try dsimp only
        go_simp
        exact hK _ rfl
    case hmem =>
      intro iF o hi hmm ho d d' x W hB hd hdn hnd hdi hdi' hdm hcl Kq hK
      rcases (show iF = 0 ∨ iF = 1 ∨ iF = 2 ∨ iF = 3 ∨ iF = 4 ∨ iF = 5 ∨ iF = 6 ∨ iF = 7 ∨ iF = 8 ∨ iF = 9 ∨ iF = 10 ∨ iF = 11 ∨ iF = 12 ∨ iF = 13 ∨ iF = 14 ∨ iF = 15 by omega) with rfl | rfl | rfl | rfl | rfl | rfl | rfl | rfl | rfl | rfl | rfl | rfl | rfl | rfl | rfl | rfl
      · exact absurd (show false = true from hmm) (by simp)
      · exact absurd (show false = true from hmm) (by simp)
      · exact absurd (show false = true from hmm) (by simp)
      · exact absurd (show false = true from hmm) (by simp)
      · exact absurd (show false = true from hmm) (by simp)
      · exact absurd (show false = true from hmm) (by simp)
      · obtain rfl := Option.some.inj ho
        have e3 : x 3 = .slice (some ⟨cb, co, none⟩) (p + 1) cc := hd 3 (by kernel_rfl) (by kernel_rfl)
        have e5 : x 5 = .int .i64 ((k + 1 : Nat) : Int) := hd 5 (by kernel_rfl) (by kernel_rfl)
        have dm7 : d' 7 = d 7 := hdm 7 (by omega)
        have dm8 : d' 8 = d 8 := hdm 8 (by omega)
        have dm9 : d' 9 = d 9 := hdm 9 (by omega)
        have dm10 : d' 10 = d 10 := hdm 10 (by omega)
        have dm11 : d' 11 = d 11 := hdm 11 (by omega)
        have dm12 : d' 12 = d 12 := hdm 12 (by omega)
        have dm13 : d' 13 = d 13 := hdm 13 (by omega)
        have dm14 : d' 14 = d 14 := hdm 14 (by omega)
        obtain ⟨hb, h6, h7, h8, h9, h90, h10, h11, h12, h13, h14⟩ := hB
        clear ho hd hdn hnd hcl hmm
        simp only [upd, reduceIte, Nat.reduceEqDiff, e3, e5] at hK
        try dsimp only
        rcases Nat.lt_or_ge (k + 1) cc with hkc | hkc
        · have hne : ¬ cc = k + 1 := by omega
          have hne2 : ¬ k + 1 = cc := by omega
          have hev := EV.row_drop (j := k + 1) HEV.out (by rw [HL.out.1]; omega) HL.out.1.symm
          rw [HL2.out, show p + 1 - (k + 1) = p - k by omega] at hev
          go_simp
          refine hK _ _ ?_
          try dsimp only
          rw [dm7, dm8, dm9, dm10, dm11, dm12, dm13, dm14, hdi']
          exact ⟨hb, fun _ => ⟨_, _, _, rfl, hev⟩, h7, h8, h9, h90, h10, h11, h12, h13, h14⟩
        · have hne : cc = k + 1 := by omega
          have hkp : p = k := by omega
          have hev : EV encSb 5 wc (.slice (some ⟨cb, co, none⟩) 0 0) L2 := by
            have : L2 = [] := by rw [← HL2.out]; exact List.drop_of_length_le (by rw [HL.out.1]; omega)
            exact .inl ⟨this, _, _, rfl⟩
          subst hkp
          subst hne
          have hz : p + 1 - (p + 1) = 0 := Nat.sub_self _
          go_simp
          refine hK _ _ ?_
          try dsimp only
          rw [dm7, dm8, dm9, dm10, dm11, dm12, dm13, dm14, hdi']
          exact ⟨hb, fun _ => ⟨_, _, _, rfl, hev⟩, h7, h8, h9, h90, h10, h11, h12, h13, h14⟩
      · obtain rfl := Option.some.inj ho
        have e2 : x 2 = .slice (some ⟨cb, co, none⟩) k cc := hd 2 (by kernel_rfl) (by kernel_rfl)
        have dm6 : d' 6 = d 6 := hdm 6 (by omega)
        have dm8 : d' 8 = d 8 := hdm 8 (by omega)
        have dm9 : d' 9 = d 9 := hdm 9 (by omega)
        have dm10 : d' 10 = d 10 := hdm 10 (by omega)
        have dm11 : d' 11 = d 11 := hdm 11 (by omega)
        have dm12 : d' 12 = d 12 := hdm 12 (by omega)
        have dm13 : d' 13 = d 13 := hdm 13 (by omega)
        have dm14 : d' 14 = d 14 := hdm 14 (by omega)
        have dn6 : d 6 = true := hdn 6 (by kernel_rfl)
        have dz8 : d 8 = false := hnd 8 (by kernel_rfl)
        obtain ⟨hb, h6, h7, h8, h9, h90, h10, h11, h12, h13, h14⟩ := hB
        obtain ⟨A6, n6, c6, e6, ev6⟩ := h6 dn6
        clear ho hd hdn hnd hcl hmm
        simp only [upd, reduceIte, Nat.reduceEqDiff, e2, e6] at hK
        try dsimp only
        go_simp
        have bb := bel_alloc W (.cells #[.slice (some ⟨cb, co, none⟩) k cc, .slice A6 n6 c6] 30)
        refine hK _ _ ?_
        try dsimp only
        rw [dm6, dm8, dm9, dm10, dm11, dm12, dm13, dm14, hdi']
        exact ⟨(bstep hb bb), fun _ => ⟨A6, n6, c6, rfl, ev6⟩, fun _ _ => ⟨.slice A6 n6 c6, EV.newL (xs := [(.slice (some ⟨cb, co, none⟩) k cc, L1), (.slice A6 n6 c6, L2)]) (n := 2) (c := 2) encVs_len rfl rfl (Nat.le_refl _), ev6⟩, fun a b => (h8 a b).below (bb), fun a b => (h9 a b).below (bb), h90, h10, h11, h12, fun a b => (h13 a b).below (bb), fun a => (h14 a).below (bb)⟩
      · obtain rfl := Option.some.inj ho
        have dm6 : d' 6 = d 6 := hdm 6 (by omega)
        have dm7 : d' 7 = d 7 := hdm 7 (by omega)
        have dm9 : d' 9 = d 9 := hdm 9 (by omega)
        have dm10 : d' 10 = d 10 := hdm 10 (by omega)
        have dm11 : d' 11 = d 11 := hdm 11 (by omega)
        have dm12 : d' 12 = d 12 := hdm 12 (by omega)
        have dm13 : d' 13 = d 13 := hdm 13 (by omega)
        have dm14 : d' 14 = d 14 := hdm 14 (by omega)
        have dn7 : d 7 = true := hdn 7 (by kernel_rfl)
        have dz9 : d 9 = false := hnd 9 (by kernel_rfl)
        obtain ⟨hb, h6, h7, h8, h9, h90, h10, h11, h12, h13, h14⟩ := hB
        obtain ⟨v2, q1, q2⟩ := h7 dn7 hdi
        clear ho hd hdn hnd hcl hmm
        simp only [upd, reduceIte, Nat.reduceEqDiff] at hK
        try dsimp only
        go_simp
        go_at_call 33
        refine (concat_bk W (x 7) _ q1 (fun y hy => ?_) (by simp) (by have := HLL.out; simp; omega)).mono ?_
        · simp only [List.mem_cons, List.not_mem_nil, or_false] at hy
          rcases hy with rfl | rfl
          · exact HE1.out.below hb
          · exact q2.below hb
        rintro r W2 ⟨v8, rfl, o8, bb⟩
        go_simp
        refine hK _ _ ?_
        try dsimp only
        rw [dm6, dm7, dm9, dm10, dm11, dm12, dm13, dm14, hdi']
        rw [dn7]
        exact ⟨(bstep hb bb), h6, fun _ k => (by cases k), fun _ _ => by simpa using o8.ev encSb_len, fun a b => (h9 a b).below (bb), h90, h10, h11, h12, fun a b => (h13 a b).below (bb), fun a => (h14 a).below (bb)⟩
      · obtain rfl := Option.some.inj ho
        have dm6 : d' 6 = d 6 := hdm 6 (by omega)
        have dm7 : d' 7 = d 7 := hdm 7 (by omega)
        have dm8 : d' 8 = d 8 := hdm 8 (by omega)
        have dm10 : d' 10 = d 10 := hdm 10 (by omega)
        have dm11 : d' 11 = d 11 := hdm 11 (by omega)
        have dm12 : d' 12 = d 12 := hdm 12 (by omega)
        have dm13 : d' 13 = d 13 := hdm 13 (by omega)
        have dm14 : d' 14 = d 14 := hdm 14 (by omega)
        have dn8 : d 8 = true := hdn 8 (by kernel_rfl)
        have dz14 : d 14 = false := hnd 14 (by kernel_rfl)
        have dz10 : d 10 = false := hnd 10 (by kernel_rfl)
        have dz11 : d 11 = false := notyet (i := 11) hcl (hnd 10 (by kernel_rfl)) (by kernel_rfl)
        obtain ⟨hb, h6, h7, h8, h9, h90, h10, h11, h12, h13, h14⟩ := hB
        have q8 := h8 dn8 hdi
        clear ho hd hdn hnd hcl hmm
        simp only [upd, reduceIte, Nat.reduceEqDiff] at hK
        try dsimp only
        go_simp
        go_at_call 23
        refine (blocks_sb W (x 8) _ q8 (fun y hy => (HES.out y (HMEM.out y hy)).below hb) (fun y hy => HGD.out y (HMEM.out y hy)) HLE.out (HU.out.below hb) _ 0 HLR.out).mono ?_
        rintro r W2 ⟨A1, n1, c1, A2, n2, c2, A3, n3, c3, rfl, o1, o2, o3, bb⟩
        dsimp only at o1 o2 o3
        go_simp
        refine hK _ _ ?_
        try dsimp only
        rw [dm6, dm7, dm8, dm10, dm11, dm12, dm13, dm14, hdi']
        rw [dn8, dz14]
        exact ⟨(bstep hb bb), h6, fun _ k => (by cases k), fun _ k => (by cases k), fun _ _ => ⟨A1, n1, c1, A2, n2, c2, A3, n3, c3, rfl, o1.base_le hb.size, o2.base_le hb.size, o3.base_le hb.size⟩, fun _ => ⟨_, rfl⟩, fun k => absurd k (by rw [dz10]; simp), fun k => absurd k (by rw [dz11]; simp), h12, fun a _ => (h13 a dz14).below bb, fun k => (by cases k)⟩
      · obtain rfl := Option.some.inj ho
        have dm6 : d' 6 = d 6 := hdm 6 (by omega)
        have dm7 : d' 7 = d 7 := hdm 7 (by omega)
        have dm8 : d' 8 = d 8 := hdm 8 (by omega)
        have dm9 : d' 9 = d 9 := hdm 9 (by omega)
        have dm11 : d' 11 = d 11 := hdm 11 (by omega)
        have dm12 : d' 12 = d 12 := hdm 12 (by omega)
        have dm13 : d' 13 = d 13 := hdm 13 (by omega)
        have dm14 : d' 14 = d 14 := hdm 14 (by omega)
        have dn9 : d 9 = true := hdn 9 (by kernel_rfl)
        obtain ⟨hb, h6, h7, h8, h9, h90, h10, h11, h12, h13, h14⟩ := hB
        clear ho hd hdn hnd hcl hmm
        simp only [upd, reduceIte, Nat.reduceEqDiff] at hK
        try dsimp only
        go_simp
        refine hK _ _ ?_
        try dsimp only
        rw [dm6, dm7, dm8, dm9, dm11, dm12, dm13, dm14, hdi']
        exact ⟨hb, h6, h7, h8, h9, h90, fun _ => rfl, h11, h12, h13, h14⟩
      · obtain rfl := Option.some.inj ho
        have dm6 : d' 6 = d 6 := hdm 6 (by omega)
        have dm7 : d' 7 = d 7 := hdm 7 (by omega)
        have dm8 : d' 8 = d 8 := hdm 8 (by omega)
        have dm9 : d' 9 = d 9 := hdm 9 (by omega)
        have dm10 : d' 10 = d 10 := hdm 10 (by omega)
        have dm12 : d' 12 = d 12 := hdm 12 (by omega)
        have dm13 : d' 13 = d 13 := hdm 13 (by omega)
        have dm14 : d' 14 = d 14 := hdm 14 (by omega)
        have dn10 : d 10 = true := hdn 10 (by kernel_rfl)
        have dz14 : d 14 = false := hnd 14 (by kernel_rfl)
        have dn9 : d 9 = true := hcl 10 dn10 9 (by kernel_rfl)
        obtain ⟨hb, h6, h7, h8, h9, h90, h10, h11, h12, h13, h14⟩ := hB
        obtain ⟨a9, e9⟩ := h90 dn9
        have e10 := (h10 dn10).trans e9
        have E9 := Lib.hid e9
        clear e9 h10
        clear ho hd hdn hnd hcl hmm
        simp only [upd, reduceIte, Nat.reduceEqDiff, e10] at hK
        try dsimp only
        go_simp
        refine hK _ _ ?_
        try dsimp only
        rw [dm6, dm7, dm8, dm9, dm10, dm12, dm13, dm14, hdi']
        exact ⟨hb, h6, h7, h8, h9, h90, fun _ => E9.out.symm, fun _ => ⟨_, E9.out⟩, h12, h13, h14⟩
      · obtain rfl := Option.some.inj ho
        have dm6 : d' 6 = d 6 := hdm 6 (by omega)
        have dm7 : d' 7 = d 7 := hdm 7 (by omega)
        have dm8 : d' 8 = d 8 := hdm 8 (by omega)
        have dm9 : d' 9 = d 9 := hdm 9 (by omega)
        have dm10 : d' 10 = d 10 := hdm 10 (by omega)
        have dm11 : d' 11 = d 11 := hdm 11 (by omega)
        have dm13 : d' 13 = d 13 := hdm 13 (by omega)
        have dm14 : d' 14 = d 14 := hdm 14 (by omega)
        have dn10 : d 10 = true := hdn 10 (by kernel_rfl)
        have dn9 : d 9 = true := hcl 10 dn10 9 (by kernel_rfl)
        obtain ⟨hb, h6, h7, h8, h9, h90, h10, h11, h12, h13, h14⟩ := hB
        obtain ⟨a9, e9⟩ := h90 dn9
        have e10 := (h10 dn10).trans e9
        have E9 := Lib.hid e9
        clear e9 h10
        clear ho hd hdn hnd hcl hmm
        simp only [upd, reduceIte, Nat.reduceEqDiff, e10] at hK
        try dsimp only
        go_simp
        refine hK _ _ ?_
        try dsimp only
        rw [dm6, dm7, dm8, dm9, dm10, dm11, dm13, dm14, hdi']
        exact ⟨hb, h6, h7, h8, h9, h90, fun _ => E9.out.symm, h11, fun _ => rfl, h13, h14⟩
      · obtain rfl := Option.some.inj ho
        have dm6 : d' 6 = d 6 := hdm 6 (by omega)
        have dm7 : d' 7 = d 7 := hdm 7 (by omega)
        have dm8 : d' 8 = d 8 := hdm 8 (by omega)
        have dm9 : d' 9 = d 9 := hdm 9 (by omega)
        have dm10 : d' 10 = d 10 := hdm 10 (by omega)
        have dm11 : d' 11 = d 11 := hdm 11 (by omega)
        have dm12 : d' 12 = d 12 := hdm 12 (by omega)
        have dm14 : d' 14 = d 14 := hdm 14 (by omega)
        have dz14 : d 14 = false := hnd 14 (by kernel_rfl)
        obtain ⟨hb, h6, h7, h8, h9, h90, h10, h11, h12, h13, h14⟩ := hB
        clear ho hd hdn hnd hcl hmm
        simp only [upd, reduceIte, Nat.reduceEqDiff] at hK
        try dsimp only
        go_simp
        have bb := bel_alloc W (.cells #[.slice none 0 0, .slice none 0 0, .slice none 0 0, .int .i64 0, .int .i64 0, .bool false] 39)
        refine hK _ _ ?_
        try dsimp only
        rw [dm6, dm7, dm8, dm9, dm10, dm11, dm12, dm14, hdi']
        exact ⟨(bstep hb bb), h6, fun a b => (h7 a b).below (bb), fun a b => (h8 a b).below (bb), fun a b => (h9 a b).below (bb), h90, h10, h11, h12, fun _ _ => ⟨W.heap.size, rfl, hb.size, MgBox.new W _ _ _ _ _ _⟩, fun k => absurd k (by rw [dz14]; simp)⟩
      · obtain rfl := Option.some.inj ho
        have dm6 : d' 6 = d 6 := hdm 6 (by omega)
        have dm7 : d' 7 = d 7 := hdm 7 (by omega)
        have dm8 : d' 8 = d 8 := hdm 8 (by omega)
        have dm9 : d' 9 = d 9 := hdm 9 (by omega)
        have dm10 : d' 10 = d 10 := hdm 10 (by omega)
        have dm11 : d' 11 = d 11 := hdm 11 (by omega)
        have dm12 : d' 12 = d 12 := hdm 12 (by omega)
        have dm13 : d' 13 = d 13 := hdm 13 (by omega)
        have dn7 : d 7 = true := hdn 7 (by kernel_rfl)
        have dn8 : d 8 = true := hdn 8 (by kernel_rfl)
        have dn9 : d 9 = true := hdn 9 (by kernel_rfl)
        have dn11 : d 11 = true := hdn 11 (by kernel_rfl)
        have dn13 : d 13 = true := hdn 13 (by kernel_rfl)
        obtain ⟨hb, h6, h7, h8, h9, h90, h10, h11, h12, h13, h14⟩ := hB
        obtain ⟨A1, n1, c1, A2, n2, c2, A3, n3, c3, e9, o1, o2, o3⟩ := h9 dn9 hdi
        obtain ⟨e11, q11⟩ := h11 dn11
        rw [e9] at q11
        simp only [Value.tuple.injEq, Array.mk.injEq, List.cons.injEq, and_true] at q11
        have e11x := q11.1.symm
        obtain ⟨Y, e13, hy, hbx⟩ := h13 dn13 hdi
        have hst := mg_store (lost := lost2) (next := nx2) (opn := opn) hbx hy hb o1 o2 o3
        unfold mgA at e11x
        have E9 := Lib.hid e9
        clear e9 q11
        clear ho hd hdn hnd hcl hmm
        simp only [upd, reduceIte, Nat.reduceEqDiff, e11x, e13] at hK
        try dsimp only
        have f0 := hbx.frz 0
        have f1 := hbx.frz 1
        have f2 := hbx.frz 2
        have f3 := hbx.frz 3
        have f4 := hbx.frz 4
        have f5 := hbx.frz 5
        have g0 := hbx.c0
        have g1 := hbx.c1
        have g2 := hbx.c2
        have g3 := hbx.c3
        have g4 := hbx.c4
        have g5 := hbx.c5
        go_simp
        refine hK undef _ ?_
        try dsimp only
        rw [dm6, dm7, dm8, dm9, dm10, dm11, dm12, dm13, hdi']
        rw [dn7, dn8, dn9, dn13]
        exact ⟨hst.2, h6, fun _ k => (by cases k), fun _ k => (by cases k), fun _ k => (by cases k), fun _ => ⟨_, E9.out⟩, h10, fun _ => ⟨_, E9.out⟩, h12, fun _ k => (by cases k), fun _ => ⟨Y, A1, n1, c1, A2, n2, c2, A3, n3, c3, rfl, hst.1⟩⟩
      · exact absurd (show false = true from hmm) (by simp)
    case hend =>
      intro d x W hall hB hd
      have d13 := hall 13 (by omega)
      have d14 := hall 14 (by omega)
      have hfb := hB.2.2.2.2.2.2.2.2.2.2 d14
      have hbb := hB.1
      have ek := hd 15 (by omega) rfl
      clear hd hall hB d13 d14
      try dsimp only
      rw [ek]
      clear ek
      generalize x 0 = y0
      generalize x 1 = y1
      generalize x 2 = y2
      generalize x 3 = y3
      generalize x 4 = y4
      generalize x 5 = y5
      generalize x 6 = y6
      generalize x 7 = y7
      generalize x 8 = y8
      generalize x 9 = y9
      generalize x 10 = y10
      generalize x 11 = y11
      generalize x 12 = y12
      generalize x 13 = y13 at hfb ⊢
      go_wp2
      go_meet
      exact ⟨_, rfl, rfl, hfb, hbb⟩
  case rest =>
    obtain ⟨w9, rfl, rfl, ⟨Y, E1, m1, d1, E2, m2, d2, E3, m3, d3, rfl, hy⟩, b9⟩ := hcut
    obtain rfl : m2 = 0 := hy.et.nlen
    have hlb : 0 ≤ lost ∧ lost ≤ 1000 := by
      have := lostB_small (l := (bs.map Prod.snd) ++ [bkE nx]) (fun b hb => by
        rcases List.mem_append.1 hb with hb | hb
        · exact (HC.out.blk b hb).lost
        · simp only [List.mem_cons, List.not_mem_nil, or_false] at hb
          subst hb; exact ⟨Int.le_refl 0, show (0 : Int) ≤ 2 by omega⟩)
      rw [HLO.out, List.length_append, List.length_map, HP.out] at this
      simp at this
      omega
    have hw := HMW.out
    have hge : EV encE 11 wc (slV x.1) x.2.evs := HES.out x (List.mem_of_getElem? HXX.out)
    rcases HLS.out.way with ⟨e1, rfl, rfl, e2, e3⟩ | ⟨b, hb, rfl, rfl, e2, e3⟩
    · rw [List.length_map, HP.out] at e1
      rw [HLO.out] at e3
      subst e3
      have hxe : x = ((none, 0, 0), bkE nx) := by
        have := HXX.out
        unfold CutP.all at this
        rw [List.getElem?_append_right (by rw [HP.out]; omega), HP.out, e1, Nat.sub_self] at this
        exact (Option.some.inj this).symm
      subst hxe
      exact (‹∀ (a : Act) (w : World), Code.wp _ _ _ a w → _› : ∀ (a : Act) (w : World), _ → _) _ _ (lost_t9_end w w9 X Y GB n1 c1 c2 n3 c3 m1 d1 d2 m3 d3 A1 A2 A3 E1 E2 E3 vt (.slice none 0 0) R G G2 lost2 nx nx2 nx ⟨HMX.out.below b9, hy, HG.out.below b9, hge.below b9, HTV.out.below b9⟩ HT.out e2 HLS.out.fac hlb (bstep HB.out b9))
    · subst e2
      have hxe : x.2 = b := by
        have := HXX.out
        unfold CutP.all at this
        rw [List.getElem?_map] at hb
        obtain ⟨y, hy1, hy2⟩ := Option.map_eq_some_iff.1 hb
        rw [List.getElem?_append_left (List.getElem?_eq_some_iff.1 hy1).1, hy1] at this
        cases this
        exact hy2
      subst hxe
      have hcb := HC.out.blk x.2 (List.mem_of_getElem? hb)
      rw [HLO.out] at e3
      exact (‹∀ (a : Act) (w : World), Code.wp _ _ _ a w → _› : ∀ (a : Act) (w : World), _ → _) _ _ (lost_t9_mid w w9 X Y GB n1 c1 c2 n3 c3 m1 d1 d2 m3 d3 A1 A2 A3 E1 E2 E3 vt _ tr G G2 x.2 lost nx2 lost2 ⟨HMX.out.below b9, hy, HG.out.below b9, hge.below b9, HTV.out.below b9⟩ HT.out hcb.kind hcb.len.2 e3 hlb hcb.lost HLS.out.fac
        ⟨hw.can, hw.right, hw.has, hw.len.2, fun e he => by have := hw.srt.rng e he; omega⟩ (bstep HB.out b9))
end Go.Proofs.YtalophngappkhaaGreatDoor
