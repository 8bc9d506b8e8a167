/- MergeTwice: an event is changed. -/
import Derived.Test.YtalophngappkhaaGreatDoorMtb
import Derived.Test.YtalophngappkhaaGreatDoorZ29
import Derived.BigQuiet
set_option linter.unusedVariables false
set_option linter.unusedSimpArgs false
set_option linter.unusedSectionVars false
namespace Go.Proofs.YtalophngappkhaaGreatDoor
open Go Go.RowKit Go.Shelf
attribute [local go_sem] Oper.semAt_some

/-- All cells of a box are written. -/
theorem eb_store {W : World} {X : Nat} {e0 : Ev} (h : EB W X e0) (x : Ev) : EB (((((((((((W.setCell ⟨X, 0, none⟩ (.int .i64 x.seq)).setCell ⟨X, 1, none⟩ (.int .i64 x.time)).setCell ⟨X, 2, none⟩ (.int .u8 x.cpu)).setCell ⟨X, 3, none⟩ (.int .u8 x.kind)).setCell ⟨X, 4, none⟩ (.int .i64 x.task)).setCell ⟨X, 5, none⟩ (.int .i64 x.grp)).setCell ⟨X, 6, none⟩ (.int .i64 x.to)).setCell ⟨X, 7, none⟩ (.int .i64 x.wt)).setCell ⟨X, 8, none⟩ (.int .i64 x.ticks)).setCell ⟨X, 9, none⟩ (.int .u64 x.mask)).setCell ⟨X, 10, none⟩ (.int .i64 x.got)) X x ∧ Mod (fun k => k = X) W (((((((((((W.setCell ⟨X, 0, none⟩ (.int .i64 x.seq)).setCell ⟨X, 1, none⟩ (.int .i64 x.time)).setCell ⟨X, 2, none⟩ (.int .u8 x.cpu)).setCell ⟨X, 3, none⟩ (.int .u8 x.kind)).setCell ⟨X, 4, none⟩ (.int .i64 x.task)).setCell ⟨X, 5, none⟩ (.int .i64 x.grp)).setCell ⟨X, 6, none⟩ (.int .i64 x.to)).setCell ⟨X, 7, none⟩ (.int .i64 x.wt)).setCell ⟨X, 8, none⟩ (.int .i64 x.ticks)).setCell ⟨X, 9, none⟩ (.int .u64 x.mask)).setCell ⟨X, 10, none⟩ (.int .i64 x.got)) := by
  have h0 := (h).set 0 (.int .i64 x.seq) ({ e0 with seq := x.seq }) rfl
  have h1 := (h0).set 1 (.int .i64 x.time) ({ { e0 with seq := x.seq } with time := x.time }) rfl
  have h2 := (h1).set 2 (.int .u8 x.cpu) ({ { { e0 with seq := x.seq } with time := x.time } with cpu := x.cpu }) rfl
  have h3 := (h2).set 3 (.int .u8 x.kind) ({ { { { e0 with seq := x.seq } with time := x.time } with cpu := x.cpu } with kind := x.kind }) rfl
  have h4 := (h3).set 4 (.int .i64 x.task) ({ { { { { e0 with seq := x.seq } with time := x.time } with cpu := x.cpu } with kind := x.kind } with task := x.task }) rfl
  have h5 := (h4).set 5 (.int .i64 x.grp) ({ { { { { { e0 with seq := x.seq } with time := x.time } with cpu := x.cpu } with kind := x.kind } with task := x.task } with grp := x.grp }) rfl
  have h6 := (h5).set 6 (.int .i64 x.to) ({ { { { { { { e0 with seq := x.seq } with time := x.time } with cpu := x.cpu } with kind := x.kind } with task := x.task } with grp := x.grp } with «to» := x.to }) rfl
  have h7 := (h6).set 7 (.int .i64 x.wt) ({ { { { { { { { e0 with seq := x.seq } with time := x.time } with cpu := x.cpu } with kind := x.kind } with task := x.task } with grp := x.grp } with «to» := x.to } with wt := x.wt }) rfl
  have h8 := (h7).set 8 (.int .i64 x.ticks) ({ { { { { { { { { e0 with seq := x.seq } with time := x.time } with cpu := x.cpu } with kind := x.kind } with task := x.task } with grp := x.grp } with «to» := x.to } with wt := x.wt } with ticks := x.ticks }) rfl
  have h9 := (h8).set 9 (.int .u64 x.mask) ({ { { { { { { { { { e0 with seq := x.seq } with time := x.time } with cpu := x.cpu } with kind := x.kind } with task := x.task } with grp := x.grp } with «to» := x.to } with wt := x.wt } with ticks := x.ticks } with mask := x.mask }) rfl
  have h10 := (h9).set 10 (.int .i64 x.got) ({ { { { { { { { { { { e0 with seq := x.seq } with time := x.time } with cpu := x.cpu } with kind := x.kind } with task := x.task } with grp := x.grp } with «to» := x.to } with wt := x.wt } with ticks := x.ticks } with mask := x.mask } with got := x.got }) rfl
  refine ⟨⟨h10.cell⟩, ?_⟩
  exact (((((((((((Mod.setCell (a := W) (p := ⟨X, 0, none⟩) (T := fun k => k = X) (.int .i64 x.seq) rfl).trans (Mod.setCell (p := ⟨X, 1, none⟩) (T := fun k => k = X) (.int .i64 x.time) rfl)).trans (Mod.setCell (p := ⟨X, 2, none⟩) (T := fun k => k = X) (.int .u8 x.cpu) rfl)).trans (Mod.setCell (p := ⟨X, 3, none⟩) (T := fun k => k = X) (.int .u8 x.kind) rfl)).trans (Mod.setCell (p := ⟨X, 4, none⟩) (T := fun k => k = X) (.int .i64 x.task) rfl)).trans (Mod.setCell (p := ⟨X, 5, none⟩) (T := fun k => k = X) (.int .i64 x.grp) rfl)).trans (Mod.setCell (p := ⟨X, 6, none⟩) (T := fun k => k = X) (.int .i64 x.to) rfl)).trans (Mod.setCell (p := ⟨X, 7, none⟩) (T := fun k => k = X) (.int .i64 x.wt) rfl)).trans (Mod.setCell (p := ⟨X, 8, none⟩) (T := fun k => k = X) (.int .i64 x.ticks) rfl)).trans (Mod.setCell (p := ⟨X, 9, none⟩) (T := fun k => k = X) (.int .u64 x.mask) rfl)).trans (Mod.setCell (p := ⟨X, 10, none⟩) (T := fun k => k = X) (.int .i64 x.got) rfl))
/-- All cells of an event in a row are written. -/
theorem ov_store {base g n cap i : Nat} {t : TypeId} {W : World} {xs : List Ev} {e0 : Ev} (h : OV encE 11 t base W (.slice (some ⟨g, 0, none⟩) n cap) xs) (hn : xs.length = n) (hi : xs[i]? = some e0) (x : Ev) :
    OV encE 11 t base (((((((((((W.setCell ⟨g, i * 11 + 0, none⟩ (.int .i64 x.seq)).setCell ⟨g, i * 11 + 1, none⟩ (.int .i64 x.time)).setCell ⟨g, i * 11 + 2, none⟩ (.int .u8 x.cpu)).setCell ⟨g, i * 11 + 3, none⟩ (.int .u8 x.kind)).setCell ⟨g, i * 11 + 4, none⟩ (.int .i64 x.task)).setCell ⟨g, i * 11 + 5, none⟩ (.int .i64 x.grp)).setCell ⟨g, i * 11 + 6, none⟩ (.int .i64 x.to)).setCell ⟨g, i * 11 + 7, none⟩ (.int .i64 x.wt)).setCell ⟨g, i * 11 + 8, none⟩ (.int .i64 x.ticks)).setCell ⟨g, i * 11 + 9, none⟩ (.int .u64 x.mask)).setCell ⟨g, i * 11 + 10, none⟩ (.int .i64 x.got)) (.slice (some ⟨g, 0, none⟩) n cap) (xs.set i x) ∧ W.grownBy (((((((((((W.setCell ⟨g, i * 11 + 0, none⟩ (.int .i64 x.seq)).setCell ⟨g, i * 11 + 1, none⟩ (.int .i64 x.time)).setCell ⟨g, i * 11 + 2, none⟩ (.int .u8 x.cpu)).setCell ⟨g, i * 11 + 3, none⟩ (.int .u8 x.kind)).setCell ⟨g, i * 11 + 4, none⟩ (.int .i64 x.task)).setCell ⟨g, i * 11 + 5, none⟩ (.int .i64 x.grp)).setCell ⟨g, i * 11 + 6, none⟩ (.int .i64 x.to)).setCell ⟨g, i * 11 + 7, none⟩ (.int .i64 x.wt)).setCell ⟨g, i * 11 + 8, none⟩ (.int .i64 x.ticks)).setCell ⟨g, i * 11 + 9, none⟩ (.int .u64 x.mask)).setCell ⟨g, i * 11 + 10, none⟩ (.int .i64 x.got)) (some g) := by
  have hil := (List.getElem?_eq_some_iff.1 hi).1
  obtain ⟨o0, g0⟩ := OV.setF encE_len h hn (i := i) (j := 0) hi (by omega) ({ e0 with seq := x.seq }) (.int .i64 x.seq) rfl
  obtain ⟨o1, g1⟩ := OV.setF encE_len o0 (by rw [List.length_set]; exact hn) (i := i) (j := 1) (show (xs.set i ({ e0 with seq := x.seq }))[i]? = some ({ e0 with seq := x.seq }) by rw [List.getElem?_set, if_pos rfl, if_pos hil]) (by omega) ({ { e0 with seq := x.seq } with time := x.time }) (.int .i64 x.time) rfl
  rw [List.set_set] at o1
  obtain ⟨o2, g2⟩ := OV.setF encE_len o1 (by rw [List.length_set]; exact hn) (i := i) (j := 2) (show (xs.set i ({ { e0 with seq := x.seq } with time := x.time }))[i]? = some ({ { e0 with seq := x.seq } with time := x.time }) by rw [List.getElem?_set, if_pos rfl, if_pos hil]) (by omega) ({ { { e0 with seq := x.seq } with time := x.time } with cpu := x.cpu }) (.int .u8 x.cpu) rfl
  rw [List.set_set] at o2
  obtain ⟨o3, g3⟩ := OV.setF encE_len o2 (by rw [List.length_set]; exact hn) (i := i) (j := 3) (show (xs.set i ({ { { e0 with seq := x.seq } with time := x.time } with cpu := x.cpu }))[i]? = some ({ { { e0 with seq := x.seq } with time := x.time } with cpu := x.cpu }) by rw [List.getElem?_set, if_pos rfl, if_pos hil]) (by omega) ({ { { { e0 with seq := x.seq } with time := x.time } with cpu := x.cpu } with kind := x.kind }) (.int .u8 x.kind) rfl
  rw [List.set_set] at o3
  obtain ⟨o4, g4⟩ := OV.setF encE_len o3 (by rw [List.length_set]; exact hn) (i := i) (j := 4) (show (xs.set i ({ { { { e0 with seq := x.seq } with time := x.time } with cpu := x.cpu } with kind := x.kind }))[i]? = some ({ { { { e0 with seq := x.seq } with time := x.time } with cpu := x.cpu } with kind := x.kind }) by rw [List.getElem?_set, if_pos rfl, if_pos hil]) (by omega) ({ { { { { e0 with seq := x.seq } with time := x.time } with cpu := x.cpu } with kind := x.kind } with task := x.task }) (.int .i64 x.task) rfl
  rw [List.set_set] at o4
  obtain ⟨o5, g5⟩ := OV.setF encE_len o4 (by rw [List.length_set]; exact hn) (i := i) (j := 5) (show (xs.set i ({ { { { { e0 with seq := x.seq } with time := x.time } with cpu := x.cpu } with kind := x.kind } with task := x.task }))[i]? = some ({ { { { { e0 with seq := x.seq } with time := x.time } with cpu := x.cpu } with kind := x.kind } with task := x.task }) by rw [List.getElem?_set, if_pos rfl, if_pos hil]) (by omega) ({ { { { { { e0 with seq := x.seq } with time := x.time } with cpu := x.cpu } with kind := x.kind } with task := x.task } with grp := x.grp }) (.int .i64 x.grp) rfl
  rw [List.set_set] at o5
  obtain ⟨o6, g6⟩ := OV.setF encE_len o5 (by rw [List.length_set]; exact hn) (i := i) (j := 6) (show (xs.set i ({ { { { { { e0 with seq := x.seq } with time := x.time } with cpu := x.cpu } with kind := x.kind } with task := x.task } with grp := x.grp }))[i]? = some ({ { { { { { e0 with seq := x.seq } with time := x.time } with cpu := x.cpu } with kind := x.kind } with task := x.task } with grp := x.grp }) by rw [List.getElem?_set, if_pos rfl, if_pos hil]) (by omega) ({ { { { { { { e0 with seq := x.seq } with time := x.time } with cpu := x.cpu } with kind := x.kind } with task := x.task } with grp := x.grp } with «to» := x.to }) (.int .i64 x.to) rfl
  rw [List.set_set] at o6
  obtain ⟨o7, g7⟩ := OV.setF encE_len o6 (by rw [List.length_set]; exact hn) (i := i) (j := 7) (show (xs.set i ({ { { { { { { e0 with seq := x.seq } with time := x.time } with cpu := x.cpu } with kind := x.kind } with task := x.task } with grp := x.grp } with «to» := x.to }))[i]? = some ({ { { { { { { e0 with seq := x.seq } with time := x.time } with cpu := x.cpu } with kind := x.kind } with task := x.task } with grp := x.grp } with «to» := x.to }) by rw [List.getElem?_set, if_pos rfl, if_pos hil]) (by omega) ({ { { { { { { { e0 with seq := x.seq } with time := x.time } with cpu := x.cpu } with kind := x.kind } with task := x.task } with grp := x.grp } with «to» := x.to } with wt := x.wt }) (.int .i64 x.wt) rfl
  rw [List.set_set] at o7
  obtain ⟨o8, g8⟩ := OV.setF encE_len o7 (by rw [List.length_set]; exact hn) (i := i) (j := 8) (show (xs.set i ({ { { { { { { { e0 with seq := x.seq } with time := x.time } with cpu := x.cpu } with kind := x.kind } with task := x.task } with grp := x.grp } with «to» := x.to } with wt := x.wt }))[i]? = some ({ { { { { { { { e0 with seq := x.seq } with time := x.time } with cpu := x.cpu } with kind := x.kind } with task := x.task } with grp := x.grp } with «to» := x.to } with wt := x.wt }) by rw [List.getElem?_set, if_pos rfl, if_pos hil]) (by omega) ({ { { { { { { { { e0 with seq := x.seq } with time := x.time } with cpu := x.cpu } with kind := x.kind } with task := x.task } with grp := x.grp } with «to» := x.to } with wt := x.wt } with ticks := x.ticks }) (.int .i64 x.ticks) rfl
  rw [List.set_set] at o8
  obtain ⟨o9, g9⟩ := OV.setF encE_len o8 (by rw [List.length_set]; exact hn) (i := i) (j := 9) (show (xs.set i ({ { { { { { { { { e0 with seq := x.seq } with time := x.time } with cpu := x.cpu } with kind := x.kind } with task := x.task } with grp := x.grp } with «to» := x.to } with wt := x.wt } with ticks := x.ticks }))[i]? = some ({ { { { { { { { { e0 with seq := x.seq } with time := x.time } with cpu := x.cpu } with kind := x.kind } with task := x.task } with grp := x.grp } with «to» := x.to } with wt := x.wt } with ticks := x.ticks }) by rw [List.getElem?_set, if_pos rfl, if_pos hil]) (by omega) ({ { { { { { { { { { e0 with seq := x.seq } with time := x.time } with cpu := x.cpu } with kind := x.kind } with task := x.task } with grp := x.grp } with «to» := x.to } with wt := x.wt } with ticks := x.ticks } with mask := x.mask }) (.int .u64 x.mask) rfl
  rw [List.set_set] at o9
  obtain ⟨o10, g10⟩ := OV.setF encE_len o9 (by rw [List.length_set]; exact hn) (i := i) (j := 10) (show (xs.set i ({ { { { { { { { { { e0 with seq := x.seq } with time := x.time } with cpu := x.cpu } with kind := x.kind } with task := x.task } with grp := x.grp } with «to» := x.to } with wt := x.wt } with ticks := x.ticks } with mask := x.mask }))[i]? = some ({ { { { { { { { { { e0 with seq := x.seq } with time := x.time } with cpu := x.cpu } with kind := x.kind } with task := x.task } with grp := x.grp } with «to» := x.to } with wt := x.wt } with ticks := x.ticks } with mask := x.mask }) by rw [List.getElem?_set, if_pos rfl, if_pos hil]) (by omega) ({ { { { { { { { { { { e0 with seq := x.seq } with time := x.time } with cpu := x.cpu } with kind := x.kind } with task := x.task } with grp := x.grp } with «to» := x.to } with wt := x.wt } with ticks := x.ticks } with mask := x.mask } with got := x.got }) (.int .i64 x.got) rfl
  rw [List.set_set] at o10
  exact ⟨o10, (((((((((g0.trans g1).trans g2).trans g3).trans g4).trans g5).trans g6).trans g7).trans g8).trans g9).trans g10⟩
theorem EB.below {W W' : World} {X : Nat} {e : Ev} (h : EB W X e) (hb : Below W.heap.size W W') : EB W' X e := ⟨(hb.block X (Array.getElem?_eq_some_iff.1 h.cell).1).trans h.cell⟩
theorem EB.lt {W : World} {X : Nat} {e : Ev} (h : EB W X e) : X < W.heap.size := (Array.getElem?_eq_some_iff.1 h.cell).1
/-- What is known ahead of the change. -/
structure TwW (w0 wc : World) (BB cb co p cc g m cap i : Nat) (bs : List (Sl3 × Bck)) (nx : Int) (b : Bck) (e : Ev) : Prop where
  ev : EV encSb 5 w0 (.slice (some ⟨cb, co, none⟩) (p + 1) cc) (CutP.all bs nx)
  evs : ∀ y ∈ CutP.all bs nx, EV encE 11 w0 (slV y.1) y.2.evs
  la : LaidAt w0
  bel : Below w0.heap.size w0 wc
  box : BkBox wc BB b (.slice (some ⟨g, 0, none⟩) m cap)
  own : OV encE 11 28 w0.heap.size wc (.slice (some ⟨g, 0, none⟩) m cap) b.evs
  len : b.evs.length = m
  at_ : b.evs[i]? = some e
theorem TwW.below {w0 wc w' : World} {BB cb co p cc g m cap i : Nat} {bs : List (Sl3 × Bck)} {nx : Int} {b : Bck} {e : Ev} (h : TwW w0 wc BB cb co p cc g m cap i bs nx b e) (hb : Below wc.heap.size wc w') : TwW w0 w' BB cb co p cc g m cap i bs nx b e :=
  ⟨h.ev, h.evs, h.la, bstep h.bel hb, h.box.below hb, h.own.below hb, h.len, h.at_⟩
set_option maxRecDepth 100000 in
set_option maxHeartbeats 6400000 in
theorem twice_t25 (w w0 wc : World) (BB X cb co p cc g m cap i : Nat) (tr : List Ev) (bs : List (Sl3 × Bck)) (b : Bck) (e x : Ev) (nx : Int) {u0 u1 u2 u3 u4 u5 u6 u7 u8 u9 u11 u12 u13 u14 u15 u16 u17 u18 u22 u23 u24 u25 u26 u27 u28 u29 u30 u31 u32 u33 u34 u35 u36 u37 u38 u39 u40 u41 u42 u43 u44 u45 u46 u47 u48 u49 u50 u51 u52 u53 u54 u55 u56 u57 u58 u59 u60 u61 u62 u63 u64 u65 u66 u67 u68 u69 u70 u71 u72 u73 u74 u75 u76 u77 u78 u79 u80 u81 u82 u83 u84 u85 u86 u87 u88 u89 u90 u91 u92 u93 u94 u95 u96 u97 u98 u99 u100 u101 u102 u103 u104 u105 u106 u107 u108 u109 u110 u111 u112 u113 u114 u115 u116 u117 u118 u119 u120 u121 u122 u123 u124 u125 u126 u127 u128 u129 u130 u131 u132 u133 u134 u135 u136 u137 u138 u139 u140 u141 u142 u143 u144 u145 u146 u147 u148 u149 u150 u151 u152 u153 u154 u155 u156 u157 u158 u159 u160 u161 u162 u163 u164 u165 : Value}
    (hT : Tr tr) (hL : (CutP.all bs nx).length = p + 1 ∧ p ≤ 40) (hC : CutR tr (bs.map Prod.snd) nx) (h : TwW w0 wc BB cb co p cc g m cap i bs nx b e) (hbm : b ∈ bs.map Prod.snd) (hc : Chg1 b i e x) (hx : EB wc X x) (him : i < m) (hm : m ≤ 6) (hb : Below w.heap.size w w0) :
    Code.wp Tryz.prog (tailR Tryz.f10 25) (bodyPost Tryz.prog Tryz.f10 fun r w' => r = .returned (.bool true) ∧ Below w.heap.size w w')
      ⟨#[u0, u1, u2, u3, u4, u5, u6, u7, u8, u9, .slice (some ⟨cb, co, none⟩) (p + 1) cc, u11, u12, u13, u14, u15, u16, u17, u18, .pointer (some ⟨BB, 0, none⟩), .int .i64 (i : Nat), .pointer (some ⟨X, 0, none⟩), u22, u23, u24, u25, u26, u27, u28, u29, u30, u31, u32, u33, u34, u35, u36, u37, u38, u39, u40, u41, u42, u43, u44, u45, u46, u47, u48, u49, u50, u51, u52, u53, u54, u55, u56, u57, u58, u59, u60, u61, u62, u63, u64, u65, u66, u67, u68, u69, u70, u71, u72, u73, u74, u75, u76, u77, u78, u79, u80, u81, u82, u83, u84, u85, u86, u87, u88, u89, u90, u91, u92, u93, u94, u95, u96, u97, u98, u99, u100, u101, u102, u103, u104, u105, u106, u107, u108, u109, u110, u111, u112, u113, u114, u115, u116, u117, u118, u119, u120, u121, u122, u123, u124, u125, u126, u127, u128, u129, u130, u131, u132, u133, u134, u135, u136, u137, u138, u139, u140, u141, u142, u143, u144, u145, u146, u147, u148, u149, u150, u151, u152, u153, u154, u155, u156, u157, u158, u159, u160, u161, u162, u163, u164, u165], []⟩ wc := by
  conv => arg 2; whnf
  conv => arg 4; dsimp only
  have HT := Lib.hid hT
  have HL := Lib.hid hL
  have HC := Lib.hid hC
  have H := Lib.hid h
  have HBM := Lib.hid hbm
  have HCH := Lib.hid hc
  have HB := Lib.hid hb
  have HX := Lib.hid hx
  have c4 := h.box.c4
  have x0 := hx.c 0 _ rfl
  have x1 := hx.c 1 _ rfl
  have x2 := hx.c 2 _ rfl
  have x3 := hx.c 3 _ rfl
  have x4 := hx.c 4 _ rfl
  have x5 := hx.c 5 _ rfl
  have x6 := hx.c 6 _ rfl
  have x7 := hx.c 7 _ rfl
  have x8 := hx.c 8 _ rfl
  have x9 := hx.c 9 _ rfl
  have x10 := hx.c 10 _ rfl
  obtain ⟨b1, o1, cp1, hs1, hcp, hr1⟩ := (h.own.ev encE_len).row (by rw [h.len]; omega)
  simp only [Value.slice.injEq, Option.some.injEq, Addr.mk.injEq, and_true] at hs1
  obtain ⟨⟨rfl, rfl⟩, _, rfl⟩ := hs1
  obtain ⟨g0, g1, g2, g3, g4, g5, g6, g7, g8, g9, g10⟩ := hr1.ev h.at_
  simp only [Nat.zero_add] at g0 g1 g2 g3 g4 g5 g6 g7 g8 g9 g10
  have hfz : ∀ k, wc.frozen? ⟨g, k, none⟩ = false := fun k => by
    obtain ⟨_, hrow⟩ := h.own
    rcases hrow with ⟨h0, _⟩ | ⟨g', cap', cur, h0, _, hg, _⟩
    · cases h0
    · simp only [Value.slice.injEq, Option.some.injEq, Addr.mk.injEq, and_true] at h0
      obtain ⟨rfl, _⟩ := h0
      exact frozen_of_row wc g k _ _ hg
  have f0 := hfz (i * 11)
  have f1 := hfz (i * 11 + 1)
  have f2 := hfz (i * 11 + 2)
  have f3 := hfz (i * 11 + 3)
  have f4 := hfz (i * 11 + 4)
  have f5 := hfz (i * 11 + 5)
  have f6 := hfz (i * 11 + 6)
  have f7 := hfz (i * 11 + 7)
  have f8 := hfz (i * 11 + 8)
  have f9 := hfz (i * 11 + 9)
  have f10 := hfz (i * 11 + 10)
  have hst := ov_store h.own h.len h.at_ x
  simp only [Nat.add_zero] at hst
  have HST := Lib.hid hst
  have hgb := (h.own.block g rfl).1
  have HGB := Lib.hid hgb
  clear hT hL hC h hbm hc hx hb hr1 hcp hfz hst hgb
  apply wp_seq_k
  intro K0 hK0
  go_cut [] (fun wz => ∃ wq, wq = wz ∧ OV encE 11 28 w0.heap.size wq (.slice (some ⟨g, 0, none⟩) m cap) (b.evs.set i x) ∧ wc.grownBy wq (some g))
  case first =>
    go_wp2
    go_meet
    exact ⟨_, rfl, HST.out⟩
  case rest =>
    obtain ⟨w1, rfl, ho, hg⟩ := hcut
    have hh := H.out
    have hb1 : Below w0.heap.size w0 w1 := hh.bel.grown hg hh.bel.size (fun k e => by cases e; exact HGB.out)
    have hne : g ≠ BB := fun e => by
      subst e
      obtain ⟨_, hrow⟩ := hh.own
      rcases hrow with ⟨h0, _⟩ | ⟨g', cap', cur, h0, _, hg', _⟩
      · cases h0
      · simp only [Value.slice.injEq, Option.some.injEq, Addr.mk.injEq, and_true] at h0
        obtain ⟨rfl, _⟩ := h0
        rw [hh.box.cell] at hg'
        cases hg'
    have hbox : BkBox w1 BB (setB b i x) (slV (some ⟨g, 0, none⟩, m, cap)) := ⟨(hh.box.grown hg (fun e => hne (Option.some.inj e))).cell⟩
    exact (‹∀ (a : Act) (w : World), Code.wp _ _ _ a w → _› : ∀ (a : Act) (w : World), _ → _) _ _ (twice_t26 w w1 BB cb co p cc (some ⟨g, 0, none⟩, m, cap) tr bs b i e x nx HT.out HL.out HC.out (hh.ev.below hb1) (fun y hy => (hh.evs y hy).below hb1) HBM.out HCH.out hbox (ho.ev encE_len) (hh.la.below hb1) (bstep HB.out hb1))
end Go.Proofs.YtalophngappkhaaGreatDoor
