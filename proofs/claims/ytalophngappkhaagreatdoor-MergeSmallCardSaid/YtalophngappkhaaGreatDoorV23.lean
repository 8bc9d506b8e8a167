/- MergeSmall, plain: 65535 picks in a row, one list and two; 4096 blocks that are ends, and one more | MergeSmall: the tail of many that compares | MergeSmall: many from the first merge.Blocks on | MergeSmall: a slice of blocks that make makes | MergeSmall: a block is stored into a row of blocks; the ends that many makes | MergeSmall: many from the make of the ends on | MergeSmall: many. -/
import Derived.Test.YtalophngappkhaaGreatDoorV22
set_option linter.unusedVariables false
set_option linter.unusedSimpArgs false
set_option linter.unusedSectionVars false
namespace Go.Proofs.YtalophngappkhaaGreatDoor
open Go Go.RowKit Go.Shelf

/-- Pick number i of many. -/
def pk (i : Nat) : Ev := pickE (1 + (i : Int)) ((i : Int) % 64)
def manyE (n : Nat) : List Ev := (List.range n).map pk
theorem manyE_len (n : Nat) : (manyE n).length = n := by unfold manyE; simp
theorem manyE_snoc (n : Nat) : manyE (n + 1) = manyE n ++ [pk n] := by unfold manyE; rw [List.range_succ, List.map_append]; rfl
theorem pk_ok {i : Nat} (h : i < 65535) : EvOk (pk i) := pick_evok (by omega) (by omega)
theorem manyE_ok {n : Nat} (h : n ≤ 65535) : ∀ e ∈ manyE n, EvOk e := by
 intro e he
 unfold manyE at he
 obtain ⟨i, hi, rfl⟩ := List.mem_map.1 he
 exact pk_ok (by have := List.mem_range.1 hi; omega)
theorem pick_chk {n c : Int} (h : 1 ≤ n ∧ n ≤ 281474976710656) (hc : c < 64) : chkEv (pickE n c) = 0 := by
 unfold chkEv pickE
 dsimp only
 rw [if_neg (by omega), if_neg (by omega), if_neg (by simp [usesK, withinE]), if_neg (by simp [usesK, fieldV, List.range, List.range.loop])]
theorem manyE_row {n : Nat} (h : n ≤ 65535) : RowM (manyE n) := by
 refine RowM.of ?_ ?_
 ·intro e he
  unfold manyE at he
  obtain ⟨i, hi, rfl⟩ := List.mem_map.1 he
  have := List.mem_range.1 hi
  exact pick_chk (by omega) (by omega)
 ·exact manyE_srt n
where
 manyE_srt (n : Nat) : (manyE n).Pairwise (fun a b => a.seq < b.seq) := by
  unfold manyE
  rw [List.pairwise_map]
  refine List.pairwise_lt_range.imp ?_
  intro a b hab
  show 1 + (a : Int) < 1 + (b : Int)
  omega
theorem rows_many {va : Value} {N : Nat} (hN : N ≤ 65535) {R : List Ev} {T : List Int} {c : Int} (h : RowsRes [(va, manyE N)] R T c) : c = 0 ∧ R.length = N ∧ T = [] := by
 have hr := manyE_row hN
 rcases h with ⟨h, _⟩ | ⟨_, h⟩
 ·exact absurd (fun x hx => by rw [List.mem_singleton.1 hx]; exact hr) h
 ·have hf : flatR [(va, manyE N)] = manyE N := by unfold flatR; simp
  rw [hf] at h
  obtain ⟨h1, h2, h3⟩ := h.unique (join_perm (List.Perm.refl _) hr.srt (by rw [manyE_len]; exact hN))
  exact ⟨h3, by rw [h1, manyE_len], h2⟩
theorem rows_many2 {va vb : Value} {N : Nat} (hN : N = 65535) {R : List Ev} {T : List Int} {c : Int} (h : RowsRes [(va, manyE N), (vb, manyE 1)] R T c) : c = 5 := by
 have hr := manyE_row (n := N) (by omega)
 have hr1 := manyE_row (n := 1) (by omega)
 have hf : (flatR [(va, manyE N), (vb, manyE 1)]).length = N + 1 := by
  unfold flatR
  simp [manyE_len]
 rcases h with ⟨h, _⟩ | ⟨_, h⟩
 ·refine absurd (fun x hx => ?_) h
  rcases List.mem_cons.1 hx with rfl | hx
  ·exact hr
  ·rw [List.mem_singleton.1 hx]; exact hr1
 ·rcases h with ⟨_, h, _⟩ | ⟨h, _⟩ | ⟨h, _⟩
  ·exact h
  ·omega
  ·omega
/-- The ends with Next 1, 2, .. -/
def endL (n : Nat) : List Bck := (List.range n).map fun (i : Nat) => bkE (1 + (i : Int))
theorem endL_len (n : Nat) : (endL n).length = n := by unfold endL; simp
theorem endL_snoc (n : Nat) : endL (n + 1) = endL n ++ [bkE (1 + (n : Int))] := by unfold endL; rw [List.range_succ, List.map_append]; rfl
theorem endL_end : ∀ n, endB (endL n) = (n : Int)
 | 0 => rfl
 | n + 1 => by
  rw [endL_snoc, endB_snoc, endL_end n]
  show max (n : Int) (1 + (n : Int)) = _
  omega
theorem endL_evs (n : Nat) : (endL n).flatMap Bck.evs = [] := by
 rw [List.flatMap_eq_nil_iff]
 intro b hb
 unfold endL at hb
 obtain ⟨i, _, rfl⟩ := List.mem_map.1 hb
 rfl
theorem endL_ok {n : Nat} (h : n ≤ 5000) : ∀ b ∈ endL n, BlkOk b ∧ chkB b = 0 := by
 intro b hb
 unfold endL at hb
 obtain ⟨i, hi, rfl⟩ := List.mem_map.1 hb
 have := List.mem_range.1 hi
 exact bkE_ok (by omega) (by omega)
theorem ends_mrg {N : Nat} (hN : N ≤ 4096) (h1 : 1 ≤ N) {m : Mg} {c : Int} (h : MrgRes (endL N) m c) : c = 0 ∧ m.next = (N : Int) ∧ m.opn = false := by
 obtain ⟨hc, hm⟩ := mrg_of h (by rw [endL_len]; exact hN) (fun b hb => (endL_ok (by omega) b hb).2) (R := []) (T := []) (by rw [endL_evs]; exact join_perm (List.Perm.refl _) List.Pairwise.nil (Nat.zero_le _))
 subst hm
 have e : max (nxtS []) (endB (endL N)) = (N : Int) := by rw [endL_end]; show max (1 : Int) (N : Int) = _; omega
 refine ⟨hc, ?_, ?_⟩
 ·unfold mgOf; exact e
 ·unfold mgOf
  dsimp only
  rw [e, endL_end]
  simp
theorem ends_many {N : Nat} (hN : 4096 < N) {m : Mg} {c : Int} (h : MrgRes (endL N) m c) : c = 5 := by
 have := endL_len N
 rcases h with ⟨_, h, _⟩ | ⟨h, _⟩ | ⟨h, _⟩
 ·exact h
 ·omega
 ·omega
end Go.Proofs.YtalophngappkhaaGreatDoor
namespace Go.Proofs.YtalophngappkhaaGreatDoor
open Go Go.RowKit Go.Shelf
attribute [local go_sem] Oper.semAt_some
set_option maxRecDepth 100000 in
set_option maxHeartbeats 3200000 in
theorem many_t17 (w wA : World) (P : Nat) (A3 A4 : Option Addr) (n3 c3 c4 : Nat) {u0 u1 u2 u6 u7 u9 u10 u13 u15 u16 u17 u18 u19 u20 u21 u22 u23 u24 u25 u26 u27 u28 u29 u30 u31 u32 u33 u34 u35 u36 u37 u38 u39 u40 u41 u42 u43 u44 u45 u46 u47 u48 u49 u50 u51 u52 u53 u54 u55 u56 u57 u58 u59 u60 u61 u62 u63 u64 u65 u66 u67 u68 u69 u70 u71 u72 u73 u74 u75 u76 u77 u78 u79 u80 u81 u82 u83 u84 u85 u86 u87 u88 u89 u90 u91 u92 u93 u94 u95 u96 u97 u98 u99 : Value} (hn : n3 = 65535) (h4 : wA.cell? ⟨P, 4, none⟩ = some (.int .i64 4096)) (h5 : wA.cell? ⟨P, 5, none⟩ = some (.bool false)) (hb : Below w.heap.size w wA) :
  Code.wp Tryz.prog (tailR Tryz.f18 17) (bodyPost Tryz.prog Tryz.f18 fun r w' => r = .returned (.bool true) ∧ Below w.heap.size w w')
   ⟨#[u0, u1, u2, .slice A3 n3 c3, .slice A4 0 c4, .int .i64 0, u6, u7, .int .i64 5, u9, u10, .pointer (some ⟨P, 0, none⟩), .int .i64 0, u13, .int .i64 5, u15, u16, u17, u18, u19, u20, u21, u22, u23, u24, u25, u26, u27, u28, u29, u30, u31, u32, u33, u34, u35, u36, u37, u38, u39, u40, u41, u42, u43, u44, u45, u46, u47, u48, u49, u50, u51, u52, u53, u54, u55, u56, u57, u58, u59, u60, u61, u62, u63, u64, u65, u66, u67, u68, u69, u70, u71, u72, u73, u74, u75, u76, u77, u78, u79, u80, u81, u82, u83, u84, u85, u86, u87, u88, u89, u90, u91, u92, u93, u94, u95, u96, u97, u98, u99], []⟩ wA := by
 conv => arg 2; whnf
 conv => arg 4; dsimp only
 have HB := Lib.hid hb
 have HN := Lib.hid (show (n3 : Int) = 65535 by omega)
 clear hb hn
 go_wp2
 go_ret
 exact ⟨rfl, HB.out⟩
end Go.Proofs.YtalophngappkhaaGreatDoor
namespace Go.Proofs.YtalophngappkhaaGreatDoor
open Go Go.RowKit Go.Shelf
attribute [local go_sem] Oper.semAt_some
theorem flat_ends {l : List (Value × Bck)} {n : Nat} (h : l.map Prod.snd = endL n) : flatR (rowsB l) = [] := by
 rw [flat_rows, h, endL_evs]
theorem endL_take {n m : Nat} (h : m ≤ n) : (endL n).take m = endL m := by
 unfold endL
 rw [← List.map_take, List.take_range, Nat.min_eq_left h]
set_option maxRecDepth 100000 in
set_option maxHeartbeats 3200000 in
theorem many_t15 (w wA : World) (E : Nat) (A3 A4 : Option Addr) (n3 c3 c4 n c : Nat) (bs : List (Value × Bck)) {u0 u1 u2 u6 u7 u10 u11 u12 u13 u14 u15 u16 u17 u18 u19 u20 u21 u22 u23 u24 u25 u26 u27 u28 u29 u30 u31 u32 u33 u34 u35 u36 u37 u38 u39 u40 u41 u42 u43 u44 u45 u46 u47 u48 u49 u50 u51 u52 u53 u54 u55 u56 u57 u58 u59 u60 u61 u62 u63 u64 u65 u66 u67 u68 u69 u70 u71 u72 u73 u74 u75 u76 u77 u78 u79 u80 u81 u82 u83 u84 u85 u86 u87 u88 u89 u90 u91 u92 u93 u94 u95 u96 u97 u98 u99 : Value} (hn3 : n3 = 65535) (hn : n = 4097) (hc : n ≤ c) (hv : BksS wA (.slice (some ⟨E, 0, none⟩) n c) bs) (hl : bs.length = n) (he : bs.map Prod.snd = endL n) (hU : LaidAt wA) (hb : Below w.heap.size w wA) :
  Code.wp Tryz.prog (tailR Tryz.f18 15) (bodyPost Tryz.prog Tryz.f18 fun r w' => r = .returned (.bool true) ∧ Below w.heap.size w w')
   ⟨#[u0, u1, u2, .slice A3 n3 c3, .slice A4 0 c4, .int .i64 0, u6, u7, .int .i64 5, .slice (some ⟨E, 0, none⟩) n c, u10, u11, u12, u13, u14, u15, u16, u17, u18, u19, u20, u21, u22, u23, u24, u25, u26, u27, u28, u29, u30, u31, u32, u33, u34, u35, u36, u37, u38, u39, u40, u41, u42, u43, u44, u45, u46, u47, u48, u49, u50, u51, u52, u53, u54, u55, u56, u57, u58, u59, u60, u61, u62, u63, u64, u65, u66, u67, u68, u69, u70, u71, u72, u73, u74, u75, u76, u77, u78, u79, u80, u81, u82, u83, u84, u85, u86, u87, u88, u89, u90, u91, u92, u93, u94, u95, u96, u97, u98, u99], []⟩ wA := by
 conv => arg 2; whnf
 conv => arg 4; dsimp only
 have hall : ∀ x ∈ bs, BlkOk x.2 ∧ x.2.evs.length ≤ 100000 := fun x hx => by
  have hm : x.2 ∈ endL n := by rw [← he]; exact List.mem_map.2 ⟨x, hx, rfl⟩
  refine ⟨(endL_ok (by omega) _ hm).1, ?_⟩
  unfold endL at hm
  obtain ⟨i, _, hi⟩ := List.mem_map.1 hm
  rw [← hi]
  exact Nat.zero_le _
 have he' : (bs.take 4096).map Prod.snd = endL 4096 := by rw [List.map_take, he, endL_take (by omega)]
 have HM1 := Lib.hid (blocks_ok wA (.slice (some ⟨E, 0, none⟩) 4096 c) (bs.take 4096) ⟨hv.row.row_take (by omega) hl.symm, fun x hx => hv.evs x (List.mem_of_mem_take hx)⟩
  (fun x hx => (hall x (List.mem_of_mem_take hx)).1) (fun x hx => (hall x (List.mem_of_mem_take hx)).2) (by rw [List.length_take]; omega) (by rw [flat_ends he']; exact Nat.zero_le _) hU)
 have HM2 := Lib.hid (fun (W : World) (q : Below wA.heap.size wA W) => blocks_ok W (.slice (some ⟨E, 0, none⟩) n c) bs (hv.below q) (fun x hx => (hall x hx).1) (fun x hx => (hall x hx).2) (by omega) (by rw [flat_ends he]; exact Nat.zero_le _) (hU.below q))
 rw [he'] at HM1
 rw [he] at HM2
 unfold MgPost at HM1 HM2
 have HB := Lib.hid hb
 have HN := Lib.hid (And.intro hn3 (And.intro hn hc))
 clear hall he' hv hl he hU hb hn3 hn
 have hc4 : (4096 : Int) ≤ (c : Int) := by have := HN.out; omega
 go_upto_region 15 with fail
 go_wp2_with fail
 refine HM1.out.mono ?_
 rintro r w2 ⟨ve, vt, vg, m, cc, rfl, hres, o1, o2, o3, b2⟩
 obtain ⟨rfl, hnx, hop⟩ := ends_mrg (Nat.le_refl _) (by omega) hres
 obtain ⟨X1, d1, h1⟩ := (o1.ev encE_len).shape
 obtain ⟨X2, d2, h2⟩ := (o2.ev encI_len).shape
 obtain ⟨X3, d3, h3⟩ := (o3.ev encP_len).shape
 generalize m.evs.length = l1 at h1
 generalize m.tw.length = l2 at h2
 generalize m.gaps.length = l3 at h3
 subst h1 h2 h3
 have HB2 := Lib.hid b2
 clear hres o1 o2 o3 b2 HM1
 rw [hnx, hop]
 unfold mgA
 dsimp only
 have HP := Lib.hid (MgBox.new w2 (.slice X1 l1 d1) (.slice X2 l2 d2) (.slice X3 l3 d3) m.lost 4096 false)
 have HAP := Lib.hid (bel_alloc w2 (.cells #[.slice X1 l1 d1, .slice X2 l2 d2, .slice X3 l3 d3, .int .i64 m.lost, .int .i64 4096, .bool false] 39))
 go_upto_region 16 with fail
 have HB3 := Lib.hid (bstep HB2.out HAP.out)
 clear HAP HB2
 generalize w2.alloc (.cells #[.slice X1 l1 d1, .slice X2 l2 d2, .slice X3 l3 d3, .int .i64 m.lost, .int .i64 4096, .bool false] 39) = w3 at HP HB3 ⊢
 generalize w2.heap.size = P at HP ⊢
 go_cut [14] (fun a wz => ∃ wq, wq = wz ∧ a = .int .i64 5 ∧ MgBox wq P (.slice X1 l1 d1) (.slice X2 l2 d2) (.slice X3 l3 d3) m.lost 4096 false ∧ Below wA.heap.size wA wq)
 case first =>
  go_wp2_with fail
  refine (HM2.out w3 HB3.out).mono ?_
  rintro r w4 ⟨xe, xt, xg, m', c', rfl, hres, o1, o2, o3, b2⟩
  obtain rfl := ends_many (by have := HN.out; omega) hres
  obtain ⟨Y1, e1, h1⟩ := (o1.ev encE_len).shape
  obtain ⟨Y2, e2, h2⟩ := (o2.ev encI_len).shape
  obtain ⟨Y3, e3, h3⟩ := (o3.ev encP_len).shape
  generalize m'.evs.length = p1 at h1
  generalize m'.tw.length = p2 at h2
  generalize m'.gaps.length = p3 at h3
  subst h1 h2 h3
  have HP4 := Lib.hid (HP.out.below b2)
  have HB4 := Lib.hid (bstep HB3.out b2)
  clear hres o1 o2 o3 b2 HM2 HP HB3
  unfold mgA
  dsimp only
  have HAP := Lib.hid (bel_alloc w4 (.cells #[.slice Y1 p1 e1, .slice Y2 p2 e2, .slice Y3 p3 e3, .int .i64 m'.lost, .int .i64 m'.next, .bool m'.opn] 39))
  go_wp2
  go_meet
  exact ⟨_, rfl, rfl, HP4.out.below HAP.out, bstep HB4.out HAP.out⟩
 case rest =>
  obtain ⟨wq, rfl, rfl, hP, hB⟩ := hcut
  refine (‹∀ (a : Act) (w : World), Code.wp _ _ _ a w → _› : ∀ (a : Act) (w : World), _ → _) _ _ (many_t17 w _ P A3 A4 n3 c3 c4 HN.out.1 hP.c4 hP.c5 (bstep HB.out hB))
end Go.Proofs.YtalophngappkhaaGreatDoor
namespace Go.Proofs.YtalophngappkhaaGreatDoor
open Go Go.RowKit Go.Shelf
attribute [local go_sem] Oper.semAt_some
def bkZ : Bck := ⟨0, 0, 0, 0, []⟩
theorem made_row {α : Type} {enc : α → List Value} {z : Array Value} {k : Nat} (hk : z.size = k) {x : α} (he : enc x = z.toList) : ∀ n, (madeCells z (n * k)).toList = (List.replicate n x).flatMap enc
 | 0 => by simp [madeCells]
 | n + 1 => by
  have ih := made_row hk he n
  rw [List.replicate_succ', List.flatMap_append, ← ih]
  unfold madeCells
  simp only [Array.toList_map, Array.toList_range, List.flatMap_cons, List.flatMap_nil, List.append_nil]
  rw [Nat.succ_mul, List.range_add, List.map_append, he]
  congr 1
  apply List.ext_getElem?
  intro j
  subst hk
  by_cases hj : j < z.size
  ·simp [hj, Nat.mod_eq_of_lt hj]
  ·simp [hj]
theorem wpList_makeBk (w : World) {ops : Array Oper} {rest : List Oper} {o : Oper} {a : Act} {Q : Exit → Act → World → Prop}
  (hg : o.guard = none) (l c : Operand) (hop : o.op = Op.makeSlice 30 l c) (base m : Nat) (hl : a.eval l = .int .i64 (m : Int)) (hc : a.eval c = .int .i64 (m : Int)) (hm : m ≤ 100000) (hb : base ≤ w.heap.size)
  (hK : ∀ w', OV encBk 5 24 base w' (.slice (some ⟨w.heap.size, 0, none⟩) m m) (List.replicate m (.slice none 0 0, bkZ)) → w.grownBy w' none → wpList Tryz.prog ops Q rest (a.put o.dst (.slice (some ⟨w.heap.size, 0, none⟩) m m)) w') :
  wpList Tryz.prog ops Q (o :: rest) a w := by
 have h : (Tryz.prog.info? 24).map (fun i => (i.zero, i.size, i.bytes)) = some (some (.agg #[.int .u8 0, .int .u8 0, .int .i64 0, .int .i64 0, .slice none 0 0]), 5, 48) := by kernel_rfl
 obtain ⟨i, h1, h2, h3, h4⟩ := info_parts h
 refine wpList_plain hg fun K hK' => ?_
 obtain ⟨w', hrun, r1, r2⟩ := run_make_full (P := Tryz.prog) (w := w) base 30 24 i (.agg #[.int .u8 0, .int .u8 0, .int .i64 0, .int .i64 0, .slice none 0 0]) 5 Tryz.underlying30 h1 h2 h3 .i64 .i64 m (by rw [h4]; omega) (by unfold maxLen; omega) hb
 have ov : OV encBk 5 24 base w' (.slice (some ⟨w.heap.size, 0, none⟩) m m) (List.replicate m (.slice none 0 0, bkZ)) := by
  unfold OV
  rw [List.length_replicate, ← made_row (enc := encBk) (x := (.slice none 0 0, bkZ)) (k := 5) (z := #[.int .u8 0, .int .u8 0, .int .i64 0, .int .i64 0, .slice none 0 0]) rfl rfl]
  exact r1
 unfold Oper.wp execOp
 simp only [hop, hl, hc, hrun, Sem.run_bind, Sem.run_pure, Result.andThen_ok]
 exact hK' _ _ (hK w' ov r2)
end Go.Proofs.YtalophngappkhaaGreatDoor
namespace Go.Proofs.YtalophngappkhaaGreatDoor
open Go Go.RowKit Go.Shelf
attribute [local go_sem] Oper.semAt_some
theorem bk_store {base g n cap i : Nat} {t : TypeId} {W : World} {xs : List (Value × Bck)} {x0 : Value × Bck} (h : OV encBk 5 t base W (.slice (some ⟨g, 0, none⟩) n cap) xs) (hn : xs.length = n) (hi : xs[i]? = some x0) (kd cp ls nx : Int) (v : Value) (es : List Ev) :
  OV encBk 5 t base (((((W.setCell ⟨g, i * 5 + 0, none⟩ (.int .u8 kd)).setCell ⟨g, i * 5 + 1, none⟩ (.int .u8 cp)).setCell ⟨g, i * 5 + 2, none⟩ (.int .i64 ls)).setCell ⟨g, i * 5 + 3, none⟩ (.int .i64 nx)).setCell ⟨g, i * 5 + 4, none⟩ v) (.slice (some ⟨g, 0, none⟩) n cap) (xs.set i (v, ⟨kd, cp, ls, nx, es⟩)) ∧
  W.grownBy (((((W.setCell ⟨g, i * 5 + 0, none⟩ (.int .u8 kd)).setCell ⟨g, i * 5 + 1, none⟩ (.int .u8 cp)).setCell ⟨g, i * 5 + 2, none⟩ (.int .i64 ls)).setCell ⟨g, i * 5 + 3, none⟩ (.int .i64 nx)).setCell ⟨g, i * 5 + 4, none⟩ v) (some g) := by
 have hil := (List.getElem?_eq_some_iff.1 hi).1
 have hg : ∀ y : Value × Bck, (xs.set i y)[i]? = some y := fun y => by rw [List.getElem?_set, if_pos rfl, if_pos hil]
 have hl : ∀ y : Value × Bck, (xs.set i y).length = n := fun y => by rw [List.length_set]; exact hn
 obtain ⟨u0, ⟨k0, c0, l0, n0, e0⟩⟩ := x0
 obtain ⟨o0, g0⟩ := OV.setF encBk_len h hn (i := i) (j := 0) hi (by omega) (u0, ⟨kd, c0, l0, n0, es⟩) (.int .u8 kd) rfl
 obtain ⟨o1, g1⟩ := OV.setF encBk_len o0 (hl _) (i := i) (j := 1) (hg _) (by omega) (u0, ⟨kd, cp, l0, n0, es⟩) (.int .u8 cp) rfl
 rw [List.set_set] at o1
 obtain ⟨o2, g2⟩ := OV.setF encBk_len o1 (hl _) (i := i) (j := 2) (hg _) (by omega) (u0, ⟨kd, cp, ls, n0, es⟩) (.int .i64 ls) rfl
 rw [List.set_set] at o2
 obtain ⟨o3, g3⟩ := OV.setF encBk_len o2 (hl _) (i := i) (j := 3) (hg _) (by omega) (u0, ⟨kd, cp, ls, nx, es⟩) (.int .i64 nx) rfl
 rw [List.set_set] at o3
 obtain ⟨o4, g4⟩ := OV.setF encBk_len o3 (hl _) (i := i) (j := 4) (hg _) (by omega) (v, ⟨kd, cp, ls, nx, es⟩) v rfl
 rw [List.set_set] at o4
 exact ⟨o4, (((g0.trans g1).trans g2).trans g3).trans g4⟩
/-- The blocks when the first j are made. -/
def endS (n j : Nat) : List (Value × Bck) := (List.range n).map fun (i : Nat) => (.slice none 0 0, if i < j then bkE (1 + (i : Int)) else bkZ)
theorem endS_len (n j : Nat) : (endS n j).length = n := by unfold endS; simp
theorem endS_zero (n : Nat) : List.replicate n ((Value.slice none 0 0, bkZ) : Value × Bck) = endS n 0 := by
 unfold endS
 apply List.ext_getElem?
 intro i
 by_cases h : i < n
 ·simp [h]
 ·simp [h]
theorem endS_at {n j i : Nat} (h : i < n) : (endS n j)[i]? = some (.slice none 0 0, if i < j then bkE (1 + (i : Int)) else bkZ) := by
 unfold endS
 simp [h]
theorem endS_step {n j : Nat} (h : j < n) : (endS n j).set j (.slice none 0 0, bkE (1 + (j : Int))) = endS n (j + 1) := by
 apply List.ext_getElem?
 intro i
 rw [List.getElem?_set]
 by_cases hi : i < n
 ·rw [endS_at hi, endS_at hi, endS_len]
  by_cases hij : j = i
  ·subst hij
   simp [h]
  ·rw [if_neg hij]
   have : (i < j + 1) ↔ i < j := by omega
   simp [this]
 ·rw [List.getElem?_eq_none (by rw [endS_len]; omega), List.getElem?_eq_none (by rw [endS_len]; omega), endS_len]
  by_cases hij : j = i
  ·omega
  ·rw [if_neg hij]
theorem endS_all (n : Nat) : (endS n n).map Prod.snd = endL n := by
 unfold endS endL
 rw [List.map_map]
 apply List.map_congr_left
 intro i hi
 have := List.mem_range.1 hi
 simp [this]
theorem endS_evs {n : Nat} {w : World} : ∀ x ∈ endS n n, EV encE 11 w x.1 x.2.evs := by
 intro x hx
 unfold endS at hx
 obtain ⟨i, hi, rfl⟩ := List.mem_map.1 hx
 have := List.mem_range.1 hi
 simp only [this, if_true]
 exact (OV.nil (e := 0) w 0).ev encE_len
end Go.Proofs.YtalophngappkhaaGreatDoor
namespace Go.Proofs.YtalophngappkhaaGreatDoor
open Go Go.RowKit Go.Shelf
attribute [local go_sem] Oper.semAt_some
theorem frzB {α : Type} {enc : α → List Value} {k base g n cap : Nat} {e : TypeId} {w : World} {xs : List α} (h : OV enc k e base w (.slice (some ⟨g, 0, none⟩) n cap) xs) (hn : xs.length = n) (i : Nat) : w.frozen? ⟨g, i, none⟩ = false := by
 subst hn
 exact World.ownsRow.frozenAt h i
theorem wpList_makeEnd (w : World) {ops : Array Oper} {rest : List Oper} {o : Oper} {a : Act} {Q : Exit → Act → World → Prop}
  (hg : o.guard = none) (l c : Operand) (hop : o.op = Op.makeSlice 30 l c) (base m : Nat) (hl : a.eval l = .int .i64 (m : Int)) (hc : a.eval c = .int .i64 (m : Int)) (hm : m ≤ 100000) (hb : base ≤ w.heap.size)
  (hK : ∀ w', OV encBk 5 24 base w' (.slice (some ⟨w.heap.size, 0, none⟩) m m) (endS m 0) → w.grownBy w' none → wpList Tryz.prog ops Q rest (a.put o.dst (.slice (some ⟨w.heap.size, 0, none⟩) m m)) w') :
  wpList Tryz.prog ops Q (o :: rest) a w :=
 wpList_makeBk w hg l c hop base m hl hc hm hb fun w' ho hw => hK w' (by rw [← endS_zero]; exact ho) hw
set_option maxRecDepth 100000 in
set_option maxHeartbeats 3200000 in
theorem many_t10 (w wA : World) (E : Nat) (A3 A4 : Option Addr) (n3 c3 c4 n bs : Nat) {u0 u1 u2 u6 u7 u10 u11 u12 u13 u14 u15 u16 u17 u18 u19 u20 u21 u22 u23 u24 u25 u26 u27 u28 u29 u30 u31 u32 u33 u34 u35 u36 u37 u38 u39 u40 u41 u42 u43 u44 u45 u46 u47 u48 u49 u50 u51 u52 u53 u54 u55 u56 u57 u58 u59 u60 u61 u62 u63 u64 u65 u66 u67 u68 u69 u70 u71 u72 u73 u74 u75 u76 u77 u78 u79 u80 u81 u82 u83 u84 u85 u86 u87 u88 u89 u90 u91 u92 u93 u94 u95 u96 u97 u98 u99 : Value} (hn3 : n3 = 65535) (hn : n = 4097) (hbs : w.heap.size ≤ bs) (ho : OV encBk 5 24 bs wA (.slice (some ⟨E, 0, none⟩) n n) (endS n 0)) (hU : LaidAt w) (hb : Below w.heap.size w wA) :
  Code.wp Tryz.prog (tailR Tryz.f18 10) (bodyPost Tryz.prog Tryz.f18 fun r w' => r = .returned (.bool true) ∧ Below w.heap.size w w')
   ⟨#[u0, u1, u2, .slice A3 n3 c3, .slice A4 0 c4, .int .i64 0, u6, u7, .int .i64 5, .slice (some ⟨E, 0, none⟩) n n, u10, u11, u12, u13, u14, u15, u16, u17, u18, u19, u20, u21, u22, u23, u24, u25, u26, u27, u28, u29, u30, u31, u32, u33, u34, u35, u36, u37, u38, u39, u40, u41, u42, u43, u44, u45, u46, u47, u48, u49, u50, u51, u52, u53, u54, u55, u56, u57, u58, u59, u60, u61, u62, u63, u64, u65, u66, u67, u68, u69, u70, u71, u72, u73, u74, u75, u76, u77, u78, u79, u80, u81, u82, u83, u84, u85, u86, u87, u88, u89, u90, u91, u92, u93, u94, u95, u96, u97, u98, u99], []⟩ wA := by
 conv => arg 2; whnf
 conv => arg 4; dsimp only
 have HB := Lib.hid hb
 have HN := Lib.hid (And.intro hn3 hn)
 have HU := Lib.hid hU
 have HO := Lib.hid ho
 clear hb hn3 hn hU ho
 go_upto_block 2 with fail
 go_cut [] (fun wz => ∃ wr, wr = wz ∧ OV encBk 5 24 bs wr (.slice (some ⟨E, 0, none⟩) n n) (endS n n) ∧ Below w.heap.size w wr)
 case first =>
  go_wp2
  go_loopg [47] n (fun k i wr => ∃ j : Nat, j + k = n ∧ i = .int .i64 j ∧ OV encBk 5 24 bs wr (.slice (some ⟨E, 0, none⟩) n n) (endS n j) ∧ Below w.heap.size w wr)
  case atStart => exact ⟨0, by omega, rfl, HO.out, HB.out⟩
  clear HO HB
  case round =>
   obtain ⟨j, hj, rfl, ho, hb⟩ := hrel
   have HJ := Lib.hid hj
   have HO := Lib.hid ho
   have HB := Lib.hid hb
   have hn6 : n = 4097 := HN.out.2
   clear hj ho hb
   by_cases hlt : j < n
   ·have hrow := (HO.out.ev encBk_len).row3 (by rw [endS_len]; omega)
    obtain ⟨g0, g1, g2, g3, g4⟩ := hrow.bk (endS_at hlt)
    have f := fun i => frzB HO.out (endS_len _ _) i
    have HS := Lib.hid (bk_store HO.out (endS_len _ _) (endS_at hlt) 2 0 0 (1 + (j : Int)) (.slice none 0 0) [])
    have f0 := f (j * 5)
    have f1 := f (j * 5 + 1)
    have f2 := f (j * 5 + 2)
    have f3 := f (j * 5 + 3)
    have f4 := f (j * 5 + 4)
    rw [Nat.zero_add] at g0 g1 g2 g3 g4
    clear f hrow hn6
    have hn7 : (n : Int) ≤ 4097 := by have := HN.out; omega
    go_wp2
    have HE := Lib.hid (HO.out.block E rfl).1
    clear g0 g1 g2 g3 g4 f0 f1 f2 f3 f4
    have hs := HS.out
    change OV _ _ _ _ _ _ ((endS n j).set j (.slice none 0 0, bkE (1 + (j : Int)))) ∧ _ at hs
    rw [endS_step hlt] at hs
    go_roundg (gk - 1)
    case measure => have := HJ.out; omega
    case rel => exact ⟨j + 1, by have := HJ.out; omega, by go_num, hs.1, HB.out.grown hs.2 HB.out.size (fun g q => by cases q; have := HE.out; omega)⟩
   ·obtain rfl : n = j := by have := HJ.out; omega
    go_wp2
    go_meet
    exact ⟨_, rfl, HO.out, HB.out⟩
 case rest =>
  obtain ⟨wr, rfl, ho, hq⟩ := hcut
  refine (‹∀ (a : Act) (w : World), Code.wp _ _ _ a w → _› : ∀ (a : Act) (w : World), _ → _) _ _ (many_t15 w _ E A3 A4 n3 c3 c4 n n (endS n n) HN.out.1 HN.out.2 (Nat.le_refl _) ⟨ho.ev encBk_len, endS_evs⟩ (endS_len _ _) (endS_all _) (HU.out.below hq) hq)
set_option maxRecDepth 100000 in
set_option maxHeartbeats 3200000 in
theorem many_t9 (w wA : World) (A3 A4 : Option Addr) (n3 c3 c4 : Nat) {u0 u1 u2 u6 u7 u9 u10 u11 u12 u13 u14 u15 u16 u17 u18 u19 u20 u21 u22 u23 u24 u25 u26 u27 u28 u29 u30 u31 u32 u33 u34 u35 u36 u37 u38 u39 u40 u41 u42 u43 u44 u45 u46 u47 u48 u49 u50 u51 u52 u53 u54 u55 u56 u57 u58 u59 u60 u61 u62 u63 u64 u65 u66 u67 u68 u69 u70 u71 u72 u73 u74 u75 u76 u77 u78 u79 u80 u81 u82 u83 u84 u85 u86 u87 u88 u89 u90 u91 u92 u93 u94 u95 u96 u97 u98 u99 : Value} (hn3 : n3 = 65535) (hU : LaidAt w) (hb : Below w.heap.size w wA) :
  Code.wp Tryz.prog (tailR Tryz.f18 9) (bodyPost Tryz.prog Tryz.f18 fun r w' => r = .returned (.bool true) ∧ Below w.heap.size w w')
   ⟨#[u0, u1, u2, .slice A3 n3 c3, .slice A4 0 c4, .int .i64 0, u6, u7, .int .i64 5, u9, u10, u11, u12, u13, u14, u15, u16, u17, u18, u19, u20, u21, u22, u23, u24, u25, u26, u27, u28, u29, u30, u31, u32, u33, u34, u35, u36, u37, u38, u39, u40, u41, u42, u43, u44, u45, u46, u47, u48, u49, u50, u51, u52, u53, u54, u55, u56, u57, u58, u59, u60, u61, u62, u63, u64, u65, u66, u67, u68, u69, u70, u71, u72, u73, u74, u75, u76, u77, u78, u79, u80, u81, u82, u83, u84, u85, u86, u87, u88, u89, u90, u91, u92, u93, u94, u95, u96, u97, u98, u99], []⟩ wA := by
 conv => arg 2; whnf
 conv => arg 4; dsimp only
 have HB := Lib.hid hb
 have HN := Lib.hid hn3
 have HU := Lib.hid hU
 clear hb hn3 hU
 go_upto_region 9 with fail
 go_cut [9] (fun a wz => ∃ wq E n, wq = wz ∧ a = .slice (some ⟨E, 0, none⟩) n n ∧ n = 4097 ∧ OV encBk 5 24 wA.heap.size wq (.slice (some ⟨E, 0, none⟩) n n) (endS n 0) ∧ Below wA.heap.size wA wq)
 case first =>
  go_wp2_with (refine wpList_makeEnd _ rfl _ _ rfl wA.heap.size 4097 rfl rfl (by omega) (Nat.le_refl _) ?_)
  intro w1 o1 g1
  have HO1 := Lib.hid o1
  have HB1 := Lib.hid (show Below wA.heap.size wA w1 from (Below.refl _ _).grown g1 (Nat.le_refl _) (fun g q => (by cases q)))
  clear o1 g1
  go_wp2
  go_meet
  exact ⟨_, _, _, rfl, rfl, rfl, HO1.out, HB1.out⟩
 case rest =>
  obtain ⟨wq, E, n, rfl, rfl, hn, ho, hq⟩ := hcut
  refine (‹∀ (a : Act) (w : World), Code.wp _ _ _ a w → _› : ∀ (a : Act) (w : World), _ → _) _ _ (many_t10 w _ E A3 A4 n3 c3 c4 n wA.heap.size HN.out hn HB.out.size ho HU.out (bstep HB.out hq))
end Go.Proofs.YtalophngappkhaaGreatDoor
namespace Go.Proofs.YtalophngappkhaaGreatDoor
open Go Go.RowKit Go.Shelf
attribute [local go_sem] Oper.semAt_some
set_option maxRecDepth 100000 in
set_option maxHeartbeats 3200000 in
theorem many_ok (w : World) (hU : LaidAt w) : Calls Tryz.prog 18 #[] w fun r w' => r = .returned (.bool true) ∧ Below w.heap.size w w' := by
 have HU := Lib.hid hU
 clear hU
 have HP := Lib.hid (fun (W : World) (n c : Int) => pick_ok W n c)
 go_enter Tryz.func18, Tryz.ntmps18
 go_upto_block 0 with fail
 go_cut [1] (fun a wz => ∃ wq N, wq = wz ∧ N = 65535 ∧ OV encE 11 28 w.heap.size wq a (manyE N) ∧ Below w.heap.size w wq)
 case first =>
  go_wp2
  go_loopg [1, 15] 65535 (fun k vo i wr => ∃ j : Nat, j + k = 65535 ∧ i = .int .i64 j ∧ OV encE 11 28 w.heap.size wr vo (manyE j) ∧ Below w.heap.size w wr)
  case atStart => exact ⟨0, by omega, rfl, OV.nil _ _, Below.refl _ _⟩
  case round =>
   obtain ⟨j, hj, rfl, ho, hb⟩ := hrel
   have HJ := Lib.hid hj
   have HO := Lib.hid ho
   have HB := Lib.hid hb
   clear hj ho hb
   by_cases hlt : j < 65535
   ·have hj0 : (0 : Int) ≤ (j : Int) % 64 := by omega
    have hj1 : (j : Int) % 64 < 64 := by omega
    have hli : (j : Int) < 65535 := by omega
    have HLT := Lib.hid hlt
    clear hlt
    go_wp2_with fail
    refine (HP.out wr (1 + (j : Int)) ((j : Int) % 64)).mono ?_
    rintro r w1 ⟨rfl, b1⟩
    have HO1 := Lib.hid (HO.out.below b1)
    have HB1 := Lib.hid (bstep HB.out b1)
    clear b1 HO HB
    unfold evA pickE
    dsimp only
    go_wp2_with (at_builtin; refine wpList_app elemE encE_len encE_one rfl _ _ rfl _ _ rfl rfl (HO1.out.alloc _) (EV.newL (xs := [pk j]) (n := 1) (c := 1) encE_len rfl rfl (Nat.le_refl _)) ?q1 ?q2 ?_)
    case q1 => have := HLT.out; rw [manyE_len]; simp; omega
    case q2 => have := HB1.out.size; simp; omega
    intro v' w8 o8 g8
    rw [← manyE_snoc] at o8
    have HO8 := Lib.hid o8
    have HB8 := Lib.hid ((bstep HB1.out (bel_alloc w1 _)).grown g8 (bstep HB1.out (bel_alloc w1 _)).size (fun g q => (HO1.out.block g q).1))
    clear o8 g8
    go_wp2
    go_roundg (gk - 1)
    case measure => have := HJ.out; have := HLT.out; omega
    case rel => exact ⟨j + 1, by have := HJ.out; have := HLT.out; omega, by go_num, HO8.out, HB8.out⟩
   ·obtain ⟨N, hN⟩ : ∃ N, N = 65535 := ⟨_, rfl⟩
    have hjN : j = N := by have := HJ.out; omega
    have hge : (65535 : Int) ≤ (j : Int) := by omega
    go_wp2
    go_meet
    exact ⟨_, N, rfl, hN, hjN ▸ HO.out, HB.out⟩
 case rest =>
  obtain ⟨wq, N, rfl, hN, ho, hb⟩ := hcut
  clear HP
  have hr := manyE_ok (n := N) (by omega)
  have hlN := manyE_len N
  obtain ⟨b, off, c1, h1, hcc, _⟩ := (ho.ev encE_len).row (by rw [hlN]; omega)
  rw [hlN] at h1 hcc
  subst h1
  have hc1 : (1 : Int) ≤ (c1 : Int) := by omega
  have HE := Lib.hid (ho.ev encE_len)
  have HB := Lib.hid hb
  have HN := Lib.hid hN
  have hf1 : flatR [(Value.slice (some ⟨b, off, none⟩) N c1, manyE N)] = manyE N := by unfold flatR; simp
  have HM1 := Lib.hid (fun (W : World) (q : Below wq.heap.size wq W) (v : Value) (hv : EV encVs 1 W v [(Value.slice (some ⟨b, off, none⟩) N c1, manyE N)]) => mrows_ok W v _ hv (fun x hx => by rw [List.mem_singleton.1 hx]; exact HE.out.below q) (by rw [hf1]; exact hr) (by simp) (by rw [hf1, hlN]; omega) ((HU.out.below HB.out).uses.below q))
  clear ho hb hN hr hlN hf1
  go_upto_region 7 with fail
  go_wp2_with fail
  refine (HM1.out _ (bel_alloc wq _) _ (EV.newL (xs := [(Value.slice (some ⟨b, off, none⟩) N c1, manyE N)]) (n := 1) (c := 1) encVs_len rfl rfl (Nat.le_refl _))).mono ?_
  rintro r w2 ⟨v1, v2, c, R, T, rfl, o1, o2, hres, b2⟩
  obtain ⟨rfl, hR, rfl⟩ := rows_many (by have := HN.out; omega) hres
  obtain ⟨A3, c3, h1⟩ := (o1.ev encE_len).shape
  obtain ⟨A4, c4, h2⟩ := (o2.ev encI_len).shape
  rw [hR] at h1
  subst h1 h2
  have HB2 := Lib.hid (show Below wq.heap.size wq w2 from bstep (bel_alloc wq _) b2)
  clear hres o1 o2 b2 HM1 hR
  go_upto_region 8 with fail
  go_cut [8] (fun a wz => ∃ wr, wr = wz ∧ a = .int .i64 5 ∧ Below wq.heap.size wq wr)
  case first =>
   have hEV := HE.out.below HB2.out
   have HE1 := Lib.hid (show EV encE 11 w2 (.slice (some ⟨b, off, none⟩) 1 c1) (manyE 1) from by
    have := hEV.row_take (j := 1) (by rw [manyE_len]; have := HN.out; omega) (manyE_len N).symm
    have e : (manyE N).take 1 = manyE 1 := by unfold manyE; rw [← List.map_take, List.take_range, Nat.min_eq_left (by have := HN.out; omega)]
    rwa [e] at this)
   have HE2 := Lib.hid hEV
   clear hEV
   have hfl : flatR [(Value.slice (some ⟨b, off, none⟩) N c1, manyE N), (Value.slice (some ⟨b, off, none⟩) 1 c1, manyE 1)] = manyE N ++ manyE 1 := by unfold flatR; simp
   have HFL := Lib.hid hfl
   clear hfl
   go_wp2_with fail
   refine (mrows_ok _ _ [(Value.slice (some ⟨b, off, none⟩) N c1, manyE N), (Value.slice (some ⟨b, off, none⟩) 1 c1, manyE 1)] (EV.newL (n := 2) (c := 2) encVs_len rfl rfl (Nat.le_refl _)) ?m1 ?m2 (by simp) ?m3 ?m4).mono ?_
   case m1 =>
    intro x hx
    rcases List.mem_cons.1 hx with rfl | hx
    ·exact HE2.out.below (bel_alloc w2 _)
    ·rw [List.mem_singleton.1 hx]; exact HE1.out.below (bel_alloc w2 _)
   case m2 =>
    intro e he
    rw [HFL.out] at he
    rcases List.mem_append.1 he with h | h
    ·exact manyE_ok (by have := HN.out; omega) e h
    ·exact manyE_ok (by omega) e h
   case m3 => rw [HFL.out, List.length_append, manyE_len, manyE_len]; have := HN.out; omega
   case m4 => exact ((HU.out.below HB.out).uses.below HB2.out).below (bel_alloc w2 _)
   rintro r w4 ⟨x1, x2, cc, R2, T2, rfl, o1, o2, hres, b4⟩
   obtain rfl := rows_many2 HN.out hres
   have HB4 := Lib.hid (bstep (bstep HB2.out (bel_alloc w2 _)) b4)
   clear hres o1 o2 b4 HFL HE1 HE2
   go_wp2
   go_meet
   exact ⟨_, rfl, rfl, HB4.out⟩
  case rest =>
   obtain ⟨wr, rfl, rfl, hq⟩ := hcut
   refine (‹∀ (a : Act) (w : World), Code.wp _ _ _ a w → _› : ∀ (a : Act) (w : World), _ → _) _ _ (many_t9 w _ A3 A4 N c3 c4 HN.out HU.out (bstep HB.out hq))
end Go.Proofs.YtalophngappkhaaGreatDoor
