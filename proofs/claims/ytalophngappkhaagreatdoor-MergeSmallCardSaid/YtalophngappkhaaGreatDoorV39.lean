/- quantumlaw12.blocks: the loop that looks whether the blocks are as they were | quantumlaw12.blocks | MergeTells: the argument, and the walk. -/
import Derived.Test.YtalophngappkhaaGreatDoorV38
import Derived.Test.YtalophngappkhaaGreatDoorV25
import Derived.Test.YtalophngappkhaaGreatDoorV8
import Derived.Test.YtalophngappkhaaGreatDoorV32
import Derived.SizedLaws
import Derived.Test.YtalophngappkhaaGreatDoorV3
import Derived.Test.YtalophngappkhaaGreatDoorV24
import Derived.Deep.DeepCutAuto
set_option linter.unusedVariables false
set_option linter.unusedSimpArgs false
set_option linter.unusedSectionVars false
namespace Go.Proofs.YtalophngappkhaaGreatDoor
open Go Go.RowKit Go.Shelf
attribute [local go_sem] Oper.semAt_some

theorem MrgRes.unique {bs : List Bck} {m m' : Mg} {c c' : Int} (h : MrgRes bs m c) (h' : MrgRes bs m' c') : m = m' ∧ c = c' := by
 rcases h with ⟨h1, rfl, rfl⟩ | ⟨h1, ⟨i, b, hb, hp, hc, rfl⟩, rfl⟩ | ⟨h1, h2, R, T, hj, hm, hm0⟩ <;> rcases h' with ⟨k1, rfl, rfl⟩ | ⟨k1, ⟨i', b', hb', hp', hc', rfl⟩, rfl⟩ | ⟨k1, k2, R', T', hj', hm', hm0'⟩
 ·exact ⟨rfl, rfl⟩
 ·omega
 ·omega
 ·omega
 ·refine ⟨rfl, ?_⟩
  rcases Nat.lt_trichotomy i i' with h | h | h
  ·exact absurd (hp' i b h hb) hc
  ·subst h; rw [hb] at hb'; cases hb'; rfl
  ·exact absurd (hp i' b' h hb') hc'
 ·exact absurd (k2 b (List.mem_of_getElem? hb)) hc
 ·omega
 ·exact absurd (h2 b' (List.mem_of_getElem? hb')) hc'
 ·obtain ⟨e1, e2, e3⟩ := hj.unique hj'
  subst e1 e2 e3
  refine ⟨?_, rfl⟩
  by_cases h0 : c = 0
  ·rw [hm0 h0, hm0' h0]
  ·rw [hm h0, hm' h0]
/-- Blocks in a slice. -/
structure LsB (W : World) (v : Value) (bs : List (Sl3 × Bck)) : Prop where
 ev : EV encSb 5 W v bs
 rows : ∀ x ∈ bs, EV encE 11 W (slV x.1) x.2.evs
theorem LsB.below {W W' : World} {v : Value} {bs : List (Sl3 × Bck)} (h : LsB W v bs) (hb : Below W.heap.size W W') : LsB W' v bs := ⟨h.ev.below hb, fun x hx => (h.rows x hx).below hb⟩
set_option maxRecDepth 100000 in
set_option maxHeartbeats 6400000 in
theorem bl_t16 (w wA wc : World) (Al A5 : Option Addr) (n cl c5 : Nat) (bs refs : List (Sl3 × Bck)) {u1 u2 u3 u4 u6 u7 u8 u9 u10 u11 u12 u13 u14 u15 u16 u17 u18 u19 u20 u21 u22 u23 u24 u25 u26 u27 u28 u29 u30 u31 u32 u33 u34 u35 u36 u37 u38 u39 u40 u41 u42 u43 u44 u45 u46 u47 u48 u49 u50 u51 u52 u53 u54 u55 u56 u57 u58 u59 u60 u61 u62 u63 u64 u65 u66 u67 u68 u69 u70 u71 u72 u73 u74 u75 u76 u77 u78 u79 u80 u81 : Value} (hl : LsB wA (.slice Al n cl) bs) (hr : LsB wA (.slice A5 n c5) refs) (he : refs.map Prod.snd = bs.map Prod.snd) (hn : bs.length = n) (hlen : ∀ x ∈ bs, x.2.evs.length ≤ 1000) (hn2 : n ≤ 1000) (hb : Below w.heap.size w wA) (hc : Below wA.heap.size wA wc) :
  Code.wp Tryz.prog (tailR Tryz.f15 16) (bodyPost Tryz.prog Tryz.f15 fun r w' => r = .returned (.bool true) ∧ Below w.heap.size w w')
   ⟨#[.slice Al n cl, u1, u2, u3, u4, .slice A5 n c5, u6, u7, u8, u9, u10, u11, u12, u13, u14, u15, u16, u17, u18, u19, u20, u21, u22, u23, u24, u25, u26, u27, u28, u29, u30, u31, u32, u33, u34, u35, u36, u37, u38, u39, u40, u41, u42, u43, u44, u45, u46, u47, u48, u49, u50, u51, u52, u53, u54, u55, u56, u57, u58, u59, u60, u61, u62, u63, u64, u65, u66, u67, u68, u69, u70, u71, u72, u73, u74, u75, u76, u77, u78, u79, u80, u81], []⟩ wc := by
 conv => arg 2; whnf
 conv => arg 4; dsimp only
 have HL := Lib.hid hl
 have HR := Lib.hid hr
 have HE := Lib.hid he
 have HN := Lib.hid (And.intro hn hn2)
 have HLN := Lib.hid hlen
 have HB := Lib.hid hb
 have HC := Lib.hid hc
 clear hl hr he hn hlen hn2 hb hc
 go_wp2
 go_loopg [66] n (fun k i wr => ∃ j : Nat, j + k = n ∧ i = .int .i64 j ∧ Below wA.heap.size wA wr)
 case atStart => exact ⟨0, by omega, rfl, HC.out⟩
 clear HC
 case round =>
  obtain ⟨j, hj, rfl, hc⟩ := hrel
  have HJ := Lib.hid hj
  have HC := Lib.hid hc
  have hn6 := HN.out.2
  clear hj hc
  by_cases hlt : j < n
  ·obtain ⟨bb, off, c', hsl, _, hr⟩ := (HL.out.ev.below HC.out).row (by rw [HN.out.1]; omega)
   rw [HN.out.1] at hsl
   cases hsl
   have lr : refs.length = n := by have := congrArg List.length HE.out; simpa [HN.out.1] using this
   obtain ⟨b5, o5, c5', hs5, _, hr5⟩ := (HR.out.ev.below HC.out).row (by rw [lr]; omega)
   rw [lr] at hs5
   cases hs5
   obtain ⟨⟨⟨As, ns, cs⟩, b⟩, hx⟩ : ∃ x, bs[j]? = some x := ⟨_, List.getElem?_eq_getElem (by rw [HN.out.1]; exact hlt)⟩
   obtain ⟨⟨⟨Ar, nr, cr⟩, b'⟩, hy⟩ : ∃ x, refs[j]? = some x := ⟨_, List.getElem?_eq_getElem (by rw [lr]; exact hlt)⟩
   have hbb : b' = b := by
    have h1 : (refs.map Prod.snd)[j]? = (bs.map Prod.snd)[j]? := by rw [HE.out]
    rw [List.getElem?_map, List.getElem?_map, hx, hy] at h1
    simpa using h1
   subst hbb
   obtain ⟨g0, g1, g2, g3, g4⟩ := hr.sb5 hx
   have k4 := (hr5.sb5 hy).2.2.2.2
   have EVS := Lib.hid (And.intro ((HL.out.rows _ (List.mem_of_getElem? hx)).below HC.out) (And.intro ((HR.out.rows _ (List.mem_of_getElem? hy)).below HC.out) (HLN.out _ (List.mem_of_getElem? hx))))
   dsimp only at g0 g1 g2 g3 g4 k4 EVS
   unfold slV at g4 k4 EVS
   dsimp only at g4 k4 EVS
   have K4 := Lib.hid k4
   have HBX := Lib.hid (show (wr.alloc (.cells #[.int .u8 b'.kind, .int .u8 b'.cpu, .int .i64 b'.lost, .int .i64 b'.next, .slice As ns cs] 24)).heap[wr.heap.size]? = some (.cells #[.int .u8 b'.kind, .int .u8 b'.cpu, .int .i64 b'.lost, .int .i64 b'.next, .slice As ns cs] 24 (0, 0)) from heap_alloc_new wr _)
   have HA := Lib.hid (bel_alloc wr (.cells #[.int .u8 b'.kind, .int .u8 b'.cpu, .int .i64 b'.lost, .int .i64 b'.next, .slice As ns cs] 24))
   have i0 : (0 : Int) ≤ (j : Int) := by omega
   have i1 : (j : Int) < (n : Int) := by omega
   clear hr hr5 hx hy lr
   go_upto_region 19 with fail
   have HX4 := Lib.hid ((cell_of_row _ wr.heap.size 4 _ _ (0, 0) HBX.out).trans rfl)
   have HK4 := Lib.hid (below_cell HA.out K4.out)
   have HEV := Lib.hid (And.intro (EVS.out.1.below HA.out) (And.intro (EVS.out.2.1.below HA.out) EVS.out.2.2))
   have HC2 := Lib.hid (bstep HC.out HA.out)
   clear g0 g1 g2 g3 g4 k4 K4 HBX HA EVS HC
   generalize wr.alloc (.cells #[.int .u8 b'.kind, .int .u8 b'.cpu, .int .i64 b'.lost, .int .i64 b'.next, .slice As ns cs] 24) = wz at HX4 HK4 HEV HC2 ⊢
   generalize wr.heap.size = P at HX4 ⊢
   go_wp2_with fail
   refine wp_region_dagG (by kernel_rfl) 10 rfl (fun i => i == 2 || i == 8) (fun i => !(false)) ?hMw (fun x => ⟨#[Value.slice (some { block := bb, off := off }) n cl, u1, u2, u3, u4, Value.slice (some { block := b5, off := o5 }) n c5, u6, u7, u8, u9, u10, u11, u12, Value.int IntKind.i64 ↑j, Value.pointer (some { block := P, off := 0 }), u15, u16, u17, u18, u19, u20, u21, u22, u23, u24, u25, u26, u27, u28, u29, u30, u31, u32, u33, u34, u35, u36, u37, u38, u39, u40, u41, u42, u43, u44, u45, u46, u47, u48, u49, u50, u51, u52, u53, u54, u55, u56, u57, u58, u59, u60, u61, u62, u63, Value.slice (some { block := bb, off := off }) n cl, Value.int IntKind.i64 ↑n, Value.int IntKind.i64 ↑j, Value.bool true, Value.int IntKind.i64 ↑j, Value.pointer (some { block := bb, off := off + j * 5 }), Value.agg #[Value.int IntKind.u8 b'.kind, Value.int IntKind.u8 b'.cpu, Value.int IntKind.i64 b'.lost, Value.int IntKind.i64 b'.next, Value.slice As ns cs], x 0, x 1, x 2, x 3, x 4, x 5, x 6, x 7, x 8, x 9, u81], []⟩) (fun iF vF => match iF with | 0 => vF = .pointer (some ⟨P, 4, none⟩) | 1 => vF = .slice As ns cs | 3 => vF = Value.slice (some { block := b5, off := o5 }) n c5 | 4 => vF = Value.int IntKind.i64 ↑j | 5 => vF = .pointer (some ⟨b5, o5 + j * 5, none⟩) | 6 => vF = .pointer (some ⟨b5, o5 + j * 5 + 4, none⟩) | 7 => vF = .slice Ar nr cr | 9 => vF = .bool false | _ => True)
    (fun d x W => Below wz.heap.size wz W ∧ (d 2 = true → OV encE 11 96 wz.heap.size W (x 2) b'.evs) ∧ (d 8 = true → (x 8) = .bool true)) ?hB ?hwant ?hoff (by kernel_rfl) ?hpure ?hmem ?hend (fun i => (#[u71, u72, u73, u74, u75, u76, u77, u78, u79, u80] : Array Value).getD i undef) rfl ?hstart
   case hstart =>
    try dsimp only
    exact ⟨below_drew (Below.refl _ _), fun h => (by cases h), fun h => (by cases h)⟩
   case hB =>
    intro d d' x i v W hi hm h
    have g2 : ¬ 2 = i := by rintro rfl; exact absurd (show true = false from hi) (by simp)
    have e2 : d' 2 = d 2 := hm 2 rfl
    have g8 : ¬ 8 = i := by rintro rfl; exact absurd (show true = false from hi) (by simp)
    have e8 : d' 8 = d 8 := hm 8 rfl
    try dsimp only at h ⊢
    first | rw [upd_ne g2, upd_ne g8, e2, e8] | simp only [upd_ne g2, upd_ne g8, e2, e8]
    exact h
   case hMw =>
    intro i hi
    simp only [Bool.or_eq_true, beq_iff_eq] at hi
    rcases hi with rfl | rfl
    all_goals rfl
   case hwant =>
    intro iF o hi ho x hf
    rcases (show iF = 0 ∨ iF = 1 ∨ iF = 2 ∨ iF = 3 ∨ iF = 4 ∨ iF = 5 ∨ iF = 6 ∨ iF = 7 ∨ iF = 8 ∨ iF = 9 by omega) with rfl | rfl | rfl | rfl | rfl | rfl | rfl | rfl | rfl | rfl <;> obtain rfl := Option.some.inj ho
    all_goals rfl
   case hoff =>
    intro iF o hi hw ho x
    rcases (show iF = 0 ∨ iF = 1 ∨ iF = 2 ∨ iF = 3 ∨ iF = 4 ∨ iF = 5 ∨ iF = 6 ∨ iF = 7 ∨ iF = 8 ∨ iF = 9 by omega) with rfl | rfl | rfl | rfl | rfl | rfl | rfl | rfl | rfl | rfl
    all_goals first | exact absurd (show true = false from hw) (by simp) | skip
   case hpure =>
    intro iF o hi hnm hww ho d x W hB hd hdn hnd hcl Kq hK
    rcases (show iF = 0 ∨ iF = 1 ∨ iF = 2 ∨ iF = 3 ∨ iF = 4 ∨ iF = 5 ∨ iF = 6 ∨ iF = 7 ∨ iF = 8 ∨ iF = 9 by omega) with rfl | rfl | rfl | rfl | rfl | rfl | rfl | rfl | rfl | rfl <;> obtain rfl := Option.some.inj ho
    all_goals first | exact absurd (show true = false from hnm) (by simp) | skip
    ·clear ho hd hdn hnd hcl hB hnm hi
     simp only [upd, reduceIte, Nat.reduceEqDiff] at hK
     try dsimp only
     go_simp
     exact hK _ rfl
    ·have e0 : x 0 = .pointer (some ⟨P, 4, none⟩) := hd 0 (by kernel_rfl) (by kernel_rfl)
     have hb := hB.1
     have cz := below_cell hb HX4.out
     clear ho hd hdn hnd hcl hB hnm hi
     simp only [upd, reduceIte, Nat.reduceEqDiff, e0] at hK
     try dsimp only
     go_simp
     exact hK _ rfl
    ·clear ho hd hdn hnd hcl hB hnm hi
     simp only [upd, reduceIte, Nat.reduceEqDiff] at hK
     try dsimp only
     go_simp
     exact hK _ rfl
    ·clear ho hd hdn hnd hcl hB hnm hi
     simp only [upd, reduceIte, Nat.reduceEqDiff] at hK
     try dsimp only
     go_simp
     exact hK _ rfl
    ·have e3 : x 3 = Value.slice (some { block := b5, off := o5 }) n c5 := hd 3 (by kernel_rfl) (by kernel_rfl)
     have e4 : x 4 = Value.int IntKind.i64 ↑j := hd 4 (by kernel_rfl) (by kernel_rfl)
     clear ho hd hdn hnd hcl hB hnm hi
     simp only [upd, reduceIte, Nat.reduceEqDiff, e3, e4] at hK
     try dsimp only
     go_simp
     exact hK _ rfl
    ·have e5 : x 5 = .pointer (some ⟨b5, o5 + j * 5, none⟩) := hd 5 (by kernel_rfl) (by kernel_rfl)
     clear ho hd hdn hnd hcl hB hnm hi
     simp only [upd, reduceIte, Nat.reduceEqDiff, e5] at hK
     try dsimp only
     go_simp
     exact hK _ rfl
    ·have e6 : x 6 = .pointer (some ⟨b5, o5 + j * 5 + 4, none⟩) := hd 6 (by kernel_rfl) (by kernel_rfl)
     have hb := hB.1
     have cz := below_cell hb HK4.out
     clear ho hd hdn hnd hcl hB hnm hi
     simp only [upd, reduceIte, Nat.reduceEqDiff, e6] at hK
     try dsimp only
     go_simp
     exact hK _ rfl
    ·have e8 : x 8 = .bool true := hB.2.2 (hdn 8 (by kernel_rfl))
     clear ho hd hdn hnd hcl hB hnm hi
     simp only [upd, reduceIte, Nat.reduceEqDiff, e8] at hK
     try dsimp only
     try rw [e8]
     go_simp
     exact hK _ rfl
   case hmem =>
    intro iF o hi hmm ho d d' x W hB hd hdn hnd hdi hdi' hdm hcl Kq hK
    rcases (show iF = 0 ∨ iF = 1 ∨ iF = 2 ∨ iF = 3 ∨ iF = 4 ∨ iF = 5 ∨ iF = 6 ∨ iF = 7 ∨ iF = 8 ∨ iF = 9 by omega) with rfl | rfl | rfl | rfl | rfl | rfl | rfl | rfl | rfl | rfl <;> obtain rfl := Option.some.inj ho
    all_goals first | exact absurd (show false = true from hmm) (by simp) | skip
    ·have e1 : x 1 = .slice As ns cs := hd 1 (by kernel_rfl) (by kernel_rfl)
     have dm8 : d' 8 = d 8 := hdm 8 (by omega)
     obtain ⟨hb, h2, h8⟩ := hB
     clear ho hd hdn hnd hcl hmm
     simp only [upd, reduceIte, Nat.reduceEqDiff, e1] at hK
     try dsimp only
     go_simp
     go_at_call 47
     refine (theirs_ok W (.slice As ns cs) b'.evs (HEV.out.1.below hb) (by have := HEV.out.2.2; omega)).mono ?_
     rintro r W2 ⟨v2, rfl, o2, bb⟩
     go_simp
     refine hK _ _ ?_
     try dsimp only
     rw [dm8, hdi']
     exact ⟨(bstep hb bb), fun _ => o2.base_le hb.size, h8⟩
    ·have e7 : x 7 = .slice Ar nr cr := hd 7 (by kernel_rfl) (by kernel_rfl)
     have dm2 : d' 2 = d 2 := hdm 2 (by omega)
     have dn2 : d 2 = true := hdn 2 (by kernel_rfl)
     obtain ⟨hb, h2, h8⟩ := hB
     have q2 := h2 dn2
     clear ho hd hdn hnd hcl hmm
     simp only [upd, reduceIte, Nat.reduceEqDiff, e7] at hK
     try dsimp only
     go_simp
     go_at_call 46
     refine (eq_rev W (x 2) (.slice Ar nr cr) b'.evs (q2.ev encE_len) (HEV.out.2.1.below hb) (by have := HEV.out.2.2; omega)).mono ?_
     rintro r W2 ⟨rfl, bb⟩
     go_simp
     refine hK _ _ ?_
     try dsimp only
     rw [dm2, hdi']
     exact ⟨(bstep hb bb), fun a => (h2 a).below bb, fun _ => rfl⟩
   case hend =>
    intro d x W hall hB hd
    obtain ⟨hb, h2, h8⟩ := hB
    have ek := hd 9 (by omega) rfl
    clear hd hall h2 h8
    try dsimp only
    rw [ek]
    clear ek
    generalize x 0 = y0
    generalize x 1 = y1
    generalize x 2 = y2
    generalize x 3 = y3
    generalize x 4 = y4
    generalize x 5 = y5
    generalize x 6 = y6
    generalize x 7 = y7
    generalize x 8 = y8
    have HC3 := Lib.hid (bstep HC2.out hb)
    clear hb
    go_wp2
    go_roundg (gk - 1)
    case measure => have := HJ.out; omega
    case rel => exact ⟨j + 1, by have := HJ.out; omega, by go_num, HC3.out⟩
  ·obtain rfl : n = j := by have := HJ.out; omega
   go_wp2
   go_ret
   exact ⟨rfl, bstep HB.out HC.out⟩
end Go.Proofs.YtalophngappkhaaGreatDoor
namespace Go.Proofs.YtalophngappkhaaGreatDoor
open Go Go.RowKit Go.Shelf
attribute [local go_sem] Oper.semAt_some

theorem elemRB : ElemT Tryz.prog 84 87 5 48 := ⟨Tryz.underlying84, by
 have h : (Tryz.prog.info? 87).map (fun i => (i.zero, i.size, i.bytes)) = some (some (.agg #[.int .u8 0, .int .u8 0, .int .i64 0, .int .i64 0, .slice none 0 0]), 5, 48) := by kernel_rfl
 obtain ⟨i, h1, h2, h3, h4⟩ := info_parts h
 exact ⟨i, _, h1, h2, h3, h4, rfl⟩, by omega, by omega⟩
theorem St.cnt_le : ∀ (f : Nat) (s : St), s.cnt f ≤ f
 | 0, _ => Nat.le_refl _
 | f + 1, s => by
  unfold St.cnt
  split
  ·omega
  ·have := St.cnt_le f s.step; omega
theorem bothL_len {tk : Bool → Bool → Bool} (a b : List (Int × Int)) : (bothL tk a b).length ≤ 2 * a.length + 2 * b.length := by
 unfold bothL boN
 exact Nat.le_trans (boIt_len _ _) (St.cnt_le _ _)
theorem missL_len (l : List (Int × Int)) (f n : Int) : (missL l f n).length ≤ 2 * l.length + 2 := by
 unfold missL
 split
 ·simp
 ·split
  ·simp
  ·have := bothL_len (tk := tkW) [(f, n - f)] l; simp at this; omega
theorem of_lens (ns : List Int) : (ofL ns).length ≤ ns.length ∧ (ofT ns).length ≤ ns.length := by
 unfold ofL ofT
 split
 ·rename_i h
  have hk : ∀ n ∈ srtI ns, okN n = true := by
   unfold ofE at h
   split at h
   ·cases h
   ·split at h
    ·rename_i h2; exact fun n hn => List.all_eq_true.1 h2 n ((srt_mem ns n).1 hn)
    ·cases h
  have := ofS_ok _ (srt_pw ns) hk
  have h1 := this.slen
  have h2 := this.tlen
  rw [srtI_len] at h1 h2
  exact ⟨h1, h2⟩
 ·simp

theorem MrgRes.len {bs : List Bck} {m : Mg} {c : Int} (h : MrgRes bs m c) : m.evs.length ≤ 65535 ∧ m.tw.length ≤ 65535 ∧ m.gaps.length ≤ 200000 := by
 have h0 : mg0.evs.length ≤ 65535 ∧ mg0.tw.length ≤ 65535 ∧ mg0.gaps.length ≤ 200000 := by simp [mg0]
 rcases h with ⟨_, _, rfl⟩ | ⟨_, _, rfl⟩ | ⟨_, _, R, T, hj, hm, hm0⟩
 ·exact h0
 ·exact h0
 ·by_cases hc : c = 0
  ·rw [hm0 hc]
   have hl : R.length ≤ 65535 ∧ T.length ≤ 65535 := by
    rcases hj with ⟨_, _, rfl, rfl⟩ | ⟨_, _, _, rfl, rfl⟩ | ⟨h1, _, _, h2⟩
    ·simp
    ·simp
    ·have := h2.len; omega
   refine ⟨hl.1, hl.2, ?_⟩
   show (gapsOf R _).length ≤ 200000
   unfold gapsOf
   have h1 := missL_len (ofL (seqsL R)) 1 (max (nxtS R) (endB bs))
   have h2 := (of_lens (seqsL R)).1
   have h3 : (seqsL R).length = R.length := by unfold seqsL; rw [List.length_map]
   omega
  ·rw [hm hc]; exact h0
set_option maxRecDepth 100000 in
set_option maxHeartbeats 6400000 in
theorem bl_t11 (w wA wc : World) (P : Nat) (Al A5 Aa : Option Addr) (n cl c5 na ca : Nat) (vt vg : Value) (lost next : Int) (opn : Bool) (bs refs : List (Sl3 × Bck)) {u1 u2 u3 u4 u6 u7 u9 u10 u11 u12 u13 u14 u15 u16 u17 u18 u19 u20 u21 u22 u23 u24 u25 u26 u27 u28 u29 u30 u31 u32 u33 u34 u35 u36 u37 u38 u39 u40 u41 u42 u43 u44 u45 u46 u47 u48 u49 u50 u51 u52 u53 u54 u55 u56 u57 u58 u59 u60 u61 u62 u63 u64 u65 u66 u67 u68 u69 u70 u71 u72 u73 u74 u75 u76 u77 u78 u79 u80 u81 : Value} (hl : LsB wA (.slice Al n cl) bs) (hr : LsB wA (.slice A5 n c5) refs) (he : refs.map Prod.snd = bs.map Prod.snd) (hn : bs.length = n) (hlen : ∀ x ∈ bs, x.2.evs.length ≤ 1000) (hn2 : n ≤ 1000) (hb : Below w.heap.size w wA) (hc : Below wA.heap.size wA wc)
  (hbx : MgBox wc P (.slice Aa na ca) vt vg lost next opn) (hw : Wrt 11 wc (.slice Aa na ca) na) (hwb : ∀ g, (Value.slice Aa na ca).ownBlock = some g → wA.heap.size ≤ g ∧ g < P) (hna : na ≤ 1000000) :
  Code.wp Tryz.prog (tailR Tryz.f15 11) (bodyPost Tryz.prog Tryz.f15 fun r w' => r = .returned (.bool true) ∧ Below w.heap.size w w')
   ⟨#[.slice Al n cl, u1, u2, u3, u4, .slice A5 n c5, u6, u7, .pointer (some ⟨P, 0, none⟩), u9, u10, u11, u12, u13, u14, u15, u16, u17, u18, u19, u20, u21, u22, u23, u24, u25, u26, u27, u28, u29, u30, u31, u32, u33, u34, u35, u36, u37, u38, u39, u40, u41, u42, u43, u44, u45, u46, u47, u48, u49, u50, u51, u52, u53, u54, u55, u56, u57, u58, u59, u60, u61, u62, u63, u64, u65, u66, u67, u68, u69, u70, u71, u72, u73, u74, u75, u76, u77, u78, u79, u80, u81], []⟩ wc := by
 conv => arg 2; whnf
 conv => arg 4; dsimp only
 have HFA := Lib.hid (fun (W : World) (q : Below wA.heap.size wA W) => And.intro hl (And.intro hr (And.intro he (And.intro hn (And.intro hlen (And.intro hn2 (And.intro hb q)))))))
 have HC := Lib.hid hc
 have HBX := Lib.hid hbx
 have HW := Lib.hid hw
 have HWB := Lib.hid hwb
 have HNA := Lib.hid hna
 have c0 := hbx.c0
 clear hl hr he hn hlen hn2 hb hc hbx hw hwb hna
 go_upto_block 2 with fail
 go_cut [] (fun wz => ∃ wq, wq = wz ∧ Below wA.heap.size wA wq)
 case first =>
  go_wp2
  go_loopg [55] na (fun k i wr => ∃ j : Nat, j + k = na ∧ i = .int .i64 j ∧ Wrt 11 wr (.slice Aa na ca) na ∧ MgBox wr P (.slice Aa na ca) vt vg lost next opn ∧ Below wA.heap.size wA wr)
  case atStart => exact ⟨0, by omega, rfl, HW.out, HBX.out, HC.out⟩
  clear HW HBX HC c0
  case round =>
   obtain ⟨j, hj, rfl, hw, hbx, hc⟩ := hrel
   have HJ := Lib.hid hj
   have HW := Lib.hid hw
   have HBX := Lib.hid hbx
   have HC := Lib.hid hc
   have hna := HNA.out
   clear hj hw hbx hc
   by_cases hlt : j < na
   ·rcases HW.out with ⟨h0, _⟩ | ⟨_, g, cg, hv, hwc⟩
    ·omega
    ·cases hv
     obtain ⟨⟨u0, hu0⟩, f0⟩ := hwc (j * 11) (by omega)
     have HTG := Lib.hid (HWB.out g rfl)
     have c0 := HBX.out.c0
     clear hwc
     go_wp2
     go_roundg (gk - 1)
     case measure => have := HJ.out; omega
     case rel => exact ⟨j + 1, by have := HJ.out; omega, by go_num, HW.out.setCell _ _, HBX.out.setOther (by have := HTG.out; simp; omega) _, HC.out.setCell HTG.out.1 _⟩
   ·obtain rfl : na = j := by have := HJ.out; omega
    go_wp2
    go_meet
    exact ⟨_, rfl, HC.out⟩
 case rest =>
  obtain ⟨wq, rfl, hq⟩ := hcut
  obtain ⟨h1, h2, h3, h4, h5, h6, h7, h8⟩ := HFA.out wq hq
  refine (‹∀ (a : Act) (w : World), Code.wp _ _ _ a w → _› : ∀ (a : Act) (w : World), _ → _) _ _ (bl_t16 w wA wq Al A5 n cl c5 bs refs h1 h2 h3 h4 h5 h6 h7 h8)
set_option maxRecDepth 100000 in
set_option maxHeartbeats 6400000 in
theorem bl_t7 (w wA : World) (Al A5 : Option Addr) (n cl c5 : Nat) (fr : Int) (bs refs : List (Sl3 × Bck)) {u2 u3 u4 u6 u7 u8 u9 u10 u11 u12 u13 u14 u15 u16 u17 u18 u19 u20 u21 u22 u23 u24 u25 u26 u27 u28 u29 u30 u31 u32 u33 u34 u35 u36 u37 u38 u39 u40 u41 u42 u43 u44 u45 u46 u47 u48 u49 u50 u51 u52 u53 u54 u55 u56 u57 u58 u59 u60 u61 u62 u63 u64 u65 u66 u67 u68 u69 u70 u71 u72 u73 u74 u75 u76 u77 u78 u79 u80 u81 : Value} (hl : LsB wA (.slice Al n cl) bs) (hr : LsB wA (.slice A5 n c5) refs) (he : refs.map Prod.snd = bs.map Prod.snd) (hn : bs.length = n) (hlen : ∀ x ∈ bs, x.2.evs.length ≤ 1000) (hok : ∀ x ∈ bs, BlkOk x.2) (hn2 : n ≤ 100) (hU : LaidAt wA) (hb : Below w.heap.size w wA) :
  Code.wp Tryz.prog (tailR Tryz.f15 7) (bodyPost Tryz.prog Tryz.f15 fun r w' => r = .returned (.bool true) ∧ Below w.heap.size w w')
   ⟨#[.slice Al n cl, .int .i64 fr, u2, u3, u4, .slice A5 n c5, u6, u7, u8, u9, u10, u11, u12, u13, u14, u15, u16, u17, u18, u19, u20, u21, u22, u23, u24, u25, u26, u27, u28, u29, u30, u31, u32, u33, u34, u35, u36, u37, u38, u39, u40, u41, u42, u43, u44, u45, u46, u47, u48, u49, u50, u51, u52, u53, u54, u55, u56, u57, u58, u59, u60, u61, u62, u63, u64, u65, u66, u67, u68, u69, u70, u71, u72, u73, u74, u75, u76, u77, u78, u79, u80, u81], []⟩ wA := by
 conv => arg 2; whnf
 conv => arg 4; dsimp only
 have HFA := Lib.hid (And.intro hl (And.intro hr (And.intro he (And.intro hn (And.intro hlen (And.intro hn2 hb))))))
 have hfl : (flatR (rowsB (bs.map sbV))).length ≤ 100000000 := by
  have key : ∀ l : List (Sl3 × Bck), (∀ x ∈ l, x.2.evs.length ≤ 1000) → (flatR (rowsB (l.map sbV))).length ≤ 1000 * l.length := by
   intro l
   induction l with
   | nil => intro _; simp [flatR, rowsB]
   | cons a l ih =>
    intro h
    have h1 := h a (by simp)
    have h2 := ih (fun x hx => h x (by simp [hx]))
    unfold flatR rowsB at h2 ⊢
    simp only [List.map_cons, List.flatMap_cons, List.length_append, List.length_cons]
    simp only [sbV] at h2 ⊢
    omega
  have := key bs hlen
  omega
 have HMB := Lib.hid (blocks_ok wA _ (bs.map sbV) (BksS.of_sb hl.ev hl.rows) (fun x hx => by obtain ⟨y, hy, rfl⟩ := List.mem_map.1 hx; exact hok y hy) (fun x hx => by obtain ⟨y, hy, rfl⟩ := List.mem_map.1 hx; have := hlen y hy; show y.2.evs.length ≤ 100000; omega) (by rw [List.length_map]; omega) hfl hU)
 have hsb : (bs.map sbV).map Prod.snd = bs.map Prod.snd := sb_snd bs
 rw [hsb] at HMB
 have hlr : refs.length = n := by have := congrArg List.length he; simpa [hn] using this
 have hmr : ∀ x ∈ refs, ∃ y ∈ bs, x.2 = y.2 := fun x hx => by
  have : x.2 ∈ bs.map Prod.snd := by rw [← he]; exact List.mem_map.2 ⟨x, hx, rfl⟩
  obtain ⟨y, hy, e⟩ := List.mem_map.1 this
  exact ⟨y, hy, e.symm⟩
 have HRB := Lib.hid (fun (W : World) (q : Below wA.heap.size wA W) => r12blocks_ok W _ refs (hr.ev.below q) (fun x hx => (hr.rows x hx).below q) (fun x hx => by obtain ⟨y, hy, e⟩ := hmr x hx; rw [e]; exact hok y hy) (fun x hx => by obtain ⟨y, hy, e⟩ := hmr x hx; rw [e]; exact hlen y hy) (by omega))
 rw [he] at HRB
 clear hl hr he hn hlen hn2 hb hU hok hfl hsb hlr hmr
 unfold MgPost at HMB
 unfold RPost at HRB
 go_upto_region 7 with fail
 go_wp2_with fail
 refine HMB.out.mono ?_
 rintro r w2 ⟨ve, vt, vg, m, c, rfl, hres, o1, o2, o3, b2⟩
 obtain ⟨Aa, ca, h1⟩ := (o1.ev encE_len).shape
 obtain ⟨At, ct, h2⟩ := (o2.ev encI_len).shape
 obtain ⟨Ag, cg, h3⟩ := (o3.ev encP_len).shape
 obtain ⟨na, hna⟩ : ∃ x, m.evs.length = x := ⟨_, rfl⟩
 obtain ⟨nt, hnt⟩ : ∃ x, m.tw.length = x := ⟨_, rfl⟩
 obtain ⟨ng, hng⟩ : ∃ x, m.gaps.length = x := ⟨_, rfl⟩
 rw [hna] at h1
 rw [hnt] at h2
 rw [hng] at h3
 subst h1 h2 h3
 have HRES := Lib.hid hres
 have HO := Lib.hid (And.intro o1 (And.intro o2 o3))
 have HB2 := Lib.hid b2
 have HNA := Lib.hid (And.intro hna (And.intro hnt hng))
 clear hres o1 o2 o3 b2 hna hnt hng HMB
 unfold mgA
 dsimp only
 have HP := Lib.hid (MgBox.new w2 (.slice Aa na ca) (.slice At nt ct) (.slice Ag ng cg) m.lost m.next m.opn)
 have HAP := Lib.hid (bel_alloc w2 (.cells #[.slice Aa na ca, .slice At nt ct, .slice Ag ng cg, .int .i64 m.lost, .int .i64 m.next, .bool m.opn] 39))
 have HLN := Lib.hid HRES.out.len
 go_upto_region 8 with fail
 have HO3 := Lib.hid (show EV encE 11 _ (.slice Aa na ca) m.evs ∧ EV encI 1 _ (.slice At nt ct) m.tw ∧ EV encP 2 _ (.slice Ag ng cg) m.gaps from ⟨(HO.out.1.below HAP.out).ev encE_len, (HO.out.2.1.below HAP.out).ev encI_len, (HO.out.2.2.below HAP.out).ev encP_len⟩)
 have HWR := Lib.hid (show Wrt 11 _ (.slice Aa na ca) na from by have := (HO.out.1.below HAP.out).wrt encE_len; rwa [HNA.out.1] at this)
 have HOB := Lib.hid (fun g (h : (Value.slice Aa na ca).ownBlock = some g) => HO.out.1.block g h)
 have HB3 := Lib.hid (bstep HB2.out HAP.out)
 clear HAP HO HB2
 generalize w2.alloc (.cells #[.slice Aa na ca, .slice At nt ct, .slice Ag ng cg, .int .i64 m.lost, .int .i64 m.next, .bool m.opn] 39) = w3 at HP HO3 HWR HB3 ⊢
 generalize w2.heap.size = P at HP HOB ⊢
 go_wp2_with fail
 refine (HRB.out w3 HB3.out).mono ?_
 rintro r w4 ⟨B1, n1, d1, B2, n2, d2, B3, n3, d3, m', c', rfl, hres, p1, p2, p3, b4⟩
 obtain ⟨rfl, rfl⟩ := HRES.out.unique hres
 have HP4 := Lib.hid (HP.out.below b4)
 have HO4 := Lib.hid (And.intro (HO3.out.1.below b4) (And.intro (HO3.out.2.1.below b4) (HO3.out.2.2.below b4)))
 have HW4 := Lib.hid (HWR.out.below b4)
 have HR4 := Lib.hid (And.intro (p1.ev encE_len) (And.intro (p2.ev encI_len) (p3.ev encP_len)))
 have HB4 := Lib.hid (bstep HB3.out b4)
 clear hres p1 p2 p3 b4 HP HO3 HWR HB3 HRB
 unfold mgA
 dsimp only
 have HQ := Lib.hid (RmBox.new w4 (.slice B1 n1 d1) (.slice B2 n2 d2) (.slice B3 n3 d3) m.lost m.next m.opn)
 have HAQ := Lib.hid (bel_alloc w4 (.cells #[.slice B1 n1 d1, .slice B2 n2 d2, .slice B3 n3 d3, .int .i64 m.lost, .int .i64 m.next, .bool m.opn] 91))
 go_upto_region 9 with fail
 have HP5 := Lib.hid (HP4.out.below HAQ.out)
 have HO5 := Lib.hid (And.intro (HO4.out.1.below HAQ.out) (And.intro (HO4.out.2.1.below HAQ.out) (HO4.out.2.2.below HAQ.out)))
 have HW5 := Lib.hid (HW4.out.below HAQ.out)
 have HR5 := Lib.hid (And.intro (HR4.out.1.below HAQ.out) (And.intro (HR4.out.2.1.below HAQ.out) (HR4.out.2.2.below HAQ.out)))
 have HB5 := Lib.hid (bstep HB4.out HAQ.out)
 clear HP4 HO4 HW4 HR4 HB4 HAQ
 generalize w4.alloc (.cells #[.slice B1 n1 d1, .slice B2 n2 d2, .slice B3 n3 d3, .int .i64 m.lost, .int .i64 m.next, .bool m.opn] 91) = w5 at HQ HP5 HO5 HW5 HR5 HB5 ⊢
 generalize w4.heap.size = Q at HQ ⊢
 have HS := Lib.hid (same12_ok w5 (.slice Aa na ca) (.slice At nt ct) (.slice Ag ng cg) (.slice B1 n1 d1) (.slice B2 n2 d2) (.slice B3 n3 d3) m.evs m.tw m.gaps m.lost m.next m.opn HO5.out.1 HO5.out.2.1 HO5.out.2.2 HR5.out.1 HR5.out.2.1 HR5.out.2.2 (by have := HLN.out; omega) (by have := HLN.out; omega) (by have := HLN.out; omega))
 unfold mgA at HS
 have a0 := HP5.out.c0
 have a1 := HP5.out.c1
 have a2 := HP5.out.c2
 have a3 := HP5.out.c3
 have a4 := HP5.out.c4
 have a5 := HP5.out.c5
 have e0 := HQ.out.c0
 have e1 := HQ.out.c1
 have e2 := HQ.out.c2
 have e3 := HQ.out.c3
 have e4 := HQ.out.c4
 have e5 := HQ.out.c5
 go_wp2_with fail
 refine HS.out.mono ?_
 rintro r w6 ⟨rfl, b6⟩
 have HP6 := Lib.hid (HP5.out.below b6)
 have HO6 := Lib.hid (And.intro (HO5.out.1.below b6) (And.intro (HO5.out.2.1.below b6) (HO5.out.2.2.below b6)))
 have HW6 := Lib.hid (HW5.out.below b6)
 have HB6 := Lib.hid (bstep HB5.out b6)
 clear b6 a0 a1 a2 a3 a4 a5 e0 e1 e2 e3 e4 e5 HP5 HO5 HW5 HB5 HR5 HQ HS
 have HON := Lib.hid (one_ok w6 (.slice Aa na ca) (.slice At nt ct) (.slice Ag ng cg) m.evs m.tw m.gaps m.lost m.next fr m.opn HO6.out.1 HO6.out.2.1 HO6.out.2.2 (by have := HLN.out; omega) (by have := HLN.out; omega) (by have := HLN.out; omega))
 unfold mgA at HON
 have a0 := HP6.out.c0
 have a1 := HP6.out.c1
 have a2 := HP6.out.c2
 have a3 := HP6.out.c3
 have a4 := HP6.out.c4
 have a5 := HP6.out.c5
 go_wp2_with fail
 refine HON.out.mono ?_
 rintro r w7 ⟨rfl, b7⟩
 have HP7 := Lib.hid (HP6.out.below b7)
 have HW7 := Lib.hid (HW6.out.below b7)
 have HB7 := Lib.hid (bstep HB6.out b7)
 clear b7 a0 a1 a2 a3 a4 a5 HP6 HO6 HW6 HB6 HON
 go_upto_if 51 with fail
 go_cut [] (fun wz => ∃ wq, wq = wz ∧ wq = w7)
 case first =>
  go_wp2
  go_meet
  exact ⟨_, rfl, rfl⟩
 case rest =>
  obtain ⟨wq, rfl, hwq⟩ := hcut
  subst hwq
  obtain ⟨h1, h2, h3, h4, h5, h6, h7⟩ := HFA.out
  refine (‹∀ (a : Act) (w : World), Code.wp _ _ _ a w → _› : ∀ (a : Act) (w : World), _ → _) _ _ (bl_t11 w wA _ P Al A5 Aa n cl c5 na ca (.slice At nt ct) (.slice Ag ng cg) m.lost m.next m.opn bs refs h1 h2 h3 h4 h5 (by omega) h7 HB7.out HP7.out HW7.out HOB.out (by have := HLN.out; have := HNA.out; omega))
end Go.Proofs.YtalophngappkhaaGreatDoor
namespace Go.Proofs.YtalophngappkhaaGreatDoor
open Go Go.RowKit Go.Shelf Go.Deep Go.ChangeShapes Go.WideShapes
attribute [local go_sem] Oper.semAt_some

/-- The blocks for the reference, in memory of the call's own. -/
structure RfL (B : Nat) (W : World) (o : Value) (refs : List (Sl3 × Bck)) : Prop where
 a : OV encSb 5 87 B W o refs
 rb : ∀ x ∈ refs, OV encE 11 96 B W (slV x.1) x.2.evs
theorem RfL.below {B : Nat} {W W' : World} {o : Value} {refs : List (Sl3 × Bck)} (h : RfL B W o refs) (hb : Below W.heap.size W W') : RfL B W' o refs := ⟨h.a.below hb, fun x hx => (h.rb x hx).below hb⟩
theorem RfL.push {B : Nat} {W W' : World} {o o' : Value} {refs : List (Sl3 × Bck)} {x : Sl3 × Bck} (h : RfL B W o refs) (hx : OV encE 11 96 B W (slV x.1) x.2.evs) (hg : W.grownBy W' o.ownBlock) (ho : OV encSb 5 87 B W' o' (refs ++ [x])) : RfL B W' o' (refs ++ [x]) :=
 ⟨ho, fun y hy => by
  rcases List.mem_append.1 hy with hy | hy
  ·exact (h.rb y hy).keep hg ((h.rb y hy).ne h.a (by decide))
  ·rw [List.mem_singleton.1 hy]; exact hx.keep hg (hx.ne h.a (by decide))⟩
set_option maxRecDepth 100000 in
set_option maxHeartbeats 6400000 in
theorem blaw_ok (w : World) (v : Value) (bs : List (Sl3 × Bck)) (fr : Int) (hL : LsB w v bs) (hok : ∀ x ∈ bs, BlkOk x.2) (hlen : ∀ x ∈ bs, x.2.evs.length ≤ 1000) (hn : bs.length ≤ 100) (hU : LaidAt w) :
  Calls Tryz.prog 15 #[v, .int .i64 fr] w fun r w' => r = .returned (.bool true) ∧ Below w.heap.size w w' := by
 obtain ⟨A, c, hA⟩ := hL.ev.shape
 subst hA
 obtain ⟨n, hnn⟩ : ∃ n, bs.length = n := ⟨_, rfl⟩
 have HN := Lib.hid (show bs.length = n ∧ n ≤ 100 by omega)
 rw [hnn] at hL ⊢
 have HL := Lib.hid hL
 have HOK := Lib.hid hok
 have HLE := Lib.hid hlen
 have HU := Lib.hid hU
 clear hL hok hlen hn hU hnn
 go_enter Tryz.func15, Tryz.ntmps15
 go_upto_block 0 with fail
 go_cut [5] (fun a wz => ∃ wq A5 c5 refs, wq = wz ∧ a = .slice A5 n c5 ∧ RfL w.heap.size wq (.slice A5 n c5) refs ∧ refs.map Prod.snd = bs.map Prod.snd ∧ Below w.heap.size w wq)
 case first =>
  go_wp2
  go_loopg [5, 17] n (fun k o i wr => ∃ (j : Nat) (refs : List (Sl3 × Bck)), j + k = n ∧ i = .int .i64 j ∧ RfL w.heap.size wr o refs ∧ refs.map Prod.snd = (bs.take j).map Prod.snd ∧ Below w.heap.size w wr)
  case atStart => exact ⟨0, [], by omega, rfl, ⟨OV.nil _ _, fun x h => (by cases h)⟩, rfl, Below.refl _ _⟩
  case round =>
   obtain ⟨j, refs, hj, rfl, hr, he, hb⟩ := hrel
   have HJ := Lib.hid hj
   have HR := Lib.hid hr
   have HE := Lib.hid he
   have HB := Lib.hid hb
   have hn6 := HN.out.2
   clear hj hr he hb
   by_cases hlt : j < n
   ·obtain ⟨bb, off, c', hsl, hcc, hr⟩ := (HL.out.ev.below HB.out).row (by rw [HN.out.1]; omega)
    rw [HN.out.1] at hsl
    cases hsl
    obtain ⟨⟨⟨As, ns, cs⟩, b⟩, hx⟩ : ∃ x, bs[j]? = some x := ⟨_, List.getElem?_eq_getElem (by rw [HN.out.1]; exact hlt)⟩
    obtain ⟨g0, g1, g2, g3, g4⟩ := hr.sb5 hx
    have HXE := Lib.hid (And.intro (HL.out.rows _ (List.mem_of_getElem? hx)) (HLE.out _ (List.mem_of_getElem? hx)))
    dsimp only at g0 g1 g2 g3 g4 HXE
    unfold slV at g4 HXE
    dsimp only at g4 HXE
    have HTK := Lib.hid (show (bs.take (j + 1)).map Prod.snd = (bs.take j).map Prod.snd ++ [b] from by rw [List.take_add_one, hx]; simp)
    have HRL := Lib.hid (show refs.length ≤ 100 by have := congrArg List.length HE.out; simp at this; have := HN.out; omega)
    have HBX := Lib.hid (show (wr.alloc (.cells #[.int .u8 b.kind, .int .u8 b.cpu, .int .i64 b.lost, .int .i64 b.next, .slice As ns cs] 24)).heap[wr.heap.size]? = some (.cells #[.int .u8 b.kind, .int .u8 b.cpu, .int .i64 b.lost, .int .i64 b.next, .slice As ns cs] 24 (0, 0)) from heap_alloc_new wr _)
    have HA := Lib.hid (bel_alloc wr (.cells #[.int .u8 b.kind, .int .u8 b.cpu, .int .i64 b.lost, .int .i64 b.next, .slice As ns cs] 24))
    clear hr hx
    go_upto_region 5 with fail
    have x0 := (cell_of_row _ wr.heap.size 0 _ _ (0, 0) HBX.out).trans rfl
    have x1 := (cell_of_row _ wr.heap.size 1 _ _ (0, 0) HBX.out).trans rfl
    have x2 := (cell_of_row _ wr.heap.size 2 _ _ (0, 0) HBX.out).trans rfl
    have x3 := (cell_of_row _ wr.heap.size 3 _ _ (0, 0) HBX.out).trans rfl
    have x4 := (cell_of_row _ wr.heap.size 4 _ _ (0, 0) HBX.out).trans rfl
    have HR2 := Lib.hid (HR.out.below HA.out)
    have HB2 := Lib.hid (bstep HB.out HA.out)
    clear g0 g1 g2 g3 g4 HBX HA HR HB
    generalize wr.alloc (.cells #[.int .u8 b.kind, .int .u8 b.cpu, .int .i64 b.lost, .int .i64 b.next, .slice As ns cs] 24) = wb at x0 x1 x2 x3 x4 HR2 HB2 ⊢
    generalize wr.heap.size = P at x0 x1 x2 x3 x4 ⊢
    go_wp2_with fail
    refine (turned10_ok wb (.slice As ns cs) b (HXE.out.1.below HB2.out) (by have := HXE.out.2; omega)).mono ?_
    rintro r we ⟨Ar, nr, cr, rfl, orr, b3⟩
    have HO3 := Lib.hid (show OV encE 11 96 w.heap.size we (slV (Ar, nr, cr)) b.evs from orr.base_le HB2.out.size)
    have HR3 := Lib.hid (HR2.out.below b3)
    have HB3 := Lib.hid (bstep HB2.out b3)
    clear orr b3 x0 x1 x2 x3 x4 HR2 HB2
    go_wp2_with (at_builtin; refine wpList_app elemRB encSb_len encSb_one rfl _ _ rfl _ _ rfl rfl (HR3.out.a.alloc _) (EV.newL (xs := [((Ar, nr, cr), b)]) (n := 1) (c := 1) encSb_len rfl rfl (Nat.le_refl _)) ?q1 ?q2 ?_)
    case q1 => have := HRL.out; simp; omega
    case q2 => have := HB3.out.size; simp; omega
    intro v' w4 o4 g4'
    have hal := bel_alloc we (.cells #[.int .u8 b.kind, .int .u8 b.cpu, .int .i64 b.lost, .int .i64 b.next, .slice Ar nr cr] 87)
    have HR4 := Lib.hid ((HR3.out.below hal).push (x := ((Ar, nr, cr), b)) (HO3.out.below hal) g4' o4)
    have HB4 := Lib.hid ((bstep HB3.out hal).grown g4' (bstep HB3.out hal).size (fun g q => ((HR3.out.below hal).a.block g q).1))
    clear o4 g4' hal
    go_wp2
    go_roundg (gk - 1)
    case measure => have := HJ.out; omega
    case rel => exact ⟨j + 1, _, by have := HJ.out; omega, by go_num, HR4.out, by rw [List.map_append, HE.out, HTK.out]; rfl, HB4.out⟩
   ·obtain rfl : n = j := by have := HJ.out; omega
    have he := HE.out
    rw [List.take_of_length_le (Nat.le_of_eq HN.out.1)] at he
    obtain ⟨A5, c5, h5⟩ := (HR.out.a.ev encSb_len).shape
    have hlr : refs.length = n := by have := congrArg List.length he; simpa [HN.out.1] using this
    rw [hlr] at h5
    subst h5
    have HE2 := Lib.hid he
    clear he hlr
    go_wp2
    go_meet
    exact ⟨_, A5, c5, refs, rfl, rfl, HR.out, HE2.out, HB.out⟩
 case rest =>
  obtain ⟨wq, A5, c5, refs, rfl, rfl, hr, he, hb⟩ := hcut
  refine (‹∀ (a : Act) (w : World), Code.wp _ _ _ a w → _› : ∀ (a : Act) (w : World), _ → _) _ _ (bl_t7 w wq A A5 n c c5 fr bs refs (HL.out.below hb) ⟨hr.a.ev encSb_len, fun x hx => (hr.rb x hx).ev encE_len⟩ he HN.out.1 HLE.out HOK.out HN.out.2 (HU.out.below hb) hb)
section
variable {H : Type} {encd : TypeId × Value → H} {w : World} {base : Nat} {spare : Nat → Bool} {held : Bool}
end
end Go.Proofs.YtalophngappkhaaGreatDoor
