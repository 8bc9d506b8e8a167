/- merge.Blocks: the loop over the joined events | merge.Blocks: joining | merge.Blocks: the loop over the blocks, and the whole | Taking the operations of a region that draws in the text's order, one by one, by their slots. -/
import Derived.Test.YtalophngappkhaaGreatDoorV18
import Derived.Test.YtalophngappkhaaGreatDoorV1
import Derived.Deep.RegionHeld3
set_option linter.unusedVariables false
set_option linter.unusedSimpArgs false
set_option linter.unusedSectionVars false
namespace Go.Proofs.YtalophngappkhaaGreatDoor
open Go.RowKit Go.Shelf
attribute [local go_sem] Oper.semAt_some

theorem MH.grown {w W W' : World} {bs : List Bck} {R : List Ev} {T : List Int} {X Y bb bn : Nat} {ve vt : Value} {row : Option Nat} (h : MH w bs R T X Y bb ve vt W) (hg : W.grownBy W' row) (hr : ∀ g, row = some g → bn ≤ g) (h1 : Y < bn) (h2 : ∀ g, ve.ownBlock = some g → g < bn) (h3 : ∀ g, vt.ownBlock = some g → g < bn) : MH w bs R T X Y bb ve vt W' := by
 have hxy := h.xy
 refine ⟨h.xy, h.rx.grown hg (fun e => by have := hr _ e; omega), h.oe.keep hg ?_, h.ot.keep hg ?_, h.bel.grown hg h.bel.size (fun g e => by have := hr g e; omega)⟩
 ·cases ho : ve.ownBlock with
  | none => exact .inl rfl
  | some g => exact .inr (fun e => by have := hr g e.symm; have := h2 g ho; omega)
 ·cases ho : vt.ownBlock with
  | none => exact .inl rfl
  | some g => exact .inr (fun e => by have := hr g e.symm; have := h3 g ho; omega)
theorem seqs_take {R : List Ev} {j : Nat} {e : Ev} (h : R[j]? = some e) : seqsL (R.take (j + 1)) = seqsL (R.take j) ++ [e.seq] ∧ nxtS (R.take (j + 1)) = max (nxtS (R.take j)) (e.seq + 1) := by
 rw [List.take_add_one, h]
 exact ⟨by simp [seqsL], by simpa using nxtS_snoc _ _⟩
set_option maxRecDepth 100000 in
set_option maxHeartbeats 3200000 in
theorem blocks_t20 (w wA : World) (bs : List Bck) (R : List Ev) (T : List Int) (X Y bb : Nat) (ve vt : Value) {u0 u1 u3 u4 u7 u8 u9 u10 u11 u12 u13 u14 u15 u16 u17 u18 u19 u20 u21 u22 u23 u24 u25 u26 u27 u28 u29 u30 u31 u32 u33 u34 u35 u36 u37 u38 u39 u40 u41 u42 u43 u44 u45 u46 u47 u48 u49 u50 u51 u52 u53 u54 u55 u56 u57 u58 u59 u60 u61 u62 u63 u64 u65 u66 u67 u68 u69 u70 u71 u72 u73 u74 u75 u76 u77 u78 u79 u80 u81 u82 u83 u84 u85 u86 u87 u88 u89 u90 u91 u92 u93 u94 u95 u96 u97 u98 u99 u100 u101 u102 u103 u104 u105 u106 u107 : Value} (h : MH w bs R T X Y bb ve vt wA) (f : MF bs R T)
  (hm : MgBox wA Y ve vt (.slice none 0 0) (lostB bs) 1 false) (hbb : bb ≤ wA.heap.size) :
  Code.wp Tryz.prog (tailR Tryz.f23 20) (bodyPost Tryz.prog Tryz.f23 (MgPost w bs))
   ⟨#[u0, u1, .pointer (some ⟨X, 0, none⟩), u3, u4, .pointer (some ⟨Y, 0, none⟩), .int .i64 (endB bs), u7, u8, u9, u10, u11, u12, u13, u14, u15, u16, u17, u18, u19, u20, u21, u22, u23, u24, u25, u26, u27, u28, u29, u30, u31, u32, u33, u34, u35, u36, u37, u38, u39, u40, u41, u42, u43, u44, u45, u46, u47, u48, u49, u50, u51, u52, u53, u54, u55, u56, u57, u58, u59, u60, u61, u62, u63, u64, u65, u66, u67, u68, u69, u70, u71, u72, u73, u74, u75, u76, u77, u78, u79, u80, u81, u82, u83, u84, u85, u86, u87, u88, u89, u90, u91, u92, u93, u94, u95, u96, u97, u98, u99, u100, u101, u102, u103, u104, u105, u106, u107], []⟩ wA := by
 conv => arg 2; whnf
 conv => arg 4; dsimp only
 obtain ⟨Ae, ce, hve⟩ := (h.oe.ev encE_len).shape
 obtain ⟨L, hL⟩ : ∃ L, R.length = L := ⟨_, rfl⟩
 rw [hL] at hve
 have HL := Lib.hid hL
 have hb1 : ∀ g, ve.ownBlock = some g → g < wA.heap.size := fun g q => (h.oe.block g q).2
 have hb2 : ∀ g, vt.ownBlock = some g → g < wA.heap.size := fun g q => (h.ot.block g q).2
 subst hve
 have HBL := Lib.hid (And.intro hm.lt (And.intro hb1 hb2))
 have HF := Lib.hid f
 have HH := Lib.hid h
 have HM := Lib.hid hm
 have hLb : L ≤ 65535 := by rw [← hL]; exact f.rl
 obtain ⟨bn, hbn⟩ : ∃ bn, wA.heap.size = bn := ⟨_, rfl⟩
 rw [hbn] at HBL
 have HB2 := Lib.hid (show bb ≤ bn from by omega)
 have HB0 := Lib.hid (show bn ≤ wA.heap.size from by omega)
 obtain ⟨E, hE⟩ : ∃ E, endB bs = E := ⟨_, rfl⟩
 have HE := Lib.hid hE
 rw [hE]
 have c0 := hm.c0
 clear h f hm hb1 hb2 hL hbn hE
 go_upto_block 2 with fail
 clear c0
 go_cut [11] (fun o wx => ∃ An nn cn, o = .slice An nn cn ∧ OV encI 1 3 bn wx o (seqsL R) ∧ MgBox wx Y (.slice Ae L ce) vt (.slice none 0 0) (lostB bs) (nxtS R) false ∧ MH w bs R T X Y bb (.slice Ae L ce) vt wx)
 case first =>
  go_wp2
  go_loopg [11, 65] L (fun k o i wr => ∃ j : Nat, j + k = L ∧ i = .int .i64 j ∧ OV encI 1 3 bn wr o (seqsL (R.take j)) ∧ MgBox wr Y (.slice Ae L ce) vt (.slice none 0 0) (lostB bs) (nxtS (R.take j)) false ∧ MH w bs R T X Y bb (.slice Ae L ce) vt wr ∧ bn ≤ wr.heap.size)
  case atStart => exact ⟨0, by omega, rfl, OV.nil _ _, HM.out, HH.out, HB0.out⟩
  clear HM HH
  case round =>
   obtain ⟨j, hj, rfl, ho, hm, hh, hs⟩ := hrel
   have HJ := Lib.hid hj
   have HO := Lib.hid ho
   have HM := Lib.hid hm
   have HH := Lib.hid hh
   have HS := Lib.hid hs
   clear hj ho hm hh hs
   by_cases hlt : j < L
   ·obtain ⟨b, off, c', hsl, hcc, hr⟩ := (HH.out.oe.ev encE_len).row (by rw [HL.out]; omega)
    rw [HL.out] at hsl
    cases hsl
    obtain ⟨e, he⟩ : ∃ e, R[j]? = some e := ⟨_, List.getElem?_eq_getElem (by rw [HL.out]; exact hlt)⟩
    obtain ⟨g0, g1, g2, g3, g4, g5, g6, g7, g8, g9, g10⟩ := hr.ev he
    obtain ⟨t1, t2⟩ := seqs_take he
    have HT := Lib.hid (And.intro t1 t2)
    have hsq := HF.out.seq e (List.mem_of_getElem? he)
    have HEV := Lib.hid (evp_new wr e)
    have HA := Lib.hid (bel_alloc wr (.cells #[.int .i64 e.seq, .int .i64 e.time, .int .u8 e.cpu, .int .u8 e.kind, .int .i64 e.task, .int .i64 e.grp, .int .i64 e.to, .int .i64 e.wt, .int .i64 e.ticks, .int .u64 e.mask, .int .i64 e.got] 28))
    clear hr hcc t1 t2 he
    go_upto_region 24 with fail
    obtain ⟨B, hB⟩ : ∃ B, wr.heap.size = B := ⟨_, rfl⟩
    have h1 := HEV.out
    have h2 := HA.out
    clear HEV HA g0 g1 g2 g3 g4 g5 g6 g7 g8 g9 g10
    generalize wr.alloc (.cells #[.int .i64 e.seq, .int .i64 e.time, .int .u8 e.cpu, .int .u8 e.kind, .int .i64 e.task, .int .i64 e.grp, .int .i64 e.to, .int .i64 e.wt, .int .i64 e.ticks, .int .u64 e.mask, .int .i64 e.got] 28) = wa at h1 h2 ⊢
    rw [hB] at h1 ⊢
    have HEV := Lib.hid h1
    have HM1 := Lib.hid (HM.out.below h2)
    have HH1 := Lib.hid (HH.out.below h2)
    have HO1 := Lib.hid (HO.out.below h2)
    have HS1 := Lib.hid (show bn ≤ wa.heap.size from Nat.le_trans HS.out h2.size)
    have HOB := Lib.hid (fun g (q : u11.ownBlock = some g) => (show bn ≤ g ∧ g < B from by rw [← hB]; exact HO.out.block g q))
    have c0 := h1.c0
    clear h1 h2 HM HH HO HS hB
    go_wp2_with (at_builtin; refine wpList_app elemI encI_len encI_one rfl _ _ rfl _ _ rfl rfl (HO1.out.alloc _) (EV.newL (xs := [e.seq]) (n := 1) (c := 1) encI_len rfl rfl (Nat.le_refl _)) ?q1 ?q2 ?_)
    case q1 => unfold seqsL; simp; omega
    case q2 => have := HS1.out; simp; omega
    intro v' w4 o4 g4
    rw [← HT.out.1] at o4
    have hyb := HBL.out.1
    have HH2 := Lib.hid ((HH1.out.below (bel_alloc wa (.cells #[.int .i64 e.seq] 3))).grown g4 (fun g q => (HOB.out g q).1) HBL.out.1 HBL.out.2.1 HBL.out.2.2)
    have HM2 := Lib.hid ((HM1.out.below (bel_alloc wa (.cells #[.int .i64 e.seq] 3))).grown g4 (fun q => by have := (HOB.out _ q).1; omega))
    have HE2 := Lib.hid ((HEV.out.below (bel_alloc wa (.cells #[.int .i64 e.seq] 3)) HEV.out.lt).grown g4 (fun q => by have := (HOB.out _ q).2; omega))
    have HO2 := Lib.hid o4
    have HS2 := Lib.hid (show bn ≤ w4.heap.size from by have := g4.size; have := HS1.out; simp at *; omega)
    have c4 := HM2.out.c4
    have f4 := HM2.out.frz 4
    have e0 := HE2.out.c0
    clear o4 g4 HM1 HH1 HO1 HEV c0
    obtain ⟨M, hM⟩ : ∃ M, nxtS (R.take j) = M := ⟨_, rfl⟩
    obtain ⟨M', hM'⟩ : ∃ M', max M (e.seq + 1) = M' := ⟨_, rfl⟩
    have hMM : nxtS (R.take (j + 1)) = M' := by rw [HT.out.2, hM, hM']
    rw [hM] at c4 HM2
    have HMM := Lib.hid hMM
    clear hM hMM
    go_wp2
    go_roundg (L - (j + 1))
    case measure => have := HJ.out; omega
    case rel =>
     refine ⟨j + 1, by have := HJ.out; omega, by go_num, HO2.out.mod (Mod.setCell (p := ⟨Y, 4, none⟩) (T := fun k => k = Y) _ rfl) (fun g q t => by have := (HO2.out.block g q).1; have := HBL.out.1; omega), ?_, HH2.out.setY 4 _, by simpa using HS2.out⟩
     rw [HMM.out]
     exact HM2.out.set4 M'
   ·obtain rfl : L = j := by have := HJ.out; omega
    have e1 : R.take L = R := List.take_of_length_le (by rw [HL.out]; exact Nat.le_refl _)
    rw [e1] at HO HM
    obtain ⟨An, cn, hvn⟩ := (HO.out.ev encI_len).shape
    obtain ⟨nn, hnn⟩ : ∃ nn, (seqsL R).length = nn := ⟨_, rfl⟩
    rw [hnn] at hvn
    subst hvn
    clear e1 hnn
    go_wp2
    go_meet
    exact ⟨An, nn, cn, rfl, HO.out, HM.out, HH.out⟩
 case rest =>
  obtain ⟨An, nn, cn, rfl, ho, hm, hh⟩ := hcut
  rw [← HE.out]
  refine (‹∀ (a : Act) (w : World), Code.wp _ _ _ a w → _› : ∀ (a : Act) (w : World), _ → _) _ _ (blocks_t27 w wc bs R T X Y bb nn cn An _ vt hh HF.out hm (ho.base_le ?_))
  exact HB2.out
end Go.Proofs.YtalophngappkhaaGreatDoor
namespace Go.Proofs.YtalophngappkhaaGreatDoor
open Go.RowKit Go.Shelf
attribute [local go_sem] Oper.semAt_some

theorem chk0_fits {b : Bck} (h : chkB b = 0) : FitsB b := by
 unfold chkB at h
 by_cases hf : FitsB b
 ·exact hf
 ·rw [if_neg hf] at h; cases h
theorem fits_evs {b : Bck} (h : FitsB b) : RowOk b.evs := by
 rcases h with h | h
 ·exact h.2.1
 ·rw [h.2.2.2.2.2]; trivial
theorem fits_next {b : Bck} (h : FitsB b) : 0 ≤ b.next ∧ b.next ≤ 281474976710657 := by
 rcases h with h | h
 ·have := h.2.2.2.2.2.1; omega
 ·have := h.2.1; have := h.2.2.1; omega
theorem fits_lost {b : Bck} (h : FitsB b) : 0 ≤ b.lost ∧ b.lost ≤ 281474976710656 := by
 rcases h with h | h
 ·exact ⟨h.2.2.2.1, h.2.2.2.2.1⟩
 ·have := h.2.2.2.2.1; omega
theorem foldl_max_le : ∀ (bs : List Bck) (a : Int), 0 ≤ a → a ≤ 281474976710657 → (∀ b ∈ bs, FitsB b) → 0 ≤ bs.foldl (fun a b => max a b.next) a ∧ bs.foldl (fun a b => max a b.next) a ≤ 281474976710657
 | [], a, h1, h2, _ => ⟨h1, h2⟩
 | b :: bs, a, h1, h2, h => by
  have := fits_next (h b (by simp))
  exact foldl_max_le bs _ (show 0 ≤ max a b.next by omega) (show max a b.next ≤ 281474976710657 by omega) (fun x hx => h x (by simp [hx]))
theorem endB_le {bs : List Bck} (h : ∀ b ∈ bs, FitsB b) : 0 ≤ endB bs ∧ endB bs ≤ 281474976710657 := foldl_max_le bs 0 (by omega) (by omega) h
theorem mf_of {bs : List Bck} {R : List Ev} {T : List Int} (hj : JoinRes (bs.flatMap Bck.evs) R T 0) (hck : ∀ b ∈ bs, chkB b = 0) (hl : bs.length ≤ 4096) (ho : ∀ b ∈ bs, BlkOk b) : MF bs R T := by
 have hok : JoinOk (bs.flatMap Bck.evs) R T ∧ (bs.flatMap Bck.evs).length ≤ 65535 := by
  rcases hj with ⟨_, h, _⟩ | ⟨_, _, h, _⟩ | ⟨h1, _, _, h⟩
  ·cases h
  ·cases h
  ·exact ⟨h, h1⟩
 refine ⟨hj, hck, hl, fun e he => ?_, hok.1.srt, Nat.le_trans hok.1.len.1 hok.2, endB_le fun b hb => chk0_fits (hck b hb)⟩
 obtain ⟨b, hb, hbe⟩ := List.mem_flatMap.1 ((hok.1.mem e).1 he)
 have hr := fits_evs (chk0_fits (hck b hb))
 obtain ⟨i, hi, rfl⟩ := List.getElem_of_mem hbe
 have := chk_lim ((ho b hb).evs _ (List.getElem_mem hi)) (hr.at i _ (List.getElem?_eq_getElem hi)).1
 exact this.2.1
def rowsB (bs : List (Value × Bck)) : List (Value × List Ev) := bs.map fun x => (x.1, x.2.evs)
theorem flat_rows (bs : List (Value × Bck)) : flatR (rowsB bs) = (bs.map Prod.snd).flatMap Bck.evs := by
 unfold flatR rowsB
 rw [List.flatMap_map, List.flatMap_map]
set_option maxRecDepth 100000 in
set_option maxHeartbeats 3200000 in
theorem blocks_t16 (w wA : World) (bs : List (Value × Bck)) (X Y : Nat) (vr : Value) {u0 u1 u3 u7 u8 u9 u10 u11 u12 u13 u14 u15 u16 u17 u18 u19 u20 u21 u22 u23 u24 u25 u26 u27 u28 u29 u30 u31 u32 u33 u34 u35 u36 u37 u38 u39 u40 u41 u42 u43 u44 u45 u46 u47 u48 u49 u50 u51 u52 u53 u54 u55 u56 u57 u58 u59 u60 u61 u62 u63 u64 u65 u66 u67 u68 u69 u70 u71 u72 u73 u74 u75 u76 u77 u78 u79 u80 u81 u82 u83 u84 u85 u86 u87 u88 u89 u90 u91 u92 u93 u94 u95 u96 u97 u98 u99 u100 u101 u102 u103 u104 u105 u106 u107 : Value} (hxy : X < Y ∧ w.heap.size ≤ X) (hl : bs.length ≤ 4096) (hck : ∀ x ∈ bs, chkB x.2 = 0) (ho : ∀ x ∈ bs, BlkOk x.2) (hT : (flatR (rowsB bs)).length ≤ 100000000)
  (rx : MgBox wA X (.slice none 0 0) (.slice none 0 0) (.slice none 0 0) 0 0 false) (hm : MgBox wA Y (.slice none 0 0) (.slice none 0 0) (.slice none 0 0) (lostB (bs.map Prod.snd)) 1 false)
  (hv : EV encVs 1 wA vr (rowsB bs)) (hx : ∀ x ∈ rowsB bs, EV encE 11 wA x.1 x.2) (bel : Below w.heap.size w wA) :
  Code.wp Tryz.prog (tailR Tryz.f23 16) (bodyPost Tryz.prog Tryz.f23 (MgPost w (bs.map Prod.snd)))
   ⟨#[u0, u1, .pointer (some ⟨X, 0, none⟩), u3, vr, .pointer (some ⟨Y, 0, none⟩), .int .i64 (endB (bs.map Prod.snd)), u7, u8, u9, u10, u11, u12, u13, u14, u15, u16, u17, u18, u19, u20, u21, u22, u23, u24, u25, u26, u27, u28, u29, u30, u31, u32, u33, u34, u35, u36, u37, u38, u39, u40, u41, u42, u43, u44, u45, u46, u47, u48, u49, u50, u51, u52, u53, u54, u55, u56, u57, u58, u59, u60, u61, u62, u63, u64, u65, u66, u67, u68, u69, u70, u71, u72, u73, u74, u75, u76, u77, u78, u79, u80, u81, u82, u83, u84, u85, u86, u87, u88, u89, u90, u91, u92, u93, u94, u95, u96, u97, u98, u99, u100, u101, u102, u103, u104, u105, u106, u107], []⟩ wA := by
 conv => arg 2; whnf
 conv => arg 4; dsimp only
 have HJ := Lib.hid (join_ok wA vr (rowsB bs) hv hx (fun e he => by
  rw [flat_rows] at he
  obtain ⟨b, hb, hbe⟩ := List.mem_flatMap.1 he
  obtain ⟨x, hx, rfl⟩ := List.mem_map.1 hb
  exact (ho x hx).evs e hbe) (by unfold rowsB; rw [List.length_map]; omega) hT)
 obtain ⟨ls, hls⟩ : ∃ ls, bs.map Prod.snd = ls := ⟨_, rfl⟩
 have hfr := flat_rows bs
 rw [hls] at hm hfr ⊢
 rw [hfr] at HJ
 have HCK := Lib.hid (show ∀ b ∈ ls, chkB b = 0 from fun b hb => by rw [← hls] at hb; obtain ⟨x, hx, rfl⟩ := List.mem_map.1 hb; exact hck x hx)
 have HO := Lib.hid (show ∀ b ∈ ls, BlkOk b from fun b hb => by rw [← hls] at hb; obtain ⟨x, hx, rfl⟩ := List.mem_map.1 hb; exact ho x hx)
 have HL := Lib.hid (show ls.length ≤ 4096 by rw [← hls, List.length_map]; exact hl)
 obtain ⟨A, c, hvr⟩ := hv.shape
 have HXY := Lib.hid hxy
 have HRX := Lib.hid rx
 have HM := Lib.hid hm
 have HB := Lib.hid bel
 obtain ⟨E, hE⟩ : ∃ E, endB ls = E := ⟨_, rfl⟩
 have HE := Lib.hid hE
 rw [hE]
 obtain ⟨nr, hnr⟩ : ∃ n, (rowsB bs).length = n := ⟨_, rfl⟩
 rw [hnr] at hvr
 subst hvr
 have c0 := hm.c0
 have c1 := hm.c1
 have f0 := hm.frz 0
 have f1 := hm.frz 1
 clear hxy hl hck ho hT rx hm hv hx bel hls hfr hE hnr c0 c1 f0 f1
 go_wp2_with fail
 refine HJ.out.mono ?_
 rintro r wj ⟨ve, vt, cj, R, T, rfl, oe, ot, jr, b1⟩
 have HM2 := Lib.hid (HM.out.below b1)
 have HRX2 := Lib.hid (HRX.out.below b1)
 have HB2 := Lib.hid (bstep HB.out b1)
 have HJR := Lib.hid jr
 have HOE := Lib.hid oe
 have HOT := Lib.hid ot
 have HSZ := Lib.hid (show Y < wA.heap.size ∧ wA.heap.size ≤ wj.heap.size from ⟨HM.out.lt, b1.size⟩)
 obtain ⟨Ae, ce, hve⟩ := (oe.ev encE_len).shape
 obtain ⟨At, ct, hvt⟩ := (ot.ev encI_len).shape
 obtain ⟨Le, hLe⟩ : ∃ L, R.length = L := ⟨_, rfl⟩
 obtain ⟨Lt, hLt⟩ : ∃ L, T.length = L := ⟨_, rfl⟩
 rw [hLe] at hve
 rw [hLt] at hvt
 subst hve hvt
 have c0 := HM2.out.c0
 have c1 := HM2.out.c1
 have f0 := HM2.out.frz 0
 have f1 := HM2.out.frz 1
 clear oe ot jr b1 HM HRX HB HJ hLe hLt
 go_upto_region 18 with fail
 have h1 := (HM2.out.set0 (.slice Ae Le ce)).set1 (.slice At Lt ct)
 have hmd := (Mod.setCell (a := wj) (p := ⟨Y, 0, none⟩) (T := fun k => k = Y) (.slice Ae Le ce) rfl).trans (Mod.setCell (p := ⟨Y, 1, none⟩) (T := fun k => k = Y) (.slice At Lt ct) rfl)
 have h2 : MH w ls R T X Y wA.heap.size (.slice Ae Le ce) (.slice At Lt ct) ((wj.setCell ⟨Y, 0, none⟩ (.slice Ae Le ce)).setCell ⟨Y, 1, none⟩ (.slice At Lt ct)) :=
  MH.setY (MH.setY ⟨⟨HXY.out.1, HXY.out.2, HSZ.out.1⟩, HRX2.out, HOE.out, HOT.out, HB2.out⟩ 0 _) 1 _
 have h3 : wA.heap.size ≤ ((wj.setCell ⟨Y, 0, none⟩ (.slice Ae Le ce)).setCell ⟨Y, 1, none⟩ (.slice At Lt ct)).heap.size := Nat.le_trans HSZ.out.2 hmd.size
 clear c0 c1 f0 f1 hmd HM2 HRX2 HB2 HOE HOT
 generalize (wj.setCell ⟨Y, 0, none⟩ (.slice Ae Le ce)).setCell ⟨Y, 1, none⟩ (.slice At Lt ct) = wk at h1 h2 h3 ⊢
 have HM := Lib.hid h1
 have HH := Lib.hid h2
 have HS := Lib.hid h3
 clear h1 h2 h3
 go_upto_if 59 with fail
 go_cut [] (fun wx => cj = 0 ∧ wx = wk)
 case first =>
  by_cases hc : cj = 0
  ·subst hc
   go_wp2
   go_meet
   exact ⟨trivial, rfl⟩
  ·have hne : (cj != 0) = true := by simpa using hc
   have HC := Lib.hid hc
   have d0 := HH.out.rx.c0
   have d1 := HH.out.rx.c1
   have d2 := HH.out.rx.c2
   have d3 := HH.out.rx.c3
   have d4 := HH.out.rx.c4
   have d5 := HH.out.rx.c5
   have e0 := HH.out.rx.frz 0
   have e1 := HH.out.rx.frz 1
   have e2 := HH.out.rx.frz 2
   have e3 := HH.out.rx.frz 3
   have e4 := HH.out.rx.frz 4
   have e5 := HH.out.rx.frz 5
   have HBX := Lib.hid ((((((HH.out.rx.set0 (.slice none 0 0)).set1 (.slice none 0 0)).set2 (.slice none 0 0)).set3 0).set4 0).set5 false)
   have HMO := Lib.hid ((((((Mod.setCell (a := wk) (p := ⟨X, 0, none⟩) (T := fun k => k = X) (.slice none 0 0) rfl).trans (Mod.setCell (p := ⟨X, 1, none⟩) (T := fun k => k = X) (.slice none 0 0) rfl)).trans (Mod.setCell (p := ⟨X, 2, none⟩) (T := fun k => k = X) (.slice none 0 0) rfl)).trans (Mod.setCell (p := ⟨X, 3, none⟩) (T := fun k => k = X) (.int .i64 0) rfl)).trans (Mod.setCell (p := ⟨X, 4, none⟩) (T := fun k => k = X) (.int .i64 0) rfl)).trans (Mod.setCell (p := ⟨X, 5, none⟩) (T := fun k => k = X) (.bool false) rfl))
   clear hc
   go_wp2
   refine bodyPost_ret (results_cellT rfl _ _ _ rfl rfl (load_mg HBX.out)) rfl ?_
   refine ⟨.slice none 0 0, .slice none 0 0, .slice none 0 0, mg0, cj, rfl, .inr (.inr ⟨HL.out, HCK.out, R, T, HJR.out, fun _ => rfl, fun h => absurd h HC.out⟩), OV.nil _ _, OV.nil _ _, OV.nil _ _, ?_⟩
   have hxy := HXY.out
   exact HH.out.bel.trans (HMO.out.below (B := w.heap.size) (fun k hk t => by omega) HH.out.bel.size)
 case rest =>
  obtain ⟨rfl, rfl⟩ := hcut
  rw [← HE.out]
  exact (‹∀ (a : Act) (w : World), Code.wp _ _ _ a w → _› : ∀ (a : Act) (w : World), _ → _) _ _ (blocks_t20 w wc ls R T X Y wA.heap.size _ _ HH.out (mf_of HJR.out HCK.out HL.out HO.out) HM.out HS.out)
end Go.Proofs.YtalophngappkhaaGreatDoor
namespace Go.Proofs.YtalophngappkhaaGreatDoor
open Go.RowKit Go.Shelf
attribute [local go_sem] Oper.semAt_some

theorem elemLE : ElemT Tryz.prog 41 22 1 24 := ⟨Tryz.underlying41, by
 have h : (Tryz.prog.info? 22).map (fun i => (i.zero, i.size, i.bytes)) = some (some (.slice none 0 0), 1, 24) := by kernel_rfl
 obtain ⟨i, h1, h2, h3, h4⟩ := info_parts h
 exact ⟨i, _, h1, h2, h3, h4, rfl⟩, by omega, by omega⟩
def encSl (x : Option Addr × Nat × Nat) : List Value := [.slice x.1 x.2.1 x.2.2]
theorem encSl_len (x : Option Addr × Nat × Nat) : (encSl x).length = 1 := rfl
theorem encSl_one : ∀ x, ∀ u ∈ encSl x, u.oneCell' = true := by intro x u hu; simp [encSl] at hu; subst hu; rfl
theorem EV.recode {α β : Type} {enc : α → List Value} {enc' : β → List Value} {k : Nat} {w : World} {v : Value} {xs : List α} {ys : List β} (h : EV enc k w v xs) (hm : ys.map enc' = xs.map enc) : EV enc' k w v ys := by
 have hl : ys.length = xs.length := by simpa using congrArg List.length hm
 rcases h with ⟨rfl, A, c, rfl⟩ | ⟨h1, b, off, c, rfl, h3, h4⟩
 ·exact .inl ⟨List.length_eq_zero_iff.1 hl, A, c, rfl⟩
 ·refine .inr ⟨fun e => h1 (List.length_eq_zero_iff.1 (by rw [← hl, e]; rfl)), b, off, c, by rw [hl], by omega, fun i x hx j u hu => ?_⟩
  have h5 : (ys.map enc')[i]? = some (enc' x) := by rw [List.getElem?_map, hx]; rfl
  rw [hm, List.getElem?_map] at h5
  cases hy : xs[i]? with
  | none => rw [hy] at h5; cases h5
  | some y =>
   rw [hy] at h5
   have h6 : enc y = enc' x := by simpa using h5
   exact h4 i y hy j u (by rw [h6]; exact hu)
theorem lostB_le : ∀ (bs : List Bck), (∀ b ∈ bs, FitsB b) → 0 ≤ lostB bs ∧ lostB bs ≤ 281474976710656 * bs.length := by
 have key : ∀ (bs : List Bck) (a : Int), (∀ b ∈ bs, FitsB b) → a ≤ bs.foldl (fun a b => a + b.lost) a ∧ bs.foldl (fun a b => a + b.lost) a ≤ a + 281474976710656 * bs.length := by
  intro bs
  induction bs with
  | nil => intro a _; simp
  | cons b l ih =>
   intro a h
   have h1 := fits_lost (h b (by simp))
   have h2 := ih (a + b.lost) (fun x hx => h x (by simp [hx]))
   simp only [List.foldl_cons, List.length_cons]
   omega
 intro bs h
 have := key bs 0 h
 unfold lostB
 omega
theorem bks_take {bs : List (Value × Bck)} {j : Nat} {x : Value × Bck} (h : bs[j]? = some x) :
  rowsB (bs.take (j + 1)) = rowsB (bs.take j) ++ [(x.1, x.2.evs)] ∧ lostB ((bs.take (j + 1)).map Prod.snd) = lostB ((bs.take j).map Prod.snd) + x.2.lost ∧ endB ((bs.take (j + 1)).map Prod.snd) = max (endB ((bs.take j).map Prod.snd)) x.2.next := by
 rw [List.take_add_one, h]
 refine ⟨by simp [rowsB], ?_, ?_⟩
 ·simpa using lostB_snoc _ _
 ·simpa using endB_snoc _ _
/-- What the loop keeps. -/
structure BL (w : World) (bs : List (Value × Bck)) (X Y bn : Nat) (j : Nat) (o e : Value) (W : World) : Prop where
 rows : ∃ xs, OV encSl 1 22 bn W o xs ∧ (rowsB (bs.take j)).map encVs = xs.map encSl
 en : e = .int .i64 (endB ((bs.take j).map Prod.snd))
 rx : MgBox W X (.slice none 0 0) (.slice none 0 0) (.slice none 0 0) 0 0 false
 ry : MgBox W Y (.slice none 0 0) (.slice none 0 0) (.slice none 0 0) (lostB ((bs.take j).map Prod.snd)) 1 false
 ck : ∀ i x, i < j → bs[i]? = some x → chkB x.2 = 0
 bel : Below w.heap.size w W
 sz : bn ≤ W.heap.size
set_option maxRecDepth 100000 in
set_option maxHeartbeats 6400000 in
theorem blocks_ok (w : World) (v : Value) (bs : List (Value × Bck)) (hv : BksS w v bs) (ho : ∀ x ∈ bs, BlkOk x.2) (hl : ∀ x ∈ bs, x.2.evs.length ≤ 100000) (hn : bs.length ≤ 1000000) (hT : (flatR (rowsB bs)).length ≤ 100000000) (hla : LaidAt w) :
  Calls Tryz.prog 23 #[v] w (MgPost w (bs.map Prod.snd)) := by
 have HV := Lib.hid hv
 have HO := Lib.hid ho
 have HEL := Lib.hid hl
 have HTT := Lib.hid hT
 have HLA := Lib.hid hla
 obtain ⟨A, c, hA⟩ := hv.row.shape
 subst hA
 obtain ⟨n, hnn⟩ : ∃ n, bs.length = n := ⟨_, rfl⟩
 have HN := Lib.hid hnn
 rw [hnn] at hn HV ⊢
 have HX0 := Lib.hid (MgBox.new w (.slice none 0 0) (.slice none 0 0) (.slice none 0 0) 0 0 false)
 have HB0 := Lib.hid (bel_alloc w (.cells #[.slice none 0 0, .slice none 0 0, .slice none 0 0, .int .i64 0, .int .i64 0, .bool false] 39))
 clear hv ho hl hT hla hnn
 go_enter Tryz.func23, Tryz.ntmps23
 go_upto_region 1 with fail
 generalize w.alloc (.cells #[.slice none 0 0, .slice none 0 0, .slice none 0 0, .int .i64 0, .int .i64 0, .bool false] 39) = wx at *
 obtain ⟨X, hX⟩ : ∃ X, w.heap.size = X := ⟨_, rfl⟩
 have HXE := Lib.hid hX
 rw [hX] at HX0 ⊢
 clear hX
 by_cases h4 : 4096 < n
 ·have hd : decide ((4096 : Int) < (n : Int)) = true := by simp; omega
  have HH4 := Lib.hid h4
  have d0 := HX0.out.c0
  have d1 := HX0.out.c1
  have d2 := HX0.out.c2
  have d3 := HX0.out.c3
  have d4 := HX0.out.c4
  have d5 := HX0.out.c5
  have e0 := HX0.out.frz 0
  have e1 := HX0.out.frz 1
  have e2 := HX0.out.frz 2
  have e3 := HX0.out.frz 3
  have e4 := HX0.out.frz 4
  have e5 := HX0.out.frz 5
  have HBX := Lib.hid ((((((HX0.out.set0 (.slice none 0 0)).set1 (.slice none 0 0)).set2 (.slice none 0 0)).set3 0).set4 0).set5 false)
  have HMO := Lib.hid ((((((Mod.setCell (a := wx) (p := ⟨X, 0, none⟩) (T := fun k => k = X) (.slice none 0 0) rfl).trans (Mod.setCell (p := ⟨X, 1, none⟩) (T := fun k => k = X) (.slice none 0 0) rfl)).trans (Mod.setCell (p := ⟨X, 2, none⟩) (T := fun k => k = X) (.slice none 0 0) rfl)).trans (Mod.setCell (p := ⟨X, 3, none⟩) (T := fun k => k = X) (.int .i64 0) rfl)).trans (Mod.setCell (p := ⟨X, 4, none⟩) (T := fun k => k = X) (.int .i64 0) rfl)).trans (Mod.setCell (p := ⟨X, 5, none⟩) (T := fun k => k = X) (.bool false) rfl))
  clear h4
  go_wp2
  refine bodyPost_ret (results_cellT rfl _ _ _ rfl rfl (load_mg HBX.out)) rfl ?_
  refine ⟨.slice none 0 0, .slice none 0 0, .slice none 0 0, mg0, 5, rfl, .inl ⟨by rw [List.length_map, HN.out]; exact HH4.out, rfl, rfl⟩, OV.nil _ _, OV.nil _ _, OV.nil _ _, ?_⟩
  have hxy := HXE.out
  exact HB0.out.trans (HMO.out.below (B := w.heap.size) (fun k hk t => by omega) HB0.out.size)
 ·have hd : decide ((4096 : Int) < (n : Int)) = false := by simp; omega
  have H4 := Lib.hid h4
  clear h4
  go_upto_region 4 with fail
  have HY0 := Lib.hid (MgBox.new wx (.slice none 0 0) (.slice none 0 0) (.slice none 0 0) 0 1 false)
  have hb := bel_alloc wx (.cells #[.slice none 0 0, .slice none 0 0, .slice none 0 0, .int .i64 0, .int .i64 1, .bool false] 39)
  have HX1 := Lib.hid (HX0.out.below hb)
  have HB1 := Lib.hid (bstep HB0.out hb)
  have HXY := Lib.hid HX0.out.lt
  have HYB := Lib.hid HY0.out.lt
  clear hb HX0 HB0
  go_upto_block 0 with fail
  generalize wx.alloc (.cells #[.slice none 0 0, .slice none 0 0, .slice none 0 0, .int .i64 0, .int .i64 1, .bool false] 39) = wy at HY0 HX1 HB1 HYB ⊢
  obtain ⟨Y, hY⟩ : ∃ Y, wx.heap.size = Y := ⟨_, rfl⟩
  rw [hY] at HY0 HXY HYB ⊢
  clear hY
  obtain ⟨bn, hbn⟩ : ∃ bn, wy.heap.size = bn := ⟨_, rfl⟩
  have HSZ0 := Lib.hid (show bn ≤ wy.heap.size by omega)
  have HYN := Lib.hid (show Y < bn by rw [← hbn]; exact HYB.out)
  clear hbn HYB
  go_cut [4, 6] (fun o e wz => BL w bs X Y bn n o e wz)
  case first =>
   go_wp2
   go_loopg [4, 6, 24] n (fun k o e i wr => ∃ j : Nat, j + k = n ∧ i = .int .i64 j ∧ BL w bs X Y bn j o e wr)
   case atStart => exact ⟨0, by omega, rfl, ⟨[], OV.nil _ _, rfl⟩, rfl, HX1.out, HY0.out, fun i x h => by omega, HB1.out, HSZ0.out⟩
   clear HX1 HY0 HB1 HSZ0
   case round =>
    obtain ⟨j, hj, rfl, hbl⟩ := hrel
    obtain ⟨E, hE⟩ : ∃ E, endB ((bs.take j).map Prod.snd) = E := ⟨_, rfl⟩
    have hen := hbl.en
    rw [hE] at hen
    subst hen
    have HE := Lib.hid hE
    have HJ := Lib.hid hj
    have HBL := Lib.hid hbl
    clear hj hbl hE
    by_cases hlt : j < n
    ·obtain ⟨b, off, c', hsl, hcc, hr⟩ := (HV.out.below HBL.out.bel).row.row (by rw [HN.out]; omega)
     rw [HN.out] at hsl
     cases hsl
     obtain ⟨x, hx⟩ : ∃ x, bs[j]? = some x := ⟨_, List.getElem?_eq_getElem (by rw [HN.out]; exact hlt)⟩
     have HXX := Lib.hid hx
     have HXM := Lib.hid (List.mem_of_getElem? hx)
     obtain ⟨g0, g1, g2, g3, g4⟩ := hr.bk hx
     obtain ⟨t1, t2, t3⟩ := bks_take hx
     have HT1 := Lib.hid t1
     have HT2 := Lib.hid t2
     have HT3 := Lib.hid t3
     clear hr hcc t1 t2 t3 hx
     obtain ⟨xv, xb⟩ := x
     dsimp only at g0 g1 g2 g3 g4 HT1 HT2 HT3
     have hxe := (HV.out.below HBL.out.bel).evs _ HXM.out
     dsimp only at hxe
     obtain ⟨Ax, cx, hAx⟩ := hxe.shape
     obtain ⟨nx, hnx⟩ : ∃ nx, xb.evs.length = nx := ⟨_, rfl⟩
     have HNX := Lib.hid hnx
     rw [hnx] at hAx
     subst hAx
     have HXE2 := Lib.hid hxe
     have HBX := Lib.hid (BkBox.new wr xb (.slice Ax nx cx))
     have HBA := Lib.hid (bel_alloc wr (.cells (blkC xb (.slice Ax nx cx)) 24))
     unfold blkC at HBX HBA
     clear hxe hnx
     go_upto_region 9 with fail
     clear g0 g1 g2 g3 g4
     generalize wr.alloc (.cells #[.int .u8 xb.kind, .int .u8 xb.cpu, .int .i64 xb.lost, .int .i64 xb.next, .slice Ax nx cx] 24) = wb at HBX HBA ⊢
     obtain ⟨BB, hBB⟩ : ∃ BB, wr.heap.size = BB := ⟨_, rfl⟩
     have hbb : bn ≤ BB := by rw [← hBB]; exact HBL.out.sz
     have HBBN := Lib.hid hbb
     have hob : ∀ g, u4.ownBlock = some g → bn ≤ g ∧ g < BB := by
      obtain ⟨xs, h1, _⟩ := HBL.out.rows
      rw [← hBB]
      exact h1.block
     have HOB := Lib.hid hob
     rw [hBB] at HBX ⊢
     have HWB := Lib.hid HBX.out.lt
     have HC := Lib.hid (bcheck_ok wb xb (.slice Ax nx cx) (HO.out _ HXM.out) (HXE2.out.below HBA.out) (HEL.out _ HXM.out) ((HLA.out.below HBL.out.bel).below HBA.out))
     have HBB1 := Lib.hid (bstep HBL.out.bel HBA.out)
     have HRX1 := Lib.hid (HBL.out.rx.below HBA.out)
     have HRY1 := Lib.hid (HBL.out.ry.below HBA.out)
     obtain ⟨xs, hxs, hxm⟩ := HBL.out.rows
     have HRW1 := Lib.hid (hxs.below HBA.out)
     have HXMP := Lib.hid hxm
     have HCKS := Lib.hid HBL.out.ck
     obtain ⟨L, hL⟩ : ∃ L, lostB ((bs.take j).map Prod.snd) = L := ⟨_, rfl⟩
     have HL := Lib.hid hL
     rw [hL] at HRY1
     have hSZ : bn ≤ wb.heap.size := Nat.le_trans hbb (Nat.le_of_lt HBX.out.lt)
     have HSZ := Lib.hid hSZ
     clear hBB hbb hob hxs hxm hL hSZ HBA HBL HXE2
     unfold blkA at HC
     have c0 := HBX.out.c0
     have c1 := HBX.out.c1
     have c2 := HBX.out.c2
     have c3 := HBX.out.c3
     have c4 := HBX.out.c4
     obtain ⟨ck, hck⟩ : ∃ ck, chkB xb = ck := ⟨_, rfl⟩
     rw [hck] at HC
     have HCK := Lib.hid hck
     clear hck
     go_wp2_with fail
     refine HC.out.mono ?_
     rintro r w1 ⟨rfl, b1⟩
     have HB2 := Lib.hid (bstep HBB1.out b1)
     have HRX2 := Lib.hid (HRX1.out.below b1)
     have HRY2 := Lib.hid (HRY1.out.below b1)
     have HRW2 := Lib.hid (HRW1.out.below b1)
     have HBX2 := Lib.hid (HBX.out.below b1)
     have HSZ2 := Lib.hid (Nat.le_trans HSZ.out b1.size)
     have HWB2 := Lib.hid (Nat.lt_of_lt_of_le HWB.out b1.size)
     clear c0 c1 c2 c3 c4 b1 HC HBB1 HRX1 HRY1 HRW1 HBX HSZ HWB
     by_cases hc0 : ck = 0
     ·subst hc0
      have hfit := chk0_fits HCK.out
      have hlo := fits_lost hfit
      have hne := fits_next hfit
      have hLB : 0 ≤ L ∧ L ≤ 281474976710656 * 4096 := by
       have hq : ∀ y ∈ (bs.take j).map Prod.snd, FitsB y := by
        intro y hy
        obtain ⟨z, hz, rfl⟩ := List.mem_map.1 hy
        obtain ⟨i, hi, hzi⟩ := List.getElem_of_mem hz
        rw [List.getElem_take] at hzi
        rw [List.length_take] at hi
        exact chk0_fits (HCKS.out i z (by omega) (by rw [List.getElem?_eq_getElem (by omega), hzi]))
       have h1 := lostB_le _ hq
       rw [HL.out, List.length_map, List.length_take] at h1
       have := H4.out
       omega
      have c2 := HBX2.out.c2
      have c3 := HBX2.out.c3
      have c4 := HBX2.out.c4
      clear hfit
      go_wp2_with (at_builtin; refine wpList_app elemLE encSl_len encSl_one rfl _ _ rfl _ _ rfl rfl (HRW2.out.alloc _) (EV.newL (xs := [(Ax, nx, cx)]) (n := 1) (c := 1) encSl_len rfl rfl (Nat.le_refl _)) ?q1 ?q2 ?_)
      case q1 =>
       have := congrArg List.length HXMP.out
       rw [List.length_map, List.length_map] at this
       unfold rowsB at this
       rw [List.length_map, List.length_take, HN.out] at this
       simp; omega
      case q2 => have := HSZ2.out; simp; omega
      intro v' w4 o4 g4
      have hsl : [Value.slice Ax nx cx] = encSl (Ax, nx, cx) := rfl
      have ba := bel_alloc w1 (.cells #[.slice Ax nx cx] 22)
      have hbyt : Y < bn := HYN.out
      have hxyt : X < Y := HXY.out
      have HX3 := Lib.hid ((HRX2.out.below ba).grown g4 (fun q => by have := (HOB.out _ q).1; omega))
      have HY3 := Lib.hid ((HRY2.out.below ba).grown g4 (fun q => by have := (HOB.out _ q).1; omega))
      have HK3 := Lib.hid ((HBX2.out.below ba).grown g4 (fun q => by have := (HOB.out _ q).2; omega))
      have hwb : w.heap.size ≤ bn := by have := HXE.out; omega
      have HB3 := Lib.hid ((bstep HB2.out ba).grown g4 (bstep HB2.out ba).size (fun g q => by have := (HOB.out g q).1; omega))
      have HO3 := Lib.hid o4
      have HS3 := Lib.hid (show bn ≤ w4.heap.size from Nat.le_trans HSZ2.out (Nat.le_trans ba.size g4.size))
      have HM3 := Lib.hid (show (rowsB (bs.take (j + 1))).map encVs = (xs ++ [(Ax, nx, cx)]).map encSl by
       rw [HT1.out, List.map_append, List.map_append, HXMP.out]; rfl)
      have y3 := HY3.out.c3
      have k2 := HK3.out.c2
      have HK4 : BkBox (w4.setCell ⟨Y, 3, none⟩ (.int .i64 (L + xb.lost))) BB xb (.slice Ax nx cx) := ⟨(Below.heap_setCell _ _ _ _ (by have := HBBN.out; simp; omega)).trans HK3.out.cell⟩
      have k3 := HK4.c3
      have z3 := HY3.out.frz 3
      obtain ⟨E', hE'⟩ : ∃ E', max E xb.next = E' := ⟨_, rfl⟩
      have HE' := Lib.hid hE'
      clear HK4 o4 g4 hsl ba hbyt hxyt hwb c2 c3 c4 HRX2 HRY2 HRW2 HBX2 HB2 HSZ2
      go_wp2
      go_roundg (n - (j + 1))
      case measure => have := HJ.out; omega
      case rel =>
       have hmd := Mod.setCell (a := w4) (p := ⟨Y, 3, none⟩) (T := fun k => k = Y) (.int .i64 (L + xb.lost)) rfl
       refine ⟨j + 1, by have := HJ.out; omega, by go_num, ⟨⟨_, HO3.out.mod hmd (fun g q t => by have := (HO3.out.block g q).1; have := HYN.out; omega), HM3.out⟩, ?_, HX3.out.setOther (by have := HXY.out; simp; omega) _, ?_, fun i x hi hx => ?_, HB3.out.trans (hmd.below (B := w.heap.size) (fun k hk t => by have := HXE.out; have := HXY.out; omega) HB3.out.size), by simpa using HS3.out⟩⟩
       ·rw [HT3.out, HE.out, HE'.out]
       ·rw [HT2.out, HL.out]
        exact HY3.out.set3 _
       ·by_cases hij : i < j
        ·exact HCKS.out i x hij hx
        ·obtain rfl : i = j := by omega
         rw [HXX.out] at hx
         cases hx
         exact HCK.out
     ·have hne : (ck != 0) = true := by simpa using hc0
      have HNE := Lib.hid hc0
      have d0 := HRX2.out.c0
      have d1 := HRX2.out.c1
      have d2 := HRX2.out.c2
      have d3 := HRX2.out.c3
      have d4 := HRX2.out.c4
      have d5 := HRX2.out.c5
      have e0 := HRX2.out.frz 0
      have e1 := HRX2.out.frz 1
      have e2 := HRX2.out.frz 2
      have e3 := HRX2.out.frz 3
      have e4 := HRX2.out.frz 4
      have e5 := HRX2.out.frz 5
      have HBXX := Lib.hid ((((((HRX2.out.set0 (.slice none 0 0)).set1 (.slice none 0 0)).set2 (.slice none 0 0)).set3 0).set4 0).set5 false)
      have HMO := Lib.hid ((((((Mod.setCell (a := w1) (p := ⟨X, 0, none⟩) (T := fun k => k = X) (.slice none 0 0) rfl).trans (Mod.setCell (p := ⟨X, 1, none⟩) (T := fun k => k = X) (.slice none 0 0) rfl)).trans (Mod.setCell (p := ⟨X, 2, none⟩) (T := fun k => k = X) (.slice none 0 0) rfl)).trans (Mod.setCell (p := ⟨X, 3, none⟩) (T := fun k => k = X) (.int .i64 0) rfl)).trans (Mod.setCell (p := ⟨X, 4, none⟩) (T := fun k => k = X) (.int .i64 0) rfl)).trans (Mod.setCell (p := ⟨X, 5, none⟩) (T := fun k => k = X) (.bool false) rfl))
      clear hc0
      go_wp2
      refine bodyPost_ret (results_cellT rfl _ _ _ rfl rfl (load_mg HBXX.out)) rfl ?_
      refine ⟨.slice none 0 0, .slice none 0 0, .slice none 0 0, mg0, ck, rfl, .inr (.inl ⟨by rw [List.length_map, HN.out]; exact Nat.le_of_not_lt H4.out, ⟨j, xb, by rw [List.getElem?_map, HXX.out]; rfl, fun i b' hi hb' => ?_, by rw [HCK.out]; exact HNE.out, HCK.out.symm⟩, rfl⟩), OV.nil _ _, OV.nil _ _, OV.nil _ _, ?_⟩
      ·rw [List.getElem?_map] at hb'
       cases hz : bs[i]? with
       | none => rw [hz] at hb'; cases hb'
       | some z => rw [hz] at hb'; cases hb'; exact HCKS.out i z hi hz
      ·have hxy := HXE.out
       exact HB2.out.trans (HMO.out.below (B := w.heap.size) (fun k hk t => by omega) HB2.out.size)
    ·obtain rfl : n = j := by have := HJ.out; omega
     go_wp2
     go_meet
     exact HBL.out
  case rest =>
   obtain ⟨⟨xs, h1, h2⟩, rfl, rx, ry, ck, bel, sz⟩ := hcut
   rw [List.take_of_length_le (Nat.le_of_eq HN.out)] at h2 ry ⊢
   have hvr := (h1.ev encSl_len).recode h2
   refine (‹∀ (a : Act) (w : World), Code.wp _ _ _ a w → _› : ∀ (a : Act) (w : World), _ → _) _ _ (blocks_t16 w _ bs X Y _ ⟨HXY.out, Nat.le_of_eq HXE.out⟩ (by rw [HN.out]; exact Nat.le_of_not_lt H4.out) (fun x hx => ?_) HO.out HTT.out rx ry hvr (fun x hx => ?_) bel)
   ·obtain ⟨i, hi, rfl⟩ := List.getElem_of_mem hx
    exact ck i _ (by rw [← HN.out]; exact hi) (List.getElem?_eq_getElem hi)
   ·obtain ⟨y, hy, rfl⟩ := List.mem_map.1 hx
    exact (HV.out.below bel).evs y hy
end Go.Proofs.YtalophngappkhaaGreatDoor
namespace Go.Proofs.YtalophngappkhaaGreatDoor
open Go Go.RowKit

section
variable {P : Program} {ops : Array Oper} {Q : Exit → Act → World → Prop} {md : Region.Mode} {S : World → Prop}
theorem wpAnyH_takeU {i : Nat} {d : Option Tmp} {fuel : Nat} {listed : Array Bool} {a : Act} {w : World} (hd : (ops[i]?).map (fun o => (o.dst, Region.wanted o (yielded ops a.tmps))) = some (d, false))
  (hs : Region.noSelect ops = true) (hf : Region.free md ops listed i = true) (hr : (Region.ready md ops listed).contains i = true)
  (hQ : ∀ c a w, Q (.panic c) (a.put d undef) w → Q (.panic c) a w) (hS : S w)
  (h : wpAnyH P md ops Q S fuel (listed.setIfInBounds i true) (a.put d undef) w) : wpAnyH P md ops Q S (fuel + 1) listed a w := by
 obtain ⟨o, ho, he⟩ := Option.map_eq_some_iff.1 hd
 simp only [Prod.mk.injEq] at he
 obtain ⟨rfl, hw⟩ := he
 exact wpAnyH_take ho hs hf hr hQ (.inr ⟨hw, rfl⟩) hS h
theorem wpAnyH_takeW {i : Nat} {d : Option Tmp} {v : Value} {fuel : Nat} {listed : Array Bool} {a : Act} {w : World} (hd : (ops[i]?).map (fun o => (o.dst, Region.wanted o (yielded ops a.tmps))) = some (d, true))
  (hs : Region.noSelect ops = true) (hf : Region.free md ops listed i = true) (hr : (Region.ready md ops listed).contains i = true)
  (hQ : ∀ c a w, Q (.panic c) (a.put d v) w → Q (.panic c) a w) (hy : ∀ o, ops[i]? = some o → ∀ w, S w → (execOp a.eval o).run P w = .ok (.value v) w) (hS : S w)
  (h : wpAnyH P md ops Q S fuel (listed.setIfInBounds i true) (a.put d v) w) : wpAnyH P md ops Q S (fuel + 1) listed a w := by
 obtain ⟨o, ho, he⟩ := Option.map_eq_some_iff.1 hd
 simp only [Prod.mk.injEq] at he
 obtain ⟨rfl, hw⟩ := he
 exact wpAnyH_take ho hs hf hr hQ (.inl ⟨hw, hy o ho⟩) hS h
end
end Go.Proofs.YtalophngappkhaaGreatDoor
