/- quantumref10.Bytes and Check | quantumref10.Bytes and Check. -/
import Derived.Test.YtalophngappkhaaGreatDoorV29
import Derived.Test.YtalophngappkhaaGreatDoorV18
set_option linter.unusedVariables false
set_option linter.unusedSimpArgs false
set_option linter.unusedSectionVars false
namespace Go.Proofs.YtalophngappkhaaGreatDoor
open Go Go.RowKit Go.Shelf
attribute [local go_sem] Oper.semAt_some

set_option maxRecDepth 100000 in
set_option maxHeartbeats 6400000 in
theorem rb_t10 (w wc : World) (X : Nat) (b : Bck) (ve : Value) (A3 : Option Addr) (n3 c3 Q : Nat) (L : List Nat) {u0 u2 u4 u5 u6 u7 u8 u9 u10 u11 u12 u13 u14 u15 u16 u17 u18 u19 u20 u21 u22 u23 u24 u25 u26 u27 u28 u29 u30 u31 u32 u33 u34 u35 u36 u37 u38 u39 u40 u41 u42 u43 u44 u45 u46 u47 u48 u49 u50 u51 u52 u53 u54 u55 u56 u57 u58 u59 u60 u61 u62 u63 u64 u65 u66 u67 u68 u69 u70 u71 u72 u73 u74 u75 u76 u77 u78 u79 u80 u81 u82 : Value} (hQ : L.length = Q) (hx : RkBox wc X b ve) (hk : 0 ≤ b.kind ∧ b.kind ≤ 255) (ho : OV encB 1 5 w.heap.size wc (.slice A3 n3 c3) L) (hn : L.length = n3) (hl : n3 ≤ 10000000) (hb : Below w.heap.size w wc) :
  Code.wp Tryz.prog (tailR Tryz.f99 10) (bodyPost Tryz.prog Tryz.f99 fun r w' => ∃ v l, r = .returned v ∧ OV encB 1 5 w.heap.size w' v l ∧ l.length = Q + 8 ∧ Below w.heap.size w w')
   ⟨#[u0, .pointer (some ⟨X, 0, none⟩), u2, .slice A3 n3 c3, u4, u5, u6, u7, u8, u9, u10, u11, u12, u13, u14, u15, u16, u17, u18, u19, u20, u21, u22, u23, u24, u25, u26, u27, u28, u29, u30, u31, u32, u33, u34, u35, u36, u37, u38, u39, u40, u41, u42, u43, u44, u45, u46, u47, u48, u49, u50, u51, u52, u53, u54, u55, u56, u57, u58, u59, u60, u61, u62, u63, u64, u65, u66, u67, u68, u69, u70, u71, u72, u73, u74, u75, u76, u77, u78, u79, u80, u81, u82], []⟩ wc := by
 conv => arg 2; whnf
 conv => arg 4; dsimp only
 have HQ := Lib.hid hQ
 clear hQ
 have HX := Lib.hid hx
 have HK := Lib.hid hk
 have HO := Lib.hid ho
 have HN := Lib.hid hn
 have HB := Lib.hid hb
 obtain ⟨m, hm⟩ : ∃ m : Nat, m = n3 + 12 := ⟨_, rfl⟩
 have HM := Lib.hid hm
 have hw : wrap64 ((n3 : Int) + 12) = (m : Int) := by rw [show (n3 : Int) + 12 = (m : Int) by omega]; exact IntWalk.wrap64_in _ (by omega)
 have c0 := hx.c0
 clear hx hk ho hn hb hm
 clear hw
 go_upto_region 12 with fail
 have HW := Lib.hid (show OV encB 1 5 w.heap.size (wc.alloc (.cells #[.int .u8 (((n3 : Int) + 12) % 256), .int .u8 (((n3 : Int) + 12) / 256 % 256), .int .u8 (((n3 : Int) + 12) / 65536 % 256), .int .u8 (((n3 : Int) + 12) / 16777216), .int .u8 113, .int .u8 116, .int .u8 1, .int .u8 b.kind] 5)) (.slice (some ⟨wc.heap.size, 0, none⟩) 8 8) [(n3 + 12) % 256, (n3 + 12) / 256 % 256, (n3 + 12) / 65536 % 256, (n3 + 12) / 16777216, 113, 116, 1, b.kind.toNat] from
  OV.lit wc #[.int .u8 (((n3 : Int) + 12) % 256), .int .u8 (((n3 : Int) + 12) / 256 % 256), .int .u8 (((n3 : Int) + 12) / 65536 % 256), .int .u8 (((n3 : Int) + 12) / 16777216), .int .u8 113, .int .u8 116, .int .u8 1, .int .u8 b.kind] 8 HB.out.size (by unfold maxLen; omega) rfl (by
   have hk := HK.out.1
   simp [encB, Int.toNat_of_nonneg hk]) rfl)
 have HBA := Lib.hid (bel_alloc wc (.cells #[.int .u8 (((n3 : Int) + 12) % 256), .int .u8 (((n3 : Int) + 12) / 256 % 256), .int .u8 (((n3 : Int) + 12) / 65536 % 256), .int .u8 (((n3 : Int) + 12) / 16777216), .int .u8 113, .int .u8 116, .int .u8 1, .int .u8 b.kind] 5))
 have HO2 := Lib.hid (HO.out.below HBA.out)
 have HB2 := Lib.hid (bstep HB.out HBA.out)
 clear c0 HX HO HB HBA
 generalize wc.alloc (.cells #[.int .u8 (((n3 : Int) + 12) % 256), .int .u8 (((n3 : Int) + 12) / 256 % 256), .int .u8 (((n3 : Int) + 12) / 65536 % 256), .int .u8 (((n3 : Int) + 12) / 16777216), .int .u8 113, .int .u8 116, .int .u8 1, .int .u8 b.kind] 5) = wd at HW HO2 HB2 ⊢
 generalize wc.heap.size = Y at HW ⊢
 obtain ⟨H8, hH8⟩ : ∃ H, [(n3 + 12) % 256, (n3 + 12) / 256 % 256, (n3 + 12) / 65536 % 256, (n3 + 12) / 16777216, 113, 116, 1, b.kind.toNat] = H := ⟨_, rfl⟩
 have H8L := Lib.hid (show H8.length = 8 by rw [← hH8]; rfl)
 rw [hH8] at HW
 clear hH8
 go_wp2_with (at_builtin; refine wpList_app elemB encB_len encB_one rfl _ _ rfl _ _ rfl rfl HW.out (HO2.out.ev encB_len) ?q1 ?q2 ?_)
 case q1 => have h1 := H8L.out; have h2 := HN.out; omega
 case q2 => exact HB2.out.size
 intro v8 wq o8 g8
 have HO3 := Lib.hid o8
 have HB3 := Lib.hid (HB2.out.grown g8 HB2.out.size (fun g q => (HW.out.block g q).1))
 clear o8 g8
 go_wp2
 go_ret
 exact ⟨_, _, rfl, HO3.out, by rw [List.length_append]; have := H8L.out; have := HQ.out; omega, HB3.out⟩
set_option maxRecDepth 100000 in
set_option maxHeartbeats 6400000 in
theorem rb_t5 (w wc : World) (X : Nat) (b : Bck) (A A3 : Option Addr) (n c n3 c3 Q : Nat) (L : List Nat) {u0 u2 u4 u5 u6 u7 u8 u9 u10 u11 u12 u13 u14 u15 u16 u17 u18 u19 u20 u21 u22 u23 u24 u25 u26 u27 u28 u29 u30 u31 u32 u33 u34 u35 u36 u37 u38 u39 u40 u41 u42 u43 u44 u45 u46 u47 u48 u49 u50 u51 u52 u53 u54 u55 u56 u57 u58 u59 u60 u61 u62 u63 u64 u65 u66 u67 u68 u69 u70 u71 u72 u73 u74 u75 u76 u77 u78 u79 u80 u81 u82 : Value} (hQ : (L ++ bodyE b.evs).length = Q) (hx : RkBox wc X b (.slice A n c)) (hv : EV encE 11 w (.slice A n c) b.evs) (hbo : BlkOk b) (hr : RowOk b.evs) (hl : b.evs.length ≤ 100000) (ho : OV encB 1 5 w.heap.size wc (.slice A3 n3 c3) L) (hn : L.length = n3) (hl3 : n3 ≤ 1000) (hb : Below w.heap.size w wc) :
  Code.wp Tryz.prog (tailR Tryz.f99 5) (bodyPost Tryz.prog Tryz.f99 fun r w' => ∃ v l, r = .returned v ∧ OV encB 1 5 w.heap.size w' v l ∧ l.length = Q + 8 ∧ Below w.heap.size w w')
   ⟨#[u0, .pointer (some ⟨X, 0, none⟩), u2, .slice A3 n3 c3, u4, u5, u6, u7, u8, u9, u10, u11, u12, u13, u14, u15, u16, u17, u18, u19, u20, u21, u22, u23, u24, u25, u26, u27, u28, u29, u30, u31, u32, u33, u34, u35, u36, u37, u38, u39, u40, u41, u42, u43, u44, u45, u46, u47, u48, u49, u50, u51, u52, u53, u54, u55, u56, u57, u58, u59, u60, u61, u62, u63, u64, u65, u66, u67, u68, u69, u70, u71, u72, u73, u74, u75, u76, u77, u78, u79, u80, u81, u82], []⟩ wc := by
 conv => arg 2; whnf
 conv => arg 4; dsimp only
 have HQ := Lib.hid hQ
 clear hQ
 have HX := Lib.hid hx
 have HV := Lib.hid hv
 have HBO := Lib.hid hbo
 have HR := Lib.hid hr
 have HL := Lib.hid hl
 have HO := Lib.hid ho
 have HN := Lib.hid (show L.length = n3 ∧ n3 ≤ 1000 from ⟨hn, hl3⟩)
 have HB := Lib.hid hb
 have HNL := Lib.hid (show n = b.evs.length by obtain ⟨A', c', e⟩ := hv.shape; simp only [Value.slice.injEq] at e; exact e.2.1)
 clear hx hv hbo hr hl ho hn hl3 hb
 by_cases h0 : n = 0
 ·have d0 : decide (0 < n) = false := by simp; omega
  have HE := Lib.hid (show bodyE b.evs = [] by rw [List.eq_nil_of_length_eq_zero (l := b.evs) (by rw [← HNL.out]; exact h0)]; rfl)
  have c4 := HX.out.c4
  have HQ2 := Lib.hid (show L.length = Q by have := HQ.out; rwa [HE.out, List.append_nil] at this)
  clear h0
  go_upto_if 31 with fail
  go_cut [3] (fun a wz => ∃ wq, wq = wz ∧ a = .slice A3 n3 c3 ∧ wq = wc)
  case first =>
   go_wp2
   go_meet
   exact ⟨_, rfl, rfl, rfl⟩
  case rest =>
   obtain ⟨wq, rfl, rfl, hwq⟩ := hcut
   subst hwq
   refine (‹∀ (a : Act) (w : World), Code.wp _ _ _ a w → _› : ∀ (a : Act) (w : World), _ → _) _ _ ((rb_t10 w wq X b _ A3 n3 c3 Q L HQ2.out HX.out HBO.out.kind HO.out HN.out.1 (by have := HN.out; omega) HB.out))
 ·have d0 : decide (0 < n) = true := by simp; omega
  obtain ⟨e, he⟩ : ∃ e, b.evs[0]? = some e := ⟨_, List.getElem?_eq_getElem (by rw [← HNL.out]; omega)⟩
  have hoe := HBO.out.evs e (List.mem_of_getElem? he)
  have hlim := chk_lim hoe (HR.out.at 0 e he).1
  obtain ⟨ss, hss⟩ : ∃ z : Nat, e.seq = z := ⟨e.seq.toNat, by omega⟩
  obtain ⟨tt, htt⟩ : ∃ z : Nat, e.time = z := ⟨e.time.toNat, by omega⟩
  have HST := Lib.hid (show ss ≤ 281474976710656 ∧ tt ≤ 281474976710656 ∧ 1 ≤ ss by omega)
  have HRG := Lib.hid (show rgtB (ss : Int) (tt : Int) by unfold rgtB; omega)
  have HBE := Lib.hid (show L ++ bodyE b.evs = (L ++ vall [ss, tt]) ++ recsE ss tt b.evs by
   have : b.evs = e :: b.evs.tail := by
    cases hq : b.evs with
    | nil => rw [hq] at he; cases he
    | cons x m => rw [hq] at he; cases he; rfl
   rw [this, show bodyE (e :: b.evs.tail) = vbytes e.seq.toNat ++ vbytes e.time.toNat ++ recsE e.seq e.time (e :: b.evs.tail) from rfl, hss, htt, vall_cons, vall_cons]
   simp [vall, List.append_assoc])
  have HQ2 := Lib.hid (show ((L ++ vall [ss, tt]) ++ recsE ss tt b.evs).length = Q by rw [← HBE.out]; exact HQ.out)
  have HRL := Lib.hid (show (recsE ss tt b.evs).length ≤ 6100000 by
   have := recs_len HR.out HBO.out.evs HRG.out (s := ss) (t := tt) (fun x hx => by rw [he] at hx; cases hx; omega) b.evs.length (Nat.le_refl _)
   rw [List.take_length] at this
   have := HL.out
   omega)
  have H0 := Lib.hid (show ∀ x, b.evs[0]? = some x → (ss : Int) ≤ x.seq ∧ (tt : Int) ≤ x.time from fun x hx => by rw [he] at hx; cases hx; omega)
  have HVL := Lib.hid (show (vall [ss, tt]).length ≤ 20 from vall_len [ss, tt] (fun x hx => by simp at hx; omega))
  obtain ⟨bb, off, c', hsl, hcc, hrr⟩ := (HV.out.below HB.out).row (by rw [← HNL.out]; omega)
  rw [← HNL.out] at hsl
  cases hsl
  obtain ⟨g0, g1, g2, g3, g4, g5, g6, g7, g8, g9, g10⟩ := hrr.ev he
  simp only [Nat.zero_mul, Nat.add_zero] at g0 g1 g2 g3 g4 g5 g6 g7 g8 g9 g10
  have i1 : (0 : Int) < (n : Int) := by omega
  have hn0 : 0 < n := by omega
  have c4 := HX.out.c4
  have HEV := Lib.hid (evp_newT wc e 96)
  have HA := Lib.hid (bel_alloc wc (.cells #[.int .i64 e.seq, .int .i64 e.time, .int .u8 e.cpu, .int .u8 e.kind, .int .i64 e.task, .int .i64 e.grp, .int .i64 e.to, .int .i64 e.wt, .int .i64 e.ticks, .int .u64 e.mask, .int .i64 e.got] 96))
  have HSS := Lib.hid (And.intro hss htt)
  clear hlim hoe hrr hcc h0 he hss htt
  go_upto_if 31 with fail
  go_cut [3] (fun a wz => ∃ wq A9 n9 c9, wq = wz ∧ a = .slice A9 n9 c9 ∧ OV encB 1 5 w.heap.size wq (.slice A9 n9 c9) ((L ++ vall [ss, tt]) ++ recsE ss tt b.evs) ∧ ((L ++ vall [ss, tt]) ++ recsE ss tt b.evs).length = n9 ∧ RkBox wq X b (.slice (some ⟨bb, off, none⟩) n c) ∧ Below w.heap.size w wq)
  case first =>
   go_upto_region 7 with fail
   have h1 := HEV.out
   have HB2 := Lib.hid (bstep HB.out HA.out)
   have HO2 := Lib.hid (HO.out.below HA.out)
   have HX2 := Lib.hid (HX.out.below HA.out)
   have HNY := Lib.hid (fun g (h : (Value.slice A3 n3 c3).ownBlock = some g) => (HO.out.block g h).2)
   clear g0 g1 g2 g3 g4 g5 g6 g7 g8 g9 g10 c4 HA HEV
   generalize wc.alloc (.cells #[.int .i64 e.seq, .int .i64 e.time, .int .u8 e.cpu, .int .u8 e.kind, .int .i64 e.task, .int .i64 e.grp, .int .i64 e.to, .int .i64 e.wt, .int .i64 e.ticks, .int .u64 e.mask, .int .i64 e.got] 96) = wd at h1 HB2 HO2 HX2 ⊢
   generalize wc.heap.size = Y at h1 HNY ⊢
   have e0 := h1.c0
   have e1 := h1.c1
   rw [HSS.out.1] at e0
   rw [HSS.out.2] at e1
   have E0 := Lib.hid e0
   have E1 := Lib.hid e1
   have HYL := Lib.hid (cell_lt e0)
   have hw1 : IntKind.u64.wrap (ss : Int) = (ss : Int) := by have := HST.out; show (ss : Int) % 18446744073709551616 = _; omega
   have hw2 : IntKind.u64.wrap (tt : Int) = (tt : Int) := by have := HST.out; show (tt : Int) % 18446744073709551616 = _; omega
   clear h1
   go_wp2_with fail
   refine (r1writeall_ok _ _ [ss, tt] (EV.newL (e := 26) (cs := #[.int .u64 (ss : Nat), .int .u64 (tt : Nat)]) (n := 2) (c := 2) encN_len rfl rfl (Nat.le_refl _)) (fun x hx => by have := HST.out; simp at hx; omega) (by simp)).mono ?_
   rintro r w4 ⟨v4, rfl, o4, b4⟩
   have hal := bel_alloc wd (.cells #[.int .u64 (ss : Nat), .int .u64 (tt : Nat)] 26)
   have HB4 := Lib.hid (bstep (bstep HB2.out hal) b4)
   have HO4 := Lib.hid ((HO2.out.below hal).below b4)
   have HX4 := Lib.hid ((HX2.out.below hal).below b4)
   have HV4 := Lib.hid (o4.ev encB_len)
   have E04 := Lib.hid (below_cell b4 (below_cell hal E0.out))
   have E14 := Lib.hid (below_cell b4 (below_cell hal E1.out))
   have HYL4 := Lib.hid (Nat.lt_of_lt_of_le (Nat.lt_of_lt_of_le HYL.out hal.size) b4.size)
   clear o4 hal b4 e0 e1 E0 E1 HB2 HO2 HX2 HYL hw1 hw2
   go_wp2_with (at_builtin; refine wpList_app elemB encB_len encB_one rfl _ _ rfl _ _ rfl rfl HO4.out HV4.out ?q1 ?q2 ?_)
   case q1 => have h1 := HN.out; have h2 := HVL.out; omega
   case q2 => exact HB4.out.size
   intro v5 w5 o5 g5
   have HO5 := Lib.hid o5
   have HB5 := Lib.hid (HB4.out.grown g5 HB4.out.size (fun g q => (HO4.out.block g q).1))
   have HX5 := Lib.hid (show RkBox w5 X b (.slice (some ⟨bb, off, none⟩) n c) from ⟨(g5.block X HX4.out.lt (fun h => by
    have hh := HO4.out
    rcases hh.2 with ⟨h1, _⟩ | ⟨g', cap, cur, h1, _, hg', _⟩
    ·rw [h1] at h; cases h
    ·rw [h1] at h
     have : g' = X := by simpa [Value.ownBlock] using h.symm
     subst this
     rw [HX4.out.cell] at hg'
     cases hg')).trans HX4.out.cell⟩)
   have e0 : w5.cell? ⟨Y, 0, none⟩ = some (.int .i64 (ss : Int)) := (World.cell?_of_block (a := ⟨Y, 0, none⟩) (g5.block Y HYL4.out (fun h => by have := HNY.out Y h.symm; omega))).trans E04.out
   have e1 : w5.cell? ⟨Y, 1, none⟩ = some (.int .i64 (tt : Int)) := (World.cell?_of_block (a := ⟨Y, 1, none⟩) (g5.block Y HYL4.out (fun h => by have := HNY.out Y h.symm; omega))).trans E14.out
   have c4 := HX5.out.c4
   have HVV := Lib.hid (HV.out.below HB5.out)
   clear o5 g5 HO4 HB4 HX4 HV4 E04 E14 HYL4
   go_upto_region 8 with fail
   go_wp2_with fail
   refine (r7write_ok w5 ss tt _ b.evs HVV.out HBO.out.evs HL.out HR.out HRG.out H0.out).mono ?_
   rintro r w6 ⟨v6, rfl, o6, b6⟩
   have HO6 := Lib.hid (HO5.out.below b6)
   have HX6 := Lib.hid (HX5.out.below b6)
   have HB6 := Lib.hid (bstep HB5.out b6)
   have HV6 := Lib.hid (o6.ev encB_len)
   clear o6 b6 e0 e1 c4 HO5 HX5 HB5 HVV
   go_wp2_with (at_builtin; refine wpList_app elemB encB_len encB_one rfl _ _ rfl _ _ rfl rfl HO6.out HV6.out ?q1 ?q2 ?_)
   case q1 => have h1 := HN.out; have h2 := HVL.out; have h3 := HRL.out; rw [List.length_append]; omega
   case q2 => exact HB6.out.size
   intro v7 w7 o7 g7
   try rw [← List.append_assoc] at o7
   obtain ⟨A9, c9, h9⟩ := (o7.ev encB_len).shape
   obtain ⟨n9, hn9⟩ : ∃ m, ((L ++ vall [ss, tt]) ++ recsE ss tt b.evs).length = m := ⟨_, rfl⟩
   have HN9 := Lib.hid hn9
   rw [hn9] at h9
   subst h9
   have HO7 := Lib.hid o7
   have HB7 := Lib.hid (HB6.out.grown g7 HB6.out.size (fun g q => (HO6.out.block g q).1))
   have HX7 := Lib.hid (show RkBox w7 X b (.slice (some ⟨bb, off, none⟩) n c) from ⟨(g7.block X HX6.out.lt (fun h => by
    have hh := HO6.out
    rcases hh.2 with ⟨h1, _⟩ | ⟨g', cap, cur, h1, _, hg', _⟩
    ·rw [h1] at h; cases h
    ·rw [h1] at h
     have : g' = X := by simpa [Value.ownBlock] using h.symm
     subst this
     rw [HX6.out.cell] at hg'
     cases hg')).trans HX6.out.cell⟩)
   clear o7 g7 hn9
   go_wp2
   go_meet
   exact ⟨_, A9, n9, c9, rfl, rfl, HO7.out, HN9.out, HX7.out, HB7.out⟩
  case rest =>
   obtain ⟨wq, A9, n9, c9, rfl, rfl, ho9, hn9, hx9, hb9⟩ := hcut
   refine (‹∀ (a : Act) (w : World), Code.wp _ _ _ a w → _› : ∀ (a : Act) (w : World), _ → _) _ _ ((rb_t10 w wq X b _ A9 n9 c9 Q _ HQ2.out hx9 HBO.out.kind ho9 hn9 (by have h1 := HN.out; have h2 := HVL.out; have h3 := HRL.out; rw [← hn9, List.length_append, List.length_append]; omega) hb9))
end Go.Proofs.YtalophngappkhaaGreatDoor
namespace Go.Proofs.YtalophngappkhaaGreatDoor
open Go Go.RowKit Go.Shelf
attribute [local go_sem] Oper.semAt_some

set_option maxRecDepth 100000 in
set_option maxHeartbeats 6400000 in
theorem r10bytes_ok (w : World) (b : Bck) (ve : Value) (hv : EV encE 11 w ve b.evs) (ho : BlkOk b) (hl : b.evs.length ≤ 100000) (hf : FitsB b) :
  Calls Tryz.prog 99 #[.agg #[.int .u8 b.kind, .int .u8 b.cpu, .int .i64 b.lost, .int .i64 b.next, ve]] w fun r w' => ∃ v l, r = .returned v ∧ OV encB 1 5 w.heap.size w' v l ∧ l.length = (bodyB b).length + 8 ∧ Below w.heap.size w w' := by
 have HX := Lib.hid (RkBox.new w b ve)
 have HB := Lib.hid (bel_alloc w (.cells #[.int .u8 b.kind, .int .u8 b.cpu, .int .i64 b.lost, .int .i64 b.next, ve] 87))
 obtain ⟨A, c, hA⟩ := hv.shape
 subst hA
 obtain ⟨n, hn⟩ : ∃ n, b.evs.length = n := ⟨_, rfl⟩
 have HN := Lib.hid hn
 have HO := Lib.hid ho
 have HF := Lib.hid hf
 rw [hn] at hv HX HB ⊢
 have HV := Lib.hid hv
 have HL := Lib.hid hl
 obtain ⟨Q, hQ⟩ : ∃ Q, (bodyB b).length = Q := ⟨_, rfl⟩
 have HQ := Lib.hid hQ
 rw [hQ]
 clear hv hn ho hl hf hQ
 go_enter Tryz.func99, Tryz.ntmps99
 go_upto_region 2 with fail
 generalize w.alloc (.cells #[.int .u8 b.kind, .int .u8 b.cpu, .int .i64 b.lost, .int .i64 b.next, .slice A n c] 87) = w1 at HX HB ⊢
 obtain ⟨X, hX⟩ : ∃ X, w.heap.size = X := ⟨_, rfl⟩
 rw [hX] at HX ⊢
 have HXX := Lib.hid hX
 clear hX
 have c0 := HX.out.c0
 have c1 := HX.out.c1
 have c2 := HX.out.c2
 have c3 := HX.out.c3
 have c4 := HX.out.c4
 obtain ⟨K, hK⟩ : ∃ K, b.kind = K := ⟨_, rfl⟩
 rw [hK] at c0 ⊢
 have HK := Lib.hid hK
 clear hK
 by_cases hk2 : K = 2
 ·have hff : 1 ≤ b.next ∧ b.next ≤ 281474976710657 ∧ b.evs = [] := by
   rcases HF.out with h | h
   ·have := h.1; have := HK.out; omega
   ·exact ⟨h.2.1, h.2.2.1, h.2.2.2.2.2⟩
  obtain ⟨nn, hnn⟩ : ∃ z : Nat, b.next = z := ⟨b.next.toNat, by omega⟩
  have HNN := Lib.hid (show nn ≤ 281474976710657 by omega)
  have HBB := Lib.hid (show bodyB b = vbytes nn ++ bodyE b.evs by
   unfold bodyB
   rw [if_pos (by rw [HK.out]; exact hk2), hff.2.2, hnn, Int.toNat_natCast]
   simp [bodyE])
  have HRO := Lib.hid (show RowOk b.evs by rw [hff.2.2]; trivial)
  rw [hnn] at c3 ⊢
  have d0 : (K == 2) = true := by simp [hk2]
  have hwr : IntKind.u64.wrap (nn : Int) = (nn : Int) := by show (nn : Int) % 18446744073709551616 = _; omega
  clear hff hnn hk2
  go_upto_if 11 with fail
  go_cut [3] (fun a wz => ∃ wq A3 n3 c3 L, wq = wz ∧ a = .slice A3 n3 c3 ∧ OV encB 1 5 w.heap.size wq (.slice A3 n3 c3) L ∧ L.length = n3 ∧ n3 ≤ 1000 ∧ (L ++ bodyE b.evs).length = Q ∧ RkBox wq X b (.slice A n c) ∧ Below w.heap.size w wq)
  case first =>
   go_wp2_with fail
   refine (r1write_ok w1 nn (by have := HNN.out; omega)).mono ?_
   rintro r w2 ⟨v2, rfl, o2, b2⟩
   obtain ⟨A3, c3', h3⟩ := (o2.ev encB_len).shape
   subst h3
   have HO2 := Lib.hid (o2.base_le HB.out.size)
   have HX2 := Lib.hid (HX.out.below b2)
   have HB2 := Lib.hid (bstep HB.out b2)
   clear o2 b2 c0 c1 c2 c3 c4 hwr
   go_wp2
   go_meet
   exact ⟨_, A3, _, c3', vbytes nn, rfl, rfl, HO2.out, rfl, by have := (vbytes_len nn (by have := HNN.out; omega)).2; omega, by rw [← HBB.out]; exact HQ.out, HX2.out, HB2.out⟩
  case rest =>
   obtain ⟨wq, A3, n3, c3', L, rfl, rfl, h1, h2, h3, h4, h5, h6⟩ := hcut
   refine (‹∀ (a : Act) (w : World), Code.wp _ _ _ a w → _› : ∀ (a : Act) (w : World), _ → _) _ _ (rb_t5 w wq X b A A3 n c n3 c3' Q L h4 h5 HV.out HO.out HRO.out HL.out h1 h2 h3 h6)
 ·have hff : RowOk b.evs ∧ 0 ≤ b.lost ∧ b.lost ≤ 281474976710656 ∧ b.cpu < 64 := by
   rcases HF.out with h | h
   ·exact ⟨h.2.1, h.2.2.2.1, h.2.2.2.2.1, h.2.2.1⟩
   ·exact absurd (by rw [← HK.out]; exact h.1) hk2
  have hcp := HO.out.cpu
  obtain ⟨cc, hcc⟩ : ∃ z : Nat, b.cpu = z := ⟨b.cpu.toNat, by omega⟩
  obtain ⟨ll, hll⟩ : ∃ z : Nat, b.lost = z := ⟨b.lost.toNat, by omega⟩
  have HNN := Lib.hid (show cc < 64 ∧ ll ≤ 281474976710656 ∧ n ≤ 100000 by have := HL.out; have := HN.out; omega)
  have HBB := Lib.hid (show bodyB b = vall [cc, ll, n] ++ bodyE b.evs by
   unfold bodyB
   rw [if_neg (by rw [HK.out]; exact hk2), hcc, hll, HN.out, Int.toNat_natCast, Int.toNat_natCast])
  have HRO := Lib.hid hff.1
  rw [hcc] at c1 ⊢
  rw [hll] at c2 ⊢
  have d0 : (K == 2) = false := by simpa using hk2
  have hw1 : IntKind.u64.wrap (cc : Int) = (cc : Int) := by have := HNN.out; show (cc : Int) % 18446744073709551616 = _; omega
  have hw2 : IntKind.u64.wrap (ll : Int) = (ll : Int) := by have := HNN.out; show (ll : Int) % 18446744073709551616 = _; omega
  have hw3 : IntKind.u64.wrap (n : Int) = (n : Int) := by have := HNN.out; show (n : Int) % 18446744073709551616 = _; omega
  clear hff hcc hll hcp hk2
  go_upto_if 11 with fail
  go_cut [3] (fun a wz => ∃ wq A3 n3 c3 L, wq = wz ∧ a = .slice A3 n3 c3 ∧ OV encB 1 5 w.heap.size wq (.slice A3 n3 c3) L ∧ L.length = n3 ∧ n3 ≤ 1000 ∧ (L ++ bodyE b.evs).length = Q ∧ RkBox wq X b (.slice A n c) ∧ Below w.heap.size w wq)
  case first =>
   go_wp2_with fail
   refine (r1writeall_ok _ _ [cc, ll, n] (EV.newL (e := 26) (cs := #[.int .u64 (cc : Nat), .int .u64 (ll : Nat), .int .u64 (n : Nat)]) (n := 3) (c := 3) encN_len rfl rfl (Nat.le_refl _)) (fun x hx => by have := HNN.out; simp at hx; omega) (by simp)).mono ?_
   rintro r w2 ⟨v2, rfl, o2, b2⟩
   obtain ⟨A3, c3', h3⟩ := (o2.ev encB_len).shape
   subst h3
   have hal := bel_alloc w1 (.cells #[.int .u64 (cc : Nat), .int .u64 (ll : Nat), .int .u64 (n : Nat)] 26)
   have HO2 := Lib.hid (o2.base_le (Nat.le_trans HB.out.size hal.size))
   have HX2 := Lib.hid ((HX.out.below hal).below b2)
   have HB2 := Lib.hid (bstep (bstep HB.out hal) b2)
   clear o2 b2 hal c0 c1 c2 c3 c4 hw1 hw2 hw3
   go_wp2
   go_meet
   exact ⟨_, A3, _, c3', vall [cc, ll, n], rfl, rfl, HO2.out, rfl, by have := vall_len [cc, ll, n] (fun x hx => by have := HNN.out; simp at hx; omega); simp at this ⊢; omega, by rw [← HBB.out]; exact HQ.out, HX2.out, HB2.out⟩
  case rest =>
   obtain ⟨wq, A3, n3, c3', L, rfl, rfl, h1, h2, h3, h4, h5, h6⟩ := hcut
   refine (‹∀ (a : Act) (w : World), Code.wp _ _ _ a w → _› : ∀ (a : Act) (w : World), _ → _) _ _ (rb_t5 w wq X b A A3 n c n3 c3' Q L h4 h5 HV.out HO.out HRO.out HL.out h1 h2 h3 h6)
set_option maxRecDepth 100000 in
set_option maxHeartbeats 6400000 in
theorem r10check_ok (w : World) (b : Bck) (ve : Value) (hv : EV encE 11 w ve b.evs) (ho : BlkOk b) (hl : b.evs.length ≤ 100000) :
  Calls Tryz.prog 73 #[.agg #[.int .u8 b.kind, .int .u8 b.cpu, .int .i64 b.lost, .int .i64 b.next, ve]] w fun r w' => r = .returned (.int .i64 (chkB b)) ∧ Below w.heap.size w w' := by
 have HX := Lib.hid (RkBox.new w b ve)
 have HB := Lib.hid (bel_alloc w (.cells #[.int .u8 b.kind, .int .u8 b.cpu, .int .i64 b.lost, .int .i64 b.next, ve] 87))
 have HFI := Lib.hid (fun W (q : Below w.heap.size w W) => r10fits_ok W b ve (hv.below q) ho hl)
 have HBL := Lib.hid (fun (hf : FitsB b) => And.intro (body_len ho hl hf) hl)
 have HBY := Lib.hid (fun W (q : Below w.heap.size w W) (hf : FitsB b) => r10bytes_ok W b ve (hv.below q) ho hl hf)
 obtain ⟨R, hR⟩ : ∃ R, chkB b = R := ⟨_, rfl⟩
 have HR := Lib.hid hR
 rw [hR]
 clear hv ho hl hR
 go_enter Tryz.func73, Tryz.ntmps73
 go_upto_region 1 with fail
 generalize w.alloc (.cells #[.int .u8 b.kind, .int .u8 b.cpu, .int .i64 b.lost, .int .i64 b.next, ve] 87) = w1 at HX HB ⊢
 obtain ⟨X, hX⟩ : ∃ X, w.heap.size = X := ⟨_, rfl⟩
 rw [hX] at HX ⊢
 have HXX := Lib.hid hX
 clear hX
 have c0 := HX.out.c0
 have c1 := HX.out.c1
 have c2 := HX.out.c2
 have c3 := HX.out.c3
 have c4 := HX.out.c4
 go_wp2_with fail
 refine (HFI.out w1 HB.out).mono ?_
 rintro r w2 ⟨bb, rfl, hbb, b2⟩
 have HBB := Lib.hid hbb
 have HX2 := Lib.hid (HX.out.below b2)
 have HB2 := Lib.hid (bstep HB.out b2)
 clear hbb b2 c0 c1 c2 c3 c4 HX HB
 cases bb with
 | false =>
  have HNF := Lib.hid (show R = 107 by
   rw [← HR.out]; unfold chkB; rw [if_neg (fun h => by have := HBB.out.2 h; cases this)])
  go_wp2
  go_ret
  exact ⟨by rw [HNF.out]; rfl, HB2.out⟩
 | true =>
  have HF := Lib.hid (HBB.out.1 rfl)
  have HRR := Lib.hid (show R = if 4096 < (bodyB b).length + 12 then 3 else 0 by rw [← HR.out]; unfold chkB; rw [if_pos HF.out])
  have c0 := HX2.out.c0
  have c1 := HX2.out.c1
  have c2 := HX2.out.c2
  have c3 := HX2.out.c3
  have c4 := HX2.out.c4
  go_upto_region 3 with fail
  go_wp2_with fail
  refine (HBY.out w2 HB2.out HF.out).mono ?_
  rintro r w3 ⟨v3, l, rfl, o3, hl3, b3⟩
  have HB3 := Lib.hid (bstep HB2.out b3)
  obtain ⟨A3, c3', h3⟩ := (o3.ev encB_len).shape
  subst h3
  obtain ⟨m, hm⟩ : ∃ m, l.length = m := ⟨_, rfl⟩
  rw [hm] at hl3 ⊢
  have hmm : m ≤ 1000000000000 := by
   have := HBL.out HF.out
   omega
  have HM := Lib.hid hl3
  clear o3 b3 hl3 hm c0 c1 c2 c3 c4
  by_cases hg : 4096 < m + 4
  ·have d1 : decide ((4096 : Int) < (m : Int) + 4) = true := by simp; omega
   have HR3 := Lib.hid (show R = 3 by rw [HRR.out, if_pos (by have := HM.out; omega)])
   have hw : wrap64 ((m : Int) + 4) = (m : Int) + 4 := IntWalk.wrap64_in _ (by omega)
   clear hg
   go_wp2
   go_ret
   exact ⟨by rw [HR3.out]; rfl, HB3.out⟩
  ·have d1 : decide ((4096 : Int) < (m : Int) + 4) = false := by simp; omega
   have HR3 := Lib.hid (show R = 0 by rw [HRR.out, if_neg (by have := HM.out; omega)])
   have hw : wrap64 ((m : Int) + 4) = (m : Int) + 4 := IntWalk.wrap64_in _ (by omega)
   clear hg
   go_wp2
   go_ret
   exact ⟨by rw [HR3.out]; rfl, HB3.out⟩
end Go.Proofs.YtalophngappkhaaGreatDoor
