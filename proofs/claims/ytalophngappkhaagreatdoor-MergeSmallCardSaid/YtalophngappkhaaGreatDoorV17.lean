/- block: base and body | block.body: the bytes between the first ones and the checksum | block: Write, Check, Size. -/
import Derived.Test.YtalophngappkhaaGreatDoorV14
import Derived.StillTailTactics
set_option linter.unusedVariables false
set_option linter.unusedSimpArgs false
set_option linter.unusedSectionVars false
namespace Go.Proofs.YtalophngappkhaaGreatDoor
open Go.RowKit Go.Shelf
attribute [local go_sem] Oper.semAt_some

set_option maxRecDepth 100000 in
set_option maxHeartbeats 1600000 in
theorem base_ok (w : World) (b : Bck) (v : Value) (e : Ev) (hv : EV encE 11 w v b.evs) (he : b.evs[0]? = some e) :
  Calls Tryz.prog 108 #[blkA b v] w fun r w' => r = .returned (baseA e.seq e.time) ∧ Below w.heap.size w w' := by
 have hpos : 0 < b.evs.length := (List.getElem?_eq_some_iff.1 he).1
 have HX := Lib.hid (BkBox.new w b v)
 have HB := Lib.hid (bel_alloc2 w (.cells (blkC b v) 24) (.cells #[.int .i64 0, .int .i64 0] 175))
 have HZ := Lib.hid (BsBox.new (w.alloc (.cells (blkC b v) 24)) 0 0)
 obtain ⟨bb, off, c', rfl, hcc, hrr⟩ := hv.row hpos
 obtain ⟨n, hn⟩ : ∃ n, n = b.evs.length := ⟨_, rfl⟩
 rw [← hn] at HX HB HZ hpos ⊢
 unfold blkC at HX HB HZ
 unfold blkA baseA
 have HER := Lib.hid hrr
 have HE := Lib.hid he
 clear hv hrr hcc hn he
 go_enter Tryz.func108, Tryz.ntmps108
 go_wp2_with fail
 have h1 := HX.out.below (bel_alloc _ (.cells #[.int .i64 0, .int .i64 0] 175))
 have h2 := HB.out
 have h3 := HZ.out
 rw [World.size_alloc] at h3
 clear HX HB HZ
 obtain ⟨X, hX⟩ : ∃ X, w.heap.size = X := ⟨_, rfl⟩
 generalize (w.alloc (.cells #[.int .u8 b.kind, .int .u8 b.cpu, .int .i64 b.lost, .int .i64 b.next, .slice (some ⟨bb, off, none⟩) n c'] 24)).alloc (.cells #[.int .i64 0, .int .i64 0] 175) = wa at h1 h2 h3 ⊢
 have HB := Lib.hid h2
 rw [hX] at h1 h3 ⊢
 have c4 := h1.c4
 obtain ⟨p0, p1, -⟩ := (HER.out.below h2).ev HE.out
 simp only [Nat.zero_mul, Nat.add_zero] at p0 p1
 have HZ := Lib.hid h3
 have f0 := h3.frz 0
 have f1 := h3.frz 1
 have z0 := h3.c0
 have z1 := h3.c1
 have hpi : (0 : Int) < (n : Int) := by omega
 clear h1 h2 h3
 go_still_tail 11, (by kernel_rfl)
 change wpList _ _ _ _ _ wa.drew
 have f0 : wa.drew.frozen? ⟨X + 1, 0, none⟩ = false := f0
 have f1 : wa.drew.frozen? ⟨X + 1, 1, none⟩ = false := f1
 have z0 : wa.drew.cell? ⟨X + 1, 0, none⟩ = some (.int .i64 0) := z0
 have z1 : wa.drew.cell? ⟨X + 1, 1, none⟩ = some (.int .i64 0) := z1
 have HZD := Lib.hid (show BsBox wa.drew (X + 1) 0 0 from ⟨HZ.out.cell⟩)
 have HBD := Lib.hid (below_drew HB.out)
 clear HZ HB c4 p0 p1
 generalize wa.drew = wd at f0 f1 z0 z1 HZD HBD ⊢
 have HS := Lib.hid (HZD.out.set e.seq e.time)
 have HB2 := Lib.hid (HBD.out.trans ((Mod.setCell (a := wd) (p := ⟨X + 1, 0, none⟩) (T := fun k => k = X + 1) (.int .i64 e.seq) rfl).trans (Mod.setCell (p := ⟨X + 1, 1, none⟩) (T := fun k => k = X + 1) (.int .i64 e.time) rfl) |>.below (B := w.heap.size) (fun k hk e => by omega) HBD.out.size))
 go_wp2
 refine bodyPost_ret (results_cell_row rfl _ _ (X + 1) _ _ _ _ rfl HS.out.cell Tryz.underlying175 rfl (by kernel_rfl)) rfl ⟨rfl, HB2.out⟩
end Go.Proofs.YtalophngappkhaaGreatDoor
namespace Go.Proofs.YtalophngappkhaaGreatDoor
open Go.RowKit Go.Shelf
attribute [local go_sem] Oper.semAt_some

def AlongB (w W : World) (X Y : Nat) (b : Bck) (v : Value) (s t : Int) (c3 c5 : List Nat) (v3 v5 : Value) : Prop :=
 Below w.heap.size w W ∧ BsBox W Y s t ∧ EV encB 1 W v3 c3 ∧ EV encB 1 W v5 c5
theorem AlongB.below {w W W' : World} {X Y : Nat} {b : Bck} {v : Value} {s t : Int} {c3 c5 : List Nat} {v3 v5 : Value} (h : AlongB w W X Y b v s t c3 c5 v3 v5) (hb : Below W.heap.size W W') : AlongB w W' X Y b v s t c3 c5 v3 v5 :=
 ⟨bstep h.1 hb, h.2.1.below hb, h.2.2.1.below hb, h.2.2.2.below hb⟩
theorem row4 {w : World} {m : Nat} {v1 v2 v3 v4 : Value} {a1 a2 a3 a4 : List Nat} (hm : w.heap.size = m) : EV encVs 1 (w.alloc (.cells #[v1, v2, v3, v4] 110)) (.slice (some ⟨m, 0, none⟩) 4 4) [(v1, a1), (v2, a2), (v3, a3), (v4, a4)] := by
 subst hm
 exact EV.newL (xs := [(v1, a1), (v2, a2), (v3, a3), (v4, a4)]) (n := 4) (c := 4) encVs_len rfl rfl (Nat.le_refl _)
set_option maxRecDepth 100000 in
set_option maxHeartbeats 3200000 in
theorem body_ok (w : World) (b : Bck) (v : Value) (ho : BlkOk b) (hv : EV encE 11 w v b.evs) (hL : b.evs.length ≤ 100000) (hU : UsesAt w) (hf : FitsB b) :
  Calls Tryz.prog 82 #[blkA b v] w fun r w' => ∃ v', r = .returned v' ∧ OV encB 1 5 w.heap.size w' v' (bodyB b) ∧ Below w.heap.size w w' := by
 obtain ⟨A, cp, rfl⟩ := hv.shape
 obtain ⟨n, hn⟩ : ∃ n, n = b.evs.length := ⟨_, rfl⟩
 have HN := Lib.hid hn
 have HX := Lib.hid (BkBox.new w b (.slice A n cp))
 have HB := Lib.hid (bel_alloc w (.cells (blkC b (.slice A n cp)) 24))
 have HV := Lib.hid hv
 have HU := Lib.hid hU
 have HO := Lib.hid ho
 have HF := Lib.hid hf
 rw [← hn] at hL ⊢
 unfold blkC at HX HB
 clear hv hU hn ho hf
 unfold blkA
 go_enter Tryz.func82, Tryz.ntmps82
 go_upto_region 1 with fail
 have h1 := HX.out
 have h2 := HB.out
 clear HX HB
 obtain ⟨X, hX⟩ : ∃ X, w.heap.size = X := ⟨_, rfl⟩
 have HXX := Lib.hid hX
 generalize w.alloc (.cells #[.int .u8 b.kind, .int .u8 b.cpu, .int .i64 b.lost, .int .i64 b.next, .slice A n cp] 24) = wa at h1 h2 ⊢
 rw [hX] at h1 ⊢
 have HX := Lib.hid h1
 have HB := Lib.hid h2
 have c0 := h1.c0
 have c1 := h1.c1
 have c2 := h1.c2
 have c3 := h1.c3
 have c4 := h1.c4
 clear h1 h2 hX
 rcases HF.out with h | h
 ·have HA := Lib.hid h
  have k1 : (b.kind == 2) = false := by simp [h.1]
  obtain ⟨x0, hx0⟩ : ∃ x, x = b.cpu.toNat := ⟨_, rfl⟩
  obtain ⟨x1, hx1⟩ : ∃ x, x = b.lost.toNat := ⟨_, rfl⟩
  have y0 : IntKind.u64.wrap b.cpu = (x0 : Nat) := by rw [IntWalk.u64_in _ (by have := HO.out.cpu; omega)]; have := HO.out.cpu; omega
  have y1 : IntKind.u64.wrap b.lost = (x1 : Nat) := by rw [IntWalk.u64_in _ (by omega)]; omega
  have y2 : IntKind.u64.wrap (n : Int) = (n : Nat) := IntWalk.u64_in _ (by omega)
  have HE := Lib.hid (show EV encN 1 (wa.alloc (.cells #[.int .u64 (x0 : Nat), .int .u64 (x1 : Nat), .int .u64 (n : Nat)] 26)) (.slice (some ⟨wa.heap.size, 0, none⟩) 3 3) [x0, x1, n] from EV.newL (xs := [x0, x1, n]) (n := 3) (c := 3) encN_len rfl rfl (Nat.le_refl _))
  have HW := Lib.hid (writeAll_ok _ _ _ HE.out (by
   have h1 := HO.out.cpu
   intro x hx
   simp only [List.mem_cons, List.not_mem_nil, or_false] at hx
   rcases hx with rfl | rfl | rfl <;> omega) (by simp))
  have HBD := Lib.hid (show bodyB b = vall [x0, x1, n] ++ bodyE b.evs by unfold bodyB; rw [if_neg (by omega), hx0, hx1, HN.out])
  have HSZ := Lib.hid HB.out.size
  have HX01 := Lib.hid (show ∀ x ∈ [x0, x1, n], x < 18446744073709551616 by
   have h1 := HO.out.cpu
   intro x hx
   simp only [List.mem_cons, List.not_mem_nil, or_false] at hx
   rcases hx with rfl | rfl | rfl <;> omega)
  clear h HE hx0 hx1
  go_wp2_with fail
  refine HW.out.mono ?_
  rintro r w1 ⟨v3, rfl, o3, b3⟩
  have HO3 := Lib.hid (o3.base_le (show wa.heap.size ≤ _ by simp))
  have b3' := bstep (bel_alloc wa (.cells #[.int .u64 (x0 : Nat), .int .u64 (x1 : Nat), .int .u64 (n : Nat)] 26)) b3
  have HB1 := Lib.hid (bstep HB.out b3')
  have HX1 := Lib.hid (HX.out.below b3')
  clear o3 b3 b3' HW c0 c1 c2 c3 c4 HX HB
  have c4 := HX1.out.c4
  obtain ⟨A3, n3, rfl⟩ := (HO3.out.ev encB_len).shape
  rcases Nat.eq_zero_or_pos n with h0 | h0
  ·have hnil : b.evs = [] := List.eq_nil_of_length_eq_zero (by rw [← HN.out]; exact h0)
   have HNIL := Lib.hid hnil
   subst h0
   clear hnil
   go_wp2
   go_ret
   exact ⟨_, rfl, by rw [HBD.out, HNIL.out]; simpa [bodyE] using HO3.out.base_le HSZ.out, HB1.out⟩
  ·obtain ⟨e, he⟩ : ∃ e, b.evs[0]? = some e := ⟨_, List.getElem?_eq_getElem (by rw [← HN.out]; exact h0)⟩
   have c0 := HX1.out.c0
   have c1 := HX1.out.c1
   have c2 := HX1.out.c2
   have c3 := HX1.out.c3
   have h0' : ((n : Int) == 0) = false := by simp; omega
   have HV1 := Lib.hid (HV.out.below HB1.out)
   have HBS := Lib.hid (base_ok w1 b _ e HV1.out he)
   have HLM := Lib.hid (chk_lim (HO.out.evs e (List.mem_of_getElem? he)) (HA.out.2.1.at 0 e he).1)
   have HCW := Lib.hid (fun W (h : EV encE 11 W (.slice A n cp) b.evs) (hU : UsesAt W) => cwrite_ok W e.seq e.time _ b.evs h HO.out.evs (by rw [← HN.out]; exact hL) hU HA.out.2.1 ⟨HLM.out.2.1.1, HLM.out.2.1.2, HLM.out.2.2.1.1, HLM.out.2.2.1.2⟩ (by rw [← HN.out]; exact h0) (fun x hx => by rw [he] at hx; cases hx; exact ⟨Int.le_refl _, Int.le_refl _⟩))
   have HBE := Lib.hid (show bodyE b.evs = vbytes e.seq.toNat ++ vbytes e.time.toNat ++ recsE e.seq e.time b.evs by
    cases hb : b.evs with
    | nil => rw [hb] at he; simp at he
    | cons x l => rw [hb] at he; cases he; rfl)
   unfold blkA baseA at HBS
   rw [← HN.out] at HBS
   have HE0 := Lib.hid he
   clear he
   go_wp2_with fail
   refine HBS.out.mono ?_
   rintro r w2 ⟨rfl, b4⟩
   have HB2 := Lib.hid (bstep HB1.out b4)
   have HX2 := Lib.hid (HX1.out.below b4)
   have HO32 := Lib.hid (HO3.out.below b4)
   have HBX := Lib.hid (BsBox.new w2 e.seq e.time)
   have HA2 := Lib.hid (bel_alloc w2 (.cells #[.int .i64 e.seq, .int .i64 e.time] 175))
   clear b4 HBS HX1 HB1 c0 c1 c2 c3 c4 HV1 HO3
   go_upto_region 7 with fail
   have h1 := HBX.out
   have h2 := HA2.out
   clear HBX HA2
   obtain ⟨Y, hY⟩ : ∃ Y, w2.heap.size = Y := ⟨_, rfl⟩
   have HYY := Lib.hid hY
   generalize w2.alloc (.cells #[.int .i64 e.seq, .int .i64 e.time] 175) = w3 at h1 h2 ⊢
   rw [hY] at h1 ⊢
   have HB3 := Lib.hid (bstep HB2.out h2)
   have HX3 := Lib.hid (HX2.out.below h2)
   have HO33 := Lib.hid (HO32.out.below h2)
   have HY3 := Lib.hid h1
   have d0 := h1.c0
   have d1 := h1.c1
   have c4 := HX3.out.c4
   have HCC := Lib.hid (HCW.out w3 (by rw [HN.out]; exact HV.out.below HB3.out) (HU.out.below HB3.out))
   unfold baseA at HCC
   clear h1 h2 hY HB2 HX2 HO32 HCW
   go_wp2_with fail
   refine HCC.out.mono ?_
   rintro r w4 ⟨v5, rfl, o5, b5⟩
   have HAL := Lib.hid (show AlongB w w4.drew X Y b (.slice A n cp) e.seq e.time (vall [x0, x1, n]) (recsE e.seq e.time b.evs) (.slice A3 (vall [x0, x1, n]).length n3) v5 from
    ⟨below_drew (bstep HB3.out b5), (show BsBox w4.drew Y e.seq e.time from ⟨(HY3.out.below b5).cell⟩), (HO33.out.below b5).ev encB_len, o5.ev encB_len⟩)
   clear o5 b5 HCC HB3 HX3 HO33 HY3 d0 d1 c4
   obtain ⟨A5, n5, rfl⟩ := HAL.out.2.2.2.shape
   obtain ⟨N3, hN3⟩ : ∃ N3, (vall [x0, x1, n]).length = N3 := ⟨_, rfl⟩
   obtain ⟨N5, hN5⟩ : ∃ N5, (recsE e.seq e.time b.evs).length = N5 := ⟨_, rfl⟩
   rw [hN3, hN5] at HAL
   simp only [hN3, hN5]
   clear hN3 hN5
   go_wp2_with fail
   have HRL := Lib.hid (recs_len HA.out.2.1 HO.out.evs ⟨HLM.out.2.1.1, HLM.out.2.1.2, HLM.out.2.2.1.1, HLM.out.2.2.1.2⟩ (fun x hx => by rw [HE0.out] at hx; cases hx; exact ⟨Int.le_refl _, Int.le_refl _⟩) n (by rw [HN.out]; exact Nat.le_refl _))
   rw [List.take_of_length_le (show b.evs.length ≤ n by rw [HN.out]; exact Nat.le_refl _)] at HRL
   obtain ⟨a, ha⟩ : ∃ a, a = e.seq.toNat := ⟨_, rfl⟩
   obtain ⟨t, ht⟩ : ∃ t, t = e.time.toNat := ⟨_, rfl⟩
   obtain ⟨C3, hC3⟩ : ∃ C, vall [x0, x1, n] = C := ⟨_, rfl⟩
   obtain ⟨C5, hC5⟩ : ∃ C, recsE e.seq e.time b.evs = C := ⟨_, rfl⟩
   have y3 : IntKind.u64.wrap e.seq = (a : Nat) := by have := HLM.out; rw [IntWalk.u64_in _ (by omega)]; omega
   have y4 : IntKind.u64.wrap e.time = (t : Nat) := by have := HLM.out; rw [IntWalk.u64_in _ (by omega)]; omega
   have HAL2 := Lib.hid (show a < 18446744073709551616 ∧ t < 18446744073709551616 by have := HLM.out; omega)
   have HTL0 := Lib.hid (vall_len [x0, x1, n] HX01.out)
   rw [hC3] at HAL HBD HTL0
   rw [hC5] at HAL HBE HRL
   have HSQ := Lib.hid (show bodyE b.evs = vbytes a ++ vbytes t ++ C5 by rw [HBE.out, ha, ht])
   have HTL1 := Lib.hid (show C3.length + ((vbytes a).length + ((vbytes t).length + C5.length)) ≤ 10000000 by
    have q1 := (vbytes_len a HAL2.out.1).2
    have q2 := (vbytes_len t HAL2.out.2).2
    have q3 := HTL0.out
    have q4 := HRL.out
    simp only [List.length_cons, List.length_nil] at q3
    omega)
   clear HBE HRL HTL0 hC3 hC5 ha ht
   refine wp_region_dag (by kernel_rfl) 13 rfl (fun i => i == 4 || i == 8 || i == 10 || i == 11 || i == 12) (fun x => ⟨#[.agg #[.int .u8 b.kind, .int .u8 b.cpu, .int .i64 b.lost, .int .i64 b.next, .slice A n cp], .pointer (some ⟨X, 0, none⟩), x 12, .slice A3 N3 n3, .pointer (some ⟨Y, 0, none⟩), .slice A5 N5 n5, .int .i64 0, .pointer (some ⟨X, 0, none⟩), .int .u8 b.kind, .bool false, undef, undef, undef, undef, .pointer (some ⟨X, 1, none⟩), .int .u8 b.cpu, .int .u64 (x0 : Nat), .pointer (some ⟨X, 2, none⟩), .int .i64 b.lost, .int .u64 (x1 : Nat), .pointer (some ⟨X, 4, none⟩), .slice A n cp, .int .i64 (n : Nat), .int .u64 (n : Nat), .slice (some ⟨wa.heap.size, 0, none⟩) 3 3, .slice A3 N3 n3, .pointer (some ⟨X, 4, none⟩), .slice A n cp, .int .i64 (n : Nat), .bool false, undef, .agg #[.int .u8 b.kind, .int .u8 b.cpu, .int .i64 b.lost, .int .i64 b.next, .slice A n cp], .agg #[.int .i64 e.seq, .int .i64 e.time], .tuple #[.slice A5 N5 n5, .int .i64 0], .agg #[.int .i64 e.seq, .int .i64 e.time], .pointer (some ⟨X, 4, none⟩), .slice A n cp, .tuple #[.slice A5 N5 n5, .int .i64 0], .slice A5 N5 n5, .int .i64 0, x 0, x 1, x 2, x 3, x 4, x 5, x 6, x 7, x 8, x 9, x 10, x 11], []⟩) (fun iF vF => match iF with | 0 => vF = .slice A3 N3 n3 | 1 => vF = .pointer (some ⟨Y, 0, none⟩) | 2 => vF = .int .i64 e.seq | 3 => vF = .int .u64 (a : Nat) | 5 => vF = .pointer (some ⟨Y, 1, none⟩) | 6 => vF = .int .i64 e.time | 7 => vF = .int .u64 (t : Nat) | 9 => vF = .slice A5 N5 n5 | _ => True)
    (fun d x W => AlongB w W X Y b (.slice A n cp) e.seq e.time C3 C5 (.slice A3 N3 n3) (.slice A5 N5 n5) ∧ (d 4 = true → EV encB 1 W (x 4) (vbytes a)) ∧ (d 8 = true → EV encB 1 W (x 8) (vbytes t)) ∧ (d 10 = true → EV encVs 1 W (x 10) [(.slice A3 N3 n3, C3), (x 4, vbytes a), (x 8, vbytes t), (.slice A5 N5 n5, C5)]) ∧ (d 11 = true → OV encB 1 5 w.heap.size W (x 11) (C3 ++ (vbytes a ++ (vbytes t ++ C5)))) ∧ (d 12 = true → x 12 = x 11)) ?hB (by kernel_rfl) (by kernel_rfl) ?hpure ?hmem ?hend (fun i => (#[undef, undef, undef, undef, undef, undef, undef, undef, undef, undef, undef, undef, .slice none 0 0] : Array Value).getD i undef) rfl ?hstart
   case hstart =>
    try dsimp only
    exact ⟨HAL.out, fun h => (by cases h), fun h => (by cases h), fun h => (by cases h), fun h => (by cases h), fun h => (by cases h)⟩
   case hB =>
    intro d d' x i v W hi hm h
    have g4 : ¬ 4 = i := by rintro rfl; exact absurd (show true = false from hi) (by simp)
    have e4 : d' 4 = d 4 := hm 4 rfl
    have g8 : ¬ 8 = i := by rintro rfl; exact absurd (show true = false from hi) (by simp)
    have e8 : d' 8 = d 8 := hm 8 rfl
    have g10 : ¬ 10 = i := by rintro rfl; exact absurd (show true = false from hi) (by simp)
    have e10 : d' 10 = d 10 := hm 10 rfl
    have g11 : ¬ 11 = i := by rintro rfl; exact absurd (show true = false from hi) (by simp)
    have e11 : d' 11 = d 11 := hm 11 rfl
    have g12 : ¬ 12 = i := by rintro rfl; exact absurd (show true = false from hi) (by simp)
    have e12 : d' 12 = d 12 := hm 12 rfl
    try dsimp only at h ⊢
    first | rw [upd_ne g4, upd_ne g8, upd_ne g10, upd_ne g11, upd_ne g12, e4, e8, e10, e11, e12] | simp only [upd_ne g4, upd_ne g8, upd_ne g10, upd_ne g11, upd_ne g12, e4, e8, e10, e11, e12]
    exact h
   case hpure =>
    intro iF o hi hnm ho d x W hB hd hdn hnd hcl Kq hK
    rcases (show iF = 0 ∨ iF = 1 ∨ iF = 2 ∨ iF = 3 ∨ iF = 4 ∨ iF = 5 ∨ iF = 6 ∨ iF = 7 ∨ iF = 8 ∨ iF = 9 ∨ iF = 10 ∨ iF = 11 ∨ iF = 12 by omega) with rfl | rfl | rfl | rfl | rfl | rfl | rfl | rfl | rfl | rfl | rfl | rfl | rfl <;> obtain rfl := Option.some.inj ho
    all_goals first | exact absurd (show true = false from hnm) (by simp) | skip
    ·clear ho hd hdn hnd hcl hB hnm hi
     simp only [upd, reduceIte, Nat.reduceEqDiff] at hK
     try dsimp only
     go_simp
     exact hK _ rfl
    ·clear ho hd hdn hnd hcl hB hnm hi
     simp only [upd, reduceIte, Nat.reduceEqDiff] at hK
     try dsimp only
     go_simp
     exact hK _ rfl
    ·have e1 : x 1 = .pointer (some ⟨Y, 0, none⟩) := hd 1 (by kernel_rfl) (by kernel_rfl)
     have q := hB.1.2.1.c0
     clear ho hd hdn hnd hcl hB hnm hi
     simp only [upd, reduceIte, Nat.reduceEqDiff, e1] at hK
     try dsimp only
     go_simp
     exact hK _ rfl
    ·have e2 : x 2 = .int .i64 e.seq := hd 2 (by kernel_rfl) (by kernel_rfl)
     clear ho hd hdn hnd hcl hB hnm hi
     simp only [upd, reduceIte, Nat.reduceEqDiff, e2] at hK
     try dsimp only
     go_simp
     exact hK _ rfl
    ·clear ho hd hdn hnd hcl hB hnm hi
     simp only [upd, reduceIte, Nat.reduceEqDiff] at hK
     try dsimp only
     go_simp
     exact hK _ rfl
    ·have e5 : x 5 = .pointer (some ⟨Y, 1, none⟩) := hd 5 (by kernel_rfl) (by kernel_rfl)
     have q := hB.1.2.1.c1
     clear ho hd hdn hnd hcl hB hnm hi
     simp only [upd, reduceIte, Nat.reduceEqDiff, e5] at hK
     try dsimp only
     go_simp
     exact hK _ rfl
    ·have e6 : x 6 = .int .i64 e.time := hd 6 (by kernel_rfl) (by kernel_rfl)
     clear ho hd hdn hnd hcl hB hnm hi
     simp only [upd, reduceIte, Nat.reduceEqDiff, e6] at hK
     try dsimp only
     go_simp
     exact hK _ rfl
    ·clear ho hd hdn hnd hcl hB hnm hi
     simp only [upd, reduceIte, Nat.reduceEqDiff] at hK
     try dsimp only
     go_simp
     exact hK _ rfl
   case hmem =>
    intro iF o hi hmm ho d d' x W hB hd hdn hnd hdi hdi' hdm hcl Kq hK
    rcases (show iF = 0 ∨ iF = 1 ∨ iF = 2 ∨ iF = 3 ∨ iF = 4 ∨ iF = 5 ∨ iF = 6 ∨ iF = 7 ∨ iF = 8 ∨ iF = 9 ∨ iF = 10 ∨ iF = 11 ∨ iF = 12 by omega) with rfl | rfl | rfl | rfl | rfl | rfl | rfl | rfl | rfl | rfl | rfl | rfl | rfl <;> obtain rfl := Option.some.inj ho
    all_goals first | exact absurd (show false = true from hmm) (by simp) | skip
    ·have e3 : x 3 = .int .u64 (a : Nat) := hd 3 (by kernel_rfl) (by kernel_rfl)
     have dm8 : d' 8 = d 8 := hdm 8 (by omega)
     have dm10 : d' 10 = d 10 := hdm 10 (by omega)
     have dm11 : d' 11 = d 11 := hdm 11 (by omega)
     have dm12 : d' 12 = d 12 := hdm 12 (by omega)
     have dz10 : d 10 = false := hnd 10 (by kernel_rfl)
     have dz11 : d 11 = false := notyet (i := 11) hcl (hnd 10 (by kernel_rfl)) (by kernel_rfl)
     have dz12 : d 12 = false := notyet (i := 12) hcl (notyet (i := 11) hcl (hnd 10 (by kernel_rfl)) (by kernel_rfl)) (by kernel_rfl)
     obtain ⟨hb, h4, h8, h10, h11, h12⟩ := hB
     clear h10 h11 h12
     clear ho hd hdn hnd hcl hmm
     simp only [upd, reduceIte, Nat.reduceEqDiff, e3] at hK
     try dsimp only
     go_simp
     go_at_call 106
     refine (vwrite_ok W _ HAL2.out.1).mono ?_
     rintro r W2 ⟨v', rfl, o, bb⟩
     go_simp
     refine hK _ _ ?_
     try dsimp only
     rw [dm8, dm10, dm11, dm12, hdi']
     exact ⟨hb.below bb, fun _ => o.ev encB_len, fun k => (h8 k).below bb, fun h => (by rw [dz10] at h; cases h), fun h => (by rw [dz11] at h; cases h), fun h => (by rw [dz12] at h; cases h)⟩
    ·have e7 : x 7 = .int .u64 (t : Nat) := hd 7 (by kernel_rfl) (by kernel_rfl)
     have dm4 : d' 4 = d 4 := hdm 4 (by omega)
     have dm10 : d' 10 = d 10 := hdm 10 (by omega)
     have dm11 : d' 11 = d 11 := hdm 11 (by omega)
     have dm12 : d' 12 = d 12 := hdm 12 (by omega)
     have dz10 : d 10 = false := hnd 10 (by kernel_rfl)
     have dz11 : d 11 = false := notyet (i := 11) hcl (hnd 10 (by kernel_rfl)) (by kernel_rfl)
     have dz12 : d 12 = false := notyet (i := 12) hcl (notyet (i := 11) hcl (hnd 10 (by kernel_rfl)) (by kernel_rfl)) (by kernel_rfl)
     obtain ⟨hb, h4, h8, h10, h11, h12⟩ := hB
     clear h10 h11 h12
     clear ho hd hdn hnd hcl hmm
     simp only [upd, reduceIte, Nat.reduceEqDiff, e7] at hK
     try dsimp only
     go_simp
     go_at_call 106
     refine (vwrite_ok W _ HAL2.out.2).mono ?_
     rintro r W2 ⟨v', rfl, o, bb⟩
     go_simp
     refine hK _ _ ?_
     try dsimp only
     rw [dm4, dm10, dm11, dm12, hdi']
     exact ⟨hb.below bb, fun k => (h4 k).below bb, fun _ => o.ev encB_len, fun h => (by rw [dz10] at h; cases h), fun h => (by rw [dz11] at h; cases h), fun h => (by rw [dz12] at h; cases h)⟩
    ·have e0 : x 0 = .slice A3 N3 n3 := hd 0 (by kernel_rfl) (by kernel_rfl)
     have e9 : x 9 = .slice A5 N5 n5 := hd 9 (by kernel_rfl) (by kernel_rfl)
     have dm4 : d' 4 = d 4 := hdm 4 (by omega)
     have dm8 : d' 8 = d 8 := hdm 8 (by omega)
     have dm11 : d' 11 = d 11 := hdm 11 (by omega)
     have dm12 : d' 12 = d 12 := hdm 12 (by omega)
     have dn4 : d 4 = true := hdn 4 (by kernel_rfl)
     have dn8 : d 8 = true := hdn 8 (by kernel_rfl)
     have dz11 : d 11 = false := hnd 11 (by kernel_rfl)
     have dz12 : d 12 = false := notyet (i := 12) hcl (hnd 11 (by kernel_rfl)) (by kernel_rfl)
     obtain ⟨hb, h4, h8, h10, h11, h12⟩ := hB
     have h4 := h4 dn4
     have h8 := h8 dn8
     obtain ⟨A4, c4, e4⟩ := h4.shape
     obtain ⟨A8, c8, e8⟩ := h8.shape
     rw [e4] at h4
     rw [e8] at h8
     clear h10 h11 h12
     clear ho hd hdn hnd hcl hmm
     simp only [upd, reduceIte, Nat.reduceEqDiff, e0, e9, e4, e8] at hK
     try dsimp only
     go_simp
     refine hK _ _ ?_
     try dsimp only
     rw [dm4, dm8, dm11, dm12, hdi']
     refine ⟨hb.below (bel_alloc _ _), fun _ => h4.below (bel_alloc _ _), fun _ => h8.below (bel_alloc _ _), fun _ => row4 rfl, fun h => (by rw [dz11] at h; cases h), fun h => (by rw [dz12] at h; cases h)⟩
    ·have dm4 : d' 4 = d 4 := hdm 4 (by omega)
     have dm8 : d' 8 = d 8 := hdm 8 (by omega)
     have dm10 : d' 10 = d 10 := hdm 10 (by omega)
     have dm12 : d' 12 = d 12 := hdm 12 (by omega)
     have dn10 : d 10 = true := hdn 10 (by kernel_rfl)
     have dz12 : d 12 = false := hnd 12 (by kernel_rfl)
     obtain ⟨hb, h4, h8, h10, h11, h12⟩ := hB
     have h4 := h4 (hcl 10 dn10 4 (by kernel_rfl))
     have h8 := h8 (hcl 10 dn10 8 (by kernel_rfl))
     have h10 := h10 dn10
     clear h11 h12
     clear ho hd hdn hnd hcl hmm
     simp only [upd, reduceIte, Nat.reduceEqDiff] at hK
     try dsimp only
     go_simp
     go_at_call 110
     refine (concat_byte W _ [(.slice A3 N3 n3, C3), (x 4, vbytes a), (x 8, vbytes t), (.slice A5 N5 n5, C5)] h10 (fun y hy => ?_) (by simp) (by have := HTL1.out; simp; omega)).mono ?_
     ·simp only [List.mem_cons, List.not_mem_nil, or_false] at hy
      rcases hy with rfl | rfl | rfl | rfl
      ·exact hb.2.2.1
      ·exact h4
      ·exact h8
      ·exact hb.2.2.2
     rintro r W2 ⟨v', rfl, o, bb⟩
     go_simp
     refine hK _ _ ?_
     try dsimp only
     rw [dm4, dm8, dm10, dm12, hdi']
     exact ⟨hb.below bb, fun _ => h4.below bb, fun _ => h8.below bb, fun _ => h10.below bb, fun _ => (by simpa using o.base_le hb.1.size), fun h => (by rw [dz12] at h; cases h)⟩
    ·have dm4 : d' 4 = d 4 := hdm 4 (by omega)
     have dm8 : d' 8 = d 8 := hdm 8 (by omega)
     have dm10 : d' 10 = d 10 := hdm 10 (by omega)
     have dm11 : d' 11 = d 11 := hdm 11 (by omega)
     have dn11 : d 11 = true := hdn 11 (by kernel_rfl)
     obtain ⟨hb, h4, h8, h10, h11, h12⟩ := hB
     clear h12
     clear ho hd hdn hnd hcl hmm
     simp only [upd, reduceIte, Nat.reduceEqDiff] at hK
     try dsimp only
     go_simp
     refine hK _ _ ?_
     try dsimp only
     rw [dm4, dm8, dm10, dm11, hdi']
     exact ⟨hb, h4, h8, h10, h11, fun _ => rfl⟩
   case hend =>
    intro d x W hall hB hd
    obtain ⟨hb, _, _, _, h11, h12⟩ := hB
    have o := h11 (hall 11 (by omega))
    have e12 := h12 (hall 12 (by omega))
    clear hd hall h11 h12
    try dsimp only
    rw [e12]
    clear e12
    generalize x 11 = vx at o ⊢
    generalize x 0 = y0
    generalize x 1 = y1
    generalize x 2 = y2
    generalize x 3 = y3
    generalize x 4 = y4
    generalize x 5 = y5
    generalize x 6 = y6
    generalize x 7 = y7
    generalize x 8 = y8
    generalize x 9 = y9
    generalize x 10 = y10
    obtain ⟨A9, n9, rfl⟩ := (o.ev encB_len).shape
    have HO9 := Lib.hid o
    have HB9 := Lib.hid hb.1
    clear o hb HAL
    go_wp2
    go_ret
    exact ⟨_, rfl, by rw [HBD.out, HSQ.out]; simpa using HO9.out, HB9.out⟩
 ·have k1 : (b.kind == 2) = true := by simp [h.1]
  obtain ⟨x, hx⟩ : ∃ x, x = b.next.toNat := ⟨_, rfl⟩
  have y0 : IntKind.u64.wrap b.next = (x : Nat) := by rw [IntWalk.u64_in _ (by omega)]; omega
  have HW := Lib.hid (vwrite_ok wa x (by omega))
  have HBD := Lib.hid (show bodyB b = vbytes x by unfold bodyB; rw [if_pos h.1, hx])
  clear h hx
  go_wp2_with fail
  refine HW.out.mono ?_
  rintro r w1 ⟨v', rfl, o, bb⟩
  obtain ⟨A', c', rfl⟩ := (o.ev encB_len).shape
  have HO1 := Lib.hid o
  have HB1 := Lib.hid (bstep HB.out bb)
  have HZ := Lib.hid HB.out.size
  clear o bb
  go_wp2
  go_ret
  exact ⟨_, rfl, by rw [HBD.out]; exact HO1.out.base_le HZ.out, HB1.out⟩
end Go.Proofs.YtalophngappkhaaGreatDoor
namespace Go.Proofs.YtalophngappkhaaGreatDoor
open Go.RowKit Go.Shelf
attribute [local go_sem] Oper.semAt_some

theorem litB8 {m : Nat} {w : World} {a b c d e f g h base : Nat} (hm : w.heap.size = m) (hb : base ≤ m) : OV encB 1 5 base (w.alloc (.cells #[.int .u8 (a : Nat), .int .u8 (b : Nat), .int .u8 (c : Nat), .int .u8 (d : Nat), .int .u8 (e : Nat), .int .u8 (f : Nat), .int .u8 (g : Nat), .int .u8 (h : Nat)] 5)) (.slice (some ⟨m, 0, none⟩) 8 8) [a, b, c, d, e, f, g, h] := by
 subst hm
 exact OV.lit w _ 8 hb (by unfold maxLen; omega) rfl rfl rfl
theorem vbytes_256 (x : Nat) : ∀ y ∈ vbytes x, y < 256 := by
 intro y hy
 obtain ⟨z, _, rfl⟩ := List.mem_map.1 hy
 unfold vbyte
 split <;> omega
theorem vall_256 (l : List Nat) : ∀ y ∈ vall l, y < 256 := by
 intro y hy
 obtain ⟨x, _, hx⟩ := List.mem_flatMap.1 hy
 exact vbytes_256 x y hx
theorem rec_256 {s t : Int} {e : Ev} (hk : e.kind < 256) : ∀ y ∈ recE s t e, y < 256 := by
 intro y hy
 rcases List.mem_cons.1 hy with rfl | hy
 ·omega
 ·exact vall_256 _ y hy
theorem recs_256 : ∀ {l : List Ev} {s t : Int}, (∀ e ∈ l, e.kind < 256) → ∀ y ∈ recsE s t l, y < 256
 | [], _, _, _, y, hy => by cases hy
 | e :: l, s, t, h, y, hy => by
  rcases List.mem_append.1 hy with hy | hy
  ·exact rec_256 (h e (by simp)) y hy
  ·exact recs_256 (fun x hx => h x (by simp [hx])) y hy
theorem body_256 {b : Bck} (ho : BlkOk b) : ∀ y ∈ bodyB b, y < 256 := by
 intro y hy
 unfold bodyB at hy
 split at hy
 ·exact vbytes_256 _ y hy
 ·rcases List.mem_append.1 hy with hy | hy
  ·exact vall_256 _ y hy
  ·cases he : b.evs with
   | nil => rw [he] at hy; cases hy
   | cons e l =>
    rw [he] at hy
    rcases List.mem_append.1 hy with hy | hy
    ·rcases List.mem_append.1 hy with hy | hy
     ·exact vbytes_256 _ y hy
     ·exact vbytes_256 _ y hy
    ·exact recs_256 (fun x hx => by have := (ho.evs x (by rw [he]; exact hx)).kind; omega) y hy
theorem raw_256 {b : Bck} (ho : BlkOk b) : ∀ y ∈ rawB b, y < 256 := by
 intro y hy
 unfold rawB at hy
 simp only [List.mem_cons] at hy
 rcases hy with rfl | rfl | rfl | rfl | rfl | rfl | rfl | rfl | hy
 any_goals omega
 ·have := ho.kind; omega
 ·exact body_256 ho y hy
theorem body_len {b : Bck} (ho : BlkOk b) (hl : b.evs.length ≤ 100000) (hf : FitsB b) : (bodyB b).length ≤ 61 * b.evs.length + 60 := by
 unfold bodyB
 rcases hf with h | h
 ·rw [if_neg (by omega), List.length_append]
  have h1 := vall_len [b.cpu.toNat, b.lost.toNat, b.evs.length] (by
   have := ho.cpu
   intro x hx
   simp only [List.mem_cons, List.not_mem_nil, or_false] at hx
   rcases hx with rfl | rfl | rfl <;> omega)
  have h2 : (bodyE b.evs).length ≤ 61 * b.evs.length + 20 := by
   cases he : b.evs with
   | nil => simp [bodyE]
   | cons e l =>
    have hr := h.2.1
    have hoe := ho.evs
    rw [he] at hr hoe
    have hlm := chk_lim (hoe e (by simp)) (hr.at 0 e rfl).1
    have h3 := recs_len hr hoe ⟨hlm.2.1.1, hlm.2.1.2, hlm.2.2.1.1, hlm.2.2.1.2⟩ (fun x hx => by cases hx; exact ⟨Int.le_refl _, Int.le_refl _⟩) (e :: l).length (Nat.le_refl _)
    rw [List.take_length] at h3
    have h4 := (vbytes_len e.seq.toNat (by omega)).2
    have h5 := (vbytes_len e.time.toNat (by omega)).2
    unfold bodyE
    rw [List.length_append, List.length_append]
    omega
  simp only [List.length_cons, List.length_nil] at h1
  omega
 ·rw [if_pos h.1]
  have := (vbytes_len b.next.toNat (by omega)).2
  omega
/-- What Write returns: the bytes of a block, or none. -/
noncomputable def outB (b : Bck) : List Nat := if chkB b = 0 then bytesB b else []
set_option maxRecDepth 100000 in
set_option maxHeartbeats 3200000 in
theorem bwrite_ok (w : World) (b : Bck) (v : Value) (ho : BlkOk b) (hv : EV encE 11 w v b.evs) (hL : b.evs.length ≤ 100000) (hla : LaidAt w) :
  Calls Tryz.prog 55 #[blkA b v] w fun r w' => ∃ v', r = .returned (.tuple #[v', .int .i64 (chkB b)]) ∧ OV encB 1 5 w.heap.size w' v' (outB b) ∧ Below w.heap.size w w' := by
 obtain ⟨A, cp, hA⟩ := hv.shape
 have HX := Lib.hid (BkBox.new w b v)
 have HB := Lib.hid (bel_alloc w (.cells (blkC b v) 24))
 have HV := Lib.hid hv
 have HU := Lib.hid hla
 have HO := Lib.hid ho
 have HL := Lib.hid hL
 have HFI := Lib.hid (fun W (h : EV encE 11 W v b.evs) (hU : UsesAt W) => fits_ok W b v ho h hL hU)
 have HBO := Lib.hid (fun W (h : EV encE 11 W v b.evs) (hU : UsesAt W) (hf : FitsB b) => body_ok W b v ho h hL hU hf)
 unfold blkA at HFI HBO ⊢
 unfold blkC at HX HB
 subst hA
 obtain ⟨n, hn⟩ : ∃ n, b.evs.length = n := ⟨_, rfl⟩
 rw [hn] at HX HB HFI HBO ⊢
 have HVV := Lib.hid (fun W (h : Below w.heap.size w W) => (show EV encE 11 W (.slice A n cp) b.evs from hn ▸ hv.below h))
 obtain ⟨ck, hck⟩ : ∃ ck, chkB b = ck := ⟨_, rfl⟩
 obtain ⟨ob, hob⟩ : ∃ ob, outB b = ob := ⟨_, rfl⟩
 have HCK := Lib.hid hck
 have HLE := Lib.hid hL
 have HOB := Lib.hid hob
 rw [hck, hob]
 clear hv ho hla hL HV HL hn hck hob
 go_enter Tryz.func55, Tryz.ntmps55
 go_upto_region 1 with fail
 have h1 := HX.out
 have h2 := HB.out
 clear HX HB
 obtain ⟨X, hX⟩ : ∃ X, w.heap.size = X := ⟨_, rfl⟩
 have HXX := Lib.hid hX
 generalize w.alloc (.cells #[.int .u8 b.kind, .int .u8 b.cpu, .int .i64 b.lost, .int .i64 b.next, .slice A n cp] 24) = wa at h1 h2 ⊢
 rw [hX] at h1 ⊢
 have HX := Lib.hid h1
 have HB := Lib.hid h2
 have c0 := h1.c0
 have c1 := h1.c1
 have c2 := h1.c2
 have c3 := h1.c3
 have c4 := h1.c4
 clear h1 h2 hX
 go_wp2_with fail
 refine (HFI.out _ (HVV.out _ HB.out) (HU.out.below HB.out).uses).mono ?_
 rintro r w1 ⟨⟨rfl, hf⟩ | ⟨rfl, hf⟩, b1⟩
 ·have hc : chkB b = 107 := by unfold chkB; rw [if_neg hf]
  have hq : outB b = [] := by unfold outB; rw [hc, if_neg (by decide)]
  obtain rfl : ck = 107 := HCK.out.symm.trans hc
  obtain rfl : ob = [] := HOB.out.symm.trans hq
  clear hc hq
  have HB1 := Lib.hid (bstep HB.out b1)
  clear hf b1 c0 c1 c2 c3 c4
  go_wp2
  go_ret2
  exact ⟨_, rfl, OV.nil _ _, HB1.out⟩
 ·have HF := Lib.hid hf
  have HB1 := Lib.hid (bstep HB.out b1)
  have HX1 := Lib.hid (HX.out.below b1)
  clear hf b1 HB HX c0 c1 c2 c3 c4
  have c0 := HX1.out.c0
  have c1 := HX1.out.c1
  have c2 := HX1.out.c2
  have c3 := HX1.out.c3
  have c4 := HX1.out.c4
  go_wp2_with fail
  refine (HBO.out _ (HVV.out _ HB1.out) (HU.out.below HB1.out).uses HF.out).mono ?_
  rintro r w2 ⟨vb, rfl, o2, b2⟩
  have HB2 := Lib.hid (bstep HB1.out b2)
  have HX2 := Lib.hid (HX1.out.below b2)
  have HO2 := Lib.hid (o2.ev encB_len)
  clear o2 b2 HX1 HB1 c0 c1 c2 c3 c4
  have c0 := HX2.out.c0
  have m0 := (HU.out.below HB2.out).magic.1
  have m1 := (HU.out.below HB2.out).magic.2
  obtain ⟨Ab, cb, rfl⟩ := HO2.out.shape
  obtain ⟨L, hLL⟩ : ∃ L, (bodyB b).length = L := ⟨_, rfl⟩
  have HLL := Lib.hid hLL
  have hLb : L ≤ 7000000 := by
   have h1 := body_len HO.out HLE.out HF.out
   have h2 := HLE.out
   omega
  rw [hLL] at HO2 ⊢
  clear hLL
  by_cases hbig : 4096 < L + 12
  ·have hc : chkB b = 3 := by unfold chkB; rw [if_pos HF.out, HLL.out, if_pos hbig]
   have hq : outB b = [] := by unfold outB; rw [hc, if_neg (by decide)]
   obtain rfl : ck = 3 := HCK.out.symm.trans hc
   obtain rfl : ob = [] := HOB.out.symm.trans hq
   have d1 : decide ((4096 : Int) < 8 + (L : Int) + 4) = true := by simp; omega
   clear hc hq
   go_wp2
   go_ret2
   exact ⟨_, rfl, OV.nil _ _, HB2.out⟩
  ·have hc : chkB b = 0 := by unfold chkB; rw [if_pos HF.out, HLL.out, if_neg hbig]
   have hq : outB b = bytesB b := by unfold outB; rw [hc, if_pos rfl]
   obtain rfl : ck = 0 := HCK.out.symm.trans hc
   have HQ := Lib.hid (HOB.out.symm.trans hq)
   have d1 : decide ((4096 : Int) < 8 + (L : Int) + 4) = false := by simp; omega
   obtain ⟨kd, hkd⟩ : ∃ kd, kd = b.kind.toNat := ⟨_, rfl⟩
   have hkc : b.kind = (kd : Nat) := by have := HO.out.kind; omega
   rw [hkc] at c0
   obtain ⟨e0, he0⟩ : ∃ e, e = (L + 12) % 256 := ⟨_, rfl⟩
   obtain ⟨e1, he1⟩ : ∃ e, e = (L + 12) / 256 % 256 := ⟨_, rfl⟩
   have HRAW := Lib.hid (show rawB b = [e0, e1, 0, 0, 113, 116, 1, kd] ++ bodyB b by unfold rawB; rw [HLL.out, he0, he1, hkd]; rfl)
   have b0 : IntKind.u8.wrap (8 + (L : Int) + 4) = (e0 : Nat) := by rw [wrap_u8]; omega
   have b1 : IntKind.u8.wrap ((8 + (L : Int) + 4) / 256) = (e1 : Nat) := by rw [wrap_u8]; omega
   have b2 : (8 + (L : Int) + 4) % 256 = (e0 : Nat) := by omega
   have b3 : (8 + (L : Int) + 4) / 256 % 256 = (e1 : Nat) := by omega
   have HS8 := Lib.hid (show OV encB 1 5 w.heap.size (w2.alloc (.cells #[.int .u8 (e0 : Nat), .int .u8 (e1 : Nat), .int .u8 0, .int .u8 0, .int .u8 113, .int .u8 116, .int .u8 1, .int .u8 (kd : Nat)] 5)) (.slice (some ⟨w2.heap.size, 0, none⟩) 8 8) [e0, e1, 0, 0, 113, 116, 1, kd] from litB8 rfl HB2.out.size)
   have HSB := Lib.hid (HB2.out.alloc HB2.out.size (.cells #[.int .u8 (e0 : Nat), .int .u8 (e1 : Nat), .int .u8 0, .int .u8 0, .int .u8 113, .int .u8 116, .int .u8 1, .int .u8 (kd : Nat)] 5))
   have HLB := Lib.hid (show L ≤ 4096 by omega)
   have d2 : decide (4096 < 8 + L + 4) = false := by simp; omega
   clear hc hq hkd hkc he0 he1
   go_wp2_with (at_builtin; refine wpList_app elemB encB_len encB_one rfl _ _ rfl _ _ rfl rfl HS8.out (HO2.out.below (bel_alloc _ _)) ?q1 ?q2 ?_)
   case q1 => rw [HLL.out]; have := HLB.out; simp; omega
   case q2 => exact HSB.out.size
   intro v3 w3 o3 g3
   replace o3 : OV encB 1 5 w.heap.size w3 v3 (rawB b) := by rw [HRAW.out]; exact o3
   have HB3 := Lib.hid (HSB.out.grown g3 HSB.out.size (fun k hk => (HS8.out.block k hk).1))
   have HO3 := Lib.hid (o3.ev encB_len)
   have HSE := Lib.hid (seal_ok w3 v3 _ HO3.out (raw_256 HO.out) (by rw [HRAW.out, List.length_append, HLL.out]; have := HLB.out; simp; omega) (HU.out.below HB3.out).halves)
   clear o3 g3 HS8 HSB b0 b1 b2 b3 m0 m1 c0
   obtain ⟨A3, c3, rfl⟩ := HO3.out.shape
   go_wp2_with fail
   refine HSE.out.mono ?_
   rintro r w4 ⟨v4, rfl, o4, b4⟩
   obtain ⟨A4, c4, rfl⟩ := (o4.ev encB_len).shape
   have HO4 := Lib.hid o4
   have HB4 := Lib.hid (bstep HB3.out b4)
   have HZ := Lib.hid HB3.out.size
   clear o4 b4 HSE
   go_wp2
   go_ret2
   exact ⟨_, rfl, by rw [HQ.out]; exact HO4.out.base_le HZ.out, HB4.out⟩
theorem bcheck_ok (w : World) (b : Bck) (v : Value) (ho : BlkOk b) (hv : EV encE 11 w v b.evs) (hL : b.evs.length ≤ 100000) (hla : LaidAt w) :
  Calls Tryz.prog 22 #[blkA b v] w fun r w' => r = .returned (.int .i64 (chkB b)) ∧ Below w.heap.size w w' := by
 have HB := Lib.hid (bel_alloc w (.cells (blkC b v) 24))
 have HX := Lib.hid (BkBox.new w b v)
 have HW := Lib.hid (bwrite_ok _ b v ho (hv.below HB.out) hL (hla.below HB.out))
 generalize chkB b = ck at HW ⊢
 unfold blkA at HW ⊢
 unfold blkC at HB HW HX
 clear ho hv hL hla
 go_enter Tryz.func22, Tryz.ntmps22
 have c0 := HX.out.c0
 have c1 := HX.out.c1
 have c2 := HX.out.c2
 have c3 := HX.out.c3
 have c4 := HX.out.c4
 go_wp2_with fail
 refine HW.out.mono ?_
 rintro r w1 ⟨v', rfl, o, b1⟩
 clear c0 c1 c2 c3 c4
 have HB1 := Lib.hid (bstep HB.out b1)
 clear b1 o
 go_wp2
 go_ret
 exact ⟨rfl, HB1.out⟩
end Go.Proofs.YtalophngappkhaaGreatDoor
