/- quantumref07.Row and Write | quantumref10.Fits. -/
import Derived.Test.YtalophngappkhaaGreatDoorV28
import Derived.BigRegion
import Derived.StillTailTactics
import Derived.Test.YtalophngappkhaaGreatDoorV17
set_option linter.unusedVariables false
set_option linter.unusedSimpArgs false
set_option linter.unusedSectionVars false
namespace Go.Proofs.YtalophngappkhaaGreatDoor
open Go Go.RowKit Go.Shelf
attribute [local go_sem] Oper.semAt_some

set_option maxRecDepth 100000 in
set_option maxHeartbeats 6400000 in
theorem r7row_ok (w : World) (v : Value) (l : List Ev) (hv : EV encE 11 w v l) (ho : ∀ e ∈ l, EvOk e) (hl : l.length ≤ 1000000) :
  Calls Tryz.prog 123 #[v] w fun r w' => (∃ i b : Int, r = .returned (.tuple #[.int .i64 i, .int .i64 b]) ∧ (b = 0 ↔ RowOk l)) ∧ Below w.heap.size w w' := by
 obtain ⟨A, c, hA⟩ := hv.shape
 subst hA
 obtain ⟨n, hn⟩ : ∃ n, l.length = n := ⟨_, rfl⟩
 have HN := Lib.hid hn
 have HO := Lib.hid ho
 rw [hn] at hv hl ⊢
 have HV := Lib.hid hv
 have HL := Lib.hid hl
 clear hv hn ho hl
 go_enter Tryz.func123, Tryz.ntmps123
 go_wp2
 go_loopg [4] n (fun k i wr => ∃ j : Nat, j + k = n ∧ i = .int .i64 j ∧ PW l j ∧ Below w.heap.size w wr)
 case atStart => exact ⟨0, by omega, rfl, fun i e hi => absurd hi (Nat.not_lt_zero i), Below.refl _ _⟩
 case round =>
  obtain ⟨j, hj, rfl, hp, hb⟩ := hrel
  have HJ := Lib.hid hj
  have HP := Lib.hid hp
  have HB := Lib.hid hb
  clear hj hp hb
  by_cases hlt : j < n
  ·obtain ⟨b, off, c', hsl, hcc, hr⟩ := (HV.out.below HB.out).row (by rw [HN.out]; omega)
   rw [HN.out] at hsl
   cases hsl
   obtain ⟨e, he⟩ : ∃ e, l[j]? = some e := ⟨_, List.getElem?_eq_getElem (by rw [HN.out]; exact hlt)⟩
   obtain ⟨g0, g1, g2, g3, g4, g5, g6, g7, g8, g9, g10⟩ := hr.ev he
   have HE := Lib.hid he
   have HG := Lib.hid (And.intro g0 (And.intro g1 g2))
   have hl6 := HL.out
   have HCK := Lib.hid (fun W => r6check_ok W e (HO.out e (List.mem_of_getElem? he)))
   obtain ⟨K, hK⟩ : ∃ K, chkEv e = K := ⟨_, rfl⟩
   rw [hK] at HCK
   have HKE := Lib.hid hK
   unfold evA at HCK
   have HR := Lib.hid hr
   clear hr he hK
   have i0 : (0 : Int) ≤ (j : Int) := by omega
   have i1 : (j : Int) < (n : Int) := by omega
   have d0 : decide ((j : Int) < (n : Int)) = true := by simp; omega
   go_wp2_with fail
   refine (HCK.out wr).mono ?_
   rintro r w2 ⟨rfl, b2⟩
   have HB2 := Lib.hid (bstep HB.out b2)
   have HR2 := Lib.hid (HR.out.keep fun p u _ hc => below_cell b2 hc)
   clear b2 g0 g1 g2 g3 g4 g5 g6 g7 g8 g9 g10 HR HG HB HCK
   by_cases hk : K = 0
   ·have hk0 := hk
    subst hk
    have g0 := (HR2.out.ev HE.out).1
    have g1 := (HR2.out.ev HE.out).2.1
    have g2 := (HR2.out.ev HE.out).2.2.1
    rcases Nat.eq_zero_or_pos j with hz | hz
    ·have HS2 := Lib.hid (HP.out.step HE.out HKE.out (fun q p h => by omega))
     have dz : decide (0 < j) = false := by simp; omega
     have dz2 : decide ((0 : Int) < (j : Int)) = false := by simp; omega
     clear hz
     go_wp2_with fail
     go_big_region
     go_wp2
     go_roundg (gk - 1)
     case measure => have := HJ.out; omega
     case rel => exact ⟨j + 1, by have := HJ.out; omega, by go_num, HS2.out, by first | exact below_drewN HB2.out _ | exact below_drew HB2.out⟩
    ·obtain ⟨p, rfl⟩ : ∃ p, j = p + 1 := ⟨j - 1, by omega⟩
     obtain ⟨y, hy⟩ : ∃ y, l[p]? = some y := ⟨_, List.getElem?_eq_getElem (by rw [HN.out]; omega)⟩
     obtain ⟨y0, y1, y2, -⟩ := HR2.out.ev hy
     have p0 : (0 : Int) ≤ (p : Int) := by omega
     have p1 : (p : Int) < (n : Int) := by omega
     have i2 : (0 : Int) ≤ (p : Int) + 1 := by omega
     have i3 : (p : Int) + 1 < (n : Int) := by omega
     have dz : decide (0 < p + 1) = true := by simp
     have dz2 : decide ((0 : Int) < (p : Int) + 1) = true := decide_eq_true (by omega)
     have dz3 : decide ((0 : Int) < ((p + 1 : Nat) : Int)) = true := decide_eq_true (by omega)
     have HST := Lib.hid (fun (h : nextOk y e) => HP.out.step HE.out HKE.out (fun q x hq hx => by
      obtain rfl : q = p := by omega
      rw [hy] at hx; cases hx; exact h))
     have HNO := Lib.hid (fun (h : ¬ nextOk y e) => not_row_next (l := l) (q := p) HE.out hy h)
     have hw : wrap64 (p : Int) = (p : Int) := IntWalk.wrap64_in _ (by omega)
     clear hy hz
     by_cases h1 : e.cpu = y.cpu
     ·have d1 : (e.cpu != y.cpu) = false := by simp [h1]
      by_cases h2 : e.seq ≤ y.seq
      ·have d2 : decide (e.seq ≤ y.seq) = true := by simpa using h2
       have HNR := Lib.hid (HNO.out (fun h => by have := h.2.1; omega))
       clear h1 h2
       go_wp2_with fail
       go_big_region
       go_wp2
       go_ret2
       exact ⟨⟨_, 71, rfl, ⟨fun h => by omega, fun h => absurd h HNR.out⟩⟩, by first | exact below_drewN HB2.out _ | exact below_drew HB2.out⟩
      ·have d2 : decide (e.seq ≤ y.seq) = false := by simpa using h2
       by_cases h3 : e.time < y.time
       ·have d3 : decide (e.time < y.time) = true := by simpa using h3
        have HNR := Lib.hid (HNO.out (fun h => by have := h.2.2; omega))
        clear h1 h2 h3
        go_wp2_with fail
        go_big_region
        go_wp2
        go_ret2
        exact ⟨⟨_, 71, rfl, ⟨fun h => by omega, fun h => absurd h HNR.out⟩⟩, by first | exact below_drewN HB2.out _ | exact below_drew HB2.out⟩
       ·have d3 : decide (e.time < y.time) = false := by simpa using h3
        have HS2 := Lib.hid (HST.out ⟨h1, by omega, by omega⟩)
        clear h1 h2 h3
        go_wp2_with fail
        go_big_region
        go_wp2
        go_roundg (gk - 1)
        case measure => have := HJ.out; clear hw; omega
        case rel => exact ⟨p + 1 + 1, by have := HJ.out; clear hw; omega, by go_num, HS2.out, by first | exact below_drewN HB2.out _ | exact below_drew HB2.out⟩
     ·have d1 : (e.cpu != y.cpu) = true := by simp [h1]
      have HNR := Lib.hid (HNO.out (fun h => h1 h.1))
      clear h1
      go_wp2_with fail
      go_big_region
      go_wp2
      go_ret2
      exact ⟨⟨_, 71, rfl, ⟨fun h => by omega, fun h => absurd h HNR.out⟩⟩, by first | exact below_drewN HB2.out _ | exact below_drew HB2.out⟩
   ·have dk : (K != 0) = true := by simp [hk]
    have HNR := Lib.hid (not_row_at HE.out (by rw [HKE.out]; exact hk))
    have HKN := Lib.hid hk
    clear hk
    go_wp2
    go_ret2
    exact ⟨⟨_, K, rfl, ⟨fun h => absurd h HKN.out, fun h => absurd h HNR.out⟩⟩, HB2.out⟩
  ·obtain rfl : n = j := by have := HJ.out; omega
   have HS2 := Lib.hid (HP.out.all (Nat.le_of_eq HN.out))
   go_wp2
   go_ret2
   exact ⟨⟨_, 0, rfl, ⟨fun _ => HS2.out, fun _ => rfl⟩⟩, HB.out⟩
/-- What Put has returned. -/
def WpT (W : World) (v : Value) (l : List Nat) : Prop := ∃ vp, v = .tuple #[vp, .int .i64 0] ∧ EV encB 1 W vp l
theorem WpT.below {W W' : World} {v : Value} {l : List Nat} (h : WpT W v l) (hb : Below W.heap.size W W') : WpT W' v l := by
 obtain ⟨vp, e, a⟩ := h
 exact ⟨vp, e, a.below hb⟩
theorem rgt_bs {s t : Int} (h : rgtB s t) : BsOk s t := by unfold rgtB at h; exact ⟨⟨h.1, h.2.1⟩, h.2.2.1, h.2.2.2⟩
set_option maxRecDepth 100000 in
set_option maxHeartbeats 6400000 in
theorem r7write_ok (w : World) (s t : Int) (v : Value) (l : List Ev) (hv : EV encE 11 w v l) (ho : ∀ e ∈ l, EvOk e) (hl : l.length ≤ 100000) (hr : RowOk l) (hb : rgtB s t) (h0 : ∀ e, l[0]? = some e → s ≤ e.seq ∧ t ≤ e.time) :
  Calls Tryz.prog 126 #[.agg #[.int .i64 s, .int .i64 t], v] w fun r w' => ∃ v', r = .returned (.tuple #[v', .int .i64 0]) ∧ OV encB 1 5 w.heap.size w' v' (recsE s t l) ∧ Below w.heap.size w w' := by
 obtain ⟨A, c, hA⟩ := hv.shape
 subst hA
 obtain ⟨n, hn⟩ : ∃ n, l.length = n := ⟨_, rfl⟩
 have HN := Lib.hid hn
 have HO := Lib.hid ho
 have HR := Lib.hid hr
 have HBO := Lib.hid hb
 have H0 := Lib.hid h0
 have HX := Lib.hid (BsR.new w s t)
 have HB := Lib.hid (bel_alloc w (.cells #[.int .i64 s, .int .i64 t] 194))
 have HRO := Lib.hid (fun W (b : Below w.heap.size w W) => r7row_ok W _ l (hv.below b) ho (by omega))
 rw [hn] at hv hl HRO ⊢
 have HV := Lib.hid hv
 have HL := Lib.hid hl
 clear hv hn ho hl hr hb h0
 go_enter Tryz.func126, Tryz.ntmps126
 go_upto_region 1 with fail
 generalize w.alloc (.cells #[.int .i64 s, .int .i64 t] 194) = w1 at HX HB ⊢
 obtain ⟨X, hX⟩ : ∃ X, w.heap.size = X := ⟨_, rfl⟩
 rw [hX] at HX ⊢
 have HXX := Lib.hid hX
 clear hX
 go_wp2_with fail
 refine (HRO.out w1 HB.out).mono ?_
 rintro r w2 ⟨⟨i9, b9, rfl, hz⟩, b2⟩
 obtain rfl : b9 = 0 := hz.2 HR.out
 have HX2 := Lib.hid (HX.out.below b2)
 have HB2 := Lib.hid (bstep HB.out b2)
 clear hz b2 HX HB HRO
 have b0 := HX2.out.c0
 have b1 := HX2.out.c1
 go_upto_region 4 with fail
 go_wp2_with fail
 refine (r7right_ok w2 s t (rgt_bs HBO.out)).mono ?_
 rintro r w3 ⟨rfl, b3⟩
 have HX3 := Lib.hid (HX2.out.below b3)
 have HB3 := Lib.hid (bstep HB2.out b3)
 clear b3 b0 b1 HX2 HB2
 go_upto_region 6 with fail
 have HLT := Lib.hid HX3.out.lt
 go_wp2
 go_loopg [8, 9] n (fun k o i wr => ∃ j : Nat, j + k = n ∧ i = .int .i64 j ∧ OV encB 1 5 w3.heap.size wr o (recsE s t (l.take j)) ∧ BsR wr X (bAt s t l j).1 (bAt s t l j).2 ∧ Mod (fun q => q = X ∨ w3.heap.size ≤ q) w3 wr)
 case atStart => exact ⟨0, by omega, rfl, by simpa [recsE] using OV.nil _ _, HX3.out, Mod.refl _ _⟩
 case round =>
  obtain ⟨j, hj, rfl, ho, hx, hm⟩ := hrel
  have HJ := Lib.hid hj
  have HOV := Lib.hid ho
  have HXR := Lib.hid hx
  have HBR := Lib.hid (HB3.out.trans (hm.below (B := w.heap.size) (fun k hk t => by have := HXX.out; rcases t with t | t <;> have := HB3.out.size <;> omega) HB3.out.size))
  have HMR := Lib.hid hm
  have hl6 := HL.out
  clear hj ho hx hm
  by_cases hlt : j < n
  ·obtain ⟨b, off, c', hsl, hcc, hr⟩ := (HV.out.below HBR.out).row (by rw [HN.out]; omega)
   rw [HN.out] at hsl
   cases hsl
   obtain ⟨e, he⟩ : ∃ e, l[j]? = some e := ⟨_, List.getElem?_eq_getElem (by rw [HN.out]; exact hlt)⟩
   have HEE := Lib.hid he
   have hg := hr.ev he
   have HG := Lib.hid hg
   obtain ⟨g0, g1, g2, g3, g4, g5, g6, g7, g8, g9, g10⟩ := hg
   obtain ⟨q1, q2, q3⟩ := bAt_ok HR.out HO.out HBO.out H0.out he
   have HTK := Lib.hid (recs_take (s := s) (t := t) he)
   have HBN := Lib.hid (show bAt s t l (j + 1) = (e.seq, e.time) by simp only [bAt, he])
   obtain ⟨⟨S, U⟩, hSU⟩ : ∃ S, bAt s t l j = S := ⟨_, rfl⟩
   rw [hSU] at q1 q2 q3 HTK HXR
   dsimp only at q1 q2 q3 HTK HXR
   have HPU := Lib.hid (fun W => r7put_ok W S U e (HO.out e (List.mem_of_getElem? he)) (HR.out.at j e he).1 (rgt_bs q1) q2 q3)
   have HLN := Lib.hid (show (recsE s t (l.take j)).length ≤ 6100000 from Nat.le_trans (recs_len HR.out HO.out HBO.out H0.out j (by rw [HN.out]; omega)) (by omega))
   have HRL := Lib.hid (show (recE S U e).length ≤ 61 by
    have h4 := chk_lim (HO.out e (List.mem_of_getElem? he)) (HR.out.at j e he).1
    unfold rgtB at q1
    exact rec_len (by omega) (by omega))
   unfold evA at HPU
   have b0 := HXR.out.c0
   have b1 := HXR.out.c1
   have i0 : (0 : Int) ≤ (j : Int) := by omega
   have i1 : (j : Int) < (n : Int) := by omega
   clear hr he q1 q2 q3 hSU
   go_wp2_with fail
   refine wp_region_dagG (by kernel_rfl) 11 rfl (fun i => i == 5 || i == 6 || i == 7 || i == 8 || i == 9) (fun i => !(false)) ?hMw (fun x => ⟨#[Value.agg #[Value.int IntKind.i64 s, Value.int IntKind.i64 t], Value.slice (some { block := b, off := off }) n c, Value.pointer (some { block := X, off := 0 }), undef, u4, u5, Value.int IntKind.i64 i9, Value.int IntKind.i64 0, u8, Value.int IntKind.i64 ↑j, x 9, x 10, Value.tuple #[Value.int IntKind.i64 i9, Value.int IntKind.i64 0], Value.slice (some { block := b, off := off }) n c, Value.tuple #[Value.int IntKind.i64 i9, Value.int IntKind.i64 0], Value.int IntKind.i64 i9, Value.int IntKind.i64 0, Value.int IntKind.i64 0, Value.bool false, undef, Value.agg #[Value.int IntKind.i64 s, Value.int IntKind.i64 t], Value.bool true, Value.bool false, Value.int IntKind.i64 ↑j, Value.slice (some { block := b, off := off }) n c, Value.int IntKind.i64 ↑n, Value.bool true, u27, u28, x 6, x 0, x 1, x 2, x 3, x 4, x 5, x 7, x 8, u38, u39, u40, u41, u42, u43, u44, u45, u46, u47, u48, u49, u50, u51, u52, u53, u54, undef], []⟩) (fun iF vF => match iF with | 0 => vF = .agg #[.int .i64 S, .int .i64 U] | 1 => vF = Value.slice (some { block := b, off := off }) n c | 2 => vF = Value.int IntKind.i64 ↑j | 3 => vF = .pointer (some ⟨b, off + j * 11, none⟩) | 4 => vF = .agg #[.int .i64 e.seq, .int .i64 e.time, .int .u8 e.cpu, .int .u8 e.kind, .int .i64 e.task, .int .i64 e.grp, .int .i64 e.to, .int .i64 e.wt, .int .i64 e.ticks, .int .u64 e.mask, .int .i64 e.got] | 10 => vF = .int .i64 0 | _ => True)
    (fun d x W => Below wr.heap.size wr W ∧ (d 5 = true → WpT W (x 5) (recE S U e)) ∧ (d 6 = true → x 6 = x 5) ∧ (d 7 = true → ∃ z, x 5 = .tuple #[x 7, z]) ∧ (d 8 = true → x 8 = .int .i64 0) ∧ (d 9 = true → x 9 = x 7)) ?hB ?hwant ?hoff (by kernel_rfl) ?hpure ?hmem ?hend (fun i => (#[u30, u31, u32, u33, u34, u35, u29, u36, u37, u10, u11] : Array Value).getD i undef) rfl ?hstart
   case hstart =>
    try dsimp only
    exact ⟨below_drew (Below.refl _ _), fun h => (by cases h), fun h => (by cases h), fun h => (by cases h), fun h => (by cases h), fun h => (by cases h)⟩
   case hB =>
    intro d d' x i v W hi hm h
    have g5 : ¬ 5 = i := by rintro rfl; exact absurd (show true = false from hi) (by simp)
    have e5 : d' 5 = d 5 := hm 5 rfl
    have g6 : ¬ 6 = i := by rintro rfl; exact absurd (show true = false from hi) (by simp)
    have e6 : d' 6 = d 6 := hm 6 rfl
    have g7 : ¬ 7 = i := by rintro rfl; exact absurd (show true = false from hi) (by simp)
    have e7 : d' 7 = d 7 := hm 7 rfl
    have g8 : ¬ 8 = i := by rintro rfl; exact absurd (show true = false from hi) (by simp)
    have e8 : d' 8 = d 8 := hm 8 rfl
    have g9 : ¬ 9 = i := by rintro rfl; exact absurd (show true = false from hi) (by simp)
    have e9 : d' 9 = d 9 := hm 9 rfl
    try dsimp only at h ⊢
    first | rw [upd_ne g5, upd_ne g6, upd_ne g7, upd_ne g8, upd_ne g9, e5, e6, e7, e8, e9] | simp only [upd_ne g5, upd_ne g6, upd_ne g7, upd_ne g8, upd_ne g9, e5, e6, e7, e8, e9]
    exact h
   case hMw =>
    intro i hi
    simp only [Bool.or_eq_true, beq_iff_eq] at hi
    rcases hi with (((rfl | rfl) | rfl) | rfl) | rfl
    all_goals rfl
   case hwant =>
    intro iF o hi ho x hf
    rcases (show iF = 0 ∨ iF = 1 ∨ iF = 2 ∨ iF = 3 ∨ iF = 4 ∨ iF = 5 ∨ iF = 6 ∨ iF = 7 ∨ iF = 8 ∨ iF = 9 ∨ iF = 10 by omega) with rfl | rfl | rfl | rfl | rfl | rfl | rfl | rfl | rfl | rfl | rfl <;> obtain rfl := Option.some.inj ho
    all_goals rfl
   case hoff =>
    intro iF o hi hw ho x
    rcases (show iF = 0 ∨ iF = 1 ∨ iF = 2 ∨ iF = 3 ∨ iF = 4 ∨ iF = 5 ∨ iF = 6 ∨ iF = 7 ∨ iF = 8 ∨ iF = 9 ∨ iF = 10 by omega) with rfl | rfl | rfl | rfl | rfl | rfl | rfl | rfl | rfl | rfl | rfl
    all_goals first | exact absurd (show true = false from hw) (by simp) | skip
   case hpure =>
    intro iF o hi hnm hww ho d x W hB hd hdn hnd hcl Kq hK
    rcases (show iF = 0 ∨ iF = 1 ∨ iF = 2 ∨ iF = 3 ∨ iF = 4 ∨ iF = 5 ∨ iF = 6 ∨ iF = 7 ∨ iF = 8 ∨ iF = 9 ∨ iF = 10 by omega) with rfl | rfl | rfl | rfl | rfl | rfl | rfl | rfl | rfl | rfl | rfl <;> obtain rfl := Option.some.inj ho
    all_goals first | exact absurd (show true = false from hnm) (by simp) | skip
    ·have hb := hB.1
     have cz0 := (HXR.out.below hb).c0
     have cz1 := (HXR.out.below hb).c1
     clear ho hd hdn hnd hcl hB hnm hi
     simp only [upd, reduceIte, Nat.reduceEqDiff] at hK
     try dsimp only
     go_simp
     exact hK _ rfl
    ·clear ho hd hdn hnd hcl hB hnm hi
     simp only [upd, reduceIte, Nat.reduceEqDiff] at hK
     try dsimp only
     go_simp
     exact hK _ rfl
    ·clear ho hd hdn hnd hcl hB hnm hi
     simp only [upd, reduceIte, Nat.reduceEqDiff] at hK
     try dsimp only
     go_simp
     exact hK _ rfl
    ·have e1 : x 1 = Value.slice (some { block := b, off := off }) n c := hd 1 (by kernel_rfl) (by kernel_rfl)
     have e2 : x 2 = Value.int IntKind.i64 ↑j := hd 2 (by kernel_rfl) (by kernel_rfl)
     clear ho hd hdn hnd hcl hB hnm hi
     simp only [upd, reduceIte, Nat.reduceEqDiff, e1, e2] at hK
     try dsimp only
     go_simp
     exact hK _ rfl
    ·have e3 : x 3 = .pointer (some ⟨b, off + j * 11, none⟩) := hd 3 (by kernel_rfl) (by kernel_rfl)
     have hb := hB.1
     obtain ⟨c0, c1, c2, c3, c4, c5, c6, c7, c8, c9, c10⟩ := HG.out
     have q0 := below_cell hb c0
     have q1 := below_cell hb c1
     have q2 := below_cell hb c2
     have q3 := below_cell hb c3
     have q4 := below_cell hb c4
     have q5 := below_cell hb c5
     have q6 := below_cell hb c6
     have q7 := below_cell hb c7
     have q8 := below_cell hb c8
     have q9 := below_cell hb c9
     have q10 := below_cell hb c10
     clear c0 c1 c2 c3 c4 c5 c6 c7 c8 c9 c10
     clear ho hd hdn hnd hcl hB hnm hi
     simp only [upd, reduceIte, Nat.reduceEqDiff, e3] at hK
     try dsimp only
     go_simp
     exact hK _ rfl
    ·have e8 := hB.2.2.2.2.1 (hdn 8 (by kernel_rfl))
     clear ho hd hdn hnd hcl hB hnm hi
     simp only [upd, reduceIte, Nat.reduceEqDiff, e8] at hK
     try dsimp only
     go_simp
     exact hK _ rfl
   case hmem =>
    intro iF o hi hmm ho d d' x W hB hd hdn hnd hdi hdi' hdm hcl Kq hK
    rcases (show iF = 0 ∨ iF = 1 ∨ iF = 2 ∨ iF = 3 ∨ iF = 4 ∨ iF = 5 ∨ iF = 6 ∨ iF = 7 ∨ iF = 8 ∨ iF = 9 ∨ iF = 10 by omega) with rfl | rfl | rfl | rfl | rfl | rfl | rfl | rfl | rfl | rfl | rfl <;> obtain rfl := Option.some.inj ho
    all_goals first | exact absurd (show false = true from hmm) (by simp) | skip
    ·have e0 : x 0 = .agg #[.int .i64 S, .int .i64 U] := hd 0 (by kernel_rfl) (by kernel_rfl)
     have e4 : x 4 = .agg #[.int .i64 e.seq, .int .i64 e.time, .int .u8 e.cpu, .int .u8 e.kind, .int .i64 e.task, .int .i64 e.grp, .int .i64 e.to, .int .i64 e.wt, .int .i64 e.ticks, .int .u64 e.mask, .int .i64 e.got] := hd 4 (by kernel_rfl) (by kernel_rfl)
     have dm6 : d' 6 = d 6 := hdm 6 (by omega)
     have dm7 : d' 7 = d 7 := hdm 7 (by omega)
     have dm8 : d' 8 = d 8 := hdm 8 (by omega)
     have dm9 : d' 9 = d 9 := hdm 9 (by omega)
     have dz6 : d 6 = false := hnd 6 (by kernel_rfl)
     have dz7 : d 7 = false := notyet (i := 7) hcl (hnd 6 (by kernel_rfl)) (by kernel_rfl)
     obtain ⟨hb, h5, h6, h7, h8, h9⟩ := hB
     clear ho hd hdn hnd hcl hmm
     simp only [upd, reduceIte, Nat.reduceEqDiff, e0, e4] at hK
     try dsimp only
     go_simp
     go_at_call 161
     refine (HPU.out W).mono ?_
     rintro r W2 ⟨vp, rfl, op, bb⟩
     go_simp
     refine hK _ _ ?_
     try dsimp only
     rw [dm6, dm7, dm8, dm9, hdi']
     exact ⟨(bstep hb bb), fun _ => ⟨vp, rfl, op.ev encB_len⟩, fun k => absurd k (by rw [dz6]; simp), fun k => absurd k (by rw [dz7]; simp), h8, h9⟩
    ·have dm5 : d' 5 = d 5 := hdm 5 (by omega)
     have dm7 : d' 7 = d 7 := hdm 7 (by omega)
     have dm8 : d' 8 = d 8 := hdm 8 (by omega)
     have dm9 : d' 9 = d 9 := hdm 9 (by omega)
     have dn5 : d 5 = true := hdn 5 (by kernel_rfl)
     obtain ⟨hb, h5, h6, h7, h8, h9⟩ := hB
     clear ho hd hdn hnd hcl hmm
     simp only [upd, reduceIte, Nat.reduceEqDiff] at hK
     try dsimp only
     go_simp
     refine hK _ _ ?_
     try dsimp only
     rw [dm5, dm7, dm8, dm9, hdi']
     exact ⟨hb, h5, fun _ => rfl, h7, h8, h9⟩
    ·have dm5 : d' 5 = d 5 := hdm 5 (by omega)
     have dm6 : d' 6 = d 6 := hdm 6 (by omega)
     have dm8 : d' 8 = d 8 := hdm 8 (by omega)
     have dm9 : d' 9 = d 9 := hdm 9 (by omega)
     have dn6 : d 6 = true := hdn 6 (by kernel_rfl)
     have dz9 : d 9 = false := hnd 9 (by kernel_rfl)
     have dn5 : d 5 = true := hcl 6 dn6 5 (by kernel_rfl)
     obtain ⟨hb, h5, h6, h7, h8, h9⟩ := hB
     obtain ⟨vp, e5, q5⟩ := h5 dn5
     have e6 := (h6 dn6).trans e5
     have E5 := Lib.hid e5
     clear e5 h6
     clear ho hd hdn hnd hcl hmm
     simp only [upd, reduceIte, Nat.reduceEqDiff, e6] at hK
     try dsimp only
     go_simp
     refine hK _ _ ?_
     try dsimp only
     rw [dm5, dm6, dm8, dm9, hdi']
     exact ⟨hb, h5, fun _ => E5.out.symm, fun _ => ⟨_, E5.out⟩, h8, fun k => absurd k (by rw [dz9]; simp)⟩
    ·have dm5 : d' 5 = d 5 := hdm 5 (by omega)
     have dm6 : d' 6 = d 6 := hdm 6 (by omega)
     have dm7 : d' 7 = d 7 := hdm 7 (by omega)
     have dm9 : d' 9 = d 9 := hdm 9 (by omega)
     have dn6 : d 6 = true := hdn 6 (by kernel_rfl)
     have dn5 : d 5 = true := hcl 6 dn6 5 (by kernel_rfl)
     obtain ⟨hb, h5, h6, h7, h8, h9⟩ := hB
     obtain ⟨vp, e5, q5⟩ := h5 dn5
     have e6 := (h6 dn6).trans e5
     have E5 := Lib.hid e5
     clear e5 h6
     clear ho hd hdn hnd hcl hmm
     simp only [upd, reduceIte, Nat.reduceEqDiff, e6] at hK
     try dsimp only
     go_simp
     refine hK _ _ ?_
     try dsimp only
     rw [dm5, dm6, dm7, dm9, hdi']
     exact ⟨hb, h5, fun _ => E5.out.symm, h7, fun _ => rfl, h9⟩
    ·have dm5 : d' 5 = d 5 := hdm 5 (by omega)
     have dm6 : d' 6 = d 6 := hdm 6 (by omega)
     have dm7 : d' 7 = d 7 := hdm 7 (by omega)
     have dm8 : d' 8 = d 8 := hdm 8 (by omega)
     have dn7 : d 7 = true := hdn 7 (by kernel_rfl)
     obtain ⟨hb, h5, h6, h7, h8, h9⟩ := hB
     clear ho hd hdn hnd hcl hmm
     simp only [upd, reduceIte, Nat.reduceEqDiff] at hK
     try dsimp only
     go_simp
     refine hK _ _ ?_
     try dsimp only
     rw [dm5, dm6, dm7, dm8, hdi']
     exact ⟨hb, h5, h6, h7, h8, fun _ => rfl⟩
   case hend =>
    intro d x W hall hB hd
    have d5 := hall 5 (by omega)
    have d7 := hall 7 (by omega)
    have d9 := hall 9 (by omega)
    obtain ⟨hb, h5, h6, h7, h8, h9⟩ := hB
    obtain ⟨vp, e5, ev⟩ := h5 d5
    obtain ⟨z, e7⟩ := h7 d7
    have e9 := h9 d9
    rw [e5] at e7
    simp only [Value.tuple.injEq, Array.mk.injEq, List.cons.injEq, and_true] at e7
    rw [← e7.1] at e9
    have ek := hd 10 (by omega) rfl
    clear e7 e5 hd hall h5 h6 h7 h8 h9 d5 d7 d9
    try dsimp only
    rw [ek, e9]
    clear ek e9
    generalize x 0 = y0
    generalize x 1 = y1
    generalize x 2 = y2
    generalize x 3 = y3
    generalize x 4 = y4
    generalize x 5 = y5
    generalize x 6 = y6
    generalize x 7 = y7
    generalize x 8 = y8
    have HOP := Lib.hid ev
    have HBP := Lib.hid (bstep HBR.out hb)
    have HMP := Lib.hid (HMR.out.trans (Mod.of_below hb))
    have HO2 := Lib.hid (HOV.out.below hb)
    have HX2 := Lib.hid (HXR.out.below hb)
    have HG2 := Lib.hid (And.intro (below_cell hb HG.out.1) (below_cell hb HG.out.2.1))
    clear ev hb g0 g1 g2 g3 g4 g5 g6 g7 g8 g9 g10 b0 b1 HBR HMR HOV HXR HG HPU
    go_wp2_with (at_builtin; refine wpList_app elemB encB_len encB_one rfl _ _ rfl _ _ rfl rfl HO2.out HOP.out ?q1 ?q2 ?_)
    case q1 => have := HLN.out; have := HRL.out; omega
    case q2 => exact HMP.out.size
    intro v8 wq o8 g8
    rw [← HTK.out] at o8
    have HO3 := Lib.hid o8
    have HXN : ∀ g, u8.ownBlock = some g → g ≠ X := fun g q e => by have h1 := (HO2.out.block g q).1; have := HLT.out; omega
    have HX3' := Lib.hid (HX2.out.grown g8 (fun h => HXN X h rfl))
    have HM3 := Lib.hid (HMP.out.trans (Mod.grown (T := fun q => q = X ∨ w3.heap.size ≤ q) g8 (fun g q => .inr (HO2.out.block g q).1)))
    have HBQ := Lib.hid (HB3.out.trans (HM3.out.below (B := w.heap.size) (fun k hk t => by have := HXX.out; rcases t with t | t <;> have := HB3.out.size <;> omega) HB3.out.size))
    have hg := ((HV.out.below HBQ.out).row3 (by rw [HN.out]; omega)).ev HEE.out
    have g0 := hg.1
    have g1 := hg.2.1
    have HXV := Lib.hid (show OV encB 1 5 w3.heap.size wq v8 (recsE s t (l.take (j + 1))) from HO3.out)
    clear o8 g8 HXN HO2 HX2 HG2 HMP HBP HOP hg HO3
    go_upto_region 14 with fail
    go_wp2_with fail
    have f0 := HX3'.out.frz 0
    have f1 := HX3'.out.frz 1
    have z0 := HX3'.out.c0
    have z1 := HX3'.out.c1
    go_still_tail 11, (by kernel_rfl)
    change wpList _ _ _ _ _ wq.drew
    have f0 : wq.drew.frozen? ⟨X, 0, none⟩ = false := f0
    have f1 : wq.drew.frozen? ⟨X, 1, none⟩ = false := f1
    have z0 : wq.drew.cell? ⟨X, 0, none⟩ = some (.int .i64 S) := z0
    have z1 : wq.drew.cell? ⟨X, 1, none⟩ = some (.int .i64 U) := z1
    have HXD := Lib.hid (show BsR wq.drew X S U from ⟨HX3'.out.cell⟩)
    have HMD := Lib.hid (HM3.out.trans Mod.drew)
    have HOD := Lib.hid (show OV encB 1 5 w3.heap.size wq.drew v8 (recsE s t (l.take (j + 1))) from HXV.out)
    clear HX3' HM3 HBQ HXV g0 g1
    generalize wq.drew = wd at f0 f1 z0 z1 HXD HMD HOD ⊢
    have HX4 := Lib.hid ((HXD.out.set0 e.seq).set1 e.time)
    have HMS := Lib.hid ((Mod.setCell (a := wd) (p := ⟨X, 0, none⟩) (T := fun k => k = X) (.int .i64 e.seq) rfl).trans (Mod.setCell (p := ⟨X, 1, none⟩) (T := fun k => k = X) (.int .i64 e.time) rfl))
    go_wp2
    go_roundg (gk - 1)
    case measure => have := HJ.out; omega
    case rel => exact ⟨j + 1, by have := HJ.out; omega, by go_num, HOD.out.mod HMS.out (fun g q t => by have h1 := (HOD.out.block g q).1; have := HLT.out; omega), by rw [HBN.out]; exact HX4.out, HMD.out.trans (HMS.out.weaken (fun k _ t => .inl t))⟩
  ·obtain rfl : n = j := by have := HJ.out; omega
   have hov := HOV.out
   rw [List.take_of_length_le (Nat.le_of_eq HN.out)] at hov
   have HOE := Lib.hid (hov.base_le HB3.out.size)
   clear hov
   go_wp2
   go_ret2
   exact ⟨_, rfl, HOE.out, HBR.out⟩
end Go.Proofs.YtalophngappkhaaGreatDoor
namespace Go.Proofs.YtalophngappkhaaGreatDoor
open Go Go.RowKit Go.Shelf
attribute [local go_sem] Oper.semAt_some

structure RkBox (w : World) (X : Nat) (b : Bck) (ve : Value) : Prop where
 cell : w.heap[X]? = some (.cells #[.int .u8 b.kind, .int .u8 b.cpu, .int .i64 b.lost, .int .i64 b.next, ve] 87 (0, 0))
namespace RkBox
variable {w w' : World} {X : Nat} {b : Bck} {ve : Value}
theorem new (w : World) (b : Bck) (ve : Value) : RkBox (w.alloc (.cells #[.int .u8 b.kind, .int .u8 b.cpu, .int .i64 b.lost, .int .i64 b.next, ve] 87)) w.heap.size b ve := ⟨heap_alloc_new w _⟩
theorem lt (h : RkBox w X b ve) : X < w.heap.size := (Array.getElem?_eq_some_iff.1 h.cell).1
theorem c0 (h : RkBox w X b ve) : w.cell? ⟨X, 0, none⟩ = some (.int .u8 b.kind) := (cell_of_row w X 0 _ _ (0, 0) h.cell).trans rfl
theorem c1 (h : RkBox w X b ve) : w.cell? ⟨X, 1, none⟩ = some (.int .u8 b.cpu) := (cell_of_row w X 1 _ _ (0, 0) h.cell).trans rfl
theorem c2 (h : RkBox w X b ve) : w.cell? ⟨X, 2, none⟩ = some (.int .i64 b.lost) := (cell_of_row w X 2 _ _ (0, 0) h.cell).trans rfl
theorem c3 (h : RkBox w X b ve) : w.cell? ⟨X, 3, none⟩ = some (.int .i64 b.next) := (cell_of_row w X 3 _ _ (0, 0) h.cell).trans rfl
theorem c4 (h : RkBox w X b ve) : w.cell? ⟨X, 4, none⟩ = some ve := (cell_of_row w X 4 _ _ (0, 0) h.cell).trans rfl
theorem frz (h : RkBox w X b ve) (i : Nat) : w.frozen? ⟨X, i, none⟩ = false := frozen_of_row w X i _ _ h.cell
theorem below (h : RkBox w X b ve) (hb : Below w.heap.size w w') : RkBox w' X b ve := ⟨(hb.block X h.lt).trans h.cell⟩
end RkBox
theorem row_cpu {l : List Ev} {c : Int} (h : RowOk l) (h0 : ∀ e m, l = e :: m → e.cpu = c) : ∀ e ∈ l, e.cpu = c := by
 have key : ∀ (i : Nat) (e : Ev), l[i]? = some e → e.cpu = c := by
  intro i
  induction i with
  | zero =>
   intro e he
   cases l with
   | nil => cases he
   | cons x m => cases he; exact h0 _ _ rfl
  | succ i ih =>
   intro e he
   obtain ⟨p, hp⟩ : ∃ p, l[i]? = some p := ⟨_, List.getElem?_eq_getElem (by have := (List.getElem?_eq_some_iff.1 he).1; omega)⟩
   have h1 := (h.at (i + 1) e he).2 i p rfl hp
   rw [h1.1]; exact ih p hp
 intro e he
 obtain ⟨i, hi⟩ := List.getElem?_of_mem he
 exact key i e hi
theorem fits_mk1 {b : Bck} (h1 : b.kind = 1) (h2 : b.cpu < 64) (h3 : 0 ≤ b.lost) (h4 : b.lost ≤ 281474976710656) (h5 : b.next = 0) (h6 : b.evs = [] → 0 < b.lost) (h7 : RowOk b.evs) (h8 : ∀ e ∈ b.evs, e.cpu = b.cpu) : FitsB b :=
 .inl ⟨h1, h7, h2, h3, h4, h5, h6, fun e l h => h8 e (by rw [h]; simp)⟩
set_option maxRecDepth 100000 in
set_option maxHeartbeats 6400000 in
theorem r10fits_ok (w : World) (b : Bck) (ve : Value) (hv : EV encE 11 w ve b.evs) (ho : BlkOk b) (hl : b.evs.length ≤ 100000) :
  Calls Tryz.prog 98 #[.agg #[.int .u8 b.kind, .int .u8 b.cpu, .int .i64 b.lost, .int .i64 b.next, ve]] w fun r w' => ∃ bb : Bool, r = .returned (.bool bb) ∧ (bb = true ↔ FitsB b) ∧ Below w.heap.size w w' := by
 have HX := Lib.hid (RkBox.new w b ve)
 have HB := Lib.hid (bel_alloc w (.cells #[.int .u8 b.kind, .int .u8 b.cpu, .int .i64 b.lost, .int .i64 b.next, ve] 87))
 obtain ⟨A, c, hA⟩ := hv.shape
 subst hA
 obtain ⟨n, hn⟩ : ∃ n, b.evs.length = n := ⟨_, rfl⟩
 have HN := Lib.hid hn
 have HO := Lib.hid ho
 have HRO := Lib.hid (fun W (q : Below w.heap.size w W) => r7row_ok W _ b.evs (hv.below q) ho.evs (by omega))
 rw [hn] at hv hl HX HB HRO ⊢
 have HV := Lib.hid hv
 have HL := Lib.hid hl
 clear hv hn ho hl
 go_enter Tryz.func98, Tryz.ntmps98
 go_upto_region 1 with fail
 generalize w.alloc (.cells #[.int .u8 b.kind, .int .u8 b.cpu, .int .i64 b.lost, .int .i64 b.next, .slice A n c] 87) = w1 at HX HB ⊢
 obtain ⟨X, hX⟩ : ∃ X, w.heap.size = X := ⟨_, rfl⟩
 rw [hX] at HX ⊢
 have HXX := Lib.hid hX
 clear hX
 have c0 := HX.out.c0
 have c1 := HX.out.c1
 have c2 := HX.out.c2
 have c3 := HX.out.c3
 have c4 := HX.out.c4
 obtain ⟨K, hK⟩ : ∃ K, b.kind = K := ⟨_, rfl⟩
 obtain ⟨C, hC⟩ : ∃ C, b.cpu = C := ⟨_, rfl⟩
 obtain ⟨L, hL⟩ : ∃ L, b.lost = L := ⟨_, rfl⟩
 obtain ⟨N, hN⟩ : ∃ N, b.next = N := ⟨_, rfl⟩
 have HQ := Lib.hid (show b.kind = K ∧ b.cpu = C ∧ b.lost = L ∧ b.next = N from ⟨hK, hC, hL, hN⟩)
 rw [hK] at c0 ⊢
 rw [hC] at c1 ⊢
 rw [hL] at c2 ⊢
 rw [hN] at c3 ⊢
 clear hK hC hL hN
 by_cases hk2 : K = 2
 ·subst hk2
  have HF := Lib.hid (show FitsB b ↔ (1 ≤ N ∧ N ≤ 281474976710657 ∧ C = 0 ∧ L = 0 ∧ n = 0) from by
   obtain ⟨e1, e2, e3, e4⟩ := HQ.out
   constructor
   ·rintro (h | h)
    ·have := h.1; omega
    ·obtain ⟨_, h1, h2, h3, h4, h5⟩ := h
     exact ⟨by omega, by omega, by omega, by omega, by rw [← HN.out, h5]; rfl⟩
   ·rintro ⟨h1, h2, h3, h4, h5⟩
    exact .inr ⟨e1, by omega, by omega, by omega, by omega, List.eq_nil_of_length_eq_zero (by rw [HN.out]; exact h5)⟩)
  by_cases h1 : 1 ≤ N ∧ N ≤ 281474976710657 ∧ C = 0 ∧ L = 0 ∧ n = 0
  ·have HFB := Lib.hid (HF.out.2 h1)
   obtain ⟨h1, h2, h3, h4, h5⟩ := h1
   have d1 : decide (1 ≤ N) = true := by simpa using h1
   have d2 : decide (N ≤ 281474976710657) = true := by simpa using h2
   have d3 : (C == 0) = true := by simpa using h3
   have d4 : (L == 0) = true := by simpa using h4
   have d5 : ((n : Int) == 0) = true := by simp [h5]
   have d6 : (n == 0) = true := by simp [h5]
   clear h1 h2 h3 h4 h5
   go_wp2
   go_ret
   exact ⟨true, rfl, ⟨fun _ => HFB.out, fun _ => rfl⟩, HB.out⟩
  ·have HNF := Lib.hid (show ¬ FitsB b from fun h => h1 (HF.out.1 h))
   by_cases q1 : 1 ≤ N
   ·have d1 : decide (1 ≤ N) = true := by simpa using q1
    by_cases q2 : N ≤ 281474976710657
    ·have d2 : decide (N ≤ 281474976710657) = true := by simpa using q2
     by_cases q3 : C = 0
     ·have d3 : (C == 0) = true := by simpa using q3
      by_cases q4 : L = 0
      ·have d4 : (L == 0) = true := by simpa using q4
       have q5 : ¬ n = 0 := fun h => h1 ⟨q1, q2, q3, q4, h⟩
       have d5 : ((n : Int) == 0) = false := by simp; omega
       clear q1 q2 q3 q4 q5 h1 HF
       go_wp2
       go_ret
       exact ⟨false, rfl, ⟨fun h => (by cases h), fun h => absurd h HNF.out⟩, HB.out⟩
      ·have d4 : (L == 0) = false := by simpa using q4
       clear q1 q2 q3 q4 h1 HF
       go_wp2
       go_ret
       exact ⟨false, rfl, ⟨fun h => (by cases h), fun h => absurd h HNF.out⟩, HB.out⟩
     ·have d3 : (C == 0) = false := by simpa using q3
      clear q1 q2 q3 h1 HF
      go_wp2
      go_ret
      exact ⟨false, rfl, ⟨fun h => (by cases h), fun h => absurd h HNF.out⟩, HB.out⟩
    ·have d2 : decide (N ≤ 281474976710657) = false := by simpa using q2
     clear q1 q2 h1 HF
     go_wp2
     go_ret
     exact ⟨false, rfl, ⟨fun h => (by cases h), fun h => absurd h HNF.out⟩, HB.out⟩
   ·have d1 : decide (1 ≤ N) = false := by simpa using q1
    clear q1 h1 HF
    go_wp2
    go_ret
    exact ⟨false, rfl, ⟨fun h => (by cases h), fun h => absurd h HNF.out⟩, HB.out⟩
 ·have dk2 : (K == 2) = false := by simpa using hk2
  have HF := Lib.hid (show FitsB b → (K = 1 ∧ C < 64 ∧ 0 ≤ L ∧ L ≤ 281474976710656 ∧ N = 0 ∧ (n = 0 → 0 < L) ∧ RowOk b.evs ∧ ∀ e ∈ b.evs, e.cpu = C) from by
   obtain ⟨e1, e2, e3, e4⟩ := HQ.out
   rintro (⟨h1, h2, h3, h4, h5, h6, h7, h8⟩ | h)
   ·exact ⟨by omega, by omega, by omega, by omega, by omega, fun h => by rw [← e3]; exact h7 (List.eq_nil_of_length_eq_zero (by rw [HN.out]; exact h)), h2, fun e he => by rw [← e2]; exact row_cpu h2 h8 e he⟩
   ·have := h.1; omega)
  have HFB := Lib.hid (fun (h : K = 1 ∧ C < 64 ∧ 0 ≤ L ∧ L ≤ 281474976710656 ∧ N = 0 ∧ (n = 0 → 0 < L)) (h7 : RowOk b.evs) (h8 : ∀ e ∈ b.evs, e.cpu = C) => show FitsB b from by
   obtain ⟨e1, e2, e3, e4⟩ := HQ.out
   obtain ⟨h1, h2, h3, h4, h5, h6⟩ := h
   exact fits_mk1 (by omega) (by omega) (by omega) (by omega) (by omega) (fun h => by rw [e3]; exact h6 (by rw [← HN.out, h]; rfl)) h7 (fun e he => by rw [e2]; exact h8 e he))
  clear hk2
  by_cases q1 : K = 1
  ·have d1 : (K != 1) = false := by simp [q1]
   by_cases q2 : 63 < C
   ·have d2 : decide (63 < C) = true := by simpa using q2
    have HNF := Lib.hid (show ¬ FitsB b from fun h => by have := (HF.out h).2.1; omega)
    clear q1 q2
    go_wp2
    go_ret
    exact ⟨false, rfl, ⟨fun h => (by cases h), fun h => absurd h HNF.out⟩, HB.out⟩
   ·have d2 : decide (63 < C) = false := by simpa using q2
    by_cases q3 : L < 0
    ·have d3 : decide (L < 0) = true := by simpa using q3
     have HNF := Lib.hid (show ¬ FitsB b from fun h => by have := (HF.out h).2.2.1; omega)
     clear q1 q2 q3
     go_wp2
     go_ret
     exact ⟨false, rfl, ⟨fun h => (by cases h), fun h => absurd h HNF.out⟩, HB.out⟩
    ·have d3 : decide (L < 0) = false := by simpa using q3
     by_cases q4 : 281474976710656 < L
     ·have d4 : decide (281474976710656 < L) = true := by simpa using q4
      have HNF := Lib.hid (show ¬ FitsB b from fun h => by have := (HF.out h).2.2.2.1; omega)
      clear q1 q2 q3 q4
      go_wp2
      go_ret
      exact ⟨false, rfl, ⟨fun h => (by cases h), fun h => absurd h HNF.out⟩, HB.out⟩
     ·have d4 : decide (281474976710656 < L) = false := by simpa using q4
      by_cases q5 : N = 0
      ·have d5 : (N != 0) = false := by simp [q5]
       by_cases q6 : L = 0 ∧ n = 0
       ·have d6 : (L == 0) = true := by simp [q6.1]
        have d7 : ((n : Int) == 0) = true := by simp [q6.2]
        have HNF := Lib.hid (show ¬ FitsB b from fun h => by have := (HF.out h).2.2.2.2.2.1 q6.2; omega)
        clear q1 q2 q3 q4 q5 q6
        go_wp2
        go_ret
        exact ⟨false, rfl, ⟨fun h => (by cases h), fun h => absurd h HNF.out⟩, HB.out⟩
       ·have HGD := Lib.hid (show K = 1 ∧ C < 64 ∧ 0 ≤ L ∧ L ≤ 281474976710656 ∧ N = 0 ∧ (n = 0 → 0 < L) from ⟨q1, by omega, by omega, by omega, q5, fun h => by omega⟩)
        have HGO := Lib.hid (show (L == 0) = false ∨ ((L == 0) = true ∧ ((n : Int) == 0) = false) from by
         by_cases h : L = 0
         ·right; exact ⟨by simp [h], by simp; omega⟩
         ·left; simp [h])
        clear q1 q2 q3 q4 q5 q6
        go_upto_region 3 with fail
        go_cut [66] (fun a wz => ∃ wq, wq = wz ∧ a = .bool false ∧ wq = w1)
        case first =>
         rcases HGO.out with h | ⟨h, h2⟩
         ·clear HGO
          go_wp2
          go_meet
          exact ⟨_, rfl, rfl, rfl⟩
         ·clear HGO
          go_wp2
          go_meet
          exact ⟨_, rfl, rfl, rfl⟩
        case rest =>
         obtain ⟨wq, rfl, rfl, hwq⟩ := hcut
         subst hwq
         clear c0 c1 c2 c3 c4 d1 d2 d3 d4 d5 dk2 HGO
         have c4 := HX.out.c4
         go_wp2
         go_loopg [3] n (fun k i wr => ∃ j : Nat, j + k = n ∧ i = .int .i64 j ∧ (∀ e ∈ b.evs.take j, e.cpu = C) ∧ Below wq.heap.size wq wr)
         case atStart => exact ⟨0, by omega, rfl, fun e he => by simp at he, Below.refl _ _⟩
         case round =>
          obtain ⟨j, hj, rfl, hcp, bq⟩ := hrel
          have HJ := Lib.hid hj
          have HCP := Lib.hid hcp
          have HBQ := Lib.hid bq
          have HXR := Lib.hid (HX.out.below bq)
          have HBR := Lib.hid (bstep HB.out bq)
          have hl6 := HL.out
          clear hj hcp bq
          have c4 := HXR.out.c4
          have c1 := HXR.out.c1
          rw [HQ.out.2.1] at c1
          by_cases hlt : j < n
          ·obtain ⟨bb, off, c', hsl, hcc, hr⟩ := (HV.out.below HBR.out).row (by rw [HN.out]; omega)
           rw [HN.out] at hsl
           cases hsl
           obtain ⟨e, he⟩ : ∃ e, b.evs[j]? = some e := ⟨_, List.getElem?_eq_getElem (by rw [HN.out]; exact hlt)⟩
           have g2 := (hr.ev he).2.2.1
           have HEM := Lib.hid (List.mem_of_getElem? he)
           have HTK := Lib.hid (show b.evs.take (j + 1) = b.evs.take j ++ [e] from by rw [List.take_add_one, he]; rfl)
           have i0 : (0 : Int) ≤ (j : Int) := by omega
           have i1 : (j : Int) < (n : Int) := by omega
           clear hr he
           by_cases hce : e.cpu = C
           ·have d1 : (e.cpu != C) = false := by simp [hce]
            have HS2 := Lib.hid (show ∀ y ∈ b.evs.take (j + 1), y.cpu = C from fun y hy => by
             rw [HTK.out] at hy
             rcases List.mem_append.1 hy with hy | hy
             ·exact HCP.out y hy
             ·rw [List.mem_singleton.1 hy]; exact hce)
            clear hce
            go_wp2_with fail
            go_big_region
            go_wp2
            go_roundg (gk - 1)
            case measure => have := HJ.out; omega
            case rel => exact ⟨j + 1, by have := HJ.out; omega, by go_num, HS2.out, by first | exact below_drewN HBQ.out _ | exact below_drew HBQ.out⟩
           ·have d1 : (e.cpu != C) = true := by simp [hce]
            have HNF := Lib.hid (show ¬ FitsB b from fun h => hce ((HF.out h).2.2.2.2.2.2.2 e HEM.out))
            clear hce
            go_wp2_with fail
            go_big_region
            go_wp2
            go_ret
            exact ⟨false, rfl, ⟨fun h => (by cases h), fun h => absurd h HNF.out⟩, by first | exact below_drewN HBR.out _ | exact below_drew HBR.out⟩
          ·obtain rfl : n = j := by have := HJ.out; omega
           have HCA := Lib.hid HCP.out
           rw [List.take_of_length_le (Nat.le_of_eq HN.out)] at HCA
           have HRR := Lib.hid (HRO.out _ HBR.out)
           clear HCP
           go_wp2_with fail
           refine HRR.out.mono ?_
           rintro r w5 ⟨⟨i9, b9, rfl, hz⟩, b5⟩
           have HZ := Lib.hid hz
           have HB5 := Lib.hid (bstep HBR.out b5)
           clear hz b5 c1 c4 HRR
           by_cases h0 : b9 = 0
           ·have HFF := Lib.hid (HFB.out HGD.out (HZ.out.1 h0) HCA.out)
            have d0 : (b9 == 0) = true := by simp [h0]
            clear h0
            go_wp2
            go_ret
            exact ⟨true, rfl, ⟨fun _ => HFF.out, fun _ => rfl⟩, HB5.out⟩
           ·have HNF := Lib.hid (show ¬ FitsB b from fun h => h0 (HZ.out.2 (HF.out h).2.2.2.2.2.2.1))
            have d0 : (b9 == 0) = false := by simp [h0]
            clear h0
            go_wp2
            go_ret
            exact ⟨false, rfl, ⟨fun h => (by cases h), fun h => absurd h HNF.out⟩, HB5.out⟩
      ·have d5 : (N != 0) = true := by simp [q5]
       have HNF := Lib.hid (show ¬ FitsB b from fun h => by have := (HF.out h).2.2.2.2.1; omega)
       clear q1 q2 q3 q4 q5
       go_wp2
       go_ret
       exact ⟨false, rfl, ⟨fun h => (by cases h), fun h => absurd h HNF.out⟩, HB.out⟩
  ·have d1 : (K != 1) = true := by simp [q1]
   have HNF := Lib.hid (show ¬ FitsB b from fun h => q1 (HF.out h).1)
   clear q1
   go_wp2
   go_ret
   exact ⟨false, rfl, ⟨fun h => (by cases h), fun h => absurd h HNF.out⟩, HB.out⟩
end Go.Proofs.YtalophngappkhaaGreatDoor
