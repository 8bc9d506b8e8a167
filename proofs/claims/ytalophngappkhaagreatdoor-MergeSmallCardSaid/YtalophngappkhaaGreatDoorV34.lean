/- quantumref12.Row. -/
import Derived.Test.YtalophngappkhaaGreatDoorV33
import Derived.Test.YtalophngappkhaaGreatDoorV26
import Derived.Test.YtalophngappkhaaGreatDoorV20
import Derived.Test.YtalophngappkhaaGreatDoorV8
set_option linter.unusedVariables false
set_option linter.unusedSimpArgs false
set_option linter.unusedSectionVars false
namespace Go.Proofs.YtalophngappkhaaGreatDoor
open Go Go.RowKit Go.Shelf
attribute [local go_sem] Oper.semAt_some

theorem not_row_chk {l : List Ev} {j : Nat} {e : Ev} (he : l[j]? = some e) (hc : chkEv e ≠ 0) : ¬ RowM l := fun h => hc (h.chk e (List.mem_of_getElem? he))
theorem not_row_seq {l : List Ev} {p : Nat} {x e : Ev} (hx : l[p]? = some x) (he : l[p + 1]? = some e) (hs : e.seq ≤ x.seq) : ¬ RowM l := fun h => by
 have hl := (List.getElem?_eq_some_iff.1 he).1
 have := h.lt p (p + 1) hl (by omega)
 rw [List.getElem?_eq_getElem (by omega)] at hx
 rw [List.getElem?_eq_getElem hl] at he
 have h1 := Option.some.inj hx
 have h2 := Option.some.inj he
 rw [h1, h2] at this
 omega
set_option maxRecDepth 100000 in
set_option maxHeartbeats 6400000 in
theorem r12row_ok (w : World) (v : Value) (l : List Ev) (hv : EV encE 11 w v l) (ho : ∀ e ∈ l, EvOk e) (hl : l.length ≤ 1000000) :
  Calls Tryz.prog 80 #[v] w fun r w' => ∃ bb : Bool, r = .returned (.bool bb) ∧ (bb = true ↔ RowM l) ∧ Below w.heap.size w w' := by
 obtain ⟨A, c, hA⟩ := hv.shape
 subst hA
 obtain ⟨n, hn⟩ : ∃ n, l.length = n := ⟨_, rfl⟩
 have HN := Lib.hid hn
 have HO := Lib.hid ho
 rw [hn] at hv hl ⊢
 have HV := Lib.hid hv
 have HL := Lib.hid hl
 clear hv hn ho hl
 go_enter Tryz.func80, Tryz.ntmps80
 go_wp2
 go_loopg [3] n (fun k i wr => ∃ j : Nat, j + k = n ∧ i = .int .i64 j ∧ PR l j ∧ Below w.heap.size w wr)
 case atStart => exact ⟨0, by omega, rfl, fun i e hi => absurd hi (Nat.not_lt_zero i), Below.refl _ _⟩
 case round =>
  obtain ⟨j, hj, rfl, hp, hb⟩ := hrel
  have HJ := Lib.hid hj
  have HP := Lib.hid hp
  have HB := Lib.hid hb
  clear hj hp hb
  by_cases hlt : j < n
  ·obtain ⟨b, off, c', hsl, hcc, hr⟩ := (HV.out.below HB.out).row (by rw [HN.out]; omega)
   rw [HN.out] at hsl
   cases hsl
   obtain ⟨e, he⟩ : ∃ e, l[j]? = some e := ⟨_, List.getElem?_eq_getElem (by rw [HN.out]; exact hlt)⟩
   have HEC := Lib.hid (hr.ev he)
   have HE := Lib.hid he
   have hl6 := HL.out
   have HCK := Lib.hid (fun W => r6check_ok W e (HO.out e (List.mem_of_getElem? he)))
   obtain ⟨K, hK⟩ : ∃ K, chkEv e = K := ⟨_, rfl⟩
   rw [hK] at HCK
   have HKE := Lib.hid hK
   unfold evA at HCK
   have HR := Lib.hid hr
   clear hr he hK
   have i0 : (0 : Int) ≤ (j : Int) := by omega
   have i1 : (j : Int) < (n : Int) := by omega
   have d0 : decide ((j : Int) < (n : Int)) = true := by simp; omega
   by_cases hk : K = 0
   ·have dk : (K != 0) = false := by simp [hk]
    rcases Nat.eq_zero_or_pos j with hz | hz
    ·have HS2 := Lib.hid (HP.out.step HE.out (by rw [HKE.out]; exact hk) (fun p h => absurd h (by omega)))
     have dz : decide (0 < j) = false := by simp; omega
     clear hz
     clear hk
     go_wp2_with fail
     refine wp_region_dagG (by kernel_rfl) 24 rfl (fun i => i == 4) (fun i => !(i == 10 || i == 11 || i == 12 || i == 13 || i == 14 || i == 15 || i == 16 || i == 17 || i == 18 || i == 19 || i == 20 || i == 21)) ?hMwB (fun x => ⟨#[.slice (some ⟨b, off, none⟩) n c, undef, u2, .int .i64 (j : Int), .int .i64 (j : Int), .slice (some ⟨b, off, none⟩) n c, .int .i64 n, .bool true, u8, u9, x 0, x 1, x 2, x 3, x 4, x 5, x 6, x 7, x 8, x 9, x 10, x 11, x 12, x 13, x 14, x 15, x 16, x 17, x 18, x 19, x 20, x 21, x 22, x 23], []⟩) (fun iF vF => match iF with | 0 => vF = .slice (some ⟨b, off, none⟩) n c | 1 => vF = .int .i64 (j : Int) | 2 => vF = .pointer (some ⟨b, off + j * 11, none⟩) | 3 => vF = .agg #[.int .i64 e.seq, .int .i64 e.time, .int .u8 e.cpu, .int .u8 e.kind, .int .i64 e.task, .int .i64 e.grp, .int .i64 e.to, .int .i64 e.wt, .int .i64 e.ticks, .int .u64 e.mask, .int .i64 e.got] | 5 => vF = .bool false | 6 => vF = .bool false | 7 => vF = .int .i64 (j : Int) | 8 => vF = .bool false | 9 => vF = .bool false | 10 => vF = undef | 11 => vF = undef | 12 => vF = undef | 13 => vF = undef | 14 => vF = undef | 15 => vF = undef | 16 => vF = undef | 17 => vF = undef | 18 => vF = undef | 19 => vF = undef | 20 => vF = undef | 21 => vF = undef | 22 => vF = .bool false | 23 => vF = .bool false | _ => True)
      (fun d x W => Below wr.heap.size wr W ∧ (d 4 = true → (x 4) = .int .i64 K)) ?hBB ?hwantB ?hoffB (by kernel_rfl) ?hpureB ?hmemB ?hendB (fun i => (#[u10, u11, u12, u13, u14, u15, u16, u17, u18, u19, u20, u21, u22, u23, u24, u25, u26, u27, u28, u29, u30, u31, u32, u33] : Array Value).getD i undef) rfl ?hstartB
     case hstartB =>
      try dsimp only
      exact ⟨below_drew (Below.refl _ _), fun h => (by cases h)⟩
     case hBB =>
      intro d d' x i v W hi hm h
      have g4 : ¬ 4 = i := by rintro rfl; exact absurd (show true = false from hi) (by simp)
      have e4 : d' 4 = d 4 := hm 4 rfl
      try dsimp only at h ⊢
      first | rw [upd_ne g4, e4] | simp only [upd_ne g4, e4]
      exact h
     case hMwB =>
      intro i hi
      simp only [Bool.or_eq_true, beq_iff_eq] at hi
      rcases hi with rfl
      all_goals rfl
     case hwantB =>
      intro iF o hi ho x hf
      rcases (show iF = 0 ∨ iF = 1 ∨ iF = 2 ∨ iF = 3 ∨ iF = 4 ∨ iF = 5 ∨ iF = 6 ∨ iF = 7 ∨ iF = 8 ∨ iF = 9 ∨ iF = 10 ∨ iF = 11 ∨ iF = 12 ∨ iF = 13 ∨ iF = 14 ∨ iF = 15 ∨ iF = 16 ∨ iF = 17 ∨ iF = 18 ∨ iF = 19 ∨ iF = 20 ∨ iF = 21 ∨ iF = 22 ∨ iF = 23 by omega) with rfl | rfl | rfl | rfl | rfl | rfl | rfl | rfl | rfl | rfl | rfl | rfl | rfl | rfl | rfl | rfl | rfl | rfl | rfl | rfl | rfl | rfl | rfl | rfl <;> obtain rfl := Option.some.inj ho
      ·rfl
      ·rfl
      ·rfl
      ·rfl
      ·rfl
      ·rfl
      ·rfl
      ·exact want_v (v := x 6) (hf 6 (by kernel_rfl) (by kernel_rfl)) rfl
      ·exact want_v (v := x 6) (hf 6 (by kernel_rfl) (by kernel_rfl)) rfl
      ·exact want_v (v := x 6) (hf 6 (by kernel_rfl) (by kernel_rfl)) rfl
      ·exact want_v (v := x 9) (hf 9 (by kernel_rfl) (by kernel_rfl)) rfl
      ·exact want_v (v := x 9) (hf 9 (by kernel_rfl) (by kernel_rfl)) rfl
      ·exact want_v (v := x 9) (hf 9 (by kernel_rfl) (by kernel_rfl)) rfl
      ·exact want_v (v := x 9) (hf 9 (by kernel_rfl) (by kernel_rfl)) rfl
      ·exact want_v (v := x 9) (hf 9 (by kernel_rfl) (by kernel_rfl)) rfl
      ·exact want_v (v := x 9) (hf 9 (by kernel_rfl) (by kernel_rfl)) rfl
      ·exact want_v (v := x 9) (hf 9 (by kernel_rfl) (by kernel_rfl)) rfl
      ·exact want_v (v := x 9) (hf 9 (by kernel_rfl) (by kernel_rfl)) rfl
      ·exact want_v (v := x 9) (hf 9 (by kernel_rfl) (by kernel_rfl)) rfl
      ·exact want_v (v := x 9) (hf 9 (by kernel_rfl) (by kernel_rfl)) rfl
      ·exact want_v (v := x 9) (hf 9 (by kernel_rfl) (by kernel_rfl)) rfl
      ·exact want_v (v := x 9) (hf 9 (by kernel_rfl) (by kernel_rfl)) rfl
      ·exact want_v (v := x 6) (hf 6 (by kernel_rfl) (by kernel_rfl)) rfl
      ·rfl
     case hoffB =>
      intro iF o hi hw ho x
      rcases (show iF = 0 ∨ iF = 1 ∨ iF = 2 ∨ iF = 3 ∨ iF = 4 ∨ iF = 5 ∨ iF = 6 ∨ iF = 7 ∨ iF = 8 ∨ iF = 9 ∨ iF = 10 ∨ iF = 11 ∨ iF = 12 ∨ iF = 13 ∨ iF = 14 ∨ iF = 15 ∨ iF = 16 ∨ iF = 17 ∨ iF = 18 ∨ iF = 19 ∨ iF = 20 ∨ iF = 21 ∨ iF = 22 ∨ iF = 23 by omega) with rfl | rfl | rfl | rfl | rfl | rfl | rfl | rfl | rfl | rfl | rfl | rfl | rfl | rfl | rfl | rfl | rfl | rfl | rfl | rfl | rfl | rfl | rfl | rfl <;> obtain rfl := Option.some.inj ho
      all_goals first | exact absurd (show true = false from hw) (by simp) | skip
      ·exact ⟨rfl, rfl⟩
      ·exact ⟨rfl, rfl⟩
      ·exact ⟨rfl, rfl⟩
      ·exact ⟨rfl, rfl⟩
      ·exact ⟨rfl, rfl⟩
      ·exact ⟨rfl, rfl⟩
      ·exact ⟨rfl, rfl⟩
      ·exact ⟨rfl, rfl⟩
      ·exact ⟨rfl, rfl⟩
      ·exact ⟨rfl, rfl⟩
      ·exact ⟨rfl, rfl⟩
      ·exact ⟨rfl, rfl⟩
     case hpureB =>
      intro iF o hi hnm hww ho d x W hB hd hdn hnd hcl Kq hK
      rcases (show iF = 0 ∨ iF = 1 ∨ iF = 2 ∨ iF = 3 ∨ iF = 4 ∨ iF = 5 ∨ iF = 6 ∨ iF = 7 ∨ iF = 8 ∨ iF = 9 ∨ iF = 10 ∨ iF = 11 ∨ iF = 12 ∨ iF = 13 ∨ iF = 14 ∨ iF = 15 ∨ iF = 16 ∨ iF = 17 ∨ iF = 18 ∨ iF = 19 ∨ iF = 20 ∨ iF = 21 ∨ iF = 22 ∨ iF = 23 by omega) with rfl | rfl | rfl | rfl | rfl | rfl | rfl | rfl | rfl | rfl | rfl | rfl | rfl | rfl | rfl | rfl | rfl | rfl | rfl | rfl | rfl | rfl | rfl | rfl <;> obtain rfl := Option.some.inj ho
      all_goals first | exact absurd (show true = false from hnm) (by simp) | skip
      all_goals first | exact absurd (show false = true from hww) (by simp) | skip
      ·clear ho hd hdn hnd hcl hB hnm hi
       simp only [upd, reduceIte, Nat.reduceEqDiff] at hK
       try dsimp only
       go_simp
       exact hK _ rfl
      ·clear ho hd hdn hnd hcl hB hnm hi
       simp only [upd, reduceIte, Nat.reduceEqDiff] at hK
       try dsimp only
       go_simp
       exact hK _ rfl
      ·have e0 : x 0 = .slice (some ⟨b, off, none⟩) n c := hd 0 (by kernel_rfl) (by kernel_rfl)
       have e1 : x 1 = .int .i64 (j : Int) := hd 1 (by kernel_rfl) (by kernel_rfl)
       clear ho hd hdn hnd hcl hB hnm hi
       simp only [upd, reduceIte, Nat.reduceEqDiff, e0, e1] at hK
       try dsimp only
       go_simp
       exact hK _ rfl
      ·have e2 : x 2 = .pointer (some ⟨b, off + j * 11, none⟩) := hd 2 (by kernel_rfl) (by kernel_rfl)
       have hb := hB.1
       obtain ⟨c0, c1, c2, c3, c4, c5, c6, c7, c8, c9, c10⟩ := HEC.out
       have q0 := below_cell hb c0
       have q1 := below_cell hb c1
       have q2 := below_cell hb c2
       have q3 := below_cell hb c3
       have q4 := below_cell hb c4
       have q5 := below_cell hb c5
       have q6 := below_cell hb c6
       have q7 := below_cell hb c7
       have q8 := below_cell hb c8
       have q9 := below_cell hb c9
       have q10 := below_cell hb c10
       clear c0 c1 c2 c3 c4 c5 c6 c7 c8 c9 c10
       clear ho hd hdn hnd hcl hB hnm hi
       simp only [upd, reduceIte, Nat.reduceEqDiff, e2] at hK
       try dsimp only
       go_simp
       exact hK _ rfl
      ·have e4 : x 4 = .int .i64 K := hB.2 (hdn 4 (by kernel_rfl))
       clear ho hd hdn hnd hcl hB hnm hi
       simp only [upd, reduceIte, Nat.reduceEqDiff, e4] at hK
       try dsimp only
       try rw [e4]
       go_simp
       exact hK _ rfl
      ·have e5 : x 5 = .bool false := hd 5 (by kernel_rfl) (by kernel_rfl)
       clear ho hd hdn hnd hcl hB hnm hi
       simp only [upd, reduceIte, Nat.reduceEqDiff, e5] at hK
       try dsimp only
       go_simp
       exact hK _ rfl
      ·clear ho hd hdn hnd hcl hB hnm hi
       simp only [upd, reduceIte, Nat.reduceEqDiff] at hK
       try dsimp only
       go_simp
       exact hK _ rfl
      ·have e7 : x 7 = .int .i64 (j : Int) := hd 7 (by kernel_rfl) (by kernel_rfl)
       clear ho hd hdn hnd hcl hB hnm hi
       simp only [upd, reduceIte, Nat.reduceEqDiff, e7] at hK
       try dsimp only
       go_simp
       exact hK _ rfl
      ·have e8 : x 8 = .bool false := hd 8 (by kernel_rfl) (by kernel_rfl)
       clear ho hd hdn hnd hcl hB hnm hi
       simp only [upd, reduceIte, Nat.reduceEqDiff, e8] at hK
       try dsimp only
       go_simp
       exact hK _ rfl
      ·have e9 : x 9 = .bool false := hd 9 (by kernel_rfl) (by kernel_rfl)
       have e21 : x 21 = undef := hd 21 (by kernel_rfl) (by kernel_rfl)
       clear ho hd hdn hnd hcl hB hnm hi
       simp only [upd, reduceIte, Nat.reduceEqDiff, e9, e21] at hK
       try dsimp only
       go_simp
       exact hK _ rfl
      ·have e6 : x 6 = .bool false := hd 6 (by kernel_rfl) (by kernel_rfl)
       have e22 : x 22 = .bool false := hd 22 (by kernel_rfl) (by kernel_rfl)
       clear ho hd hdn hnd hcl hB hnm hi
       simp only [upd, reduceIte, Nat.reduceEqDiff, e6, e22] at hK
       try dsimp only
       go_simp
       exact hK _ rfl
     case hmemB =>
      intro iF o hi hmm ho d d' x W hB hd hdn hnd hdi hdi' hdm hcl Kq hK
      rcases (show iF = 0 ∨ iF = 1 ∨ iF = 2 ∨ iF = 3 ∨ iF = 4 ∨ iF = 5 ∨ iF = 6 ∨ iF = 7 ∨ iF = 8 ∨ iF = 9 ∨ iF = 10 ∨ iF = 11 ∨ iF = 12 ∨ iF = 13 ∨ iF = 14 ∨ iF = 15 ∨ iF = 16 ∨ iF = 17 ∨ iF = 18 ∨ iF = 19 ∨ iF = 20 ∨ iF = 21 ∨ iF = 22 ∨ iF = 23 by omega) with rfl | rfl | rfl | rfl | rfl | rfl | rfl | rfl | rfl | rfl | rfl | rfl | rfl | rfl | rfl | rfl | rfl | rfl | rfl | rfl | rfl | rfl | rfl | rfl <;> obtain rfl := Option.some.inj ho
      all_goals first | exact absurd (show false = true from hmm) (by simp) | skip
      ·have e3 : x 3 = .agg #[.int .i64 e.seq, .int .i64 e.time, .int .u8 e.cpu, .int .u8 e.kind, .int .i64 e.task, .int .i64 e.grp, .int .i64 e.to, .int .i64 e.wt, .int .i64 e.ticks, .int .u64 e.mask, .int .i64 e.got] := hd 3 (by kernel_rfl) (by kernel_rfl)
       obtain ⟨hb, h4⟩ := hB
       clear ho hd hdn hnd hcl hmm
       simp only [upd, reduceIte, Nat.reduceEqDiff, e3] at hK
       try dsimp only
       go_simp
       go_at_call 102
       refine (HCK.out W).mono ?_
       rintro r W2 ⟨rfl, bb⟩
       go_simp
       refine hK _ _ ?_
       try dsimp only
       rw [hdi']
       exact ⟨(bstep hb bb), fun _ => rfl⟩
     case hendB =>
      intro d x W hall hB hd
      obtain ⟨hb, h4⟩ := hB
      have ek := hd 23 (by omega) rfl
      clear hd hall h4
      try dsimp only
      rw [ek]
      clear ek
      generalize x 0 = y0
      generalize x 1 = y1
      generalize x 2 = y2
      generalize x 3 = y3
      generalize x 4 = y4
      generalize x 5 = y5
      generalize x 6 = y6
      generalize x 7 = y7
      generalize x 8 = y8
      generalize x 9 = y9
      generalize x 10 = y10
      generalize x 11 = y11
      generalize x 12 = y12
      generalize x 13 = y13
      generalize x 14 = y14
      generalize x 15 = y15
      generalize x 16 = y16
      generalize x 17 = y17
      generalize x 18 = y18
      generalize x 19 = y19
      generalize x 20 = y20
      generalize x 21 = y21
      generalize x 22 = y22
      have HB2 := Lib.hid (bstep HB.out hb)
      clear hb
      go_wp2
      go_roundg (gk - 1)
      case measure => have := HJ.out; omega
      case rel => exact ⟨j + 1, by have := HJ.out; omega, by go_num, HS2.out, HB2.out⟩
    ·obtain ⟨p, hjp⟩ : ∃ p, j = p + 1 := ⟨j - 1, by omega⟩
     obtain ⟨y, hy⟩ : ∃ y, l[p]? = some y := ⟨_, List.getElem?_eq_getElem (by rw [HN.out]; omega)⟩
     obtain ⟨y0, -⟩ := HR.out.ev hy
     have HX0 := Lib.hid y0
     have HXX := Lib.hid hy
     have HJP := Lib.hid hjp
     have p0 : (0 : Int) ≤ (p : Int) := by omega
     have p1 : (p : Int) < (n : Int) := by omega
     have dz : decide (0 < j) = true := by simp; omega
     have HW := Lib.hid (show IntKind.i64.wrap ((j : Int) - 1) = (p : Int) by rw [show (j : Int) - 1 = (p : Int) by omega]; exact IntWalk.i64_in _ (by omega))
     clear y0 hy hz hjp
     by_cases hge : e.seq ≤ y.seq
     ·have dg : decide (e.seq ≤ y.seq) = true := by simpa using hge
      have HNO := Lib.hid (not_row_seq HXX.out (by rw [← HJP.out]; exact HE.out) hge)
      clear hk hge
      go_wp2_with fail
      refine wp_region_dagG (by kernel_rfl) 24 rfl (fun i => i == 4) (fun i => !(false)) ?hMwC (fun x => ⟨#[.slice (some ⟨b, off, none⟩) n c, undef, u2, .int .i64 (j : Int), .int .i64 (j : Int), .slice (some ⟨b, off, none⟩) n c, .int .i64 n, .bool true, u8, u9, x 0, x 1, x 2, x 3, x 4, x 5, x 6, x 7, x 8, x 9, x 10, x 11, x 12, x 13, x 14, x 15, x 16, x 17, x 18, x 19, x 20, x 21, x 22, x 23], []⟩) (fun iF vF => match iF with | 0 => vF = .slice (some ⟨b, off, none⟩) n c | 1 => vF = .int .i64 (j : Int) | 2 => vF = .pointer (some ⟨b, off + j * 11, none⟩) | 3 => vF = .agg #[.int .i64 e.seq, .int .i64 e.time, .int .u8 e.cpu, .int .u8 e.kind, .int .i64 e.task, .int .i64 e.grp, .int .i64 e.to, .int .i64 e.wt, .int .i64 e.ticks, .int .u64 e.mask, .int .i64 e.got] | 5 => vF = .bool false | 6 => vF = .bool false | 7 => vF = .int .i64 (j : Int) | 8 => vF = .bool true | 9 => vF = .bool true | 10 => vF = .slice (some ⟨b, off, none⟩) n c | 11 => vF = .int .i64 (j : Int) | 12 => vF = .int .i64 (p : Int) | 13 => vF = .pointer (some ⟨b, off + p * 11, none⟩) | 14 => vF = .pointer (some ⟨b, off + p * 11, none⟩) | 15 => vF = .int .i64 y.seq | 16 => vF = .slice (some ⟨b, off, none⟩) n c | 17 => vF = .int .i64 (j : Int) | 18 => vF = .pointer (some ⟨b, off + j * 11, none⟩) | 19 => vF = .pointer (some ⟨b, off + j * 11, none⟩) | 20 => vF = .int .i64 e.seq | 21 => vF = .bool true | 22 => vF = .bool true | 23 => vF = .bool true | _ => True)
       (fun d x W => Below wr.heap.size wr W ∧ (d 4 = true → (x 4) = .int .i64 K)) ?hBC ?hwantC ?hoffC (by kernel_rfl) ?hpureC ?hmemC ?hendC (fun i => (#[u10, u11, u12, u13, u14, u15, u16, u17, u18, u19, u20, u21, u22, u23, u24, u25, u26, u27, u28, u29, u30, u31, u32, u33] : Array Value).getD i undef) rfl ?hstartC
      case hstartC =>
       try dsimp only
       exact ⟨below_drew (Below.refl _ _), fun h => (by cases h)⟩
      case hBC =>
       intro d d' x i v W hi hm h
       have g4 : ¬ 4 = i := by rintro rfl; exact absurd (show true = false from hi) (by simp)
       have e4 : d' 4 = d 4 := hm 4 rfl
       try dsimp only at h ⊢
       first | rw [upd_ne g4, e4] | simp only [upd_ne g4, e4]
       exact h
      case hMwC =>
       intro i hi
       simp only [Bool.or_eq_true, beq_iff_eq] at hi
       rcases hi with rfl
       all_goals rfl
      case hwantC =>
       intro iF o hi ho x hf
       rcases (show iF = 0 ∨ iF = 1 ∨ iF = 2 ∨ iF = 3 ∨ iF = 4 ∨ iF = 5 ∨ iF = 6 ∨ iF = 7 ∨ iF = 8 ∨ iF = 9 ∨ iF = 10 ∨ iF = 11 ∨ iF = 12 ∨ iF = 13 ∨ iF = 14 ∨ iF = 15 ∨ iF = 16 ∨ iF = 17 ∨ iF = 18 ∨ iF = 19 ∨ iF = 20 ∨ iF = 21 ∨ iF = 22 ∨ iF = 23 by omega) with rfl | rfl | rfl | rfl | rfl | rfl | rfl | rfl | rfl | rfl | rfl | rfl | rfl | rfl | rfl | rfl | rfl | rfl | rfl | rfl | rfl | rfl | rfl | rfl <;> obtain rfl := Option.some.inj ho
       ·rfl
       ·rfl
       ·rfl
       ·rfl
       ·rfl
       ·rfl
       ·rfl
       ·exact want_v (v := x 6) (hf 6 (by kernel_rfl) (by kernel_rfl)) rfl
       ·exact want_v (v := x 6) (hf 6 (by kernel_rfl) (by kernel_rfl)) rfl
       ·exact want_v (v := x 6) (hf 6 (by kernel_rfl) (by kernel_rfl)) rfl
       ·exact want_v (v := x 9) (hf 9 (by kernel_rfl) (by kernel_rfl)) rfl
       ·exact want_v (v := x 9) (hf 9 (by kernel_rfl) (by kernel_rfl)) rfl
       ·exact want_v (v := x 9) (hf 9 (by kernel_rfl) (by kernel_rfl)) rfl
       ·exact want_v (v := x 9) (hf 9 (by kernel_rfl) (by kernel_rfl)) rfl
       ·exact want_v (v := x 9) (hf 9 (by kernel_rfl) (by kernel_rfl)) rfl
       ·exact want_v (v := x 9) (hf 9 (by kernel_rfl) (by kernel_rfl)) rfl
       ·exact want_v (v := x 9) (hf 9 (by kernel_rfl) (by kernel_rfl)) rfl
       ·exact want_v (v := x 9) (hf 9 (by kernel_rfl) (by kernel_rfl)) rfl
       ·exact want_v (v := x 9) (hf 9 (by kernel_rfl) (by kernel_rfl)) rfl
       ·exact want_v (v := x 9) (hf 9 (by kernel_rfl) (by kernel_rfl)) rfl
       ·exact want_v (v := x 9) (hf 9 (by kernel_rfl) (by kernel_rfl)) rfl
       ·exact want_v (v := x 9) (hf 9 (by kernel_rfl) (by kernel_rfl)) rfl
       ·exact want_v (v := x 6) (hf 6 (by kernel_rfl) (by kernel_rfl)) rfl
       ·rfl
      case hoffC =>
       intro iF o hi hw ho x
       rcases (show iF = 0 ∨ iF = 1 ∨ iF = 2 ∨ iF = 3 ∨ iF = 4 ∨ iF = 5 ∨ iF = 6 ∨ iF = 7 ∨ iF = 8 ∨ iF = 9 ∨ iF = 10 ∨ iF = 11 ∨ iF = 12 ∨ iF = 13 ∨ iF = 14 ∨ iF = 15 ∨ iF = 16 ∨ iF = 17 ∨ iF = 18 ∨ iF = 19 ∨ iF = 20 ∨ iF = 21 ∨ iF = 22 ∨ iF = 23 by omega) with rfl | rfl | rfl | rfl | rfl | rfl | rfl | rfl | rfl | rfl | rfl | rfl | rfl | rfl | rfl | rfl | rfl | rfl | rfl | rfl | rfl | rfl | rfl | rfl
       all_goals first | exact absurd (show true = false from hw) (by simp) | skip
      case hpureC =>
       intro iF o hi hnm hww ho d x W hB hd hdn hnd hcl Kq hK
       rcases (show iF = 0 ∨ iF = 1 ∨ iF = 2 ∨ iF = 3 ∨ iF = 4 ∨ iF = 5 ∨ iF = 6 ∨ iF = 7 ∨ iF = 8 ∨ iF = 9 ∨ iF = 10 ∨ iF = 11 ∨ iF = 12 ∨ iF = 13 ∨ iF = 14 ∨ iF = 15 ∨ iF = 16 ∨ iF = 17 ∨ iF = 18 ∨ iF = 19 ∨ iF = 20 ∨ iF = 21 ∨ iF = 22 ∨ iF = 23 by omega) with rfl | rfl | rfl | rfl | rfl | rfl | rfl | rfl | rfl | rfl | rfl | rfl | rfl | rfl | rfl | rfl | rfl | rfl | rfl | rfl | rfl | rfl | rfl | rfl <;> obtain rfl := Option.some.inj ho
       all_goals first | exact absurd (show true = false from hnm) (by simp) | skip
       ·clear ho hd hdn hnd hcl hB hnm hi
        simp only [upd, reduceIte, Nat.reduceEqDiff] at hK
        try dsimp only
        go_simp
        exact hK _ rfl
       ·clear ho hd hdn hnd hcl hB hnm hi
        simp only [upd, reduceIte, Nat.reduceEqDiff] at hK
        try dsimp only
        go_simp
        exact hK _ rfl
       ·have e0 : x 0 = .slice (some ⟨b, off, none⟩) n c := hd 0 (by kernel_rfl) (by kernel_rfl)
        have e1 : x 1 = .int .i64 (j : Int) := hd 1 (by kernel_rfl) (by kernel_rfl)
        clear ho hd hdn hnd hcl hB hnm hi
        simp only [upd, reduceIte, Nat.reduceEqDiff, e0, e1] at hK
        try dsimp only
        go_simp
        exact hK _ rfl
       ·have e2 : x 2 = .pointer (some ⟨b, off + j * 11, none⟩) := hd 2 (by kernel_rfl) (by kernel_rfl)
        have hb := hB.1
        obtain ⟨c0, c1, c2, c3, c4, c5, c6, c7, c8, c9, c10⟩ := HEC.out
        have q0 := below_cell hb c0
        have q1 := below_cell hb c1
        have q2 := below_cell hb c2
        have q3 := below_cell hb c3
        have q4 := below_cell hb c4
        have q5 := below_cell hb c5
        have q6 := below_cell hb c6
        have q7 := below_cell hb c7
        have q8 := below_cell hb c8
        have q9 := below_cell hb c9
        have q10 := below_cell hb c10
        clear c0 c1 c2 c3 c4 c5 c6 c7 c8 c9 c10
        clear ho hd hdn hnd hcl hB hnm hi
        simp only [upd, reduceIte, Nat.reduceEqDiff, e2] at hK
        try dsimp only
        go_simp
        exact hK _ rfl
       ·have e4 : x 4 = .int .i64 K := hB.2 (hdn 4 (by kernel_rfl))
        clear ho hd hdn hnd hcl hB hnm hi
        simp only [upd, reduceIte, Nat.reduceEqDiff, e4] at hK
        try dsimp only
        try rw [e4]
        go_simp
        exact hK _ rfl
       ·have e5 : x 5 = .bool false := hd 5 (by kernel_rfl) (by kernel_rfl)
        clear ho hd hdn hnd hcl hB hnm hi
        simp only [upd, reduceIte, Nat.reduceEqDiff, e5] at hK
        try dsimp only
        go_simp
        exact hK _ rfl
       ·clear ho hd hdn hnd hcl hB hnm hi
        simp only [upd, reduceIte, Nat.reduceEqDiff] at hK
        try dsimp only
        go_simp
        exact hK _ rfl
       ·have e7 : x 7 = .int .i64 (j : Int) := hd 7 (by kernel_rfl) (by kernel_rfl)
        clear ho hd hdn hnd hcl hB hnm hi
        simp only [upd, reduceIte, Nat.reduceEqDiff, e7] at hK
        try dsimp only
        go_simp
        exact hK _ rfl
       ·have e8 : x 8 = .bool true := hd 8 (by kernel_rfl) (by kernel_rfl)
        clear ho hd hdn hnd hcl hB hnm hi
        simp only [upd, reduceIte, Nat.reduceEqDiff, e8] at hK
        try dsimp only
        go_simp
        exact hK _ rfl
       ·clear ho hd hdn hnd hcl hB hnm hi
        simp only [upd, reduceIte, Nat.reduceEqDiff] at hK
        try dsimp only
        go_simp
        exact hK _ rfl
       ·clear ho hd hdn hnd hcl hB hnm hi
        simp only [upd, reduceIte, Nat.reduceEqDiff] at hK
        try dsimp only
        go_simp
        exact hK _ rfl
       ·have e11 : x 11 = .int .i64 (j : Int) := hd 11 (by kernel_rfl) (by kernel_rfl)
        clear ho hd hdn hnd hcl hB hnm hi
        simp only [upd, reduceIte, Nat.reduceEqDiff, e11] at hK
        try dsimp only
        go_simp
        exact hK _ (congrArg (Value.int .i64) HW.out)
       ·have e10 : x 10 = .slice (some ⟨b, off, none⟩) n c := hd 10 (by kernel_rfl) (by kernel_rfl)
        have e12 : x 12 = .int .i64 (p : Int) := hd 12 (by kernel_rfl) (by kernel_rfl)
        clear ho hd hdn hnd hcl hB hnm hi
        simp only [upd, reduceIte, Nat.reduceEqDiff, e10, e12] at hK
        try dsimp only
        go_simp
        exact hK _ rfl
       ·have e13 : x 13 = .pointer (some ⟨b, off + p * 11, none⟩) := hd 13 (by kernel_rfl) (by kernel_rfl)
        clear ho hd hdn hnd hcl hB hnm hi
        simp only [upd, reduceIte, Nat.reduceEqDiff, e13] at hK
        try dsimp only
        go_simp
        exact hK _ rfl
       ·have e14 : x 14 = .pointer (some ⟨b, off + p * 11, none⟩) := hd 14 (by kernel_rfl) (by kernel_rfl)
        have hb := hB.1
        have q0 := below_cell hb HX0.out
        clear ho hd hdn hnd hcl hB hnm hi
        simp only [upd, reduceIte, Nat.reduceEqDiff, e14] at hK
        try dsimp only
        go_simp
        exact hK _ rfl
       ·clear ho hd hdn hnd hcl hB hnm hi
        simp only [upd, reduceIte, Nat.reduceEqDiff] at hK
        try dsimp only
        go_simp
        exact hK _ rfl
       ·clear ho hd hdn hnd hcl hB hnm hi
        simp only [upd, reduceIte, Nat.reduceEqDiff] at hK
        try dsimp only
        go_simp
        exact hK _ rfl
       ·have e16 : x 16 = .slice (some ⟨b, off, none⟩) n c := hd 16 (by kernel_rfl) (by kernel_rfl)
        have e17 : x 17 = .int .i64 (j : Int) := hd 17 (by kernel_rfl) (by kernel_rfl)
        clear ho hd hdn hnd hcl hB hnm hi
        simp only [upd, reduceIte, Nat.reduceEqDiff, e16, e17] at hK
        try dsimp only
        go_simp
        exact hK _ rfl
       ·have e18 : x 18 = .pointer (some ⟨b, off + j * 11, none⟩) := hd 18 (by kernel_rfl) (by kernel_rfl)
        clear ho hd hdn hnd hcl hB hnm hi
        simp only [upd, reduceIte, Nat.reduceEqDiff, e18] at hK
        try dsimp only
        go_simp
        exact hK _ rfl
       ·have e19 : x 19 = .pointer (some ⟨b, off + j * 11, none⟩) := hd 19 (by kernel_rfl) (by kernel_rfl)
        have hb := hB.1
        have q0 := below_cell hb HEC.out.1
        clear ho hd hdn hnd hcl hB hnm hi
        simp only [upd, reduceIte, Nat.reduceEqDiff, e19] at hK
        try dsimp only
        go_simp
        exact hK _ rfl
       ·have e15 : x 15 = .int .i64 y.seq := hd 15 (by kernel_rfl) (by kernel_rfl)
        have e20 : x 20 = .int .i64 e.seq := hd 20 (by kernel_rfl) (by kernel_rfl)
        clear ho hd hdn hnd hcl hB hnm hi
        simp only [upd, reduceIte, Nat.reduceEqDiff, e15, e20] at hK
        try dsimp only
        go_simp
        exact hK _ rfl
       ·have e9 : x 9 = .bool true := hd 9 (by kernel_rfl) (by kernel_rfl)
        have e21 : x 21 = .bool true := hd 21 (by kernel_rfl) (by kernel_rfl)
        clear ho hd hdn hnd hcl hB hnm hi
        simp only [upd, reduceIte, Nat.reduceEqDiff, e9, e21] at hK
        try dsimp only
        go_simp
        exact hK _ rfl
       ·have e6 : x 6 = .bool false := hd 6 (by kernel_rfl) (by kernel_rfl)
        have e22 : x 22 = .bool true := hd 22 (by kernel_rfl) (by kernel_rfl)
        clear ho hd hdn hnd hcl hB hnm hi
        simp only [upd, reduceIte, Nat.reduceEqDiff, e6, e22] at hK
        try dsimp only
        go_simp
        exact hK _ rfl
      case hmemC =>
       intro iF o hi hmm ho d d' x W hB hd hdn hnd hdi hdi' hdm hcl Kq hK
       rcases (show iF = 0 ∨ iF = 1 ∨ iF = 2 ∨ iF = 3 ∨ iF = 4 ∨ iF = 5 ∨ iF = 6 ∨ iF = 7 ∨ iF = 8 ∨ iF = 9 ∨ iF = 10 ∨ iF = 11 ∨ iF = 12 ∨ iF = 13 ∨ iF = 14 ∨ iF = 15 ∨ iF = 16 ∨ iF = 17 ∨ iF = 18 ∨ iF = 19 ∨ iF = 20 ∨ iF = 21 ∨ iF = 22 ∨ iF = 23 by omega) with rfl | rfl | rfl | rfl | rfl | rfl | rfl | rfl | rfl | rfl | rfl | rfl | rfl | rfl | rfl | rfl | rfl | rfl | rfl | rfl | rfl | rfl | rfl | rfl <;> obtain rfl := Option.some.inj ho
       all_goals first | exact absurd (show false = true from hmm) (by simp) | skip
       ·have e3 : x 3 = .agg #[.int .i64 e.seq, .int .i64 e.time, .int .u8 e.cpu, .int .u8 e.kind, .int .i64 e.task, .int .i64 e.grp, .int .i64 e.to, .int .i64 e.wt, .int .i64 e.ticks, .int .u64 e.mask, .int .i64 e.got] := hd 3 (by kernel_rfl) (by kernel_rfl)
        obtain ⟨hb, h4⟩ := hB
        clear ho hd hdn hnd hcl hmm
        simp only [upd, reduceIte, Nat.reduceEqDiff, e3] at hK
        try dsimp only
        go_simp
        go_at_call 102
        refine (HCK.out W).mono ?_
        rintro r W2 ⟨rfl, bb⟩
        go_simp
        refine hK _ _ ?_
        try dsimp only
        rw [hdi']
        exact ⟨(bstep hb bb), fun _ => rfl⟩
      case hendC =>
       intro d x W hall hB hd
       obtain ⟨hb, h4⟩ := hB
       have ek := hd 23 (by omega) rfl
       clear hd hall h4
       try dsimp only
       rw [ek]
       clear ek
       generalize x 0 = y0
       generalize x 1 = y1
       generalize x 2 = y2
       generalize x 3 = y3
       generalize x 4 = y4
       generalize x 5 = y5
       generalize x 6 = y6
       generalize x 7 = y7
       generalize x 8 = y8
       generalize x 9 = y9
       generalize x 10 = y10
       generalize x 11 = y11
       generalize x 12 = y12
       generalize x 13 = y13
       generalize x 14 = y14
       generalize x 15 = y15
       generalize x 16 = y16
       generalize x 17 = y17
       generalize x 18 = y18
       generalize x 19 = y19
       generalize x 20 = y20
       generalize x 21 = y21
       generalize x 22 = y22
       have HB2 := Lib.hid (bstep HB.out hb)
       clear hb
       go_wp2
       go_ret
       exact ⟨false, rfl, ⟨fun h => (by cases h), fun h => absurd h HNO.out⟩, HB2.out⟩
     ·have dg : decide (e.seq ≤ y.seq) = false := by simpa using hge
      have HS2 := Lib.hid (HP.out.step HE.out (by rw [HKE.out]; exact hk) (fun z _ hz => by rw [show j - 1 = p by have := HJP.out; omega, HXX.out] at hz; cases hz; omega))
      clear hk hge
      go_wp2_with fail
      refine wp_region_dagG (by kernel_rfl) 24 rfl (fun i => i == 4) (fun i => !(false)) ?hMwD (fun x => ⟨#[.slice (some ⟨b, off, none⟩) n c, undef, u2, .int .i64 (j : Int), .int .i64 (j : Int), .slice (some ⟨b, off, none⟩) n c, .int .i64 n, .bool true, u8, u9, x 0, x 1, x 2, x 3, x 4, x 5, x 6, x 7, x 8, x 9, x 10, x 11, x 12, x 13, x 14, x 15, x 16, x 17, x 18, x 19, x 20, x 21, x 22, x 23], []⟩) (fun iF vF => match iF with | 0 => vF = .slice (some ⟨b, off, none⟩) n c | 1 => vF = .int .i64 (j : Int) | 2 => vF = .pointer (some ⟨b, off + j * 11, none⟩) | 3 => vF = .agg #[.int .i64 e.seq, .int .i64 e.time, .int .u8 e.cpu, .int .u8 e.kind, .int .i64 e.task, .int .i64 e.grp, .int .i64 e.to, .int .i64 e.wt, .int .i64 e.ticks, .int .u64 e.mask, .int .i64 e.got] | 5 => vF = .bool false | 6 => vF = .bool false | 7 => vF = .int .i64 (j : Int) | 8 => vF = .bool true | 9 => vF = .bool true | 10 => vF = .slice (some ⟨b, off, none⟩) n c | 11 => vF = .int .i64 (j : Int) | 12 => vF = .int .i64 (p : Int) | 13 => vF = .pointer (some ⟨b, off + p * 11, none⟩) | 14 => vF = .pointer (some ⟨b, off + p * 11, none⟩) | 15 => vF = .int .i64 y.seq | 16 => vF = .slice (some ⟨b, off, none⟩) n c | 17 => vF = .int .i64 (j : Int) | 18 => vF = .pointer (some ⟨b, off + j * 11, none⟩) | 19 => vF = .pointer (some ⟨b, off + j * 11, none⟩) | 20 => vF = .int .i64 e.seq | 21 => vF = .bool false | 22 => vF = .bool false | 23 => vF = .bool false | _ => True)
       (fun d x W => Below wr.heap.size wr W ∧ (d 4 = true → (x 4) = .int .i64 K)) ?hBD ?hwantD ?hoffD (by kernel_rfl) ?hpureD ?hmemD ?hendD (fun i => (#[u10, u11, u12, u13, u14, u15, u16, u17, u18, u19, u20, u21, u22, u23, u24, u25, u26, u27, u28, u29, u30, u31, u32, u33] : Array Value).getD i undef) rfl ?hstartD
      case hstartD =>
       try dsimp only
       exact ⟨below_drew (Below.refl _ _), fun h => (by cases h)⟩
      case hBD =>
       intro d d' x i v W hi hm h
       have g4 : ¬ 4 = i := by rintro rfl; exact absurd (show true = false from hi) (by simp)
       have e4 : d' 4 = d 4 := hm 4 rfl
       try dsimp only at h ⊢
       first | rw [upd_ne g4, e4] | simp only [upd_ne g4, e4]
       exact h
      case hMwD =>
       intro i hi
       simp only [Bool.or_eq_true, beq_iff_eq] at hi
       rcases hi with rfl
       all_goals rfl
      case hwantD =>
       intro iF o hi ho x hf
       rcases (show iF = 0 ∨ iF = 1 ∨ iF = 2 ∨ iF = 3 ∨ iF = 4 ∨ iF = 5 ∨ iF = 6 ∨ iF = 7 ∨ iF = 8 ∨ iF = 9 ∨ iF = 10 ∨ iF = 11 ∨ iF = 12 ∨ iF = 13 ∨ iF = 14 ∨ iF = 15 ∨ iF = 16 ∨ iF = 17 ∨ iF = 18 ∨ iF = 19 ∨ iF = 20 ∨ iF = 21 ∨ iF = 22 ∨ iF = 23 by omega) with rfl | rfl | rfl | rfl | rfl | rfl | rfl | rfl | rfl | rfl | rfl | rfl | rfl | rfl | rfl | rfl | rfl | rfl | rfl | rfl | rfl | rfl | rfl | rfl <;> obtain rfl := Option.some.inj ho
       ·rfl
       ·rfl
       ·rfl
       ·rfl
       ·rfl
       ·rfl
       ·rfl
       ·exact want_v (v := x 6) (hf 6 (by kernel_rfl) (by kernel_rfl)) rfl
       ·exact want_v (v := x 6) (hf 6 (by kernel_rfl) (by kernel_rfl)) rfl
       ·exact want_v (v := x 6) (hf 6 (by kernel_rfl) (by kernel_rfl)) rfl
       ·exact want_v (v := x 9) (hf 9 (by kernel_rfl) (by kernel_rfl)) rfl
       ·exact want_v (v := x 9) (hf 9 (by kernel_rfl) (by kernel_rfl)) rfl
       ·exact want_v (v := x 9) (hf 9 (by kernel_rfl) (by kernel_rfl)) rfl
       ·exact want_v (v := x 9) (hf 9 (by kernel_rfl) (by kernel_rfl)) rfl
       ·exact want_v (v := x 9) (hf 9 (by kernel_rfl) (by kernel_rfl)) rfl
       ·exact want_v (v := x 9) (hf 9 (by kernel_rfl) (by kernel_rfl)) rfl
       ·exact want_v (v := x 9) (hf 9 (by kernel_rfl) (by kernel_rfl)) rfl
       ·exact want_v (v := x 9) (hf 9 (by kernel_rfl) (by kernel_rfl)) rfl
       ·exact want_v (v := x 9) (hf 9 (by kernel_rfl) (by kernel_rfl)) rfl
       ·exact want_v (v := x 9) (hf 9 (by kernel_rfl) (by kernel_rfl)) rfl
       ·exact want_v (v := x 9) (hf 9 (by kernel_rfl) (by kernel_rfl)) rfl
       ·exact want_v (v := x 9) (hf 9 (by kernel_rfl) (by kernel_rfl)) rfl
       ·exact want_v (v := x 6) (hf 6 (by kernel_rfl) (by kernel_rfl)) rfl
       ·rfl
      case hoffD =>
       intro iF o hi hw ho x
       rcases (show iF = 0 ∨ iF = 1 ∨ iF = 2 ∨ iF = 3 ∨ iF = 4 ∨ iF = 5 ∨ iF = 6 ∨ iF = 7 ∨ iF = 8 ∨ iF = 9 ∨ iF = 10 ∨ iF = 11 ∨ iF = 12 ∨ iF = 13 ∨ iF = 14 ∨ iF = 15 ∨ iF = 16 ∨ iF = 17 ∨ iF = 18 ∨ iF = 19 ∨ iF = 20 ∨ iF = 21 ∨ iF = 22 ∨ iF = 23 by omega) with rfl | rfl | rfl | rfl | rfl | rfl | rfl | rfl | rfl | rfl | rfl | rfl | rfl | rfl | rfl | rfl | rfl | rfl | rfl | rfl | rfl | rfl | rfl | rfl
       all_goals first | exact absurd (show true = false from hw) (by simp) | skip
      case hpureD =>
       intro iF o hi hnm hww ho d x W hB hd hdn hnd hcl Kq hK
       rcases (show iF = 0 ∨ iF = 1 ∨ iF = 2 ∨ iF = 3 ∨ iF = 4 ∨ iF = 5 ∨ iF = 6 ∨ iF = 7 ∨ iF = 8 ∨ iF = 9 ∨ iF = 10 ∨ iF = 11 ∨ iF = 12 ∨ iF = 13 ∨ iF = 14 ∨ iF = 15 ∨ iF = 16 ∨ iF = 17 ∨ iF = 18 ∨ iF = 19 ∨ iF = 20 ∨ iF = 21 ∨ iF = 22 ∨ iF = 23 by omega) with rfl | rfl | rfl | rfl | rfl | rfl | rfl | rfl | rfl | rfl | rfl | rfl | rfl | rfl | rfl | rfl | rfl | rfl | rfl | rfl | rfl | rfl | rfl | rfl <;> obtain rfl := Option.some.inj ho
       all_goals first | exact absurd (show true = false from hnm) (by simp) | skip
       ·clear ho hd hdn hnd hcl hB hnm hi
        simp only [upd, reduceIte, Nat.reduceEqDiff] at hK
        try dsimp only
        go_simp
        exact hK _ rfl
       ·clear ho hd hdn hnd hcl hB hnm hi
        simp only [upd, reduceIte, Nat.reduceEqDiff] at hK
        try dsimp only
        go_simp
        exact hK _ rfl
       ·have e0 : x 0 = .slice (some ⟨b, off, none⟩) n c := hd 0 (by kernel_rfl) (by kernel_rfl)
        have e1 : x 1 = .int .i64 (j : Int) := hd 1 (by kernel_rfl) (by kernel_rfl)
        clear ho hd hdn hnd hcl hB hnm hi
        simp only [upd, reduceIte, Nat.reduceEqDiff, e0, e1] at hK
        try dsimp only
        go_simp
        exact hK _ rfl
       ·have e2 : x 2 = .pointer (some ⟨b, off + j * 11, none⟩) := hd 2 (by kernel_rfl) (by kernel_rfl)
        have hb := hB.1
        obtain ⟨c0, c1, c2, c3, c4, c5, c6, c7, c8, c9, c10⟩ := HEC.out
        have q0 := below_cell hb c0
        have q1 := below_cell hb c1
        have q2 := below_cell hb c2
        have q3 := below_cell hb c3
        have q4 := below_cell hb c4
        have q5 := below_cell hb c5
        have q6 := below_cell hb c6
        have q7 := below_cell hb c7
        have q8 := below_cell hb c8
        have q9 := below_cell hb c9
        have q10 := below_cell hb c10
        clear c0 c1 c2 c3 c4 c5 c6 c7 c8 c9 c10
        clear ho hd hdn hnd hcl hB hnm hi
        simp only [upd, reduceIte, Nat.reduceEqDiff, e2] at hK
        try dsimp only
        go_simp
        exact hK _ rfl
       ·have e4 : x 4 = .int .i64 K := hB.2 (hdn 4 (by kernel_rfl))
        clear ho hd hdn hnd hcl hB hnm hi
        simp only [upd, reduceIte, Nat.reduceEqDiff, e4] at hK
        try dsimp only
        try rw [e4]
        go_simp
        exact hK _ rfl
       ·have e5 : x 5 = .bool false := hd 5 (by kernel_rfl) (by kernel_rfl)
        clear ho hd hdn hnd hcl hB hnm hi
        simp only [upd, reduceIte, Nat.reduceEqDiff, e5] at hK
        try dsimp only
        go_simp
        exact hK _ rfl
       ·clear ho hd hdn hnd hcl hB hnm hi
        simp only [upd, reduceIte, Nat.reduceEqDiff] at hK
        try dsimp only
        go_simp
        exact hK _ rfl
       ·have e7 : x 7 = .int .i64 (j : Int) := hd 7 (by kernel_rfl) (by kernel_rfl)
        clear ho hd hdn hnd hcl hB hnm hi
        simp only [upd, reduceIte, Nat.reduceEqDiff, e7] at hK
        try dsimp only
        go_simp
        exact hK _ rfl
       ·have e8 : x 8 = .bool true := hd 8 (by kernel_rfl) (by kernel_rfl)
        clear ho hd hdn hnd hcl hB hnm hi
        simp only [upd, reduceIte, Nat.reduceEqDiff, e8] at hK
        try dsimp only
        go_simp
        exact hK _ rfl
       ·clear ho hd hdn hnd hcl hB hnm hi
        simp only [upd, reduceIte, Nat.reduceEqDiff] at hK
        try dsimp only
        go_simp
        exact hK _ rfl
       ·clear ho hd hdn hnd hcl hB hnm hi
        simp only [upd, reduceIte, Nat.reduceEqDiff] at hK
        try dsimp only
        go_simp
        exact hK _ rfl
       ·have e11 : x 11 = .int .i64 (j : Int) := hd 11 (by kernel_rfl) (by kernel_rfl)
        clear ho hd hdn hnd hcl hB hnm hi
        simp only [upd, reduceIte, Nat.reduceEqDiff, e11] at hK
        try dsimp only
        go_simp
        exact hK _ (congrArg (Value.int .i64) HW.out)
       ·have e10 : x 10 = .slice (some ⟨b, off, none⟩) n c := hd 10 (by kernel_rfl) (by kernel_rfl)
        have e12 : x 12 = .int .i64 (p : Int) := hd 12 (by kernel_rfl) (by kernel_rfl)
        clear ho hd hdn hnd hcl hB hnm hi
        simp only [upd, reduceIte, Nat.reduceEqDiff, e10, e12] at hK
        try dsimp only
        go_simp
        exact hK _ rfl
       ·have e13 : x 13 = .pointer (some ⟨b, off + p * 11, none⟩) := hd 13 (by kernel_rfl) (by kernel_rfl)
        clear ho hd hdn hnd hcl hB hnm hi
        simp only [upd, reduceIte, Nat.reduceEqDiff, e13] at hK
        try dsimp only
        go_simp
        exact hK _ rfl
       ·have e14 : x 14 = .pointer (some ⟨b, off + p * 11, none⟩) := hd 14 (by kernel_rfl) (by kernel_rfl)
        have hb := hB.1
        have q0 := below_cell hb HX0.out
        clear ho hd hdn hnd hcl hB hnm hi
        simp only [upd, reduceIte, Nat.reduceEqDiff, e14] at hK
        try dsimp only
        go_simp
        exact hK _ rfl
       ·clear ho hd hdn hnd hcl hB hnm hi
        simp only [upd, reduceIte, Nat.reduceEqDiff] at hK
        try dsimp only
        go_simp
        exact hK _ rfl
       ·clear ho hd hdn hnd hcl hB hnm hi
        simp only [upd, reduceIte, Nat.reduceEqDiff] at hK
        try dsimp only
        go_simp
        exact hK _ rfl
       ·have e16 : x 16 = .slice (some ⟨b, off, none⟩) n c := hd 16 (by kernel_rfl) (by kernel_rfl)
        have e17 : x 17 = .int .i64 (j : Int) := hd 17 (by kernel_rfl) (by kernel_rfl)
        clear ho hd hdn hnd hcl hB hnm hi
        simp only [upd, reduceIte, Nat.reduceEqDiff, e16, e17] at hK
        try dsimp only
        go_simp
        exact hK _ rfl
       ·have e18 : x 18 = .pointer (some ⟨b, off + j * 11, none⟩) := hd 18 (by kernel_rfl) (by kernel_rfl)
        clear ho hd hdn hnd hcl hB hnm hi
        simp only [upd, reduceIte, Nat.reduceEqDiff, e18] at hK
        try dsimp only
        go_simp
        exact hK _ rfl
       ·have e19 : x 19 = .pointer (some ⟨b, off + j * 11, none⟩) := hd 19 (by kernel_rfl) (by kernel_rfl)
        have hb := hB.1
        have q0 := below_cell hb HEC.out.1
        clear ho hd hdn hnd hcl hB hnm hi
        simp only [upd, reduceIte, Nat.reduceEqDiff, e19] at hK
        try dsimp only
        go_simp
        exact hK _ rfl
       ·have e15 : x 15 = .int .i64 y.seq := hd 15 (by kernel_rfl) (by kernel_rfl)
        have e20 : x 20 = .int .i64 e.seq := hd 20 (by kernel_rfl) (by kernel_rfl)
        clear ho hd hdn hnd hcl hB hnm hi
        simp only [upd, reduceIte, Nat.reduceEqDiff, e15, e20] at hK
        try dsimp only
        go_simp
        exact hK _ rfl
       ·have e9 : x 9 = .bool true := hd 9 (by kernel_rfl) (by kernel_rfl)
        have e21 : x 21 = .bool false := hd 21 (by kernel_rfl) (by kernel_rfl)
        clear ho hd hdn hnd hcl hB hnm hi
        simp only [upd, reduceIte, Nat.reduceEqDiff, e9, e21] at hK
        try dsimp only
        go_simp
        exact hK _ rfl
       ·have e6 : x 6 = .bool false := hd 6 (by kernel_rfl) (by kernel_rfl)
        have e22 : x 22 = .bool false := hd 22 (by kernel_rfl) (by kernel_rfl)
        clear ho hd hdn hnd hcl hB hnm hi
        simp only [upd, reduceIte, Nat.reduceEqDiff, e6, e22] at hK
        try dsimp only
        go_simp
        exact hK _ rfl
      case hmemD =>
       intro iF o hi hmm ho d d' x W hB hd hdn hnd hdi hdi' hdm hcl Kq hK
       rcases (show iF = 0 ∨ iF = 1 ∨ iF = 2 ∨ iF = 3 ∨ iF = 4 ∨ iF = 5 ∨ iF = 6 ∨ iF = 7 ∨ iF = 8 ∨ iF = 9 ∨ iF = 10 ∨ iF = 11 ∨ iF = 12 ∨ iF = 13 ∨ iF = 14 ∨ iF = 15 ∨ iF = 16 ∨ iF = 17 ∨ iF = 18 ∨ iF = 19 ∨ iF = 20 ∨ iF = 21 ∨ iF = 22 ∨ iF = 23 by omega) with rfl | rfl | rfl | rfl | rfl | rfl | rfl | rfl | rfl | rfl | rfl | rfl | rfl | rfl | rfl | rfl | rfl | rfl | rfl | rfl | rfl | rfl | rfl | rfl <;> obtain rfl := Option.some.inj ho
       all_goals first | exact absurd (show false = true from hmm) (by simp) | skip
       ·have e3 : x 3 = .agg #[.int .i64 e.seq, .int .i64 e.time, .int .u8 e.cpu, .int .u8 e.kind, .int .i64 e.task, .int .i64 e.grp, .int .i64 e.to, .int .i64 e.wt, .int .i64 e.ticks, .int .u64 e.mask, .int .i64 e.got] := hd 3 (by kernel_rfl) (by kernel_rfl)
        obtain ⟨hb, h4⟩ := hB
        clear ho hd hdn hnd hcl hmm
        simp only [upd, reduceIte, Nat.reduceEqDiff, e3] at hK
        try dsimp only
        go_simp
        go_at_call 102
        refine (HCK.out W).mono ?_
        rintro r W2 ⟨rfl, bb⟩
        go_simp
        refine hK _ _ ?_
        try dsimp only
        rw [hdi']
        exact ⟨(bstep hb bb), fun _ => rfl⟩
      case hendD =>
       intro d x W hall hB hd
       obtain ⟨hb, h4⟩ := hB
       have ek := hd 23 (by omega) rfl
       clear hd hall h4
       try dsimp only
       rw [ek]
       clear ek
       generalize x 0 = y0
       generalize x 1 = y1
       generalize x 2 = y2
       generalize x 3 = y3
       generalize x 4 = y4
       generalize x 5 = y5
       generalize x 6 = y6
       generalize x 7 = y7
       generalize x 8 = y8
       generalize x 9 = y9
       generalize x 10 = y10
       generalize x 11 = y11
       generalize x 12 = y12
       generalize x 13 = y13
       generalize x 14 = y14
       generalize x 15 = y15
       generalize x 16 = y16
       generalize x 17 = y17
       generalize x 18 = y18
       generalize x 19 = y19
       generalize x 20 = y20
       generalize x 21 = y21
       generalize x 22 = y22
       have HB2 := Lib.hid (bstep HB.out hb)
       clear hb
       go_wp2
       go_roundg (gk - 1)
       case measure => have := HJ.out; omega
       case rel => exact ⟨j + 1, by have := HJ.out; omega, by go_num, HS2.out, HB2.out⟩
   ·have dk : (K != 0) = true := by simp [hk]
    have HNO := Lib.hid (not_row_chk HE.out (by rw [HKE.out]; exact hk))
    clear hk
    go_wp2_with fail
    refine wp_region_dagG (by kernel_rfl) 24 rfl (fun i => i == 4) (fun i => !(i == 7 || i == 8 || i == 9 || i == 10 || i == 11 || i == 12 || i == 13 || i == 14 || i == 15 || i == 16 || i == 17 || i == 18 || i == 19 || i == 20 || i == 21 || i == 22)) ?hMwA (fun x => ⟨#[.slice (some ⟨b, off, none⟩) n c, undef, u2, .int .i64 (j : Int), .int .i64 (j : Int), .slice (some ⟨b, off, none⟩) n c, .int .i64 n, .bool true, u8, u9, x 0, x 1, x 2, x 3, x 4, x 5, x 6, x 7, x 8, x 9, x 10, x 11, x 12, x 13, x 14, x 15, x 16, x 17, x 18, x 19, x 20, x 21, x 22, x 23], []⟩) (fun iF vF => match iF with | 0 => vF = .slice (some ⟨b, off, none⟩) n c | 1 => vF = .int .i64 (j : Int) | 2 => vF = .pointer (some ⟨b, off + j * 11, none⟩) | 3 => vF = .agg #[.int .i64 e.seq, .int .i64 e.time, .int .u8 e.cpu, .int .u8 e.kind, .int .i64 e.task, .int .i64 e.grp, .int .i64 e.to, .int .i64 e.wt, .int .i64 e.ticks, .int .u64 e.mask, .int .i64 e.got] | 5 => vF = .bool true | 6 => vF = .bool true | 7 => vF = undef | 8 => vF = undef | 9 => vF = undef | 10 => vF = undef | 11 => vF = undef | 12 => vF = undef | 13 => vF = undef | 14 => vF = undef | 15 => vF = undef | 16 => vF = undef | 17 => vF = undef | 18 => vF = undef | 19 => vF = undef | 20 => vF = undef | 21 => vF = undef | 22 => vF = undef | 23 => vF = .bool true | _ => True)
     (fun d x W => Below wr.heap.size wr W ∧ (d 4 = true → (x 4) = .int .i64 K)) ?hBA ?hwantA ?hoffA (by kernel_rfl) ?hpureA ?hmemA ?hendA (fun i => (#[u10, u11, u12, u13, u14, u15, u16, u17, u18, u19, u20, u21, u22, u23, u24, u25, u26, u27, u28, u29, u30, u31, u32, u33] : Array Value).getD i undef) rfl ?hstartA
    case hstartA =>
     try dsimp only
     exact ⟨below_drew (Below.refl _ _), fun h => (by cases h)⟩
    case hBA =>
     intro d d' x i v W hi hm h
     have g4 : ¬ 4 = i := by rintro rfl; exact absurd (show true = false from hi) (by simp)
     have e4 : d' 4 = d 4 := hm 4 rfl
     try dsimp only at h ⊢
     first | rw [upd_ne g4, e4] | simp only [upd_ne g4, e4]
     exact h
    case hMwA =>
     intro i hi
     simp only [Bool.or_eq_true, beq_iff_eq] at hi
     rcases hi with rfl
     all_goals rfl
    case hwantA =>
     intro iF o hi ho x hf
     rcases (show iF = 0 ∨ iF = 1 ∨ iF = 2 ∨ iF = 3 ∨ iF = 4 ∨ iF = 5 ∨ iF = 6 ∨ iF = 7 ∨ iF = 8 ∨ iF = 9 ∨ iF = 10 ∨ iF = 11 ∨ iF = 12 ∨ iF = 13 ∨ iF = 14 ∨ iF = 15 ∨ iF = 16 ∨ iF = 17 ∨ iF = 18 ∨ iF = 19 ∨ iF = 20 ∨ iF = 21 ∨ iF = 22 ∨ iF = 23 by omega) with rfl | rfl | rfl | rfl | rfl | rfl | rfl | rfl | rfl | rfl | rfl | rfl | rfl | rfl | rfl | rfl | rfl | rfl | rfl | rfl | rfl | rfl | rfl | rfl <;> obtain rfl := Option.some.inj ho
     ·rfl
     ·rfl
     ·rfl
     ·rfl
     ·rfl
     ·rfl
     ·rfl
     ·exact want_v (v := x 6) (hf 6 (by kernel_rfl) (by kernel_rfl)) rfl
     ·exact want_v (v := x 6) (hf 6 (by kernel_rfl) (by kernel_rfl)) rfl
     ·exact want_v (v := x 6) (hf 6 (by kernel_rfl) (by kernel_rfl)) rfl
     ·have e : x 9 = undef := hf 9 (by kernel_rfl) (by kernel_rfl)
      show ((match some (x 9) with | some (.bool b) => some b | _ => none) == some true) = false
      rw [e]
      rfl
     ·have e : x 9 = undef := hf 9 (by kernel_rfl) (by kernel_rfl)
      show ((match some (x 9) with | some (.bool b) => some b | _ => none) == some true) = false
      rw [e]
      rfl
     ·have e : x 9 = undef := hf 9 (by kernel_rfl) (by kernel_rfl)
      show ((match some (x 9) with | some (.bool b) => some b | _ => none) == some true) = false
      rw [e]
      rfl
     ·have e : x 9 = undef := hf 9 (by kernel_rfl) (by kernel_rfl)
      show ((match some (x 9) with | some (.bool b) => some b | _ => none) == some true) = false
      rw [e]
      rfl
     ·have e : x 9 = undef := hf 9 (by kernel_rfl) (by kernel_rfl)
      show ((match some (x 9) with | some (.bool b) => some b | _ => none) == some true) = false
      rw [e]
      rfl
     ·have e : x 9 = undef := hf 9 (by kernel_rfl) (by kernel_rfl)
      show ((match some (x 9) with | some (.bool b) => some b | _ => none) == some true) = false
      rw [e]
      rfl
     ·have e : x 9 = undef := hf 9 (by kernel_rfl) (by kernel_rfl)
      show ((match some (x 9) with | some (.bool b) => some b | _ => none) == some true) = false
      rw [e]
      rfl
     ·have e : x 9 = undef := hf 9 (by kernel_rfl) (by kernel_rfl)
      show ((match some (x 9) with | some (.bool b) => some b | _ => none) == some true) = false
      rw [e]
      rfl
     ·have e : x 9 = undef := hf 9 (by kernel_rfl) (by kernel_rfl)
      show ((match some (x 9) with | some (.bool b) => some b | _ => none) == some true) = false
      rw [e]
      rfl
     ·have e : x 9 = undef := hf 9 (by kernel_rfl) (by kernel_rfl)
      show ((match some (x 9) with | some (.bool b) => some b | _ => none) == some true) = false
      rw [e]
      rfl
     ·have e : x 9 = undef := hf 9 (by kernel_rfl) (by kernel_rfl)
      show ((match some (x 9) with | some (.bool b) => some b | _ => none) == some true) = false
      rw [e]
      rfl
     ·have e : x 9 = undef := hf 9 (by kernel_rfl) (by kernel_rfl)
      show ((match some (x 9) with | some (.bool b) => some b | _ => none) == some true) = false
      rw [e]
      rfl
     ·exact want_v (v := x 6) (hf 6 (by kernel_rfl) (by kernel_rfl)) rfl
     ·rfl
    case hoffA =>
     intro iF o hi hw ho x
     rcases (show iF = 0 ∨ iF = 1 ∨ iF = 2 ∨ iF = 3 ∨ iF = 4 ∨ iF = 5 ∨ iF = 6 ∨ iF = 7 ∨ iF = 8 ∨ iF = 9 ∨ iF = 10 ∨ iF = 11 ∨ iF = 12 ∨ iF = 13 ∨ iF = 14 ∨ iF = 15 ∨ iF = 16 ∨ iF = 17 ∨ iF = 18 ∨ iF = 19 ∨ iF = 20 ∨ iF = 21 ∨ iF = 22 ∨ iF = 23 by omega) with rfl | rfl | rfl | rfl | rfl | rfl | rfl | rfl | rfl | rfl | rfl | rfl | rfl | rfl | rfl | rfl | rfl | rfl | rfl | rfl | rfl | rfl | rfl | rfl <;> obtain rfl := Option.some.inj ho
     all_goals first | exact absurd (show true = false from hw) (by simp) | skip
     ·exact ⟨rfl, rfl⟩
     ·exact ⟨rfl, rfl⟩
     ·exact ⟨rfl, rfl⟩
     ·exact ⟨rfl, rfl⟩
     ·exact ⟨rfl, rfl⟩
     ·exact ⟨rfl, rfl⟩
     ·exact ⟨rfl, rfl⟩
     ·exact ⟨rfl, rfl⟩
     ·exact ⟨rfl, rfl⟩
     ·exact ⟨rfl, rfl⟩
     ·exact ⟨rfl, rfl⟩
     ·exact ⟨rfl, rfl⟩
     ·exact ⟨rfl, rfl⟩
     ·exact ⟨rfl, rfl⟩
     ·exact ⟨rfl, rfl⟩
     ·exact ⟨rfl, rfl⟩
    case hpureA =>
     intro iF o hi hnm hww ho d x W hB hd hdn hnd hcl Kq hK
     rcases (show iF = 0 ∨ iF = 1 ∨ iF = 2 ∨ iF = 3 ∨ iF = 4 ∨ iF = 5 ∨ iF = 6 ∨ iF = 7 ∨ iF = 8 ∨ iF = 9 ∨ iF = 10 ∨ iF = 11 ∨ iF = 12 ∨ iF = 13 ∨ iF = 14 ∨ iF = 15 ∨ iF = 16 ∨ iF = 17 ∨ iF = 18 ∨ iF = 19 ∨ iF = 20 ∨ iF = 21 ∨ iF = 22 ∨ iF = 23 by omega) with rfl | rfl | rfl | rfl | rfl | rfl | rfl | rfl | rfl | rfl | rfl | rfl | rfl | rfl | rfl | rfl | rfl | rfl | rfl | rfl | rfl | rfl | rfl | rfl <;> obtain rfl := Option.some.inj ho
     all_goals first | exact absurd (show true = false from hnm) (by simp) | skip
     all_goals first | exact absurd (show false = true from hww) (by simp) | skip
     ·clear ho hd hdn hnd hcl hB hnm hi
      simp only [upd, reduceIte, Nat.reduceEqDiff] at hK
      try dsimp only
      go_simp
      exact hK _ rfl
     ·clear ho hd hdn hnd hcl hB hnm hi
      simp only [upd, reduceIte, Nat.reduceEqDiff] at hK
      try dsimp only
      go_simp
      exact hK _ rfl
     ·have e0 : x 0 = .slice (some ⟨b, off, none⟩) n c := hd 0 (by kernel_rfl) (by kernel_rfl)
      have e1 : x 1 = .int .i64 (j : Int) := hd 1 (by kernel_rfl) (by kernel_rfl)
      clear ho hd hdn hnd hcl hB hnm hi
      simp only [upd, reduceIte, Nat.reduceEqDiff, e0, e1] at hK
      try dsimp only
      go_simp
      exact hK _ rfl
     ·have e2 : x 2 = .pointer (some ⟨b, off + j * 11, none⟩) := hd 2 (by kernel_rfl) (by kernel_rfl)
      have hb := hB.1
      obtain ⟨c0, c1, c2, c3, c4, c5, c6, c7, c8, c9, c10⟩ := HEC.out
      have q0 := below_cell hb c0
      have q1 := below_cell hb c1
      have q2 := below_cell hb c2
      have q3 := below_cell hb c3
      have q4 := below_cell hb c4
      have q5 := below_cell hb c5
      have q6 := below_cell hb c6
      have q7 := below_cell hb c7
      have q8 := below_cell hb c8
      have q9 := below_cell hb c9
      have q10 := below_cell hb c10
      clear c0 c1 c2 c3 c4 c5 c6 c7 c8 c9 c10
      clear ho hd hdn hnd hcl hB hnm hi
      simp only [upd, reduceIte, Nat.reduceEqDiff, e2] at hK
      try dsimp only
      go_simp
      exact hK _ rfl
     ·have e4 : x 4 = .int .i64 K := hB.2 (hdn 4 (by kernel_rfl))
      clear ho hd hdn hnd hcl hB hnm hi
      simp only [upd, reduceIte, Nat.reduceEqDiff, e4] at hK
      try dsimp only
      try rw [e4]
      go_simp
      exact hK _ rfl
     ·have e5 : x 5 = .bool true := hd 5 (by kernel_rfl) (by kernel_rfl)
      clear ho hd hdn hnd hcl hB hnm hi
      simp only [upd, reduceIte, Nat.reduceEqDiff, e5] at hK
      try dsimp only
      go_simp
      exact hK _ rfl
     ·have e6 : x 6 = .bool true := hd 6 (by kernel_rfl) (by kernel_rfl)
      have e22 : x 22 = undef := hd 22 (by kernel_rfl) (by kernel_rfl)
      clear ho hd hdn hnd hcl hB hnm hi
      simp only [upd, reduceIte, Nat.reduceEqDiff, e6, e22] at hK
      try dsimp only
      go_simp
      exact hK _ rfl
    case hmemA =>
     intro iF o hi hmm ho d d' x W hB hd hdn hnd hdi hdi' hdm hcl Kq hK
     rcases (show iF = 0 ∨ iF = 1 ∨ iF = 2 ∨ iF = 3 ∨ iF = 4 ∨ iF = 5 ∨ iF = 6 ∨ iF = 7 ∨ iF = 8 ∨ iF = 9 ∨ iF = 10 ∨ iF = 11 ∨ iF = 12 ∨ iF = 13 ∨ iF = 14 ∨ iF = 15 ∨ iF = 16 ∨ iF = 17 ∨ iF = 18 ∨ iF = 19 ∨ iF = 20 ∨ iF = 21 ∨ iF = 22 ∨ iF = 23 by omega) with rfl | rfl | rfl | rfl | rfl | rfl | rfl | rfl | rfl | rfl | rfl | rfl | rfl | rfl | rfl | rfl | rfl | rfl | rfl | rfl | rfl | rfl | rfl | rfl <;> obtain rfl := Option.some.inj ho
     all_goals first | exact absurd (show false = true from hmm) (by simp) | skip
     ·have e3 : x 3 = .agg #[.int .i64 e.seq, .int .i64 e.time, .int .u8 e.cpu, .int .u8 e.kind, .int .i64 e.task, .int .i64 e.grp, .int .i64 e.to, .int .i64 e.wt, .int .i64 e.ticks, .int .u64 e.mask, .int .i64 e.got] := hd 3 (by kernel_rfl) (by kernel_rfl)
      obtain ⟨hb, h4⟩ := hB
      clear ho hd hdn hnd hcl hmm
      simp only [upd, reduceIte, Nat.reduceEqDiff, e3] at hK
      try dsimp only
      go_simp
      go_at_call 102
      refine (HCK.out W).mono ?_
      rintro r W2 ⟨rfl, bb⟩
      go_simp
      refine hK _ _ ?_
      try dsimp only
      rw [hdi']
      exact ⟨(bstep hb bb), fun _ => rfl⟩
    case hendA =>
     intro d x W hall hB hd
     obtain ⟨hb, h4⟩ := hB
     have ek := hd 23 (by omega) rfl
     clear hd hall h4
     try dsimp only
     rw [ek]
     clear ek
     generalize x 0 = y0
     generalize x 1 = y1
     generalize x 2 = y2
     generalize x 3 = y3
     generalize x 4 = y4
     generalize x 5 = y5
     generalize x 6 = y6
     generalize x 7 = y7
     generalize x 8 = y8
     generalize x 9 = y9
     generalize x 10 = y10
     generalize x 11 = y11
     generalize x 12 = y12
     generalize x 13 = y13
     generalize x 14 = y14
     generalize x 15 = y15
     generalize x 16 = y16
     generalize x 17 = y17
     generalize x 18 = y18
     generalize x 19 = y19
     generalize x 20 = y20
     generalize x 21 = y21
     generalize x 22 = y22
     have HB2 := Lib.hid (bstep HB.out hb)
     clear hb
     go_wp2
     go_ret
     exact ⟨false, rfl, ⟨fun h => (by cases h), fun h => absurd h HNO.out⟩, HB2.out⟩
  ·obtain rfl : n = j := by have := HJ.out; omega
   have HS2 := HP
   rw [← HN.out] at HS2
   go_wp2
   go_ret
   exact ⟨true, rfl, ⟨fun _ => HS2.out, fun _ => rfl⟩, HB.out⟩
end Go.Proofs.YtalophngappkhaaGreatDoor
