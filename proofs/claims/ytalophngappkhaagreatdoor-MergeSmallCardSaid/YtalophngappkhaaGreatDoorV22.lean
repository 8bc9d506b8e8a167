/- merge.Split | slices.Equal where both are the same, at events, runs and numbers; quantumlaw12's pick | Merging, in plain words: blocks that are right | quantumlaw12.awake: the end | quantumlaw12.awake: the walk of the end. -/
import Derived.Test.YtalophngappkhaaGreatDoorV21
import Derived.Test.YtalophngappkhaaGreatDoorV5
import Derived.Test.YtalophngappkhaaGreatDoorV8
set_option linter.unusedVariables false
set_option linter.unusedSimpArgs false
set_option linter.unusedSectionVars false
namespace Go.Proofs.YtalophngappkhaaGreatDoor
open Go.RowKit Go.Shelf
attribute [local go_sem] Oper.semAt_some

theorem chk_cpu {e : Ev} (h : EvOk e) (hc : chkEv e = 0) : ∃ q : Nat, e.cpu = (q : Int) ∧ q < 64 := by
 have := (chk_lim h hc)
 have h2 := h.cpu
 exact ⟨e.cpu.toNat, by omega, by omega⟩
theorem FS.b9 {w W : World} {Z bn B q : Nat} {A : Array Value} {P : Nat → List Ev} {e : Ev} {v9 v10 : Value} (h : FS w Z bn A P B q e false false false v9 v10 W) {m : Nat} (hm : W.heap.size = m) : FS w Z bn A P B q e true false false (.slice (some ⟨m, 0, none⟩) 1 1) v10 (W.alloc (.cells #[.int .i64 e.seq, .int .i64 e.time, .int .u8 e.cpu, .int .u8 e.kind, .int .i64 e.task, .int .i64 e.grp, .int .i64 e.to, .int .i64 e.wt, .int .i64 e.ticks, .int .u64 e.mask, .int .i64 e.got] 28)) := by
 subst hm
 have hb := bel_alloc W (.cells #[.int .i64 e.seq, .int .i64 e.time, .int .u8 e.cpu, .int .u8 e.kind, .int .i64 e.task, .int .i64 e.grp, .int .i64 e.to, .int .i64 e.wt, .int .i64 e.ticks, .int .u64 e.mask, .int .i64 e.got] 28)
 exact ⟨bstep h.bel hb, fun k => (h.ev k).below hb h.lt, Nat.lt_of_lt_of_le h.lt hb.size, fun a b => (h.fam a b).below hb, fun _ _ => EV.newL (xs := [e]) (n := 1) (c := 1) encE_len rfl rfl (Nat.le_refl _), fun k => (by cases k), fun k => (by cases k)⟩
theorem FS.app {w W W' : World} {Z bn B q : Nat} {A : Array Value} {P : Nat → List Ev} {e : Ev} {v9 v10 v : Value} (h : FS w Z bn A P B q e true false false v9 v10 W) (hz : w.heap.size ≤ bn) (hq : q < 64) (ho : OV encE 11 28 bn W' v (P q ++ [e])) (hg : W.grownBy W' (A.getD q undef).ownBlock) (ha : v.ownBlock = (A.getD q undef).ownBlock ∨ v.ownBlock = some W.heap.size)
  (hB : (A.getD q undef).ownBlock ≠ some B) : FS w Z bn A P B q e true true false v9 v W' := by
 have hf := h.fam rfl rfl
 refine ⟨h.bel.grown hg h.bel.size (fun g e => by have := ((hf.rows q hq).block g e).1; omega), fun k => (h.ev k).grown hg (fun e => hB e), Nat.lt_of_lt_of_le h.lt hg.size, fun k => (by cases k), fun _ k => (by cases k), fun _ _ => hf.app hq ho hg ha, fun k => (by cases k)⟩
theorem FamH.at {W : World} {Z bn q : Nat} {A : Array Value} {P : Nat → List Ev} {v : Value} {ys : List Ev} (h : FamH W Z bn A P q v ys) (hq : q < 64) : W.cell? ⟨Z, q, none⟩ = some (A.getD q undef) := by
 rw [cell_of_row W Z q _ _ _ h.cell, Array.getElem?_eq_getElem (by rw [h.sz]; exact hq), Array.getD_eq_getD_getElem?, Array.getElem?_eq_getElem (by rw [h.sz]; exact hq)]
 rfl
theorem FS.sto {w W : World} {Z bn B q : Nat} {A : Array Value} {P : Nat → List Ev} {e : Ev} {v9 v10 : Value} (h : FS w Z bn A P B q e true true false v9 v10 W) (hz : w.heap.size ≤ Z) (hq : q < 64) : FS w Z bn A P B q e true true true v9 v10 (W.setCell ⟨Z, q, none⟩ v10) := by
 have hm := Mod.setCell (a := W) (p := ⟨Z, q, none⟩) (T := fun k => k = Z) v10 rfl
 exact ⟨h.bel.trans (hm.below (B := w.heap.size) (fun k hk t => by omega) h.bel.size), fun k => (by cases k), by simpa using h.lt, fun k => (by cases k), fun _ k => (by cases k), fun _ k => (by cases k), fun _ => (h.a10 rfl rfl).sto hq⟩
set_option maxRecDepth 100000 in
set_option maxHeartbeats 6400000 in
theorem split_ok (w : World) (v : Value) (l : List Ev) (hv : EV encE 11 w v l) (ho : ∀ e ∈ l, EvOk e) (hL : l.length ≤ 100000000) (hU : UsesAt w) :
  Calls Tryz.prog 29 #[v] w fun r w' => Below w.heap.size w w' ∧ ((¬ RowM l ∧ r = .returned (.tuple #[.slice none 0 0, .int .i64 121])) ∨
   (RowM l ∧ ∃ Z A, r = .returned (.tuple #[.slice (some ⟨Z, 0, none⟩) 64 64, .int .i64 0]) ∧ w.heap.size ≤ Z ∧ Fam w' Z (Z + 1) A (cpuL l))) := by
 have HR := Lib.hid (mrow_ok w v l hv ho (by omega) hU)
 have HV := Lib.hid hv
 have HO := Lib.hid ho
 obtain ⟨Al, cl, hA⟩ := hv.shape
 subst hA
 obtain ⟨n, hn⟩ : ∃ n, l.length = n := ⟨_, rfl⟩
 have HN := Lib.hid hn
 rw [hn] at hL HV HR ⊢
 clear hv ho hU hn
 go_enter Tryz.func29, Tryz.ntmps29
 go_wp2_with fail
 refine HR.out.mono ?_
 rintro r w1 ⟨⟨b, rfl, hb⟩, b1⟩
 have HRW := Lib.hid hb
 have HB1 := Lib.hid b1
 clear hb b1 HR
 cases b with
 | false =>
  go_wp2
  go_ret2
  exact ⟨HB1.out, .inl ⟨fun h => absurd (HRW.out.2 h) (by simp), rfl⟩⟩
 | true =>
  have HROW := Lib.hid (HRW.out.1 rfl)
  have hmk := run_mkS (t := 41) Tryz.underlying41 rfl w1
  have HF := Lib.hid (Fam.new (W := w1) rfl)
  have HB2 := Lib.hid (bstep HB1.out (bel_alloc w1 (.cells (Array.replicate 64 (.slice none 0 0)) 22)))
  go_upto_region 4 with fail
  clear hmk HRW
  generalize w1.alloc (.cells (Array.replicate 64 (.slice none 0 0)) 22) = w2 at HF HB2 ⊢
  obtain ⟨Z, hZ⟩ : ∃ Z, w1.heap.size = Z := ⟨_, rfl⟩
  have HZ := Lib.hid (show w.heap.size ≤ Z by rw [← hZ]; exact HB1.out.size)
  rw [hZ] at HF ⊢
  obtain ⟨A0, hA0⟩ : ∃ A0, (Array.replicate 64 (Value.slice none 0 0)) = A0 := ⟨_, rfl⟩
  rw [hA0] at HF
  clear hZ HB1 hA0
  go_wp2
  go_loopg [13] n (fun k i wr => ∃ (j : Nat) (A : Array Value), j + k = n ∧ i = .int .i64 j ∧ Below w.heap.size w wr ∧ Fam wr Z (Z + 1) A (fun i => cpuL (l.take j) i))
  case atStart => exact ⟨0, A0, by omega, rfl, HB2.out, HF.out⟩
  clear HB2 HF
  case round =>
   obtain ⟨j, A, hj, rfl, hb, hf⟩ := hrel
   have HJ := Lib.hid hj
   have HB := Lib.hid hb
   have HF := Lib.hid hf
   clear hj hb hf
   by_cases hlt : j < n
   ·obtain ⟨b, off, c', hsl, hcc, hr⟩ := (HV.out.below HB.out).row (by rw [HN.out]; omega)
    rw [HN.out] at hsl
    cases hsl
    obtain ⟨e, hev⟩ : ∃ e, l[j]? = some e := ⟨_, List.getElem?_eq_getElem (by rw [HN.out]; exact hlt)⟩
    obtain ⟨g0, g1, g2, g3, g4, g5, g6, g7, g8, g9, g10⟩ := hr.ev hev
    have hem := List.mem_of_getElem? hev
    obtain ⟨q, hq, hq64⟩ := chk_cpu (HO.out e hem) (HROW.out.chk e hem)
    have HCT := Lib.hid (cpu_take hev hq)
    have HEV := Lib.hid (evp_new wr e)
    have HA := Lib.hid (bel_alloc wr (.cells #[.int .i64 e.seq, .int .i64 e.time, .int .u8 e.cpu, .int .u8 e.kind, .int .i64 e.task, .int .i64 e.grp, .int .i64 e.to, .int .i64 e.wt, .int .i64 e.ticks, .int .u64 e.mask, .int .i64 e.got] 28))
    have HQ := Lib.hid hq
    clear hr hcc hev hem hq
    go_upto_region 7 with fail
    obtain ⟨B, hB⟩ : ∃ B, wr.heap.size = B := ⟨_, rfl⟩
    have h1 := HEV.out
    have h2 := HA.out
    clear HEV HA g0 g1 g2 g3 g4 g5 g6 g7 g8 g9 g10
    generalize wr.alloc (.cells #[.int .i64 e.seq, .int .i64 e.time, .int .u8 e.cpu, .int .u8 e.kind, .int .i64 e.task, .int .i64 e.grp, .int .i64 e.to, .int .i64 e.wt, .int .i64 e.ticks, .int .u64 e.mask, .int .i64 e.got] 28) = wa at h1 h2 ⊢
    rw [hB] at h1 ⊢
    have HEV := Lib.hid h1
    have HB3 := Lib.hid (bstep HB.out h2)
    have HF3 := Lib.hid (HF.out.below h2)
    have HBZ := Lib.hid (show Z + 1 ≤ B by rw [← hB]; exact HF.out.zb.2)
    have HPL := Lib.hid (show (cpuL (l.take j) q).length ≤ j from Nat.le_trans (List.length_filter_le _ _) (by rw [List.length_take]; omega))
    have HWB := Lib.hid (fun g (k : (A.getD q undef).ownBlock = some g) => (show g < B from by rw [← hB]; exact ((HF.out.rows q hq64).block g k).2))
    have HZ1 := Lib.hid (show w.heap.size ≤ Z + 1 from Nat.le_succ_of_le HZ.out)
    clear h1 h2 HB HF hB
    obtain ⟨P, hP⟩ : ∃ P, (fun i => cpuL (l.take j) i) = P := ⟨_, rfl⟩
    rw [hP] at HF3
    have HPL2 := Lib.hid (show (P q).length ≤ j from by rw [← hP]; exact HPL.out)
    clear HPL
    obtain ⟨AQ, hAQ⟩ : ∃ AQ, A.getD q undef = AQ := ⟨_, rfl⟩
    have HAQ := Lib.hid hAQ
    have hqi : (q : Int) < 64 := by omega
    clear hAQ
    have HST := Lib.hid (fun (v9 v10 : Value) => show FS w Z (Z + 1) A P B q e false false false v9 v10 wa.drew from ⟨below_drew HB3.out, fun _ => HEV.out.below (below_drew (Below.refl _ _)) HEV.out.lt, HEV.out.lt, fun _ _ => HF3.out.below (below_drew (Below.refl _ _)), fun h => (by cases h), fun h => (by cases h), fun h => (by cases h)⟩)
    refine wp_region_dag (by kernel_rfl) 13 rfl (fun i => i == 9 || i == 10 || i == 12) (fun x => ⟨#[.slice (some ⟨b, off, none⟩) n cl, undef, .slice none 0 0, .int .i64 0, .slice (some ⟨Z, 0, none⟩) 64 64, undef, .pointer (some ⟨B, 0, none⟩), .slice (some ⟨b, off, none⟩) n cl, .bool true, .bool false, .slice (some ⟨Z, 0, none⟩) 64 64, .slice (some ⟨b, off, none⟩) n cl, .int .i64 (n : Nat), .int .i64 (j : Nat), .bool true, .pointer (some ⟨b, off + j * 11, none⟩), .agg #[.int .i64 e.seq, .int .i64 e.time, .int .u8 e.cpu, .int .u8 e.kind, .int .i64 e.task, .int .i64 e.grp, .int .i64 e.to, .int .i64 e.wt, .int .i64 e.ticks, .int .u64 e.mask, .int .i64 e.got], x 0, x 1, x 2, x 3, x 4, x 5, x 6, x 7, x 8, x 9, x 10, x 11, u29, undef], []⟩) (fun iF vF => match iF with | 0 => vF = .slice (some ⟨Z, 0, none⟩) 64 64 | 1 => vF = .pointer (some ⟨B, 2, none⟩) | 2 => vF = .int .u8 (q : Nat) | 3 => vF = .slice (some ⟨Z, 0, none⟩) 64 64 | 4 => vF = .pointer (some ⟨B, 2, none⟩) | 5 => vF = .int .u8 (q : Nat) | 6 => vF = .pointer (some ⟨Z, q, none⟩) | 7 => vF = AQ | 8 => vF = .agg #[.int .i64 e.seq, .int .i64 e.time, .int .u8 e.cpu, .int .u8 e.kind, .int .i64 e.task, .int .i64 e.grp, .int .i64 e.to, .int .i64 e.wt, .int .i64 e.ticks, .int .u64 e.mask, .int .i64 e.got] | 11 => vF = .pointer (some ⟨Z, q, none⟩) | _ => True)
     (fun d x W => FS w Z (Z + 1) A P B q e (d 9) (d 10) (d 12) (x 9) (x 10) W) ?hB (by kernel_rfl) (by kernel_rfl) ?hpure ?hmem ?hend (fun i => (#[u17, u18, u19, u20, u21, u22, u23, u24, u25, u26, u27, u28, undef] : Array Value).getD i undef) rfl ?hstart
    case hstart =>
     try dsimp only
     exact HST.out _ _
    case hB =>
     intro d d' x i v W hi hm h
     have g9 : ¬ 9 = i := by rintro rfl; exact absurd (show true = false from hi) (by simp)
     have e9 : d' 9 = d 9 := hm 9 rfl
     have g10 : ¬ 10 = i := by rintro rfl; exact absurd (show true = false from hi) (by simp)
     have e10 : d' 10 = d 10 := hm 10 rfl
     have g12 : ¬ 12 = i := by rintro rfl; exact absurd (show true = false from hi) (by simp)
     have e12 : d' 12 = d 12 := hm 12 rfl
     try dsimp only at h ⊢
     first | rw [upd_ne g9, upd_ne g10, upd_ne g12, e9, e10, e12] | simp only [upd_ne g9, upd_ne g10, upd_ne g12, e9, e10, e12]
     exact h
    case hpure =>
     intro iF o hi hnm ho d x W hB hd hdn hnd hcl Kq hK
     rcases (show iF = 0 ∨ iF = 1 ∨ iF = 2 ∨ iF = 3 ∨ iF = 4 ∨ iF = 5 ∨ iF = 6 ∨ iF = 7 ∨ iF = 8 ∨ iF = 9 ∨ iF = 10 ∨ iF = 11 ∨ iF = 12 by omega) with rfl | rfl | rfl | rfl | rfl | rfl | rfl | rfl | rfl | rfl | rfl | rfl | rfl <;> obtain rfl := Option.some.inj ho
     all_goals first | exact absurd (show true = false from hnm) (by simp) | skip
     ·clear ho hd hdn hnd hcl hB hnm hi
      simp only [upd, reduceIte, Nat.reduceEqDiff] at hK
      try dsimp only
      go_simp
      exact hK _ rfl
     ·clear ho hd hdn hnd hcl hB hnm hi
      simp only [upd, reduceIte, Nat.reduceEqDiff] at hK
      try dsimp only
      go_simp
      exact hK _ rfl
     ·have e1 : x 1 = .pointer (some ⟨B, 2, none⟩) := hd 1 (by kernel_rfl) (by kernel_rfl)
      have hm12 : d 12 = false := hnd 12 (by kernel_rfl)
      have c2 := (hB.ev hm12).c2
      rw [HQ.out] at c2
      clear ho hd hdn hnd hcl hB hnm hi
      simp only [upd, reduceIte, Nat.reduceEqDiff, e1] at hK
      try dsimp only
      go_simp
      exact hK _ rfl
     ·clear ho hd hdn hnd hcl hB hnm hi
      simp only [upd, reduceIte, Nat.reduceEqDiff] at hK
      try dsimp only
      go_simp
      exact hK _ rfl
     ·clear ho hd hdn hnd hcl hB hnm hi
      simp only [upd, reduceIte, Nat.reduceEqDiff] at hK
      try dsimp only
      go_simp
      exact hK _ rfl
     ·have e4 : x 4 = .pointer (some ⟨B, 2, none⟩) := hd 4 (by kernel_rfl) (by kernel_rfl)
      have hm12 : d 12 = false := hnd 12 (by kernel_rfl)
      have c2 := (hB.ev hm12).c2
      rw [HQ.out] at c2
      clear ho hd hdn hnd hcl hB hnm hi
      simp only [upd, reduceIte, Nat.reduceEqDiff, e4] at hK
      try dsimp only
      go_simp
      exact hK _ rfl
     ·have e3 : x 3 = .slice (some ⟨Z, 0, none⟩) 64 64 := hd 3 (by kernel_rfl) (by kernel_rfl)
      have e5 : x 5 = .int .u8 (q : Nat) := hd 5 (by kernel_rfl) (by kernel_rfl)
      clear ho hd hdn hnd hcl hB hnm hi
      simp only [upd, reduceIte, Nat.reduceEqDiff, e3, e5] at hK
      try dsimp only
      go_simp
      exact hK _ rfl
     ·have e6 : x 6 = .pointer (some ⟨Z, q, none⟩) := hd 6 (by kernel_rfl) (by kernel_rfl)
      have hm10 : d 10 = false := hnd 10 (by kernel_rfl)
      have hm12 : d 12 = false := notyet (i := 12) hcl (hnd 10 (by kernel_rfl)) (by kernel_rfl)
      have cz := (hB.fam hm10 hm12).at hq64
      rw [HAQ.out] at cz
      clear ho hd hdn hnd hcl hB hnm hi
      simp only [upd, reduceIte, Nat.reduceEqDiff, e6] at hK
      try dsimp only
      go_simp
      exact hK _ rfl
     ·have hm12 : d 12 = false := hnd 12 (by kernel_rfl)
      have hv8 := hB.ev hm12
      obtain ⟨c0, c1, c2, c3, c4, c5, c6, c7, c8, c9⟩ : _ ∧ _ ∧ _ ∧ _ ∧ _ ∧ _ ∧ _ ∧ _ ∧ _ ∧ _ := ⟨hv8.c0, hv8.c1, hv8.c2, hv8.c3, hv8.c4, hv8.c5, hv8.c6, hv8.c7, hv8.c8, hv8.c9⟩
      have c10 := hv8.c10
      clear hv8
      clear ho hd hdn hnd hcl hB hnm hi
      simp only [upd, reduceIte, Nat.reduceEqDiff] at hK
      try dsimp only
      go_simp
      exact hK _ rfl
     ·have e0 : x 0 = .slice (some ⟨Z, 0, none⟩) 64 64 := hd 0 (by kernel_rfl) (by kernel_rfl)
      have e2 : x 2 = .int .u8 (q : Nat) := hd 2 (by kernel_rfl) (by kernel_rfl)
      clear ho hd hdn hnd hcl hB hnm hi
      simp only [upd, reduceIte, Nat.reduceEqDiff, e0, e2] at hK
      try dsimp only
      go_simp
      exact hK _ rfl
    case hmem =>
     intro iF o hi hmm ho d d' x W hB hd hdn hnd hdi hdi' hdm hcl Kq hK
     rcases (show iF = 0 ∨ iF = 1 ∨ iF = 2 ∨ iF = 3 ∨ iF = 4 ∨ iF = 5 ∨ iF = 6 ∨ iF = 7 ∨ iF = 8 ∨ iF = 9 ∨ iF = 10 ∨ iF = 11 ∨ iF = 12 by omega) with rfl | rfl | rfl | rfl | rfl | rfl | rfl | rfl | rfl | rfl | rfl | rfl | rfl <;> obtain rfl := Option.some.inj ho
     all_goals first | exact absurd (show false = true from hmm) (by simp) | skip
     ·have e8 : x 8 = .agg #[.int .i64 e.seq, .int .i64 e.time, .int .u8 e.cpu, .int .u8 e.kind, .int .i64 e.task, .int .i64 e.grp, .int .i64 e.to, .int .i64 e.wt, .int .i64 e.ticks, .int .u64 e.mask, .int .i64 e.got] := hd 8 (by kernel_rfl) (by kernel_rfl)
      have dm10 : d' 10 = d 10 := hdm 10 (by omega)
      have dm12 : d' 12 = d 12 := hdm 12 (by omega)
      have dz10 : d 10 = false := hnd 10 (by kernel_rfl)
      have dz12 : d 12 = false := notyet (i := 12) hcl (hnd 10 (by kernel_rfl)) (by kernel_rfl)
      rw [hdi, dz10, dz12] at hB
      clear ho hd hdn hnd hcl hmm
      simp only [upd, reduceIte, Nat.reduceEqDiff, e8] at hK
      try dsimp only
      go_simp
      refine hK _ _ ?_
      try dsimp only
      rw [dm10, dm12, hdi', dz10, dz12]
      exact hB.b9 rfl
     ·have e7 : x 7 = AQ := hd 7 (by kernel_rfl) (by kernel_rfl)
      have dm9 : d' 9 = d 9 := hdm 9 (by omega)
      have dm12 : d' 12 = d 12 := hdm 12 (by omega)
      have dn9 : d 9 = true := hdn 9 (by kernel_rfl)
      have dz12 : d 12 = false := hnd 12 (by kernel_rfl)
      rw [dn9, hdi, dz12] at hB
      have hown := (hB.fam rfl rfl).rows q hq64
      rw [HAQ.out] at hown
      have hys := hB.a9 rfl rfl
      have hbs := (hB.fam rfl rfl).zb.2
      clear ho hd hdn hnd hcl hmm
      simp only [upd, reduceIte, Nat.reduceEqDiff, e7] at hK
      try dsimp only
      refine wp_app_at elemE encE_len encE_one (.tmp 24) (.tmp 26) rfl AQ (x 9) (by rw [← e7]; rfl) rfl hown hys (by have := HPL2.out; simp; omega) hbs ?_
      intro v1 w1 o1 g1 a1
      go_simp
      refine hK _ _ ?_
      try dsimp only
      rw [dm9, dm12, hdi', dn9, dz12]
      rw [← HAQ.out] at g1 a1
      exact hB.app HZ1.out hq64 o1 g1 a1 (fun e => by have := HWB.out _ e; omega)
     ·have e11 : x 11 = .pointer (some ⟨Z, q, none⟩) := hd 11 (by kernel_rfl) (by kernel_rfl)
      have dm9 : d' 9 = d 9 := hdm 9 (by omega)
      have dm10 : d' 10 = d 10 := hdm 10 (by omega)
      have dn9 : d 9 = true := hdn 9 (by kernel_rfl)
      have dn10 : d 10 = true := hdn 10 (by kernel_rfl)
      rw [dn9, dn10, hdi] at hB
      have hfh := hB.a10 rfl rfl
      have cz := hfh.at hq64
      have fz : W.frozen? ⟨Z, q, none⟩ = false := frozen_of_row W Z q _ _ hfh.cell
      obtain ⟨AA, ca, e10⟩ := (hfh.new.ev encE_len).shape
      obtain ⟨nn, hnn⟩ : ∃ nn, (P q ++ [e]).length = nn := ⟨_, rfl⟩
      rw [hnn] at e10
      clear hfh hnn
      clear ho hd hdn hnd hcl hmm
      simp only [upd, reduceIte, Nat.reduceEqDiff, e11, e10] at hK
      try dsimp only
      try rw [e10]
      go_simp
      refine hK undef _ ?_
      try dsimp only
      rw [dm9, dm10, hdi', dn9, dn10]
      have hs := hB.sto HZ.out hq64
      first | (rw [e10] at hs; exact hs) | (rw [e10] at hs ⊢; exact hs)
    case hend =>
     intro d x W hall hB hd
     have hdn9 := hall 9 (by omega)
     have hdn10 := hall 10 (by omega)
     have hdn12 := hall 12 (by omega)
     rw [hdn9, hdn10, hdn12] at hB
     have HFN := Lib.hid (hB.a12 rfl)
     have HBN := Lib.hid hB.bel
     clear hd hall hB hdn9 hdn10 hdn12
     try dsimp only
     generalize x 10 = v10 at HFN ⊢
     generalize x 0 = z0
     generalize x 1 = z1
     generalize x 2 = z2
     generalize x 3 = z3
     generalize x 4 = z4
     generalize x 5 = z5
     generalize x 6 = z6
     generalize x 7 = z7
     generalize x 8 = z8
     generalize x 9 = z9
     generalize x 11 = z11
     have HFN2 := Lib.hid (show Fam W Z (Z + 1) (A.setIfInBounds q v10) (fun i => cpuL (l.take (j + 1)) i) from by rw [HCT.out]; have := HFN.out; rw [← hP] at this; exact this)
     clear HFN
     go_wp2
     go_roundg (n - (j + 1))
     case measure => have := HJ.out; omega
     case rel => exact ⟨j + 1, _, by have := HJ.out; omega, by go_num, HBN.out, HFN2.out⟩
   ·obtain rfl : n = j := by have := HJ.out; omega
    go_wp2
    go_ret2
    refine ⟨HB.out, .inr ⟨HROW.out, Z, A, rfl, HZ.out, ?_⟩⟩
    have := HF.out
    rw [List.take_of_length_le (Nat.le_of_eq HN.out)] at this
    exact this
end Go.Proofs.YtalophngappkhaaGreatDoor
namespace Go.Proofs.YtalophngappkhaaGreatDoor
open Go Go.RowKit Go.Shelf
attribute [local go_sem] Oper.semAt_some

section
variable {w : World} {b off i : Nat}
theorem ER.i1x {l : List Int} (h : ER encI 1 w b off l) {x : Int} (hi : l[i]? = some x) : w.cell? ⟨b, off + i, none⟩ = some (.int .i64 x) := by
 have := h i x hi 0 _ rfl; simpa using this
end
set_option maxHeartbeats 1600000 in
theorem eq_int (w : World) (v1 v2 : Value) (xs : List (Int)) (h1 : EV encI 1 w v1 xs) (h2 : EV encI 1 w v2 xs) (b1 : xs.length ≤ 17592186044416) :
  Calls Tryz.prog 41 #[v1, v2] w fun e w' => e = .returned (.bool true) ∧ Below w.heap.size w w' := by
 rcases Nat.eq_zero_or_pos xs.length with h0 | h0
 ·obtain rfl : xs = [] := List.eq_nil_of_length_eq_zero h0
  obtain ⟨A, c, rfl⟩ := h1.shape
  obtain ⟨A', c', rfl⟩ := h2.shape
  clear h1 h2 h0 b1
  go_enter Tryz.func41, Tryz.ntmps41
  go_wp2
  refine wp_loop_rounds 1 ?_
  rw [rounds_succ]
  go_wp2
  go_ret
  exact ⟨rfl, Below.refl _ _⟩
 ·obtain ⟨b, off, c, rfl, hc, r1⟩ := h1.row h0
  obtain ⟨b', off', c', rfl, hc', r2⟩ := h2.row h0
  have R1 := Lib.hid r1; have R2 := Lib.hid r2
  obtain ⟨L, hL⟩ : ∃ L, xs.length = L := ⟨_, rfl⟩
  have HL := Lib.hid hL
  rw [hL] at b1 hc hc' ⊢
  clear r1 r2 h1 h2 h0 hL
  go_enter Tryz.func41, Tryz.ntmps41
  go_wp2
  go_loopg [13] L (fun k i wr => ∃ j : Nat, j + k = L ∧ i = .int .i64 j ∧ (∃ n, w.drewN n = wr))
  case atStart => exact ⟨0, by omega, rfl, ⟨0, rfl⟩⟩
  case round =>
   obtain ⟨j, hj, rfl, ⟨n, rfl⟩⟩ := hrel
   have HJ := Lib.hid hj
   clear hj
   by_cases hlt : j < L
   ·obtain ⟨x, hx⟩ : ∃ x, xs[j]? = some x := ⟨_, List.getElem?_eq_getElem (by rw [HL.out]; exact hlt)⟩
    have c0 := R1.out.i1x hx; have d0 := R2.out.i1x hx
    clear hx
    go_wp2
    go_quiet (fail)
    go_wp2
    go_roundg (gk - 1)
    case measure => have := HJ.out; omega
    case rel => exact ⟨j + 1, by have := HJ.out; omega, by go_num, (by first | exact ⟨_, rfl⟩ | exact dn2 _ _ _)⟩
   ·go_wp2
    go_ret
    exact ⟨rfl, below_drewN (Below.refl _ _) _⟩
set_option maxHeartbeats 1600000 in
theorem eq_run (w : World) (v1 v2 : Value) (xs : List (Int × Int)) (h1 : EV encP 2 w v1 xs) (h2 : EV encP 2 w v2 xs) (b1 : xs.length ≤ 17592186044416) :
  Calls Tryz.prog 38 #[v1, v2] w fun e w' => e = .returned (.bool true) ∧ Below w.heap.size w w' := by
 rcases Nat.eq_zero_or_pos xs.length with h0 | h0
 ·obtain rfl : xs = [] := List.eq_nil_of_length_eq_zero h0
  obtain ⟨A, c, rfl⟩ := h1.shape
  obtain ⟨A', c', rfl⟩ := h2.shape
  clear h1 h2 h0 b1
  go_enter Tryz.func38, Tryz.ntmps38
  go_wp2
  refine wp_loop_rounds 1 ?_
  rw [rounds_succ]
  go_wp2
  go_ret
  exact ⟨rfl, Below.refl _ _⟩
 ·obtain ⟨b, off, c, rfl, hc, r1⟩ := h1.row h0
  obtain ⟨b', off', c', rfl, hc', r2⟩ := h2.row h0
  have R1 := Lib.hid r1; have R2 := Lib.hid r2
  obtain ⟨L, hL⟩ : ∃ L, xs.length = L := ⟨_, rfl⟩
  have HL := Lib.hid hL
  rw [hL] at b1 hc hc' ⊢
  clear r1 r2 h1 h2 h0 hL
  go_enter Tryz.func38, Tryz.ntmps38
  go_wp2
  go_loopg [13] L (fun k i wr => ∃ j : Nat, j + k = L ∧ i = .int .i64 j ∧ (∃ n, w.drewN n = wr))
  case atStart => exact ⟨0, by omega, rfl, ⟨0, rfl⟩⟩
  case round =>
   obtain ⟨j, hj, rfl, ⟨n, rfl⟩⟩ := hrel
   have HJ := Lib.hid hj
   clear hj
   by_cases hlt : j < L
   ·obtain ⟨x, hx⟩ : ∃ x, xs[j]? = some x := ⟨_, List.getElem?_eq_getElem (by rw [HL.out]; exact hlt)⟩
    obtain ⟨c0, c1⟩ := R1.out.prs hx; obtain ⟨d0, d1⟩ := R2.out.prs hx
    clear hx
    go_wp2
    go_quiet (fail)
    go_wp2
    go_roundg (gk - 1)
    case measure => have := HJ.out; omega
    case rel => exact ⟨j + 1, by have := HJ.out; omega, by go_num, (by first | exact ⟨_, rfl⟩ | exact dn2 _ _ _)⟩
   ·go_wp2
    go_ret
    exact ⟨rfl, below_drewN (Below.refl _ _) _⟩
set_option maxHeartbeats 1600000 in
theorem eq_ev (w : World) (v1 v2 : Value) (xs : List (Ev)) (h1 : EV encE 11 w v1 xs) (h2 : EV encE 11 w v2 xs) (b1 : xs.length ≤ 17592186044416) :
  Calls Tryz.prog 35 #[v1, v2] w fun e w' => e = .returned (.bool true) ∧ Below w.heap.size w w' := by
 rcases Nat.eq_zero_or_pos xs.length with h0 | h0
 ·obtain rfl : xs = [] := List.eq_nil_of_length_eq_zero h0
  obtain ⟨A, c, rfl⟩ := h1.shape
  obtain ⟨A', c', rfl⟩ := h2.shape
  clear h1 h2 h0 b1
  go_enter Tryz.func35, Tryz.ntmps35
  go_wp2
  refine wp_loop_rounds 1 ?_
  rw [rounds_succ]
  go_wp2
  go_ret
  exact ⟨rfl, Below.refl _ _⟩
 ·obtain ⟨b, off, c, rfl, hc, r1⟩ := h1.row h0
  obtain ⟨b', off', c', rfl, hc', r2⟩ := h2.row h0
  have R1 := Lib.hid r1; have R2 := Lib.hid r2
  obtain ⟨L, hL⟩ : ∃ L, xs.length = L := ⟨_, rfl⟩
  have HL := Lib.hid hL
  rw [hL] at b1 hc hc' ⊢
  clear r1 r2 h1 h2 h0 hL
  go_enter Tryz.func35, Tryz.ntmps35
  go_wp2
  go_loopg [13] L (fun k i wr => ∃ j : Nat, j + k = L ∧ i = .int .i64 j ∧ (∃ n, w.drewN n = wr))
  case atStart => exact ⟨0, by omega, rfl, ⟨0, rfl⟩⟩
  case round =>
   obtain ⟨j, hj, rfl, ⟨n, rfl⟩⟩ := hrel
   have HJ := Lib.hid hj
   clear hj
   by_cases hlt : j < L
   ·obtain ⟨x, hx⟩ : ∃ x, xs[j]? = some x := ⟨_, List.getElem?_eq_getElem (by rw [HL.out]; exact hlt)⟩
    obtain ⟨c0, c1, c2, c3, c4, c5, c6, c7, c8, c9, c10⟩ := R1.out.ev hx; obtain ⟨d0, d1, d2, d3, d4, d5, d6, d7, d8, d9, d10⟩ := R2.out.ev hx
    clear hx
    go_wp2
    go_quiet (fail)
    go_wp2
    go_roundg (gk - 1)
    case measure => have := HJ.out; omega
    case rel => exact ⟨j + 1, by have := HJ.out; omega, by go_num, (by first | exact ⟨_, rfl⟩ | exact dn2 _ _ _)⟩
   ·go_wp2
    go_ret
    exact ⟨rfl, below_drewN (Below.refl _ _) _⟩
theorem eqe_lit (w : World) (r : Value) (xs ys : List Ev) (n m : Nat) (cs : Array Value) (h : EV encE 11 w r xs) (hm : w.heap.size = m) (hcs : cs.toList = ys.flatMap encE) (hn : ys.length = n) (hy : n ≤ 1000) (he : xs = ys) :
  Calls Tryz.prog 35 #[r, .slice (some ⟨m, 0, none⟩) n n] (w.alloc (.cells cs 28)) fun e w' => e = .returned (.bool true) ∧ Below w.heap.size w w' := by
 subst he
 exact (eq_ev _ r _ xs (h.below (bel_alloc _ _)) (EV.newM encE_len hcs hn hm) (by omega)).mono fun e w' h => ⟨h.1, (bel_alloc _ _).trans (h.2.mono (by simp))⟩
theorem results_cell1 {fn : Func} {p : Tmp} {ty : TypeId} (h : fn.results = #[.cell p ty]) (tmps : Array Value) (P : Program) (w : World) {Y : Nat} {v : Value} (ht : tmps.getD p undef = .pointer (some ⟨Y, 0, none⟩))
  (hl : (loadVar ty ⟨Y, 0, none⟩).run P w = .ok v w) : (results fn tmps).run P w = .ok v w := by
 have ht' : tmps[p]?.getD undef = .pointer (some ⟨Y, 0, none⟩) := by simpa using ht
 simp [results, h, Sem.run_bind, ht', asAddr, hl, Result.andThen]
theorem load_ev {w : World} {Y : Nat} {e : Ev} (h : w.heap[Y]? = some (.cells (encE e).toArray 28 (0, 0))) : (loadVar 28 ⟨Y, 0, none⟩).run Tryz.prog w = .ok (evA e) w := by
 have h1 : (isAgg 28).run Tryz.prog w = .ok true w := by kernel_rfl
 have h2 : (Go.sizeOf 28).run Tryz.prog w = .ok 11 w := by kernel_rfl
 have q : ∀ (j : Nat) (u : Value), (encE e)[j]? = some u → w.cell? ⟨Y, j, none⟩ = some u := fun j u hu => by rw [World.cell?, h]; simpa using hu
 have q0 := q 0 _ rfl
 have q1 := q 1 _ rfl
 have q2 := q 2 _ rfl
 have q3 := q 3 _ rfl
 have q4 := q 4 _ rfl
 have q5 := q 5 _ rfl
 have q6 := q 6 _ rfl
 have q7 := q 7 _ rfl
 have q8 := q 8 _ rfl
 have q9 := q 9 _ rfl
 have q10 := q 10 _ rfl
 clear q h
 unfold loadVar
 simp [Sem.run_bind, h1, h2, Result.andThen, loadCells, loadCellsFrom, go_sem, q0, q1, q2, q3, q4, q5, q6, q7, q8, q9, q10, evA]
def pickE (n c : Int) : Ev := ⟨n, 0, c, 6, 0, 0, 0, 0, 0, 0, 0⟩
theorem pick_ok (w : World) (n c : Int) : Calls Tryz.prog 14 #[.int .i64 n, .int .u8 c] w fun e w' => e = .returned (evA (pickE n c)) ∧ Below w.heap.size w w' := by
 go_enter Tryz.func14, Tryz.ntmps14
 go_wp2
 exact bodyPost_ret (v := evA (pickE n c)) (results_cell1 rfl _ _ _ rfl (load_ev (e := pickE n c) (World.alloc_heap_new w _))) rfl ⟨rfl, bel_alloc _ _⟩
def bkA : Bck := ⟨1, 0, 0, 0, [pickE 1 0, pickE 4 0]⟩
def bkB : Bck := ⟨1, 1, 2, 0, [pickE 2 1, pickE 7 1]⟩
def bkE (n : Int) : Bck := ⟨2, 0, 0, n, []⟩
theorem lit3 {W : World} {m base : Nat} {va vb : Value} (hm : W.heap.size = m) (hb : base ≤ m) : OV encBk 5 24 base (W.alloc (.cells #[.int .u8 1, .int .u8 0, .int .i64 0, .int .i64 0, va, .int .u8 1, .int .u8 1, .int .i64 2, .int .i64 0, vb, .int .u8 2, .int .u8 0, .int .i64 0, .int .i64 8, .slice none 0 0] 24)) (.slice (some ⟨m, 0, none⟩) 3 3) [(va, bkA), (vb, bkB), (.slice none 0 0, bkE 8)] := by
 subst hm
 exact OV.lit W _ 3 hb (by decide) rfl rfl rfl
set_option maxHeartbeats 1600000 in
theorem example_ok (w : World) : Calls Tryz.prog 53 #[] w fun e w' => ∃ v va vb, e = .returned v ∧ OV encBk 5 24 w.heap.size w' v [(va, bkA), (vb, bkB), (.slice none 0 0, bkE 8)] ∧ OV encE 11 28 w.heap.size w' va [pickE 1 0, pickE 4 0] ∧ OV encE 11 28 w.heap.size w' vb [pickE 2 1, pickE 7 1] ∧ Below w.heap.size w w' := by
 have F1 := Lib.hid (fun W => pick_ok W 1 0)
 have F2 := Lib.hid (fun W => pick_ok W 4 0)
 have F3 := Lib.hid (fun W => pick_ok W 2 1)
 have F4 := Lib.hid (fun W => pick_ok W 7 1)
 unfold evA pickE at F1 F2 F3 F4
 dsimp only at F1 F2 F3 F4
 go_enter Tryz.func53, Tryz.ntmps53
 go_wp2_with fail
 refine (F1.out _).mono ?_
 rintro r w1 ⟨rfl, b1⟩
 go_wp2_with fail
 refine (F2.out _).mono ?_
 rintro r w2 ⟨rfl, b2⟩
 have h2 := b1.trans (b2.mono b1.size)
 have e1 : OV encE 11 28 w.heap.size (w2.alloc (.cells #[.int .i64 1, .int .i64 0, .int .u8 0, .int .u8 6, .int .i64 0, .int .i64 0, .int .i64 0, .int .i64 0, .int .i64 0, .int .u64 0, .int .i64 0, .int .i64 4, .int .i64 0, .int .u8 0, .int .u8 6, .int .i64 0, .int .i64 0, .int .i64 0, .int .i64 0, .int .i64 0, .int .u64 0, .int .i64 0] 28)) (.slice (some ⟨w2.heap.size, 0, none⟩) 2 2) [pickE 1 0, pickE 4 0] := OV.lit w2 _ 2 h2.size (by decide) rfl rfl rfl
 have b3 := bel_alloc w2 (.cells #[.int .i64 1, .int .i64 0, .int .u8 0, .int .u8 6, .int .i64 0, .int .i64 0, .int .i64 0, .int .i64 0, .int .i64 0, .int .u64 0, .int .i64 0, .int .i64 4, .int .i64 0, .int .u8 0, .int .u8 6, .int .i64 0, .int .i64 0, .int .i64 0, .int .i64 0, .int .i64 0, .int .u64 0, .int .i64 0] 28)
 have E1 := Lib.hid e1
 have H3 := Lib.hid (h2.trans (b3.mono h2.size))
 clear b1 b2 h2 e1 b3
 go_wp2_with fail
 refine (F3.out _).mono ?_
 rintro r w4 ⟨rfl, b4⟩
 have E4 := Lib.hid (E1.out.below b4)
 have H4 := Lib.hid (bstep H3.out b4)
 clear b4 E1 H3
 go_wp2_with fail
 refine (F4.out _).mono ?_
 rintro r w5 ⟨rfl, b5⟩
 have e5 := E4.out.below b5
 have h5 := bstep H4.out b5
 have e6 : OV encE 11 28 w.heap.size (w5.alloc (.cells #[.int .i64 2, .int .i64 0, .int .u8 1, .int .u8 6, .int .i64 0, .int .i64 0, .int .i64 0, .int .i64 0, .int .i64 0, .int .u64 0, .int .i64 0, .int .i64 7, .int .i64 0, .int .u8 1, .int .u8 6, .int .i64 0, .int .i64 0, .int .i64 0, .int .i64 0, .int .i64 0, .int .u64 0, .int .i64 0] 28)) (.slice (some ⟨w5.heap.size, 0, none⟩) 2 2) [pickE 2 1, pickE 7 1] := OV.lit w5 _ 2 h5.size (by decide) rfl rfl rfl
 have b6 := bel_alloc w5 (.cells #[.int .i64 2, .int .i64 0, .int .u8 1, .int .u8 6, .int .i64 0, .int .i64 0, .int .i64 0, .int .i64 0, .int .i64 0, .int .u64 0, .int .i64 0, .int .i64 7, .int .i64 0, .int .u8 1, .int .u8 6, .int .i64 0, .int .i64 0, .int .i64 0, .int .i64 0, .int .i64 0, .int .u64 0, .int .i64 0] 28)
 have E5 := Lib.hid (e5.below b6)
 have E6 := Lib.hid e6
 have H6 := Lib.hid (bstep h5 b6)
 clear b5 e5 h5 e6 b6 E4 H4
 go_wp2
 go_ret
 refine ⟨_, _, _, rfl, lit3 (by simp) (by have := H6.out.size; simp at this; omega), E5.out.below (bel_alloc _ _), E6.out.below (bel_alloc _ _), bstep H6.out (bel_alloc _ _)⟩
end Go.Proofs.YtalophngappkhaaGreatDoor
namespace Go.Proofs.YtalophngappkhaaGreatDoor
open Go Go.RowKit Go.Shelf

theorem mrg_of {bs : List Bck} {m : Mg} {c : Int} (h : MrgRes bs m c) (hl : bs.length ≤ 4096) (hck : ∀ b ∈ bs, chkB b = 0) {R : List Ev} {T : List Int} (hj : JoinRes (bs.flatMap Bck.evs) R T 0) : c = 0 ∧ m = mgOf bs R T := by
 rcases h with ⟨h1, _⟩ | ⟨_, ⟨i, b, hb, _, hne, _⟩, _⟩ | ⟨_, _, R', T', hj', _, hm⟩
 ·omega
 ·exact absurd (hck b (List.mem_of_getElem? hb)) hne
 ·obtain ⟨rfl, rfl, rfl⟩ := hj'.unique hj
  exact ⟨rfl, hm rfl⟩
theorem seq_inj {R : List Ev} (hs : R.Pairwise (fun a b => a.seq < b.seq)) : ∀ a ∈ R, ∀ b ∈ R, a.seq = b.seq → a = b := by
 induction R with
 | nil => intro a ha; cases ha
 | cons x l ih =>
  obtain ⟨h1, h2⟩ := List.pairwise_cons.1 hs
  intro a ha b hb hab
  rcases List.mem_cons.1 ha with ea | ha' <;> rcases List.mem_cons.1 hb with eb | hb'
  ·rw [ea, eb]
  ·subst ea; have := h1 b hb'; omega
  ·subst eb; have := h1 a ha'; omega
  ·exact ih h2 a ha' b hb' hab
theorem cntS_strict {R : List Ev} (hs : R.Pairwise (fun a b => a.seq < b.seq)) (n : Int) : cntS R n ≤ 1 := by
 induction R with
 | nil => exact Nat.zero_le _
 | cons x l ih =>
  obtain ⟨h1, h2⟩ := List.pairwise_cons.1 hs
  unfold cntS at ih ⊢
  rw [List.countP_cons]
  by_cases hx : x.seq = n
  ·have h0 : l.countP (fun e => decide (e.seq = n)) = 0 := by
    rw [List.countP_eq_zero]
    intro y hy
    have := h1 y hy
    simp; omega
   rw [h0]; split <;> omega
  ·have := ih h2
   simp [hx]; exact this
theorem join_perm {l R : List Ev} (hp : R.Perm l) (hs : R.Pairwise (fun a b => a.seq < b.seq)) (hl : l.length ≤ 65535) : JoinRes l R [] 0 := by
 refine .inr (.inr ⟨hl, ?_, rfl, hs, fun e => hp.mem_iff, List.Pairwise.nil, fun n => ⟨fun h => (by cases h), fun h => ?_⟩, ⟨Nat.le_of_eq hp.length_eq, Nat.zero_le _⟩⟩)
 ·rintro ⟨a, ha, b, hb, hab, hne⟩
  exact hne (seq_inj hs a (hp.mem_iff.2 ha) b (hp.mem_iff.2 hb) hab)
 ·have h1 := cntS_strict hs n
  have h2 : cntS R n = cntS l n := hp.countP_eq _
  omega
theorem chkB_small {b : Bck} (ho : BlkOk b) (hf : FitsB b) (hl : b.evs.length ≤ 65) : chkB b = 0 := by
 have := body_len ho (by omega) hf
 unfold chkB
 rw [if_pos hf, if_neg (by omega)]
theorem pick_evok {n c : Int} (hn : 0 ≤ n ∧ n ≤ 281474976710656) (hc : 0 ≤ c ∧ c ≤ 255) : EvOk (pickE n c) := by
 constructor <;> (unfold pickE; dsimp only; omega)
theorem bkA_ok : BlkOk bkA ∧ chkB bkA = 0 := by
 have ho : BlkOk bkA := ⟨by decide, by decide, by decide, by decide, fun e he => by
  simp only [bkA, List.mem_cons, List.not_mem_nil, or_false] at he
  rcases he with rfl | rfl <;> exact pick_evok (by omega) (by omega)⟩
 exact ⟨ho, chkB_small ho (.inl ⟨rfl, by decide, by decide, by decide, by decide, rfl, fun h => (by cases h), fun e l h => by cases h; rfl⟩) (by decide)⟩
theorem bkB_ok : BlkOk bkB ∧ chkB bkB = 0 := by
 have ho : BlkOk bkB := ⟨by decide, by decide, by decide, by decide, fun e he => by
  simp only [bkB, List.mem_cons, List.not_mem_nil, or_false] at he
  rcases he with rfl | rfl <;> exact pick_evok (by omega) (by omega)⟩
 exact ⟨ho, chkB_small ho (.inl ⟨rfl, by decide, by decide, by decide, by decide, rfl, fun h => (by cases h), fun e l h => by cases h; rfl⟩) (by decide)⟩
theorem bkE_ok {n : Int} (h1 : 1 ≤ n) (h2 : n ≤ 281474976710657) : BlkOk (bkE n) ∧ chkB (bkE n) = 0 := by
 have ho : BlkOk (bkE n) := ⟨by show (0 : Int) ≤ 2 ∧ (2 : Int) ≤ 255; omega, by show (0 : Int) ≤ 0 ∧ (0 : Int) ≤ 255; omega, by show _ ≤ (0 : Int) ∧ (0 : Int) ≤ _; omega, by show _ ≤ n ∧ n ≤ _; omega, fun e he => by cases he⟩
 exact ⟨ho, chkB_small ho (.inr ⟨rfl, h1, h2, rfl, rfl, rfl⟩) (Nat.zero_le _)⟩
def exR : List Ev := [pickE 1 0, pickE 2 1, pickE 4 0, pickE 7 1]
theorem srtI_sorted {ns : List Int} (h : ns.Pairwise (· ≤ ·)) : srtI ns = ns := by
 unfold srtI
 apply List.mergeSort_of_pairwise
 simpa using h
theorem gaps_of {R : List Ev} {next : Int} (h : (seqsL R).Pairwise (· ≤ ·)) : gapsOf R next = missL (if ofE (seqsL R) = 0 then (ofS (seqsL R)).set else []) 1 next := by
 unfold gapsOf ofL
 rw [srtI_sorted h]
theorem ex_gaps8 : gapsOf exR 8 = [(3, 1), (5, 2)] := by rw [gaps_of (by decide)]; decide
theorem ex_gaps9 : gapsOf exR 9 = [(3, 1), (5, 2), (8, 1)] := by rw [gaps_of (by decide)]; decide
theorem ex_gaps0 : gapsOf [] 1 = [] := by rw [gaps_of (by decide)]; decide
end Go.Proofs.YtalophngappkhaaGreatDoor
namespace Go.Proofs.YtalophngappkhaaGreatDoor
open Go Go.RowKit Go.Shelf
attribute [local go_sem] Oper.semAt_some

/-- merge.Blocks, where it is known what comes out. -/
theorem blocks_good (w : World) (v : Value) (bs : List (Value × Bck)) (hv : BksS w v bs) (ho : ∀ x ∈ bs, BlkOk x.2) (hl : ∀ x ∈ bs, x.2.evs.length ≤ 100000) (hn : bs.length ≤ 1000000) (hT : (flatR (rowsB bs)).length ≤ 100000000) (hla : LaidAt w) (M : Mg) (c : Int) (hres : ∀ m c', MrgRes (bs.map Prod.snd) m c' → c' = c ∧ m = M) :
  Calls Tryz.prog 23 #[v] w fun r w' => ∃ A1 n1 c1 A2 n2 c2 A3 n3 c3, r = .returned (.tuple #[mgA (.slice A1 n1 c1) (.slice A2 n2 c2) (.slice A3 n3 c3) M.lost M.next M.opn, .int .i64 c]) ∧ OV encE 11 28 w.heap.size w' (.slice A1 n1 c1) M.evs ∧ OV encI 1 3 w.heap.size w' (.slice A2 n2 c2) M.tw ∧ OV encP 2 34 w.heap.size w' (.slice A3 n3 c3) M.gaps ∧ Below w.heap.size w w' := by
 refine (blocks_ok w v bs hv ho hl hn hT hla).mono ?_
 rintro r w' ⟨ve, vt, vg, m, c', rfl, hm, h1, h2, h3, h4⟩
 obtain ⟨rfl, rfl⟩ := hres m c' hm
 obtain ⟨A1, c1, e1⟩ := (h1.ev encE_len).shape
 obtain ⟨A2, c2, e2⟩ := (h2.ev encI_len).shape
 obtain ⟨A3, c3, e3⟩ := (h3.ev encP_len).shape
 rw [e1] at h1 ⊢
 rw [e2] at h2 ⊢
 rw [e3] at h3 ⊢
 exact ⟨_, _, _, _, _, _, _, _, _, rfl, h1, h2, h3, h4⟩
theorem EV.nlen {α : Type} {enc : α → List Value} {k : Nat} {w : World} {A : Option Addr} {n c : Nat} {xs : List α} (h : EV enc k w (.slice A n c) xs) : n = xs.length := by
 obtain ⟨A', c', e⟩ := h.shape
 simp only [Value.slice.injEq] at e
 exact e.2.1
/-- What the example's blocks are. -/
structure AB (w W : World) (v va vb : Value) (n : Int) : Prop where
 bel : Below w.heap.size w W
 bks : OV encBk 5 24 w.heap.size W v [(va, bkA), (vb, bkB), (.slice none 0 0, bkE n)]
 ea : OV encE 11 28 w.heap.size W va [pickE 1 0, pickE 4 0]
 eb : OV encE 11 28 w.heap.size W vb [pickE 2 1, pickE 7 1]
theorem AB.below {w W W' : World} {v va vb : Value} {n : Int} (h : AB w W v va vb n) (hb : Below W.heap.size W W') : AB w W' v va vb n := ⟨bstep h.bel hb, h.bks.below hb, h.ea.below hb, h.eb.below hb⟩
theorem EV.nilv {α : Type} {enc : α → List Value} {k : Nat} {w : World} {A : Option Addr} {c : Nat} : EV enc k w (.slice A 0 c) [] := .inl ⟨rfl, A, c, rfl⟩
theorem AB.s3 {w W : World} {v va vb : Value} {n : Int} (h : AB w W v va vb n) : BksS W v [(va, bkA), (vb, bkB), (.slice none 0 0, bkE n)] :=
 ⟨h.bks.ev encBk_len, fun x hx => by
  simp only [List.mem_cons, List.not_mem_nil, or_false] at hx
  rcases hx with rfl | rfl | rfl
  ·exact h.ea.ev encE_len
  ·exact h.eb.ev encE_len
  ·exact EV.nilv⟩
theorem AB.cell {w W : World} {g cp : Nat} {va vb : Value} {n : Int} (h : AB w W (.slice (some ⟨g, 0, none⟩) 3 cp) va vb n) : W.cell? ⟨g, 13, none⟩ = some (.int .i64 n) ∧ W.frozen? ⟨g, 13, none⟩ = false := by
 refine ⟨?_, h.bks.frz rfl 13⟩
 obtain ⟨b, o, c, hsl, _, hr⟩ := h.s3.row.row (by simp)
 simp only [Value.slice.injEq, Option.some.injEq, Addr.mk.injEq, and_true] at hsl
 obtain ⟨⟨rfl, rfl⟩, _⟩ := hsl
 have := (hr.bk (i := 2) rfl).2.2.2.1
 simpa [bkE] using this
theorem AB.set {w W : World} {g cp : Nat} {va vb : Value} {n : Int} (h : AB w W (.slice (some ⟨g, 0, none⟩) 3 cp) va vb n) (m : Int) : AB w (W.setCell ⟨g, 13, none⟩ (.int .i64 m)) (.slice (some ⟨g, 0, none⟩) 3 cp) va vb m := by
 obtain ⟨h1, h2⟩ := OV.setF encBk_len h.bks rfl (i := 2) (j := 3) (x := (.slice none 0 0, bkE n)) rfl (by omega) (.slice none 0 0, bkE m) (.int .i64 m) rfl
 have hg := (h.bks.block g rfl).1
 exact ⟨h.bel.grown h2 h.bel.size (fun k e => by cases e; exact hg), h1, h.ea.keep h2 (h.ea.ne h.bks (by decide)), h.eb.keep h2 (h.eb.ne h.bks (by decide))⟩
/-- The box of what is merged, with its slices. -/
structure MB (W : World) (X : Nat) (ve vt vg : Value) (m : Mg) : Prop where
 box : MgBox W X ve vt vg m.lost m.next m.opn
 ee : EV encE 11 W ve m.evs
 et : EV encI 1 W vt m.tw
 eg : EV encP 2 W vg m.gaps
theorem MB.below {W W' : World} {X : Nat} {ve vt vg : Value} {m : Mg} (h : MB W X ve vt vg m) (hb : Below W.heap.size W W') : MB W' X ve vt vg m := ⟨h.box.below hb, h.ee.below hb, h.et.below hb, h.eg.below hb⟩
theorem all_ok {n : Int} (h1 : 1 ≤ n) (h2 : n ≤ 281474976710657) {va vb vc : Value} : ∀ x ∈ [(va, bkA), (vb, bkB), (vc, bkE n)], BlkOk x.2 ∧ chkB x.2 = 0 ∧ x.2.evs.length ≤ 100000 := by
 intro x hx
 simp only [List.mem_cons, List.not_mem_nil, or_false] at hx
 rcases hx with rfl | rfl | rfl
 ·exact ⟨bkA_ok.1, bkA_ok.2, show bkA.evs.length ≤ 100000 by decide⟩
 ·exact ⟨bkB_ok.1, bkB_ok.2, show bkB.evs.length ≤ 100000 by decide⟩
 ·exact ⟨(bkE_ok h1 h2).1, (bkE_ok h1 h2).2, Nat.zero_le _⟩
theorem ex_join {n : Int} : JoinRes ([bkA, bkB, bkE n].flatMap Bck.evs) exR [] 0 :=
 join_perm (l := [pickE 1 0, pickE 4 0, pickE 2 1, pickE 7 1]) (by decide) (by decide) (by decide)
theorem ex_join2 : JoinRes ([bkA, bkB].flatMap Bck.evs) exR [] 0 :=
 join_perm (show exR.Perm [pickE 1 0, pickE 4 0, pickE 2 1, pickE 7 1] by decide) (by decide) (by decide)
def exM (gaps : List (Int × Int)) (next : Int) (opn : Bool) : Mg := ⟨exR, [], gaps, 2, next, opn⟩
theorem ex_res8 {m : Mg} {c : Int} (h : MrgRes [bkA, bkB, bkE 8] m c) : c = 0 ∧ m = exM [(3, 1), (5, 2)] 8 false := by
 obtain ⟨h1, h2⟩ := mrg_of h (by simp) (fun b hb => by
  simp only [List.mem_cons, List.not_mem_nil, or_false] at hb
  rcases hb with rfl | rfl | rfl
  ·exact bkA_ok.2
  ·exact bkB_ok.2
  ·exact (bkE_ok (by omega) (by omega)).2) ex_join
 refine ⟨h1, ?_⟩
 rw [h2]
 have e : max (nxtS exR) (endB [bkA, bkB, bkE 8]) = 8 := by decide
 have e2 : lostB [bkA, bkB, bkE 8] = 2 := by decide
 have e3 : endB [bkA, bkB, bkE 8] = 8 := by decide
 unfold mgOf exM
 rw [e, e2, e3, ex_gaps8]
 rfl
theorem ex_res9 {m : Mg} {c : Int} (h : MrgRes [bkA, bkB, bkE 9] m c) : c = 0 ∧ m = exM [(3, 1), (5, 2), (8, 1)] 9 false := by
 obtain ⟨h1, h2⟩ := mrg_of h (by simp) (fun b hb => by
  simp only [List.mem_cons, List.not_mem_nil, or_false] at hb
  rcases hb with rfl | rfl | rfl
  ·exact bkA_ok.2
  ·exact bkB_ok.2
  ·exact (bkE_ok (by omega) (by omega)).2) ex_join
 refine ⟨h1, ?_⟩
 rw [h2]
 have e : max (nxtS exR) (endB [bkA, bkB, bkE 9]) = 9 := by decide
 have e2 : lostB [bkA, bkB, bkE 9] = 2 := by decide
 have e3 : endB [bkA, bkB, bkE 9] = 9 := by decide
 unfold mgOf exM
 rw [e, e2, e3, ex_gaps9]
 rfl
theorem ex_res2 {m : Mg} {c : Int} (h : MrgRes [bkA, bkB] m c) : c = 0 ∧ m = exM [(3, 1), (5, 2)] 8 true := by
 obtain ⟨h1, h2⟩ := mrg_of h (by simp) (fun b hb => by
  simp only [List.mem_cons, List.not_mem_nil, or_false] at hb
  rcases hb with rfl | rfl
  ·exact bkA_ok.2
  ·exact bkB_ok.2) ex_join2
 refine ⟨h1, ?_⟩
 rw [h2]
 have e : max (nxtS exR) (endB [bkA, bkB]) = 8 := by decide
 have e2 : lostB [bkA, bkB] = 2 := by decide
 have e3 : endB [bkA, bkB] = 0 := by decide
 unfold mgOf exM
 rw [e, e2, e3, ex_gaps8]
 rfl
theorem ex_res0 {m : Mg} {c : Int} (h : MrgRes [] m c) : c = 0 ∧ m = ⟨[], [], [], 0, 1, true⟩ := by
 obtain ⟨h1, h2⟩ := mrg_of h (by decide) (fun b hb => by cases hb) (join_perm (l := []) (R := []) (List.Perm.refl _) List.Pairwise.nil (by decide))
 refine ⟨h1, ?_⟩
 rw [h2]
 have e : max (nxtS []) (endB []) = 1 := by decide
 have e2 : lostB [] = 0 := by decide
 have e3 : endB [] = 0 := by decide
 unfold mgOf
 rw [e, e2, e3, ex_gaps0]
 rfl
end Go.Proofs.YtalophngappkhaaGreatDoor
namespace Go.Proofs.YtalophngappkhaaGreatDoor
open Go Go.RowKit Go.Shelf
attribute [local go_sem] Oper.semAt_some

set_option maxRecDepth 100000 in
set_option maxHeartbeats 800000 in
theorem awake_t12 (w wc : World) (g cp : Nat) (va vb : Value) {u0 u2 u3 u4 u5 u6 u7 u8 u9 u10 u11 u12 u13 u14 u15 u16 u17 u18 u19 u20 u21 u22 u23 u24 u25 u26 u27 u28 u29 u30 u31 u32 u33 u34 u35 u36 u37 u38 u39 u40 u41 u42 u43 u44 u45 u46 u47 u48 u49 u50 u51 u52 u53 u54 u55 u56 u57 u58 u59 u60 u61 u62 u63 u64 u65 u66 u67 u68 u69 u70 u71 u72 u73 u74 u75 u76 u77 u78 u79 u80 u81 u82 u83 u84 u85 u86 u87 u88 u89 u90 u91 u92 u93 u94 u95 u96 u97 u98 u99 u100 u101 u102 u103 u104 u105 u106 u107 u108 u109 u110 u111 u112 u113 u114 u115 u116 u117 u118 u119 u120 u121 u122 u123 u124 u125 u126 u127 u128 u129 u130 u131 u132 u133 u134 u135 u136 u137 u138 u139 u140 u141 u142 u143 u144 u145 u146 u147 u148 u149 u150 u151 u152 u153 u154 u155 u156 u157 u158 u159 u160 u161 u162 u163 u164 u165 u166 u167 u168 u169 u170 u171 u172 u173 u174 u175 u176 u177 u178 u179 u180 u181 u182 u183 u184 u185 u186 : Value} (h : AB w wc (.slice (some ⟨g, 0, none⟩) 3 cp) va vb 8) (hla : LaidAt w) :
  Code.wp Tryz.prog (tailR Tryz.f19 12) (bodyPost Tryz.prog Tryz.f19 (fun e w' => e = .returned (.bool true) ∧ Below w.heap.size w w'))
   ⟨#[u0, .slice (some ⟨g, 0, none⟩) 3 cp, u2, u3, u4, u5, u6, u7, u8, u9, u10, u11, u12, u13, u14, u15, u16, u17, u18, u19, u20, u21, u22, u23, u24, u25, u26, u27, u28, u29, u30, u31, u32, u33, u34, u35, u36, u37, u38, u39, u40, u41, u42, u43, u44, u45, u46, u47, u48, u49, u50, u51, u52, u53, u54, u55, u56, u57, u58, u59, u60, u61, u62, u63, u64, u65, u66, u67, u68, u69, u70, u71, u72, u73, u74, u75, u76, u77, u78, u79, u80, u81, u82, u83, u84, u85, u86, u87, u88, u89, u90, u91, u92, u93, u94, u95, u96, u97, u98, u99, u100, u101, u102, u103, u104, u105, u106, u107, u108, u109, u110, u111, u112, u113, u114, u115, u116, u117, u118, u119, u120, u121, u122, u123, u124, u125, u126, u127, u128, u129, u130, u131, u132, u133, u134, u135, u136, u137, u138, u139, u140, u141, u142, u143, u144, u145, u146, u147, u148, u149, u150, u151, u152, u153, u154, u155, u156, u157, u158, u159, u160, u161, u162, u163, u164, u165, u166, u167, u168, u169, u170, u171, u172, u173, u174, u175, u176, u177, u178, u179, u180, u181, u182, u183, u184, u185, u186], []⟩ wc := by
 conv => arg 2; whnf
 conv => arg 4; dsimp only
 have hcp : 3 ≤ cp := by
  obtain ⟨b, o, c, hsl, hcp, _⟩ := h.s3.row.row (by simp)
  simp only [List.length_cons, List.length_nil, Value.slice.injEq] at hsl hcp
  obtain ⟨_, _, rfl⟩ := hsl
  exact hcp
 have HCP := Lib.hid hcp
 have h2 : (2 : Int) ≤ (cp : Int) := by omega
 have HA := Lib.hid h
 have HL := Lib.hid hla
 have hs2 : BksS wc (.slice (some ⟨g, 0, none⟩) 2 cp) [(va, bkA), (vb, bkB)] := by
  refine ⟨?_, fun x hx => h.s3.evs x (by simp only [List.mem_cons, List.not_mem_nil, or_false] at hx ⊢; rcases hx with rfl | rfl <;> simp)⟩
  have := h.s3.row
  exact EV.row_take (j := 2) this (by simp) rfl
 have hq : ∀ x ∈ [(va, bkA), (vb, bkB)], BlkOk x.2 ∧ chkB x.2 = 0 ∧ x.2.evs.length ≤ 100000 := fun x hx => all_ok (n := 8) (vc := .slice none 0 0) (by omega) (by omega) x (by
  simp only [List.mem_cons, List.not_mem_nil, or_false] at hx ⊢
  rcases hx with rfl | rfl
  ·exact .inl rfl
  ·exact .inr (.inl rfl))
 have HC := Lib.hid (blocks_good wc _ _ hs2 (fun x hx => (hq x hx).1) (fun x hx => (hq x hx).2.2) (by simp) (by simp [flatR, rowsB, bkA, bkB]) (hla.below h.bel) (exM [(3, 1), (5, 2)] 8 true) 0 (fun m c' hm => ex_res2 hm))
 unfold mgA exM at HC
 dsimp only at HC
 clear h hla hs2 hcp hq
 go_wp2_with fail
 refine HC.out.mono ?_
 rintro r w1 ⟨A1, n1, c1, A2, n2, c2, A3, n3, c3, rfl, o1, o2, o3, b1⟩
 have HA1 := Lib.hid (HA.out.below b1)
 have ba := bel_alloc w1 (.cells #[.slice A1 n1 c1, .slice A2 n2 c2, .slice A3 n3 c3, .int .i64 2, .int .i64 8, .bool true] 39)
 have HM := Lib.hid (show MB (w1.alloc (.cells #[.slice A1 n1 c1, .slice A2 n2 c2, .slice A3 n3 c3, .int .i64 2, .int .i64 8, .bool true] 39)) w1.heap.size (.slice A1 n1 c1) (.slice A2 n2 c2) (.slice A3 n3 c3) (exM [(3, 1), (5, 2)] 8 true) from ⟨MgBox.new w1 (.slice A1 n1 c1) (.slice A2 n2 c2) (.slice A3 n3 c3) 2 8 true, (o1.ev encE_len).below ba, (o2.ev encI_len).below ba, (o3.ev encP_len).below ba⟩)
 have HA2 := Lib.hid (HA1.out.below ba)
 clear o1 o2 o3 b1 ba HC HA
 go_upto_region 13 with fail
 generalize w1.alloc (.cells #[.slice A1 n1 c1, .slice A2 n2 c2, .slice A3 n3 c3, .int .i64 2, .int .i64 8, .bool true] 39) = w2 at HM HA2 ⊢
 obtain ⟨X, hX⟩ : ∃ X, w1.heap.size = X := ⟨_, rfl⟩
 have HXG := Lib.hid (show g < X by rw [← hX]; exact (HA1.out.bks.block g rfl).2)
 rw [hX] at HM ⊢
 clear hX HA1
 have HF := Lib.hid (first_ok w2 (.slice A1 n1 c1) (.slice A2 n2 c2) (.slice A3 n3 c3) 2 8 7 true [(3, 1), (5, 2)] HM.out.eg (by decide))
 rw [show frsE [(3, 1), (5, 2)] 8 true 7 = (0, 123) by decide] at HF
 unfold mgA at HF
 have c0 := HM.out.box.c0
 have c1 := HM.out.box.c1
 have c2 := HM.out.box.c2
 have c3 := HM.out.box.c3
 have c4 := HM.out.box.c4
 have c5 := HM.out.box.c5
 unfold exM at c3 c4 c5
 dsimp only at HF c3 c4 c5
 go_wp2_with fail
 refine HF.out.mono ?_
 rintro r w3 ⟨rfl, b1⟩
 have HA3 := Lib.hid (HA2.out.below b1)
 have HM3 := Lib.hid (HM.out.below b1)
 clear c0 c1 c2 c3 c4 c5 HF HA2 HM b1
 have hcell := HA3.out.cell
 obtain ⟨q1, q2⟩ := hcell
 go_upto_region 15 with fail
 have HA4 := Lib.hid (HA3.out.set 9)
 have hgw : w.heap.size ≤ g := (HA3.out.bks.block g rfl).1
 have hm4 := Mod.setCell (a := w3) (p := ⟨g, 13, none⟩) (T := fun k => k = g) (.int .i64 9) rfl
 have HM4 := Lib.hid (show MgBox (w3.setCell ⟨g, 13, none⟩ (.int .i64 9)) X (.slice A1 n1 c1) (.slice A2 n2 c2) (.slice A3 n3 c3) 2 8 true from HM3.out.box.setOther (by show X ≠ g; have := HXG.out; omega) _)
 clear q1 q2 hgw hm4 HA3 HM3
 generalize w3.setCell ⟨g, 13, none⟩ (.int .i64 9) = w4 at HA4 HM4 ⊢
 have HC := Lib.hid (blocks_good w4 _ _ HA4.out.s3 (fun x hx => (all_ok (by omega) (by omega) x hx).1) (fun x hx => (all_ok (by omega) (by omega) x hx).2.2) (by simp) (by simp [flatR, rowsB, bkA, bkB, bkE]) (HL.out.below HA4.out.bel) (exM [(3, 1), (5, 2), (8, 1)] 9 false) 0 (fun m c' hm => ex_res9 hm))
 unfold mgA exM at HC
 dsimp only at HC
 go_wp2_with fail
 refine HC.out.mono ?_
 rintro r w5 ⟨B1, m1, d1, B2, m2, d2, B3, m3, d3, rfl, o1, o2, o3, b1⟩
 have HA5 := Lib.hid (HA4.out.below b1)
 have HM5 := Lib.hid (HM4.out.below b1)
 have ba := bel_alloc w5 (.cells #[.slice B1 m1 d1, .slice B2 m2 d2, .slice B3 m3 d3, .int .i64 2, .int .i64 9, .bool false] 39)
 have HN := Lib.hid (show MB (w5.alloc (.cells #[.slice B1 m1 d1, .slice B2 m2 d2, .slice B3 m3 d3, .int .i64 2, .int .i64 9, .bool false] 39)) w5.heap.size (.slice B1 m1 d1) (.slice B2 m2 d2) (.slice B3 m3 d3) (exM [(3, 1), (5, 2), (8, 1)] 9 false) from ⟨MgBox.new w5 (.slice B1 m1 d1) (.slice B2 m2 d2) (.slice B3 m3 d3) 2 9 false, (o1.ev encE_len).below ba, (o2.ev encI_len).below ba, (o3.ev encP_len).below ba⟩)
 have HA6 := Lib.hid (HA5.out.below ba)
 have HM6 := Lib.hid (HM5.out.below ba)
 clear o1 o2 o3 b1 ba HC HA4 HA5 HM4 HM5
 go_upto_region 16 with fail
 generalize w5.alloc (.cells #[.slice B1 m1 d1, .slice B2 m2 d2, .slice B3 m3 d3, .int .i64 2, .int .i64 9, .bool false] 39) = w6 at HN HA6 HM6 ⊢
 generalize w5.heap.size = Y at HN ⊢
 have HF := Lib.hid (first_ok w6 (.slice B1 m1 d1) (.slice B2 m2 d2) (.slice B3 m3 d3) 2 9 7 false [(3, 1), (5, 2), (8, 1)] HN.out.eg (by decide))
 rw [show frsE [(3, 1), (5, 2), (8, 1)] 9 false 7 = (8, 122) by decide] at HF
 unfold mgA at HF
 have c0 := HN.out.box.c0
 have c1 := HN.out.box.c1
 have c2 := HN.out.box.c2
 have c3 := HN.out.box.c3
 have c4 := HN.out.box.c4
 have c5 := HN.out.box.c5
 unfold exM at c3 c4 c5
 dsimp only at HF c3 c4 c5
 go_wp2_with fail
 refine HF.out.mono ?_
 rintro r w7 ⟨rfl, b1⟩
 have HA7 := Lib.hid (HA6.out.below b1)
 have HM7 := Lib.hid (HM6.out.below b1)
 clear c0 c1 c2 c3 c4 c5 HF HA6 HM6 HN b1
 have HC := Lib.hid (blocks_good w7 (.slice none 0 0) [] ⟨EV.nilv, fun x hx => (by cases hx)⟩ (fun x hx => (by cases hx)) (fun x hx => (by cases hx)) (by simp) (by simp [flatR, rowsB]) (HL.out.below HA7.out.bel) ⟨[], [], [], 0, 1, true⟩ 0 (fun m c' hm => ex_res0 hm))
 unfold mgA at HC
 dsimp only at HC
 go_wp2_with fail
 refine HC.out.mono ?_
 rintro r w8 ⟨B1, m1, d1, B2, m2, d2, B3, m3, d3, rfl, o1, o2, o3, b1⟩
 have HA8 := Lib.hid (HA7.out.below b1)
 have HM8 := Lib.hid (HM7.out.below b1)
 have ba := bel_alloc w8 (.cells #[.slice B1 m1 d1, .slice B2 m2 d2, .slice B3 m3 d3, .int .i64 0, .int .i64 1, .bool true] 39)
 have HN := Lib.hid (MgBox.new w8 (.slice B1 m1 d1) (.slice B2 m2 d2) (.slice B3 m3 d3) 0 1 true)
 have HA9 := Lib.hid (HA8.out.below ba)
 have HM9 := Lib.hid (HM8.out.below ba)
 clear o1 o2 o3 b1 ba HC HA7 HA8 HM7 HM8
 go_upto_region 18 with fail
 generalize w8.alloc (.cells #[.slice B1 m1 d1, .slice B2 m2 d2, .slice B3 m3 d3, .int .i64 0, .int .i64 1, .bool true] 39) = w9 at HN HA9 HM9 ⊢
 generalize w8.heap.size = Z at HN ⊢
 have e4 := HM9.out.c4
 have e5 := HM9.out.c5
 have f4 := HN.out.c4
 have f5 := HN.out.c5
 go_wp2
 go_ret
 exact ⟨rfl, HA9.out.bel⟩
end Go.Proofs.YtalophngappkhaaGreatDoor
